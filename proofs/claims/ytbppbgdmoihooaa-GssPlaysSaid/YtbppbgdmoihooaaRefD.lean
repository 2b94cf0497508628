/- GssPlays: push, where nothing changes. -/
import Derived.Test.YtbppbgdmoihooaaRefC
import Derived.Test.YtbppbgdmoihooaaGssJ
namespace Go.Proofs.Ytbppbgdmoihooaa
open Go.RowKit

/-- The stack and the document's list hold the same nodes, and lie apart. -/
structure Both (w : World) (F G : Nat → Prop) (b : Nat) (v : Value) (N : List GNode) : Prop where
  s : StkAt w F b N
  r : RefAt w G v N
  d : ∀ k, F k → ¬ G k
theorem Both.below {w w' : World} {F G : Nat → Prop} {b : Nat} {v : Value} {N : List GNode} (h : Both w F G b v N) (hb : Below w.heap.size w w') : Both w' F G b v N := ⟨h.s.below hb, h.r.below hb, h.d⟩

/-- Nodes, frames, pops are few. -/
def Sm (k : Nat) (N : List GNode) : Prop := N.length ≤ k ∧ ∀ (i : Nat) (x : GNode), N[i]? = some x → x.frames.length ≤ k ∧ x.pops.length ≤ k

/-- Behind a step of the script. -/
def PlayPost (w : World) (F G : Nat → Prop) (b : Nat) (v : Value) (N : List GNode) (en : Ending) (w' : World) : Prop :=
  ∃ F' G' N', en = .returned (.bool true) ∧ Both w' F' G' b v N' ∧ Upd (fun k => F k ∨ G k) w w' ∧ (∀ k, F' k ∨ G' k → (F k ∨ G k) ∨ w.heap.size ≤ k) ∧ ∀ k, Sm k N → Sm (k + 1) N'
theorem PlayPost.same {w w' : World} {F G : Nat → Prop} {b : Nat} {v : Value} {N : List GNode} (h : Both w F G b v N) (hb : Below w.heap.size w w') : PlayPost w F G b v N (.returned (.bool true)) w' :=
  ⟨F, G, N, rfl, h.below hb, Upd.of_below hb _, fun _ hk => .inl hk, fun _ hk => ⟨Nat.le_succ_of_le hk.1, fun i x hx => ⟨Nat.le_succ_of_le (hk.2 i x hx).1, Nat.le_succ_of_le (hk.2 i x hx).2⟩⟩⟩

theorem in_yes (w : World) (A : Option Addr) (len c : Nat) (n : Int) (h : 0 ≤ n ∧ n < (len : Int)) : Calls Try.prog 55 #[.slice A len c, .int .i64 n] w fun e w' => e = .returned (.bool true) ∧ w = w' := by
  refine (in_any w A len c n).mono ?_
  rintro e w' ⟨rfl, rfl⟩
  rw [decide_eq_true h]
  exact ⟨rfl, rfl⟩
theorem in_no (w : World) (A : Option Addr) (len c : Nat) (n : Int) (h : ¬ (0 ≤ n ∧ n < (len : Int))) : Calls Try.prog 55 #[.slice A len c, .int .i64 n] w fun e w' => e = .returned (.bool false) ∧ w = w' := by
  refine (in_any w A len c n).mono ?_
  rintro e w' ⟨rfl, rfl⟩
  rw [decide_eq_false h]
  exact ⟨rfl, rfl⟩

set_option maxHeartbeats 1600000 in
set_option maxRecDepth 20000 in
theorem rpush_no (w : World) (F G : Nat → Prop) (b : Nat) (v : Value) (N : List GNode) (n p q : Int) (h : Both w F G b v N) (hn : ¬ (0 ≤ n ∧ n < (N.length : Int)) ∨ ¬ (0 ≤ p ∧ p < (N.length : Int))) :
    Calls Try.prog 22 #[.pointer (some ⟨b, 0, none⟩), v, .int .i64 n, .agg #[.int .i64 p, .int .i64 q]] w (PlayPost w F G b v N) := by
  obtain ⟨A, c, rfl⟩ : ∃ A c, v = .slice A N.length c := by
    obtain ⟨O, D, hs, rfl⟩ := h.r
    obtain ⟨A, c, e, -, -⟩ := own_form hs.row
    exact ⟨A, c, e⟩
  have k0 := Blk.new w 48 #[.int .i64 p, .int .i64 q]
  have u1 : Below w.heap.size w (w.alloc (.cells #[.int .i64 p, .int .i64 q] 48)) := (Below.refl _ _).alloc (Nat.le_refl _) _
  have H := Lib.hid (And.intro h (And.intro k0 u1))
  have HN := Lib.hid hn
  clear h k0 u1 hn
  go_enter Try.func22, Try.ntmps22
  go_wp2_with fail
  generalize w.alloc (.cells #[.int .i64 p, .int .i64 q] 48) = w1 at H ⊢
  have e0 : w1.cell? ⟨w.heap.size, 0, none⟩ = some (.int .i64 p) := H.out.2.1.cell 0
  have e1 : w1.cell? ⟨w.heap.size, 1, none⟩ = some (.int .i64 q) := H.out.2.1.cell 1
  refine (push_no w1 F b N n p q (H.out.1.below H.out.2.2).s HN.out).mono ?_
  rintro e w2 ⟨rfl, hb2⟩
  have f0 := (hb2.cell (p := ⟨w.heap.size, 0, none⟩) (World.block_lt_of_cell? w1 _ e0)).trans e0
  have hb := H.out.2.2.trans (hb2.mono H.out.2.2.size)
  have HB := Lib.hid hb
  clear hb hb2 e0 e1
  by_cases h1 : 0 ≤ n ∧ n < (N.length : Int)
  · have h2 : ¬ (0 ≤ p ∧ p < (N.length : Int)) := by
      rcases HN.out with h | h
      · exact absurd h1 h
      · exact h
    have HH := Lib.hid (And.intro h1 h2)
    clear h1 h2
    go_wp2_with fail
    refine (in_yes _ _ _ _ _ HH.out.1).mono ?_
    rintro e w' ⟨rfl, rfl⟩
    go_wp2_with fail
    refine (in_no _ _ _ _ _ HH.out.2).mono ?_
    rintro e w' ⟨rfl, rfl⟩
    go_wp2
    go_ret
    exact PlayPost.same H.out.1 HB.out
  · have HH := Lib.hid h1
    clear h1
    go_wp2_with fail
    refine (in_no _ _ _ _ _ HH.out).mono ?_
    rintro e w' ⟨rfl, rfl⟩
    go_wp2
    go_ret
    exact PlayPost.same H.out.1 HB.out

set_option maxHeartbeats 1600000 in
set_option maxRecDepth 20000 in
theorem rpush_old (w : World) (F G : Nat → Prop) (b : Nat) (v : Value) (N : List GNode) (i : Nat) (x : GNode) (p q : Int) (h : Both w F G b v N) (hi : N[i]? = some x) (hp : 0 ≤ p ∧ p < (N.length : Int)) (hold : (p, q) ∈ x.frames) (hx : x.frames.length ≤ 1000000) :
    Calls Try.prog 22 #[.pointer (some ⟨b, 0, none⟩), v, .int .i64 i, .agg #[.int .i64 p, .int .i64 q]] w (PlayPost w F G b v N) := by
  have hlt := (List.getElem?_eq_some_iff.1 hi).1
  have k0 := Blk.new w 48 #[.int .i64 p, .int .i64 q]
  have u1 : Below w.heap.size w (w.alloc (.cells #[.int .i64 p, .int .i64 q] 48)) := (Below.refl _ _).alloc (Nat.le_refl _) _
  obtain ⟨O, D, hs, rfl⟩ := h.r
  obtain ⟨g, c, rfl, hc, hg, n0, n1, n2, n3, -⟩ := ref_cells hs hi
  have hrow := hs.rowF i x hi
  have hc' : (N.length : Int) ≤ (c : Int) := by omega
  have hin : 0 ≤ (i : Int) ∧ (i : Int) < (N.length : Int) := by omega
  have H := Lib.hid (And.intro h (And.intro k0 (And.intro u1 (And.intro hold (And.intro hrow (And.intro hi (And.intro hp hin)))))))
  have HC := Lib.hid (And.intro n0 (And.intro n1 (And.intro n2 n3)))
  clear h k0 u1 hold hrow hi hs n0 n1 n2 n3 hg hc hp hin
  go_enter Try.func22, Try.ntmps22
  go_wp2_with fail
  generalize w.alloc (.cells #[.int .i64 p, .int .i64 q] 48) = w1 at H ⊢
  obtain ⟨h, k0, u1, hold, hrow, hi, hp, hin⟩ := H.out
  have e0 : w1.cell? ⟨w.heap.size, 0, none⟩ = some (.int .i64 p) := k0.cell 0
  have e1 : w1.cell? ⟨w.heap.size, 1, none⟩ = some (.int .i64 q) := k0.cell 1
  refine (push_old w1 _ b N i x p q (h.below u1).s hi hp.1 hp.2 hold).mono ?_
  rintro e w2 ⟨rfl, hb2⟩
  have f0 := (hb2.cell (p := ⟨w.heap.size, 0, none⟩) (World.block_lt_of_cell? w1 _ e0)).trans e0
  have f1 := (hb2.cell (p := ⟨w.heap.size, 1, none⟩) (World.block_lt_of_cell? w1 _ e1)).trans e1
  have hb := u1.trans (hb2.mono u1.size)
  have up : ∀ j u, w.cell? ⟨g, j, none⟩ = some u → w2.cell? ⟨g, j, none⟩ = some u := fun j u hu => (hb.cell (p := ⟨g, j, none⟩) (World.block_lt_of_cell? w _ hu)).trans hu
  obtain ⟨n0, n1, n2, n3⟩ := HC.out
  have m0 := up _ _ n0
  have m1 := up _ _ n1
  have m2 := up _ _ n2
  have m3 := up _ _ n3
  have HB := Lib.hid (And.intro hb (row_below hrow hb))
  clear hb hb2 e0 e1 up n0 n1 n2 n3 h k0 u1 hold hrow hi hp hin
  go_wp2_with fail
  refine (in_yes _ _ _ _ _ H.out.2.2.2.2.2.2.2).mono ?_
  rintro e w' ⟨rfl, rfl⟩
  go_wp2_with fail
  refine (in_yes _ _ _ _ _ H.out.2.2.2.2.2.2.1).mono ?_
  rintro e w' ⟨rfl, rfl⟩
  go_wp2
  refine wp_region_ord (fun w' => w'.cell? ⟨g, i * 4, none⟩ = some (.int .i64 x.mark) ∧ w'.cell? ⟨g, i * 4 + 1, none⟩ = some (.int .i64 x.place) ∧ w'.cell? ⟨g, i * 4 + 2, none⟩ = some (D.fv i) ∧ w'.cell? ⟨g, i * 4 + 3, none⟩ = some (D.pv i) ∧ w'.cell? ⟨w.heap.size, 0, none⟩ = some (.int .i64 p) ∧ w'.cell? ⟨w.heap.size, 1, none⟩ = some (.int .i64 q)) 5 [(0, true), (1, true), (2, true), (3, true), (4, true), (5, false)] (by kernel_rfl) (by kernel_rfl) (fun _ _ d _ _ h => by cases d <;> exact h) ⟨m0, m1, m2, m3, f0, f1⟩ ?_
  have HB2 := Lib.hid (And.intro HB.out.1.drew (row_below HB.out.2 (Below.drew (Below.refl _ _))))
  clear m0 m1 m2 m3 f0 f1 HB
  generalize w2.drew = w3 at HB2 ⊢
  repeat (refine ord_take (v := ?_) rfl rfl ?_ ?_; rotate_left; focus (intro wS hS; (try dsimp only at hS); go_split_ands; go_simp; (try with_reducible rfl); done); (try simp only [Act.put, List.setIfInBounds_toArray, List.set_cons_zero, List.set_cons_succ]))
  refine ord_do rfl rfl (fun K hK => ?_)
  go_simp
  refine (framed_any w3 0 x.mark x.place (D.fv i) (D.pv i) x.frames p q HB2.out.2 hx).mono ?_
  rintro e w4 ⟨rfl, hb4⟩
  rw [decide_eq_true H.out.2.2.2.1]
  refine hK _ _ (fun h => absurd rfl h) ?_
  clear hK K
  refine ord_done ?_
  have hb := HB2.out.1.trans (hb4.mono HB2.out.1.size)
  have HB4 := Lib.hid hb
  clear hb hb4 HB2
  go_wp2
  go_ret
  exact PlayPost.same H.out.1 HB4.out
end Go.Proofs.Ytbppbgdmoihooaa
