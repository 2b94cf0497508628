/- The shared stack (gss): Len, wrong, At. -/
import Derived.Test.YtbppbgdmoihooaaGssA
namespace Go.Proofs.Ytbppbgdmoihooaa
open Go.RowKit

theorem ret_int {k : IntKind} {a b : Int} (h : a = b) : Ending.returned (.int k a) = .returned (.int k b) := by rw [h]

set_option maxHeartbeats 400000 in
theorem len_any (w : World) (F : Nat → Prop) (b : Nat) (N : List GNode) (h : StkAt w F b N) :
    Calls Try.prog 14 #[.pointer (some ⟨b, 0, none⟩)] w fun e w' => e = .returned (.int .i64 N.length) ∧ w = w' := by
  obtain ⟨O, D, hs, rfl⟩ := h
  have c0 : w.cell? ⟨b, 0, none⟩ = some (.map (some D.r1)) := hs.blk.cell 0
  obtain ⟨A, c, hnv, -, -⟩ := own_form hs.row
  have c3 : w.cell? ⟨b, 3, none⟩ = some (.slice A N.length c) := by rw [← hnv]; exact hs.blk.cell 3
  clear hs hnv
  go_enter Try.func14, Try.ntmps14
  go_wp2_with (go_at_call 51; refine (is_any _ _ _ c0).mono ?_; rintro e w' ⟨rfl, rfl⟩)
  go_ret
  exact ⟨rfl, rfl⟩

/-- The error of a list of numbers of nodes. -/
def wrongOf (n : Nat) (l : List Int) : Int := if l.all (fun x => decide (0 ≤ x ∧ x < (n : Int))) then 0 else 4

theorem wrongOf_bad {n : Nat} {l : List Int} {k : Nat} {x : Int} (hk : l[k]? = some x) (hx : ¬ (0 ≤ x ∧ x < (n : Int))) : wrongOf n l = 4 := by
  unfold wrongOf
  rw [if_neg]
  intro h
  have := List.all_eq_true.1 h x (List.mem_of_getElem? hk)
  exact hx (by simpa using this)
theorem wrongOf_good {n : Nat} {l : List Int} (h : l.all (fun x => decide (0 ≤ x ∧ x < (n : Int))) = true) : wrongOf n l = 0 := by
  unfold wrongOf
  rw [if_pos h]
theorem all_snoc {α : Type} {p : α → Bool} {l : List α} {k : Nat} (h : (l.take k).all p = true) (hk : k < l.length) (hp : p l[k] = true) : (l.take (k + 1)).all p = true := by
  rw [List.take_succ_eq_append_getElem hk, List.all_append, h]
  simp [hp]

set_option maxHeartbeats 400000 in
theorem wrong_any (w : World) (F : Nat → Prop) (b : Nat) (N : List GNode) (h : StkAt w F b N) (g cap : Nat) (xs : List Int) (hg : ∀ i (x : Int), xs[i]? = some x → w.cell? ⟨g, i, none⟩ = some (.int .i64 x)) (hx : xs.length < 100) :
    Calls Try.prog 52 #[.pointer (some ⟨b, 0, none⟩), .slice (some ⟨g, 0, none⟩) xs.length cap] w fun e w' => e = .returned (.int .i64 (wrongOf N.length xs)) ∧ w = w' := by
  obtain ⟨O, D, hs, rfl⟩ := h
  have c0 : w.cell? ⟨b, 0, none⟩ = some (.map (some D.r1)) := hs.blk.cell 0
  obtain ⟨A, c, hnv, -, -⟩ := own_form hs.row
  have c3 : w.cell? ⟨b, 3, none⟩ = some (.slice A N.length c) := by rw [← hnv]; exact hs.blk.cell 3
  clear hs hnv
  have HG := Lib.hid hg
  clear hg
  go_enter Try.func52, Try.ntmps52
  go_wp2_with (go_at_call 51; refine (is_any _ _ _ c0).mono ?_; rintro e w' ⟨rfl, rfl⟩)
  go_loop [12] (fun t => ∃ k : Nat, k ≤ xs.length ∧ t = .int .i64 k ∧ (xs.take k).all (fun x => decide (0 ≤ x ∧ x < (N.length : Int))) = true) (fun t => xs.length - (intOf t).toNat)
  case atStart => exact ⟨0, Nat.zero_le _, rfl, rfl⟩
  case round =>
    obtain ⟨k, hk, rfl, hall⟩ := hrel
    have HA := Lib.hid hall
    clear hall
    by_cases hlt : k < xs.length
    · have hck := HG.out k xs[k] (List.getElem?_eq_getElem hlt)
      obtain ⟨x, hxk⟩ : ∃ x, xs[k] = x := ⟨_, rfl⟩
      have HX := Lib.hid hxk
      rw [hxk] at hck
      clear hxk
      by_cases hneg : x < 0
      · go_wp2
        go_ret
        exact ⟨ret_int (wrongOf_bad (List.getElem?_eq_getElem hlt) (by rw [HX.out]; omega)).symm, rfl⟩
      · by_cases hbig : (N.length : Int) ≤ x
        · go_wp2
          go_ret
          exact ⟨ret_int (wrongOf_bad (List.getElem?_eq_getElem hlt) (by rw [HX.out]; omega)).symm, rfl⟩
        · go_wp2
          go_round
          case rel => exact ⟨k + 1, by omega, by go_num, all_snoc HA.out hlt (by rw [HX.out]; simp; omega)⟩
          case measure => simp [intOf]; omega
    · go_wp2
      go_ret
      exact ⟨ret_int (wrongOf_good (by rw [← List.take_of_length_le (i := k) (l := xs) (by omega)]; exact HA.out)).symm, rfl⟩

theorem node_cells {w : World} {O : Nat → Option Tag} {b : Nat} {N : List GNode} {D : StkD} (hs : StkI w O b N D) {i : Nat} {x : GNode} (hi : N[i]? = some x) :
    ∃ g c, D.nv = .slice (some ⟨g, 0, none⟩) N.length c ∧ O g = some .nodes ∧ N.length ≤ c ∧ g < w.heap.size ∧ w.cell? ⟨g, i * 4, none⟩ = some (.int .i64 x.mark) ∧ w.cell? ⟨g, i * 4 + 1, none⟩ = some (.int .i64 x.place) ∧
      w.cell? ⟨g, i * 4 + 2, none⟩ = some (D.fv i) ∧ w.cell? ⟨g, i * 4 + 3, none⟩ = some (D.pv i) ∧ w.frozen? ⟨g, i * 4 + 2, none⟩ = false ∧ w.frozen? ⟨g, i * 4 + 3, none⟩ = false := by
  have hlt := (List.getElem?_eq_some_iff.1 hi).1
  obtain ⟨g, c, hnv, hob, hc, hg, -, hcell⟩ := own_cells hs.row (by omega)
  have hz : N.zipIdx[i]? = some (x, i) := by simp [hi]
  have get := fun j (hj : j < 4) => flat_get (fun p : GNode × Nat => [Value.int .i64 p.1.mark, .int .i64 p.1.place, D.fv p.2, D.pv p.2]) 4 (fun _ => rfl) N.zipIdx i j (x, i) hz hj
  have g0 := get 0 (by omega)
  have g1 := get 1 (by omega)
  have g2 := get 2 (by omega)
  have g3 := get 3 (by omega)
  exact ⟨g, c, hnv, hs.oN g hob, hc, hg, (hcell _ _ g0).1, (hcell _ _ g1).1, (hcell _ _ g2).1, (hcell _ _ g3).1, (hcell _ _ g2).2, (hcell _ _ g3).2⟩

set_option maxHeartbeats 400000 in
set_option maxRecDepth 20000 in
theorem at_yes (w : World) (F : Nat → Prop) (b : Nat) (N : List GNode) (i : Nat) (x : GNode) (h : StkAt w F b N) (hi : N[i]? = some x) :
    Calls Try.prog 13 #[.pointer (some ⟨b, 0, none⟩), .int .i64 i] w fun e w' => e = .returned (.tuple #[.int .i64 x.mark, .int .i64 x.place, .int .i64 0]) ∧ Below w.heap.size w w' := by
  have hlt := (List.getElem?_eq_some_iff.1 hi).1
  have u1 := (Upd.refl (fun _ => False) w).alloc (.cells #[.int .i64 (i : Int)] 3)
  have k0 := Blk.new w 3 #[.int .i64 (i : Int)]
  have hB : Below w.heap.size w (w.alloc (.cells #[.int .i64 (i : Int)] 3)) := (Below.refl _ _).alloc (Nat.le_refl _) _
  have h1 := h.upd u1 (fun _ _ => id)
  have hw : wrongOf N.length [(i : Int)] = 0 := wrongOf_good (by simp; omega)
  have H : Hid _ := Lib.hid (And.intro h (And.intro u1 (And.intro k0 (And.intro hB h1))))
  clear u1 k0 hB h1 h
  go_enter Try.func13, Try.ntmps13
  go_wp2_with (go_at_call 52; refine (wrong_any _ _ b N H.out.2.2.2.2 w.heap.size _ [(i : Int)] (fun j y hj => by
    match j, hj with
    | 0, hj => simp at hj; subst hj; exact H.out.2.2.1.cell 0
    | j + 1, hj => simp at hj) (by simp)).mono ?_; rintro e w' ⟨rfl, rfl⟩)
  obtain ⟨O, D, hs, rfl⟩ := H.out.2.2.2.2
  obtain ⟨g, c, hnv, -, hc, -, n0, n1, -⟩ := node_cells hs hi
  have b3 := hs.blk.cell 3
  have c3 : (w.alloc (.cells #[.int .i64 (i : Int)] 3)).cell? ⟨b, 3, none⟩ = some (.slice (some ⟨g, 0, none⟩) N.length c) := by rw [← hnv]; exact hs.blk.cell 3
  clear hs b3 hnv hi
  generalize w.alloc (.cells #[.int .i64 (i : Int)] 3) = w1 at *
  go_quiet (fail)
  go_wp2
  refine bodyPost_ret (results_tmp3 rfl _ _ _) rfl ?_
  exact ⟨rfl, below_drewN H.out.2.2.2.1 _⟩
end Go.Proofs.Ytbppbgdmoihooaa
