/- Forests (trim, sppf): how a forest stands in memory; Copy. -/
import Derived.Test.YtbppbgdmoihooaaGssD
namespace Go.Proofs.Ytbppbgdmoihooaa
open Go.RowKit

structure Fct where
  nt : Int
  fr : Int
  to : Int
deriving DecidableEq, Repr

structure Pk where
  spot : Int
  prod : Int
  mid : Int
  left : Int
  right : Int
deriving DecidableEq, Repr

def Fct.cells (f : Fct) : List Value := [.int .i64 f.nt, .int .i64 f.fr, .int .i64 f.to]
def Pk.cells (p : Pk) : List Value := [.int .i64 p.spot, .int .i64 p.prod, .int .i64 p.mid, .int .i64 p.left, .int .i64 p.right]
def Fct.agg (f : Fct) : Value := .agg #[.int .i64 f.nt, .int .i64 f.fr, .int .i64 f.to]
def Pk.agg (p : Pk) : Value := .agg #[.int .i64 p.spot, .int .i64 p.prod, .int .i64 p.mid, .int .i64 p.left, .int .i64 p.right]
def factCells (S : List Fct) : List Value := S.flatMap Fct.cells
def packCells (P : List Pk) : List Value := P.flatMap Pk.cells
theorem factCells_len (S : List Fct) : (factCells S).length = S.length * 3 := flat_len Fct.cells 3 (fun _ => rfl) S
theorem packCells_len (P : List Pk) : (packCells P).length = P.length * 5 := flat_len Pk.cells 5 (fun _ => rfl) P
theorem one_fact (S : List Fct) : ∀ u ∈ factCells S, u.oneCell' = true := by
  intro u hu
  obtain ⟨f, _, hf⟩ := List.mem_flatMap.1 hu
  simp [Fct.cells] at hf
  rcases hf with rfl | rfl | rfl <;> rfl
theorem one_pack (P : List Pk) : ∀ u ∈ packCells P, u.oneCell' = true := by
  intro u hu
  obtain ⟨f, _, hf⟩ := List.mem_flatMap.1 hu
  simp [Pk.cells] at hf
  rcases hf with rfl | rfl | rfl | rfl | rfl <;> rfl

/-- At A lie these cells. -/
def RowR (w : World) (A : Option Addr) (xs : List Value) : Prop := ∀ j u, xs[j]? = some u → ∃ b o, A = some ⟨b, o, none⟩ ∧ w.cell? ⟨b, o + j, none⟩ = some u
theorem RowR.upd {w w' : World} {A : Option Addr} {xs : List Value} {F : Nat → Prop} (h : RowR w A xs) (hu : Upd F w w') (hF : ∀ b o s, A = some ⟨b, o, s⟩ → ¬ F b) : RowR w' A xs := fun j u hj => by
  obtain ⟨b, o, rfl, hc⟩ := h j u hj
  exact ⟨b, o, rfl, (hu.cell (p := ⟨b, o + j, none⟩) (World.block_lt_of_cell? w _ hc) (hF b o none rfl)).trans hc⟩
theorem RowR.below {w w' : World} {A : Option Addr} {xs : List Value} (h : RowR w A xs) (hb : Below w.heap.size w w') : RowR w' A xs := h.upd (Upd.of_below hb (fun _ => False)) (fun _ _ _ _ => id)
theorem RowR.reads {w : World} {A : Option Addr} {xs : List Value} {n size : Nat} (h : RowR w A xs) (hl : xs.length = n * size) (h0 : 0 < size) : Reads w size A n xs := by
  refine ⟨hl, ?_, ?_⟩
  · rintro rfl
    rcases Nat.eq_zero_or_pos n with h1 | h1
    · exact h1
    · have : 0 < xs.length := by rw [hl]; exact Nat.mul_pos h1 h0
      obtain ⟨b, o, e, -⟩ := h 0 xs[0] (List.getElem?_eq_getElem this)
      cases e
  · rintro ad rfl j u hj
    obtain ⟨b, o, e, hc⟩ := h j u hj
    injection e with e
    subst e
    rw [Addr.add_lit]
    exact hc
theorem RowR.of_own {w : World} {base e size n c : Nat} {A : Option Addr} {xs : List Value} (h : w.ownsRow base e size (.slice A n c) n xs) : RowR w A xs := fun j u hj => by
  rcases h.2 with ⟨hv, h0⟩ | ⟨g, cap, cur, hv, _⟩
  · have hl : 0 < xs.length := Nat.lt_of_le_of_lt (Nat.zero_le _) (List.getElem?_eq_some_iff.1 hj).1
    rw [h.1, h0] at hl
    omega
  · injection hv with hv
    subst hv
    have := h.cells (g := g) rfl j u hj
    rw [Addr.add_lit, Nat.zero_add] at this
    exact ⟨g, 0, rfl, by rw [Nat.zero_add]; exact this⟩
theorem RowR.fact {w : World} {A : Option Addr} {S : List Fct} (h : RowR w A (factCells S)) {k : Nat} {f : Fct} (hk : S[k]? = some f) :
    ∃ b o, A = some ⟨b, o, none⟩ ∧ w.cell? ⟨b, o + k * 3, none⟩ = some (.int .i64 f.nt) ∧ w.cell? ⟨b, o + k * 3 + 1, none⟩ = some (.int .i64 f.fr) ∧ w.cell? ⟨b, o + k * 3 + 2, none⟩ = some (.int .i64 f.to) := by
  have hg := fun j (hj : j < 3) => flat_get Fct.cells 3 (fun _ => rfl) S k j f hk hj
  obtain ⟨b, o, rfl, h0⟩ := h _ _ (hg 0 (by omega))
  obtain ⟨b1, o1, e1, h1⟩ := h _ _ (hg 1 (by omega))
  obtain ⟨b2, o2, e2, h2⟩ := h _ _ (hg 2 (by omega))
  injection e1 with e1; injection e1 with e1 e1'
  injection e2 with e2; injection e2 with e2 e2'
  subst e1; subst e1'; subst e2; subst e2'
  exact ⟨_, _, rfl, h0, h1, h2⟩
theorem RowR.pack {w : World} {A : Option Addr} {P : List Pk} (h : RowR w A (packCells P)) {k : Nat} {p : Pk} (hk : P[k]? = some p) :
    ∃ b o, A = some ⟨b, o, none⟩ ∧ w.cell? ⟨b, o + k * 5, none⟩ = some (.int .i64 p.spot) ∧ w.cell? ⟨b, o + k * 5 + 1, none⟩ = some (.int .i64 p.prod) ∧ w.cell? ⟨b, o + k * 5 + 2, none⟩ = some (.int .i64 p.mid) ∧
      w.cell? ⟨b, o + k * 5 + 3, none⟩ = some (.int .i64 p.left) ∧ w.cell? ⟨b, o + k * 5 + 4, none⟩ = some (.int .i64 p.right) := by
  have hg := fun j (hj : j < 5) => flat_get Pk.cells 5 (fun _ => rfl) P k j p hk hj
  obtain ⟨b, o, rfl, h0⟩ := h _ _ (hg 0 (by omega))
  obtain ⟨b1, o1, e1, h1⟩ := h _ _ (hg 1 (by omega))
  obtain ⟨b2, o2, e2, h2⟩ := h _ _ (hg 2 (by omega))
  obtain ⟨b3, o3, e3, h3⟩ := h _ _ (hg 3 (by omega))
  obtain ⟨b4, o4, e4, h4⟩ := h _ _ (hg 4 (by omega))
  injection e1 with e1; injection e1 with e1 e1'
  injection e2 with e2; injection e2 with e2 e2'
  injection e3 with e3; injection e3 with e3 e3'
  injection e4 with e4; injection e4 with e4 e4'
  subst e1; subst e1'; subst e2; subst e2'; subst e3; subst e3'; subst e4; subst e4'
  exact ⟨_, _, rfl, h0, h1, h2, h3, h4⟩

/-- A forest is none too great for a machine. -/
structure Fits (S : List Fct) (P : List Pk) : Prop where
  s : S.length * 24 ≤ 140737488355328
  p : P.length * 40 ≤ 140737488355328
  wf : ∀ q ∈ P, Wf q.spot ∧ Wf q.prod ∧ Wf q.mid ∧ Wf q.left ∧ Wf q.right

/-- Both slices of a forest, where they lie. -/
structure ForR (w : World) (A : Option Addr) (c : Nat) (B : Option Addr) (d : Nat) (S : List Fct) (P : List Pk) : Prop where
  rs : RowR w A (factCells S)
  rp : RowR w B (packCells P)
  hc : S.length ≤ c
  hd : P.length ≤ d
  fit : Fits S P
theorem ForR.below {w w' : World} {A B : Option Addr} {c d : Nat} {S : List Fct} {P : List Pk} (h : ForR w A c B d S P) (hb : Below w.heap.size w w') : ForR w' A c B d S P := ⟨h.rs.below hb, h.rp.below hb, h.hc, h.hd, h.fit⟩
def forV (A : Option Addr) (n c : Nat) (B : Option Addr) (m d : Nat) : Value := .agg #[.slice A n c, .slice B m d]

theorem info_fact : (Try.prog.info? 101).map (fun i => (i.zero, i.size, i.bytes)) = some (some (.agg #[.int .i64 0, .int .i64 0, .int .i64 0]), 3, 24) := by kernel_rfl
theorem info_pack : (Try.prog.info? 125).map (fun i => (i.zero, i.size, i.bytes)) = some (some (.agg #[.int .i64 0, .int .i64 0, .int .i64 0, .int .i64 0, .int .i64 0]), 5, 40) := by kernel_rfl

/-- append of a whole row to none. -/
theorem append_fresh (w : World) (t e size bytes : Nat) (z : Value) (ht : Try.prog.underlying t = some (.slice e)) (hi : (Try.prog.info? e).map (fun i => (i.zero, i.size, i.bytes)) = some (some z, size, bytes)) (hzs : z.cells.size = size) (h0 : 0 < size) (h8 : 8 ≤ bytes)
    (hnil : ∀ (w : World) (c : Nat), (Builtin.append_ #[t, t] t #[.slice none 0 0, .slice none 0 c]).run Try.prog w = .ok (.slice none 0 0) w)
    (A : Option Addr) (n c : Nat) (xs : List Value) (h : RowR w A xs) (hl : xs.length = n * size) (h1 : ∀ u ∈ xs, u.oneCell' = true) (hn : n * bytes ≤ 140737488355328) :
    ∃ v' w', (Builtin.append_ #[t, t] t #[.slice none 0 0, .slice A n c]).run Try.prog w = .ok v' w' ∧ w'.ownsRow w.heap.size e size v' n xs ∧ Below w.heap.size w w' := by
  obtain ⟨i0, hi0, hz0, hz1, hz2⟩ := info_parts hi
  have hr := h.reads hl h0
  have hm : n ≤ maxLen := by
    have : n * 8 ≤ n * bytes := Nat.mul_le_mul_left _ h8
    unfold maxLen; omega
  have key : ∀ ad : Addr, (∀ j u, xs[j]? = some u → w.cell? (ad.add j) = some u) → ∃ v' w', (Builtin.append_ #[t, t] t #[.slice none 0 0, .slice (some ad) n c]).run Try.prog w = .ok v' w' ∧ w'.ownsRow w.heap.size e size v' n xs ∧ Below w.heap.size w w' := by
    intro ad hc
    obtain ⟨v', w', happ, own', gr, -, -⟩ := run_append_own_at (P := Try.prog) w w.heap.size t t e i0 z size bytes ht hi0 hz0 hz1 hz2 hzs h0 (.slice none 0 0) 0 [] (World.ownsRow_nil _ _ _ _) ad n c xs hl hc h1 (by omega) (by simpa using hn) (Nat.le_refl _)
    refine ⟨v', w', happ, by simpa using own', (Below.refl _ _).grown gr (Nat.le_refl _) ?_⟩
    intro k hk
    simp [Value.ownBlock] at hk
  rcases A with _ | ad
  · obtain ⟨rfl, rfl⟩ := hr.nil
    exact ⟨.slice none 0 0, w, hnil w c, World.ownsRow_nil _ _ _ _, Below.refl _ _⟩
  · exact key ad (hr.2.2 ad rfl)
theorem nil_facts (w : World) (c : Nat) : (Builtin.append_ #[72, 72] 72 #[.slice none 0 0, .slice none 0 c]).run Try.prog w = .ok (.slice none 0 0) w := by kernel_rfl
theorem nil_packs (w : World) (c : Nat) : (Builtin.append_ #[73, 73] 73 #[.slice none 0 0, .slice none 0 c]).run Try.prog w = .ok (.slice none 0 0) w := by kernel_rfl

/-- A forest of its own comes back. -/
def NewFor (w : World) (S : List Fct) (P : List Pk) (e : Ending) (w' : World) : Prop :=
  ∃ A c B d, e = .returned (forV A S.length c B P.length d) ∧ w'.ownsRow w.heap.size 101 3 (.slice A S.length c) S.length (factCells S) ∧ w'.ownsRow w.heap.size 125 5 (.slice B P.length d) P.length (packCells P) ∧ Below w.heap.size w w'
theorem NewFor.at {w w' : World} {S : List Fct} {P : List Pk} {e : Ending} (h : NewFor w S P e w') (hf : Fits S P) : ∃ A c B d, e = .returned (forV A S.length c B P.length d) ∧ ForR w' A c B d S P ∧ Below w.heap.size w w' := by
  obtain ⟨A, c, B, d, rfl, h1, h2, hb⟩ := h
  obtain ⟨A', c', e1, hc, -⟩ := own_form h1
  obtain ⟨B', d', e2, hd, -⟩ := own_form h2
  injection e1 with _ _ e1
  injection e2 with _ _ e2
  subst e1; subst e2
  exact ⟨A, c, B, d, rfl, ⟨RowR.of_own h1, RowR.of_own h2, hc, hd, hf⟩, hb⟩

set_option maxHeartbeats 800000 in
set_option maxRecDepth 20000 in
theorem copy_any (w : World) (A : Option Addr) (c : Nat) (B : Option Addr) (d : Nat) (S : List Fct) (P : List Pk) (h : ForR w A c B d S P) :
    Calls Try.prog 30 #[forV A S.length c B P.length d] w (NewFor w S P) := by
  obtain ⟨W, hW⟩ : ∃ W, (w.alloc (.cells #[.slice A S.length c, .slice B P.length d] 75)).alloc (.cells #[.slice none 0 0, .slice none 0 0] 75) = W := ⟨_, rfl⟩
  have u1 : Below w.heap.size w W := by rw [← hW]; exact ((Below.refl _ _).alloc (Nat.le_refl _) _).alloc (by simp) _
  have k0 : Blk W w.heap.size 75 #[.slice A S.length c, .slice B P.length d] := by rw [← hW]; exact (Blk.new w _ _).alloc _
  have k1 : Blk W (w.heap.size + 1) 75 #[.slice none 0 0, .slice none 0 0] := by
    rw [← hW]
    have := Blk.new (w.alloc (.cells #[.slice A S.length c, .slice B P.length d] 75)) 75 #[.slice none 0 0, .slice none 0 0]
    simpa using this
  have hz : W.heap.size = w.heap.size + 2 := by rw [← hW]; simp
  obtain ⟨v1, w1, happ1, own1, b1⟩ := append_fresh W 72 101 3 24 _ Try.underlying72 info_fact rfl (by decide) (by decide) nil_facts A S.length c _ (h.rs.below u1) (factCells_len S) (one_fact S) h.fit.s
  obtain ⟨v2, w2, happ2, own2, b2⟩ := append_fresh w1 73 125 5 40 _ Try.underlying73 info_pack rfl (by decide) (by decide) nil_packs B P.length d _ ((h.rp.below u1).below b1) (packCells_len P) (one_pack P) h.fit.p
  obtain ⟨A1, c1, rfl, -, -⟩ := own_form own1
  obtain ⟨A2, c2, rfl, -, -⟩ := own_form own2
  have U1 := Upd.of_below b1 (fun _ => False)
  have U2 := Upd.of_below b2 (fun _ => False)
  have c0 : W.cell? ⟨w.heap.size, 0, none⟩ = some (.slice A S.length c) := k0.cell 0
  have c3 : w1.cell? ⟨w.heap.size, 1, none⟩ = some (.slice B P.length d) := (k0.upd U1 id).cell 1
  have k2 := (k1.upd U1 id).upd U2 id
  have c4 := k2.cell 0
  have c5 := k2.cell 1
  have f4 := k2.frozen 0
  have f5 := k2.frozen 1
  simp only [List.getElem?_toArray, List.getElem?_cons_succ, List.getElem?_cons_zero] at c4 c5
  have kF := (k2.set 0 (.slice A1 S.length c1)).set 1 (.slice A2 P.length c2)
  have e0 := kF.cell 0
  have e1 := kF.cell 1
  simp only [List.setIfInBounds_toArray, List.set_cons_zero, List.set_cons_succ, List.getElem?_toArray, List.getElem?_cons_succ, List.getElem?_cons_zero] at e0 e1
  have V : Upd (fun q => q = w.heap.size + 1) w2 ((w2.setCell ⟨w.heap.size + 1, 0, none⟩ (.slice A1 S.length c1)).setCell ⟨w.heap.size + 1, 1, none⟩ (.slice A2 P.length c2)) := ((Upd.refl (fun q => q = w.heap.size + 1) w2).setCell (p := ⟨w.heap.size + 1, 0, none⟩) (.inl rfl) _).setCell (p := ⟨w.heap.size + 1, 1, none⟩) (.inl rfl) _
  have fin : NewFor w S P (.returned (forV A1 S.length c1 A2 P.length c2)) ((w2.setCell ⟨w.heap.size + 1, 0, none⟩ (.slice A1 S.length c1)).setCell ⟨w.heap.size + 1, 1, none⟩ (.slice A2 P.length c2)) := by
    have z1 := b1.size
    refine ⟨A1, c1, A2, c2, rfl, ownsRow_base (ownsRow_upd (ownsRow_upd own1 U2 (fun _ _ => id)) V (fun q hq e => ?_)) (fun q hq => ?_), ownsRow_base (ownsRow_upd own2 V (fun q hq e => ?_)) (fun q hq => ?_), (u1.trans ((b1.trans (b2.mono z1)).mono (by omega))).trans (V.below (fun q _ e => by omega) (by have := b2.size; omega))⟩
    · have := (own1.lt q hq).1; omega
    · have := (own1.lt q hq).1; omega
    · have := (own2.lt q hq).1; omega
    · have := (own2.lt q hq).1; omega
  have FIN := Lib.hid fin
  clear fin V kF k2 U1 U2 own1 own2 b1 b2 u1 k0 k1 hz h
  subst hW
  go_enter Try.func30, Try.ntmps30
  unfold forV
  go_wp2_with (at_builtin; first | (refine wpList_append_run rfl _ _ _ rfl rfl rfl happ1 ?_) | (refine wpList_append_run rfl _ _ _ rfl rfl rfl happ2 ?_))
  refine bodyPost_ret (v := forV A1 S.length c1 A2 P.length c2) (by simp [results, Try.f30, go_sem, forV, e0, e1]) rfl FIN.out
end Go.Proofs.Ytbppbgdmoihooaa
