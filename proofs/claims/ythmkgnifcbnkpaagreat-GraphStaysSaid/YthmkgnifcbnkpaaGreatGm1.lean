/- Graphs in memory: hops, put, node, edge. -/
import Derived.Test.YthmkgnifcbnkpaaGreatEdD
import Derived.Test.YthmkgnifcbnkpaaGreatEdE
import Derived.Shelf.Abstract
import Derived.Test.YthmkgnifcbnkpaaGreatRwB
import Derived.Shelf.Spec.SlicesInsertGrow
import Derived.Test.YthmkgnifcbnkpaaGreatGrA
import Derived.Test.YthmkgnifcbnkpaaGreatOrdLate
namespace Go.Proofs.YthmkgnifcbnkpaaGreat
open Go.RowKit

/-- A hop: a label and a node's number. -/
structure Hp where
  lb : Txt
  nd : Int
deriving DecidableEq
def Hp.cells (x : Hp) : List Value := [.string x.lb, .int .i64 x.nd]
def Hp.agg (x : Hp) : Value := .agg #[.string x.lb, .int .i64 x.nd]
def cmpI (a b : Int) : Int := if a < b then -1 else if b < a then 1 else 0
def or2 (a b : Int) : Int := if a ≠ 0 then a else b
def cmpH (x y : Hp) : Int := or2 (cmpT x.lb y.lb) (cmpI x.nd y.nd)
def ltH (x y : Hp) : Bool := if x.lb = y.lb then decide (x.nd < y.nd) else ltT x.lb y.lb
theorem cmpI_zero {a b : Int} : cmpI a b = 0 ↔ a = b := by
  unfold cmpI
  split
  · constructor
    · intro h; cases h
    · rintro rfl; omega
  · split
    · constructor
      · intro h; cases h
      · rintro rfl; omega
    · constructor
      · intro _; omega
      · intro _; rfl
theorem cmpI_lt (a b : Int) : decide (cmpI a b < 0) = decide (a < b) := by
  unfold cmpI
  by_cases h : a < b
  · rw [if_pos h, decide_eq_true h]; rfl
  · rw [if_neg h, decide_eq_false h]
    split <;> rfl
theorem cmpH_lt (x y : Hp) : decide (cmpH x y < 0) = ltH x y := by
  unfold cmpH or2 ltH
  by_cases h : x.lb = y.lb
  · rw [if_neg (by simp [cmpT_zero, h]), if_pos h]
    exact cmpI_lt _ _
  · rw [if_pos (by simpa [cmpT_zero] using h), if_neg h]
    exact cmpT_lt _ _
theorem cmpH_zero {x y : Hp} : cmpH x y = 0 ↔ x = y := by
  obtain ⟨a, n⟩ := x
  obtain ⟨b, m⟩ := y
  unfold cmpH or2
  dsimp only
  by_cases h : cmpT a b = 0
  · rw [if_neg (by simpa using h), cmpI_zero]
    rw [cmpT_zero] at h
    subst h
    simp
  · rw [if_pos h]
    constructor
    · intro h2; exact (h h2).elim
    · intro h2
      injection h2 with h2 h3
      exact (h (cmpT_zero.2 h2)).elim
theorem stoH : Sto ltH where
  irr := fun a => by simp [ltH]
  tr := fun a b c h k => by
    unfold ltH at h k ⊢
    by_cases h1 : a.lb = b.lb
    · rw [if_pos h1] at h
      by_cases h2 : b.lb = c.lb
      · rw [if_pos h2] at k
        rw [if_pos (h1.trans h2)]
        simp at h k ⊢
        omega
      · rw [if_neg h2] at k
        rw [if_neg (by rw [h1]; exact h2), h1]
        exact k
    · rw [if_neg h1] at h
      by_cases h2 : b.lb = c.lb
      · rw [if_neg (by rw [← h2]; exact h1), ← h2]
        exact h
      · rw [if_neg h2] at k
        have h3 := stoT.tr _ _ _ h k
        rw [if_neg (stoT.ne h3)]
        exact h3
  tri := fun a b h k => by
    obtain ⟨s, n⟩ := a
    obtain ⟨t, m⟩ := b
    unfold ltH at h k
    dsimp only at h k
    by_cases h1 : s = t
    · subst h1
      simp at h k
      have : n = m := by omega
      rw [this]
    · rw [if_neg h1] at h
      rw [if_neg (fun e => h1 e.symm)] at k
      exact (h1 (stoT.tri _ _ h k)).elim

set_option maxHeartbeats 1000000 in
set_option maxRecDepth 100000 in
theorem isnan_any (x : Int) (w : World) : Calls Tryz.prog 121 #[.int .i64 x] w (Only w (.bool false)) := by
  go_enter Tryz.func121, Tryz.ntmps121
  go_wp2
  go_ret
  exact ⟨by simp, rfl⟩
set_option maxHeartbeats 1000000 in
set_option maxRecDepth 100000 in
theorem cmpI_any (x y : Int) (w : World) : Calls Tryz.prog 106 #[.int .i64 x, .int .i64 y] w (Only w (.int .i64 (cmpI x y))) := by
  obtain ⟨r, hr⟩ : ∃ r, cmpI x y = r := ⟨_, rfl⟩
  rw [hr]
  have HR := Lib.hid hr
  clear hr
  go_enter Tryz.func106, Tryz.ntmps106
  go_wp2_with fail
  refine (isnan_any x w).mono ?_
  rintro e w' ⟨rfl, hw⟩
  subst w'
  go_wp2_with fail
  refine (isnan_any y w).mono ?_
  rintro e w' ⟨rfl, hw⟩
  subst w'
  by_cases h1 : x < y
  · have HE := Lib.hid (show (-1 : Int) = r by rw [← HR.out, cmpI, if_pos h1])
    go_wp2
    go_ret
    exact ⟨by rw [← HE.out]; rfl, rfl⟩
  by_cases h2 : y < x
  · have HE := Lib.hid (show (1 : Int) = r by rw [← HR.out, cmpI, if_neg h1, if_pos h2])
    go_wp2
    go_ret
    exact ⟨by rw [← HE.out]; rfl, rfl⟩
  · have HE := Lib.hid (show (0 : Int) = r by rw [← HR.out, cmpI, if_neg h1, if_neg h2])
    go_wp2
    go_ret
    exact ⟨by rw [← HE.out]; rfl, rfl⟩
set_option maxHeartbeats 1000000 in
set_option maxRecDepth 100000 in
theorem or2_any (w : World) (g : Nat) (a b : Int) (h : Blk w g 3 #[.int .i64 a, .int .i64 b]) :
    Calls Tryz.prog 105 #[.slice (some ⟨g, 0, none⟩) 2 2] w (Only w (.int .i64 (or2 a b))) := by
  have key : ∀ x, or2 a b = x → Calls Tryz.prog 105 #[.slice (some ⟨g, 0, none⟩) 2 2] w (Only w (.int .i64 x)) := by
    intro x hx
    have c0 : w.cell? ⟨g, 0, none⟩ = some (.int .i64 a) := h.cell 0
    have c1 : w.cell? ⟨g, 1, none⟩ = some (.int .i64 b) := h.cell 1
    clear h
    have HX := Lib.hid hx
    clear hx
    go_enter Tryz.func105, Tryz.ntmps105
    go_wp2_with fail
    go_loop [5, 8] (fun _ i => ∃ k : Nat, k ≤ 2 ∧ i = .int .i64 k ∧ Hid ((1 ≤ k → a = 0) ∧ (2 ≤ k → b = 0))) (fun _ i => 2 - (intOf i).toNat)
    case atStart => exact ⟨0, by omega, rfl, Lib.hid ⟨by omega, by omega⟩⟩
    case round =>
      obtain ⟨k, hk, rfl, hz⟩ := hrel
      have hk4 : k = 0 ∨ k = 1 ∨ k = 2 := by omega
      rcases hk4 with rfl | rfl | rfl
      · by_cases ha : a = 0
        · have HA := Lib.hid ha
          have e : (a == 0) = true := by simpa using ha
          go_wp2
          go_round
          case rel => exact ⟨1, by omega, rfl, Lib.hid ⟨fun _ => HA.out, by omega⟩⟩
          case measure => simp [intOf]
        · have HA := Lib.hid ha
          go_wp2
          go_ret
          refine ⟨?_, rfl⟩
          rw [← HX.out, or2, if_pos HA.out]
          rfl
      · by_cases ha : b = 0
        · have HA := Lib.hid ha
          go_wp2
          go_round
          case rel => exact ⟨2, by omega, rfl, Lib.hid ⟨fun _ => hz.out.1 (by omega), fun _ => HA.out⟩⟩
          case measure => simp [intOf]
        · have HA := Lib.hid ha
          go_wp2
          go_ret
          refine ⟨?_, rfl⟩
          rw [← HX.out, or2, if_neg (by simp [hz.out.1 (by omega)])]
          rfl
      · go_wp2
        go_ret
        refine ⟨?_, rfl⟩
        rw [← HX.out, or2, if_neg (by simp [hz.out.1 (by omega)]), hz.out.2 (by omega)]
        rfl
  exact key _ rfl
set_option maxHeartbeats 2000000 in
set_option maxRecDepth 100000 in
theorem order_hop (x y : Hp) (w : World) : Calls Tryz.prog 72 #[x.agg, y.agg] w (Sam w (.int .i64 (cmpH x y))) := by
  obtain ⟨a0, a1⟩ := x
  obtain ⟨b0, b1⟩ := y
  unfold cmpH
  dsimp only
  obtain ⟨v0, e0⟩ : ∃ v, cmpT a0 b0 = v := ⟨_, rfl⟩
  obtain ⟨v1, e1⟩ : ∃ v, cmpI a1 b1 = v := ⟨_, rfl⟩
  have H0 := fun W => compare_any a0 b0 W
  have H1 := fun W => cmpI_any a1 b1 W
  rw [e0] at H0 ⊢
  rw [e1] at H1 ⊢
  clear e0 e1
  have k0 := (Blk.new w 92 #[.string a0, .int .i64 a1]).alloc (.cells #[.string b0, .int .i64 b1] 92)
  have k1 := Blk.new (w.alloc (.cells #[.string a0, .int .i64 a1] 92)) 92 #[.string b0, .int .i64 b1]
  simp only [World.size_alloc] at k1
  have bb : Below w.heap.size w ((w.alloc (.cells #[.string a0, .int .i64 a1] 92)).alloc (.cells #[.string b0, .int .i64 b1] 92)) := by (repeat (first | exact Below.refl _ _ | apply Below.drew | refine Below.alloc ?_ (by first | exact Nat.le_refl _ | (simp; done) | (simp; omega)) _ | refine Below.setCell ?_ (by first | exact Nat.le_refl _ | (simp; done) | (simp; omega)) _))
  have HK := Lib.hid (And.intro k0 (And.intro k1 bb))
  clear k0 k1 bb
  unfold Hp.agg
  dsimp only
  go_enter Tryz.func72, Tryz.ntmps72
  go_upto_region 1 with (fail)
  generalize (w.alloc (.cells #[.string a0, .int .i64 a1] 92)).alloc (.cells #[.string b0, .int .i64 b1] 92) = W0 at HK ⊢
  have UP := Lib.hid (show ∀ W, Below W0.heap.size W0 W → W.cell? ⟨w.heap.size, 0, none⟩ = some (.string a0) ∧ W.cell? ⟨w.heap.size, 1, none⟩ = some (.int .i64 a1) ∧ W.cell? ⟨w.heap.size + 1, 0, none⟩ = some (.string b0) ∧ W.cell? ⟨w.heap.size + 1, 1, none⟩ = some (.int .i64 b1) from fun W hb => by
    have u := Upd.of_below hb (fun _ => False)
    have h1 := HK.out.1.upd u id
    have h2 := HK.out.2.1.upd u id
    exact ⟨h1.cell 0, h1.cell 1, h2.cell 0, h2.cell 1⟩)
  have HB0 := Lib.hid (show Below W0.heap.size W0 W0.drew from (Below.refl _ _).drew)
  have hS := UP.out _ HB0.out
  refine wp_region_ord (fun W => W.cell? ⟨w.heap.size, 0, none⟩ = some (.string a0) ∧ W.cell? ⟨w.heap.size, 1, none⟩ = some (.int .i64 a1) ∧ W.cell? ⟨w.heap.size + 1, 0, none⟩ = some (.string b0) ∧ W.cell? ⟨w.heap.size + 1, 1, none⟩ = some (.int .i64 b1)) 13 [(0, true), (1, true), (2, true), (3, true), (5, true), (6, true), (7, true), (8, true), (4, false), (9, false), (10, false), (11, false), (12, true)] (by kernel_rfl) (by kernel_rfl) (fun _ _ d _ _ h => by cases d <;> exact h) hS ?_
  generalize W0.drew = W1 at HB0 hS ⊢
  iterate 8 (refine ord_take (v := ?_) rfl (by first | with_reducible rfl | kernel_rfl) ?_ ?_; rotate_left; (focus (intro wS hS; (try dsimp only at hS); go_split_ands; go_simp; (try with_reducible rfl); done)); (try simp only [Act.put, List.getElem_toArray, List.getElem_cons_succ, List.getElem_cons_zero, List.setIfInBounds_toArray, List.set_cons_zero, List.set_cons_succ]))
  refine ord_do rfl rfl (fun K hK => ?_)
  go_simp
  refine (H0 _).mono ?_
  rintro e w1 ⟨rfl, hw⟩
  subst w1
  refine hK _ _ (fun _ => hS) ?_
  clear hK K
  (try simp only [Act.put, List.getElem_toArray, List.getElem_cons_succ, List.getElem_cons_zero, List.setIfInBounds_toArray, List.set_cons_zero, List.set_cons_succ])
  refine ord_do rfl rfl (fun K hK => ?_)
  go_simp
  refine (H1 _).mono ?_
  rintro e w1 ⟨rfl, hw⟩
  subst w1
  refine hK _ _ (fun _ => hS) ?_
  clear hK K
  (try simp only [Act.put, List.getElem_toArray, List.getElem_cons_succ, List.getElem_cons_zero, List.setIfInBounds_toArray, List.set_cons_zero, List.set_cons_succ])
  have kA := Blk.new W1 3 #[.int .i64 v0, .int .i64 v1]
  have bA := HB0.out.alloc HB0.out.size (.cells #[.int .i64 v0, .int .i64 v1] 3)
  have HA := Lib.hid (And.intro (or2_any _ _ v0 v1 kA) bA)
  clear kA bA
  refine ord_do rfl rfl (fun K hK => ?_)
  go_simp
  refine hK _ _ (fun _ => UP.out _ HA.out.2) ?_
  clear hK K
  (try simp only [Act.put, List.getElem_toArray, List.getElem_cons_succ, List.getElem_cons_zero, List.setIfInBounds_toArray, List.set_cons_zero, List.set_cons_succ])
  generalize W1.alloc (.cells #[.int .i64 v0, .int .i64 v1] 3) = W2 at HA ⊢
  refine ord_do rfl rfl (fun K hK => ?_)
  go_simp
  refine HA.out.1.mono ?_
  rintro e w1 ⟨rfl, hw⟩
  subst w1
  have FIN := Lib.hid (HK.out.2.2.trans (HA.out.2.mono HK.out.2.2.size))
  refine hK _ _ (fun _ => UP.out _ HA.out.2) ?_
  clear hK K
  (try simp only [Act.put, List.getElem_toArray, List.getElem_cons_succ, List.getElem_cons_zero, List.setIfInBounds_toArray, List.set_cons_zero, List.set_cons_succ])
  (refine ord_take (v := ?_) rfl (by first | with_reducible rfl | kernel_rfl) ?_ ?_; rotate_left; (focus (intro wS hS; (try dsimp only at hS); go_split_ands; go_simp; (try with_reducible rfl); done)); (try simp only [Act.put, List.getElem_toArray, List.getElem_cons_succ, List.getElem_cons_zero, List.setIfInBounds_toArray, List.set_cons_zero, List.set_cons_succ]))
  refine ord_done ?_
  go_wp2
  go_ret
  exact ⟨rfl, FIN.out⟩

def hpCells (L : List Hp) : List Value := L.flatMap Hp.cells
theorem hpCells_len (L : List Hp) : (hpCells L).length = L.length * 2 := flat_len Hp.cells 2 (fun _ => rfl) L
theorem one_hp (E : List Hp) : ∀ u ∈ hpCells E, u.oneCell' = true := by
  intro u hu
  obtain ⟨x, _, hx⟩ := List.mem_flatMap.1 hu
  simp [Hp.cells] at hx
  rcases hx with rfl | rfl <;> rfl
theorem info_hop : (Tryz.prog.info? 92).map (fun i => (i.zero, i.size, i.bytes)) = some (some (.agg #[.string ByteArray.empty, .int .i64 0]), 2, 24) := by kernel_rfl
theorem RowR.hp {w : World} {B : Option Addr} {L : List Hp} (h : RowR w B (hpCells L)) {k : Nat} {x : Hp} (hk : L[k]? = some x) :
    ∃ b o, B = some ⟨b, o, none⟩ ∧ w.cell? ⟨b, o + k * 2, none⟩ = some (.string x.lb) ∧ w.cell? ⟨b, o + k * 2 + 1, none⟩ = some (.int .i64 x.nd) := by
  have g := fun j hj => flat_get Hp.cells 2 (fun _ => rfl) L k j x hk hj
  obtain ⟨b, o, e, y0⟩ := h (k * 2 + 0) _ (g 0 (by decide))
  obtain ⟨b1, o1, e1, y1⟩ := h (k * 2 + 1) _ (g 1 (by decide))
  rw [e] at e1
  injection e1 with e1
  injection e1 with e3 e4
  subst e3; subst e4
  exact ⟨b, o, e, y0, by rw [Nat.add_assoc]; exact y1⟩
end Go.Proofs.YthmkgnifcbnkpaaGreat
namespace Go.Proofs.YthmkgnifcbnkpaaGreat
open Go.RowKit

/-- How many stand ahead of it. -/
def posH (L : List Hp) (h : Hp) : Nat := L.countP fun x => ltH x h
theorem posH_le (L : List Hp) (h : Hp) : posH L h ≤ L.length := List.countP_le_length
theorem posH_at {L : List Hp} {h : Hp} (_hup : Rises ltH L) {i : Nat} (hi : i ≤ L.length) (h1 : ∀ k x, k < i → L[k]? = some x → ltH x h = true) (h2 : ∀ k x, i ≤ k → L[k]? = some x → ltH x h = false) : posH L h = i := by
  have e : posH L h = (L.take i).countP (fun x => ltH x h) + (L.drop i).countP (fun x => ltH x h) := by
    unfold posH
    rw [← List.countP_append, List.take_append_drop]
  have a : (L.take i).countP (fun x => ltH x h) = (L.take i).length := by
    rw [List.countP_eq_length]
    intro x hx
    obtain ⟨k, hk, rfl⟩ := List.getElem_of_mem hx
    rw [List.length_take] at hk
    exact h1 k _ (by omega) (by rw [List.getElem_take, List.getElem?_eq_getElem])
  have b : (L.drop i).countP (fun x => ltH x h) = 0 := by
    rw [List.countP_eq_zero]
    intro x hx
    obtain ⟨k, hk, rfl⟩ := List.getElem_of_mem hx
    rw [List.length_drop] at hk
    rw [h2 (i + k) _ (by omega) (by rw [List.getElem_drop, List.getElem?_eq_getElem])]
    simp
  rw [e, a, b, List.length_take]
  omega
theorem rise_at {L : List Hp} (hup : Rises ltH L) {i j : Nat} {x y : Hp} (hx : L[i]? = some x) (hy : L[j]? = some y) (hij : i < j) : ltH x y = true := by
  obtain ⟨h1, e1⟩ := List.getElem?_eq_some_iff.1 hx
  obtain ⟨h2, e2⟩ := List.getElem?_eq_some_iff.1 hy
  have := (List.pairwise_iff_getElem.1 hup) i j h1 h2 hij
  rwa [e1, e2] at this
set_option maxHeartbeats 2000000 in
set_option maxRecDepth 100000 in
theorem bsf_any (w : World) (A : Option Addr) (c : Nat) (L : List Hp) (h : Hp) (hr : RowR w A (hpCells L)) (hup : Rises ltH L) (hl : L.length * 24 ≤ 140737488355328) :
    Calls Tryz.prog 71 #[.slice A L.length c, h.agg, .func (.func 72) #[] #[]] w (Sam w (.tuple #[.int .i64 (posH L h), .bool (decide (h ∈ L))])) := by
  obtain ⟨s0, s1⟩ := h
  obtain ⟨r, hr0⟩ : ∃ r, posH L ⟨s0, s1⟩ = r := ⟨_, rfl⟩
  obtain ⟨b, hb0⟩ : ∃ r, decide ((⟨s0, s1⟩ : Hp) ∈ L) = r := ⟨_, rfl⟩
  rw [hr0, hb0]
  obtain ⟨n, hn⟩ : ∃ n, L.length = n := ⟨_, rfl⟩
  rw [hn] at hl ⊢
  have k0 := Blk.new w 92 #[.string s0, .int .i64 s1]
  have u0 : Below w.heap.size w (w.alloc (.cells #[.string s0, .int .i64 s1] 92)) := (Below.refl _ _).alloc (Nat.le_refl _) _
  have H := Lib.hid (And.intro (hr.below u0) (And.intro k0 (And.intro u0 (And.intro hup (And.intro hn (And.intro hr0 hb0))))))
  clear hr k0 u0 hup hn hr0 hb0
  have eg : ∀ args w, (callFunc 72 args).run Tryz.prog w = .ok (.enter 72 args) w := Go.Proofs.enters_of Tryz.func72 (by kernel_rfl) rfl
  unfold Hp.agg
  dsimp only
  go_enter Tryz.func71, Tryz.ntmps71
  go_upto_region 1 with (fail)
  generalize w.alloc (.cells #[.string s0, .int .i64 s1] 92) = W0 at H ⊢
  go_wp2_with fail
  go_loopw [9, 10, 11] (fun lo hi _ wr => ∃ i j : Nat, i ≤ j ∧ j ≤ n ∧ lo = .int .i64 i ∧ hi = .int .i64 j ∧ Hid (Below W0.heap.size W0 wr) ∧ Hid ((∀ k x, k < i → L[k]? = some x → ltH x ⟨s0, s1⟩ = true) ∧ ∀ k x, j ≤ k → L[k]? = some x → ltH x ⟨s0, s1⟩ = false)) (fun lo hi _ _ => (intOf hi).toNat - (intOf lo).toNat)
  case atStart => exact ⟨0, n, Nat.zero_le _, Nat.le_refl _, rfl, rfl, Lib.hid (Below.refl _ _), Lib.hid ⟨fun k x hk => by omega, fun k x hk hx => by have := (List.getElem?_eq_some_iff.1 hx).1; have := H.out.2.2.2.2.1; omega⟩⟩
  case round =>
    obtain ⟨i, j, hij, hjn, rfl, rfl, hbw, hs⟩ := hrel
    by_cases hlt : i < j
    · have hltI : (i : Int) < (j : Int) := by omega
      obtain ⟨k, hk⟩ : ∃ k, (i + j) / 2 = k := ⟨_, rfl⟩
      have hq : ((i : Int) + (j : Int)) / 2 = (k : Int) := by rw [← hk]; omega
      have hkj : k < j := by omega
      have hik : i ≤ k := by omega
      have hkn : k < n := by omega
      have hknI : (k : Int) < (n : Int) := by omega
      have hw2 : IntKind.i64.wrap ((k : Int) + 1) = (k : Int) + 1 := IntWalk.i64_in _ (by omega)
      obtain ⟨⟨x0, x1⟩, hx⟩ : ∃ x, L[k]? = some x := ⟨L[k]'(by rw [H.out.2.2.2.2.1]; exact hkn), List.getElem?_eq_getElem _⟩
      obtain ⟨ab, ao, rfl, y0, y1⟩ := (H.out.1.below hbw.out).hp hx
      dsimp only at y0 y1
      obtain ⟨v, hv⟩ : ∃ v, cmpH ⟨x0, x1⟩ ⟨s0, s1⟩ = v := ⟨_, rfl⟩
      have hcon := fun W => order_hop ⟨x0, x1⟩ ⟨s0, s1⟩ W
      rw [hv] at hcon
      unfold Hp.agg at hcon
      dsimp only at hcon
      have hlt2 := cmpH_lt ⟨x0, x1⟩ ⟨s0, s1⟩
      rw [hv] at hlt2
      have HX := Lib.hid (And.intro hx hlt2)
      have HC := Lib.hid hcon
      have SR := Lib.hid (show ∀ W, Below W0.heap.size W0 W → W.cell? ⟨w.heap.size, 0, none⟩ = some (.string s0) ∧ W.cell? ⟨w.heap.size, 1, none⟩ = some (.int .i64 s1) ∧ W.cell? ⟨ab, ao + k * 2, none⟩ = some (.string x0) ∧ W.cell? ⟨ab, ao + k * 2 + 1, none⟩ = some (.int .i64 x1) from fun W hb => by
        have kb := H.out.2.1.upd (Upd.of_below hb (fun _ => False)) id
        obtain ⟨b', o', e, z0, z1⟩ := (H.out.1.below hb).hp HX.out.1
        injection e with e
        injection e with e1 e2
        subst e1; subst e2
        exact ⟨kb.cell 0, kb.cell 1, z0, z1⟩)
      have hS := SR.out _ hbw.out.drew
      clear hx hlt2 hcon hv hk y0 y1
      go_upto_region 5 with (fail)
      refine wp_region_ord (fun W => W.cell? ⟨w.heap.size, 0, none⟩ = some (.string s0) ∧ W.cell? ⟨w.heap.size, 1, none⟩ = some (.int .i64 s1) ∧ W.cell? ⟨ab, ao + k * 2, none⟩ = some (.string x0) ∧ W.cell? ⟨ab, ao + k * 2 + 1, none⟩ = some (.int .i64 x1)) 8 [(0, true), (1, true), (2, true), (3, true), (4, true), (5, true), (6, false), (7, true)] (by kernel_rfl) (by kernel_rfl) (fun _ _ d _ _ h => by cases d <;> exact h) hS ?_
      iterate 6 (refine ord_take (v := ?_) rfl (by first | with_reducible rfl | kernel_rfl) ?_ ?_; rotate_left; (focus (intro wS hS; (try dsimp only at hS); go_split_ands; go_simp; (try with_reducible rfl); done)); (try simp only [Act.put, List.getElem_toArray, List.getElem_cons_succ, List.getElem_cons_zero, List.setIfInBounds_toArray, List.set_cons_zero, List.set_cons_succ]))
      refine ord_do rfl rfl (fun K hK => ?_)
      go_simp
      refine (HC.out wr.drew).mono ?_
      rintro e W5 ⟨rfl, b5⟩
      have HB5 := Lib.hid (hbw.out.drew.trans (b5.mono hbw.out.size))
      refine hK _ _ (fun _ => SR.out _ HB5.out) ?_
      clear hK K hS b5
      (try simp only [Act.put, List.getElem_toArray, List.getElem_cons_succ, List.getElem_cons_zero, List.setIfInBounds_toArray, List.set_cons_zero, List.set_cons_succ])
      by_cases hv0 : v < 0
      · have hlx : ltH ⟨x0, x1⟩ ⟨s0, s1⟩ = true := by rw [← HX.out.2]; simpa using hv0
        have HL := Lib.hid hlx
        clear hlx
        (refine ord_take (v := ?_) rfl (by first | with_reducible rfl | kernel_rfl) ?_ ?_; rotate_left; (focus (intro wS hS; (try dsimp only at hS); go_split_ands; go_simp; (try with_reducible rfl); done)); (try simp only [Act.put, List.getElem_toArray, List.getElem_cons_succ, List.getElem_cons_zero, List.setIfInBounds_toArray, List.set_cons_zero, List.set_cons_succ]))
        refine ord_done ?_
        go_wp2
        go_roundw
        case rel => exact ⟨k + 1, j, by omega, hjn, by go_num, rfl, HB5, Lib.hid ⟨fun k' x' hk' hx' => by
            rcases Nat.lt_succ_iff_lt_or_eq.1 hk' with h | rfl
            · exact stoH.tr _ _ _ (rise_at H.out.2.2.2.1 hx' HX.out.1 h) HL.out
            · rw [HX.out.1] at hx'
              injection hx' with e
              rw [← e]
              exact HL.out, hs.out.2⟩⟩
        case measure => simp [intOf]; omega
      · have hlx : ltH ⟨x0, x1⟩ ⟨s0, s1⟩ = false := by rw [← HX.out.2]; simpa using hv0
        have HL := Lib.hid hlx
        clear hlx
        (refine ord_take (v := ?_) rfl (by first | with_reducible rfl | kernel_rfl) ?_ ?_; rotate_left; (focus (intro wS hS; (try dsimp only at hS); go_split_ands; go_simp; (try with_reducible rfl); done)); (try simp only [Act.put, List.getElem_toArray, List.getElem_cons_succ, List.getElem_cons_zero, List.setIfInBounds_toArray, List.set_cons_zero, List.set_cons_succ]))
        refine ord_done ?_
        go_wp2
        go_roundw
        case rel => exact ⟨i, k, hik, by omega, rfl, rfl, HB5, Lib.hid ⟨hs.out.1, fun k' x' hk' hx' => by
            rcases Nat.lt_or_eq_of_le hk' with h | rfl
            · cases e : ltH x' ⟨s0, s1⟩
              · rfl
              · have := stoH.tr _ _ _ (rise_at H.out.2.2.2.1 HX.out.1 hx' h) e
                rw [HL.out] at this
                cases this
            · rw [HX.out.1] at hx'
              injection hx' with e
              rw [← e]
              exact HL.out⟩⟩
        case measure => simp [intOf]; omega
    · obtain rfl : i = j := by omega
      have hri : r = i := by
        rw [← H.out.2.2.2.2.2.1]
        exact posH_at H.out.2.2.2.1 (by rw [H.out.2.2.2.2.1]; exact hjn) hs.out.1 hs.out.2
      subst hri
      obtain ⟨W2, hW2⟩ : ∃ W, W = wr := ⟨_, rfl⟩
      subst hW2
      by_cases hin : r < n
      · have hinI : (r : Int) < (n : Int) := by omega
        obtain ⟨⟨x0, x1⟩, hx⟩ : ∃ x, L[r]? = some x := ⟨L[r]'(by rw [H.out.2.2.2.2.1]; exact hin), List.getElem?_eq_getElem _⟩
        obtain ⟨ab, ao, rfl, -, -⟩ := (H.out.1.below hbw.out).hp hx
        obtain ⟨v, hv⟩ : ∃ v, cmpH ⟨x0, x1⟩ ⟨s0, s1⟩ = v := ⟨_, rfl⟩
        have hcon := fun W => order_hop ⟨x0, x1⟩ ⟨s0, s1⟩ W
        rw [hv] at hcon
        unfold Hp.agg at hcon
        dsimp only at hcon
        have hbv : b = decide (v = 0) := by
          rw [← H.out.2.2.2.2.2.2, ← hv, Bool.eq_iff_iff, decide_eq_true_iff, decide_eq_true_iff, cmpH_zero]
          constructor
          · intro hm
            obtain ⟨k, hk, e⟩ := List.getElem_of_mem hm
            have hk' : L[k]? = some ⟨s0, s1⟩ := by rw [List.getElem?_eq_getElem hk, e]
            rcases Nat.lt_trichotomy k r with h | rfl | h
            · have := hs.out.1 k _ h hk'
              rw [stoH.irr] at this
              cases this
            · rw [hx] at hk'
              injection hk'
            · have h1 := hs.out.2 r _ (Nat.le_refl _) hx
              rw [rise_at H.out.2.2.2.1 hx hk' h] at h1
              cases h1
          · intro e
            rw [← e]
            exact List.mem_of_getElem? hx
        have HX := Lib.hid (And.intro hx hbv)
        have HC := Lib.hid hcon
        have SR := Lib.hid (show ∀ W, Below W0.heap.size W0 W → W.cell? ⟨w.heap.size, 0, none⟩ = some (.string s0) ∧ W.cell? ⟨w.heap.size, 1, none⟩ = some (.int .i64 s1) ∧ W.cell? ⟨ab, ao + r * 2, none⟩ = some (.string x0) ∧ W.cell? ⟨ab, ao + r * 2 + 1, none⟩ = some (.int .i64 x1) from fun W hb => by
          have kb := H.out.2.1.upd (Upd.of_below hb (fun _ => False)) id
          obtain ⟨b', o', e, z0, z1⟩ := (H.out.1.below hb).hp HX.out.1
          injection e with e
          injection e with e1 e2
          subst e1; subst e2
          exact ⟨kb.cell 0, kb.cell 1, z0, z1⟩)
        have hS := SR.out _ hbw.out.drew
        clear hx hbv hcon hv
        go_upto_region 8 with (fail)
        refine wp_region_ord (fun W => W.cell? ⟨w.heap.size, 0, none⟩ = some (.string s0) ∧ W.cell? ⟨w.heap.size, 1, none⟩ = some (.int .i64 s1) ∧ W.cell? ⟨ab, ao + r * 2, none⟩ = some (.string x0) ∧ W.cell? ⟨ab, ao + r * 2 + 1, none⟩ = some (.int .i64 x1)) 16 [(0, true), (1, true), (2, true), (3, true), (4, true), (5, true), (6, true), (7, true), (8, true), (9, true), (10, true), (11, false), (12, true), (13, true), (14, true), (15, true)] (by kernel_rfl) (by kernel_rfl) (fun _ _ d _ _ h => by cases d <;> exact h) hS ?_
        iterate 11 (refine ord_take (v := ?_) rfl (by first | with_reducible rfl | kernel_rfl) ?_ ?_; rotate_left; (focus (intro wS hS; (try dsimp only at hS); go_split_ands; go_simp; (try with_reducible rfl); done)); (try simp only [Act.put, List.getElem_toArray, List.getElem_cons_succ, List.getElem_cons_zero, List.setIfInBounds_toArray, List.set_cons_zero, List.set_cons_succ]))
        (refine ord_dog rfl (by first | with_reducible rfl | kernel_rfl) (fun K hK => ?_); go_simp)
        refine (HC.out W2.drew).mono ?_
        rintro e W5 ⟨rfl, b5⟩
        have HB5 := Lib.hid (hbw.out.drew.trans (b5.mono hbw.out.size))
        refine hK _ _ (fun _ => SR.out _ HB5.out) ?_
        clear hK K hS b5
        (try simp only [Act.put, List.getElem_toArray, List.getElem_cons_succ, List.getElem_cons_zero, List.setIfInBounds_toArray, List.set_cons_zero, List.set_cons_succ])
        iterate 4 (refine ord_take (v := ?_) rfl (by first | with_reducible rfl | kernel_rfl) ?_ ?_; rotate_left; (focus (intro wS hS; (try dsimp only at hS); go_split_ands; go_simp; (try with_reducible rfl); done)); (try simp only [Act.put, List.getElem_toArray, List.getElem_cons_succ, List.getElem_cons_zero, List.setIfInBounds_toArray, List.set_cons_zero, List.set_cons_succ]))
        refine ord_done ?_
        have FIN := Lib.hid (H.out.2.2.1.trans (HB5.out.mono H.out.2.2.1.size))
        have HV := Lib.hid HX.out.2
        go_wp2
        refine bodyPost_ret (v := .tuple #[.int .i64 r, .bool (v == 0)]) (by simp [results, Tryz.f71, go_sem]) rfl ⟨?_, FIN.out⟩
        rw [HV.out]
        congr 1
      · obtain rfl : r = n := by omega
        have hbf : b = false := by
          cases b with
          | false => rfl
          | true =>
            have hm := of_decide_eq_true H.out.2.2.2.2.2.2
            obtain ⟨k, hk, e⟩ := List.getElem_of_mem hm
            have := hs.out.1 k _ (by have := H.out.2.2.2.2.1; omega) (by rw [List.getElem?_eq_getElem hk, e])
            rw [stoH.irr] at this
            cases this
        subst hbf
        have hS : True := trivial
        have FIN := Lib.hid (H.out.2.2.1.trans (hbw.out.drew.mono H.out.2.2.1.size))
        go_upto_region 8 with (fail)
        refine wp_region_ord (fun _ => True) 16 [(0, true), (1, true), (2, true), (3, true), (4, true), (5, true), (6, true), (7, true), (8, true), (9, true), (10, true), (11, false), (12, true), (13, true), (14, true), (15, true)] (by kernel_rfl) (by kernel_rfl) (fun _ _ d _ _ h => by cases d <;> exact h) hS ?_
        iterate 5 (refine ord_take (v := ?_) rfl (by first | with_reducible rfl | kernel_rfl) ?_ ?_; rotate_left; (focus (intro wS hS; (try dsimp only at hS); go_split_ands; go_simp; (try with_reducible rfl); done)); (try simp only [Act.put, List.getElem_toArray, List.getElem_cons_succ, List.getElem_cons_zero, List.setIfInBounds_toArray, List.set_cons_zero, List.set_cons_succ]))
        iterate 6 (refine ord_skip rfl (by kernel_rfl) ?_; (try simp only [Act.put, List.getElem_toArray, List.getElem_cons_succ, List.getElem_cons_zero, List.setIfInBounds_toArray, List.set_cons_zero, List.set_cons_succ]))
        (refine ord_skipf rfl (by kernel_rfl) (by first | assumption | trivial | exact UP.out _ H5.out) ?_; (try simp only [Act.put, List.getElem_toArray, List.getElem_cons_succ, List.getElem_cons_zero, List.setIfInBounds_toArray, List.set_cons_zero, List.set_cons_succ]))
        (refine ord_skip rfl (by kernel_rfl) ?_; (try simp only [Act.put, List.getElem_toArray, List.getElem_cons_succ, List.getElem_cons_zero, List.setIfInBounds_toArray, List.set_cons_zero, List.set_cons_succ]))
        iterate 3 (refine ord_take (v := ?_) rfl (by first | with_reducible rfl | kernel_rfl) ?_ ?_; rotate_left; (focus (intro wS hS; (try dsimp only at hS); go_split_ands; go_simp; (try with_reducible rfl); done)); (try simp only [Act.put, List.getElem_toArray, List.getElem_cons_succ, List.getElem_cons_zero, List.setIfInBounds_toArray, List.set_cons_zero, List.set_cons_succ]))
        refine ord_done ?_
        go_wp2
        refine bodyPost_ret (v := .tuple #[.int .i64 r, .bool false]) (by simp [results, Tryz.f71, go_sem]) rfl ⟨rfl, FIN.out⟩
end Go.Proofs.YthmkgnifcbnkpaaGreat
namespace Go.Proofs.YthmkgnifcbnkpaaGreat
open Go.RowKit

theorem setCells_heap (b : Nat) : ∀ (vs : List Value) (o : Nat) (w : World) (cur : Array Value) (t : TypeId), w.heap[b]? = some (.cells cur t (0, 0)) → o + vs.length ≤ cur.size →
    ∃ cur', (w.setCells b o vs).heap[b]? = some (.cells cur' t (0, 0)) ∧ cur'.size = cur.size ∧ cur'.toList = cur.toList.take o ++ vs ++ cur.toList.drop (o + vs.length)
  | [], o, w, cur, t, h, _ => ⟨cur, h, rfl, by simp⟩
  | v :: r, o, w, cur, t, h, hl => by
    have hb := Blk.set (show Blk w b t cur from h) o v
    simp only [List.length_cons] at hl
    obtain ⟨c', e1, e2, e3⟩ := setCells_heap b r (o + 1) _ _ t hb (by simp; omega)
    refine ⟨c', e1, by rw [e2]; simp, ?_⟩
    rw [e3, Array.toList_setIfInBounds, List.drop_set_of_lt (by omega), List.take_set]
    have h1 : (cur.toList.take (o + 1)).set o v = cur.toList.take o ++ [v] := by
      rw [List.take_add_one, List.getElem?_eq_getElem (by simp; omega)]
      rw [List.set_append_right _ _ (by simp; omega)]
      have : o - (cur.toList.take o).length = 0 := by simp; omega
      rw [this]
      rfl
    rw [h1]
    simp [Nat.add_assoc, Nat.add_comm 1]
theorem Upd.setCells {F : Nat → Prop} {a : World} {b : Nat} (hp : F b ∨ a.heap.size ≤ b) : ∀ (vs : List Value) (o : Nat) {w : World}, Upd F a w → Upd F a (w.setCells b o vs)
  | [], _, _, h => h
  | v :: r, o, _w, h => Upd.setCells hp r (o + 1) (h.setCell (p := ⟨b, o, none⟩) hp v)
theorem run_copy_rows {P : Program} (w : World) (dT sT ty elem : TypeId) (size b o dLen dCap : Nat) (a : Addr) (sLen sCap : Nat) (cs : List Value)
    (hu : P.underlying dT = some (.slice elem)) (hs : (P.info? elem).map (·.size) = some size) (hn : cs.length = Nat.min sLen dLen * size)
    (hsrc : ∀ j v, cs[j]? = some v → w.cell? (a.add j) = some v) (hc : ∀ j, j < cs.length → (w.cell? ⟨b, o + j, none⟩).isSome = true) (hf : ∀ j, j < cs.length → w.frozen? ⟨b, o + j, none⟩ = false) (h1 : ∀ v ∈ cs, v.oneCell' = true) :
    (Builtin.copy_ #[dT, sT] ty #[.slice (some ⟨b, o, none⟩) dLen dCap, .slice (some a) sLen sCap]).run P w = .ok (goInt (Nat.min sLen dLen)) (w.setCells b o cs) := by
  have hl := run_loadCells_list (P := P) w a cs hsrc
  have hst := run_storeCells_cells (P := P) b o cs 0 w (by simpa using hc) (by simpa using hf) h1
  cases hq : P.info? elem with
  | none => simp [hq] at hs
  | some i =>
    have hi : i.size = size := by simpa [hq] using hs
    simp [Builtin.copy_, run_underlying hu, Builtin.lenOf, Builtin.firstCells, sizeOf, typeInfo, hq, hi, ← hn, hl, hst]
/-- In a row with cells enough: what a copy asks. -/
theorem cells_some {w : World} {b : Nat} {cur : Array Value} {t : TypeId} (h : w.heap[b]? = some (.cells cur t (0, 0))) {k : Nat} (hk : k < cur.size) : (w.cell? ⟨b, k, none⟩).isSome = true := by
  rw [cell_of_row w b k cur t (0, 0) h, Array.getElem?_eq_getElem hk]
  rfl
theorem cells_free {w : World} {b : Nat} {cur : Array Value} {t : TypeId} (h : w.heap[b]? = some (.cells cur t (0, 0))) (k : Nat) : w.frozen? ⟨b, k, none⟩ = false := by simp [World.frozen?, h]
theorem ins_list {α : Type} (C X v : List α) (k : Nat) (hX : C.take X.length = X) (hk : k ≤ X.length) (hC : X.length + v.length ≤ C.length) :
    ((C.take (k + v.length) ++ X.drop k ++ C.drop (k + v.length + (X.drop k).length)).take k ++ v ++ (C.take (k + v.length) ++ X.drop k ++ C.drop (k + v.length + (X.drop k).length)).drop (k + v.length)).take (X.length + v.length) = X.take k ++ v ++ X.drop k := by
  have h1 : (C.take (k + v.length) ++ X.drop k ++ C.drop (k + v.length + (X.drop k).length)).take k = X.take k := by
    rw [List.append_assoc, List.take_append_of_le_length (by rw [List.length_take]; omega), List.take_take, Nat.min_eq_left (by omega)]
    conv => rhs; rw [← hX]
    rw [List.take_take, Nat.min_eq_left hk]
  have h2 : (C.take (k + v.length) ++ X.drop k ++ C.drop (k + v.length + (X.drop k).length)).drop (k + v.length) = X.drop k ++ C.drop (k + v.length + (X.drop k).length) := by
    rw [List.append_assoc]
    exact List.drop_left' (by rw [List.length_take]; omega)
  rw [h1, h2, ← List.append_assoc]
  exact List.take_left' (by simp; omega)
theorem ins_grow {α : Type} (C v Y : List α) (k : Nat) (hC : k + v.length + Y.length ≤ C.length) :
    ((C.take k ++ v ++ C.drop (k + v.length)).take (k + v.length) ++ Y ++ (C.take k ++ v ++ C.drop (k + v.length)).drop (k + v.length + Y.length)).take (k + v.length + Y.length) = C.take k ++ v ++ Y := by
  have h1 : (C.take k ++ v ++ C.drop (k + v.length)).take (k + v.length) = C.take k ++ v := List.take_left' (by simp; omega)
  rw [h1]
  exact List.take_left' (by simp; omega)
def insAt (L : List Hp) (i : Nat) (h : Hp) : List Hp := L.take i ++ h :: L.drop i
theorem hpCells_app (N M : List Hp) : hpCells (N ++ M) = hpCells N ++ hpCells M := by simp [hpCells]
theorem insAt_len (L : List Hp) {i : Nat} (h : Hp) (hi : i ≤ L.length) : (insAt L i h).length = L.length + 1 := by simp [insAt]; omega
theorem hp_take (L : List Hp) (i : Nat) (hi : i ≤ L.length) : hpCells (L.take i) = (hpCells L).take (i * 2) := by
  conv => rhs; rw [← List.take_append_drop i L, hpCells_app]
  exact (List.take_left' (by rw [hpCells_len, List.length_take]; omega)).symm
theorem hp_drop (L : List Hp) (i : Nat) (hi : i ≤ L.length) : hpCells (L.drop i) = (hpCells L).drop (i * 2) := by
  conv => rhs; rw [← List.take_append_drop i L, hpCells_app]
  exact (List.drop_left' (by rw [hpCells_len, List.length_take]; omega)).symm
theorem insAt_cells (L : List Hp) (i : Nat) (h : Hp) (hi : i ≤ L.length) : hpCells (insAt L i h) = (hpCells L).take (i * 2) ++ h.cells ++ (hpCells L).drop (i * 2) := by
  rw [insAt, hpCells_app, hp_take L i hi]
  show _ ++ (h.cells ++ hpCells (L.drop i)) = _
  rw [hp_drop L i hi, List.append_assoc]

def InsAt (w : World) (base : Nat) (v : Value) (L : List Hp) (e : Ending) (w' : World) : Prop :=
  ∃ A' c', e = .returned (.slice A' L.length c') ∧ w'.ownsRow base 92 2 (.slice A' L.length c') L.length (hpCells L) ∧ Upd (fun k => v.ownBlock = some k) w w' ∧ ∀ k, (Value.slice A' L.length c').ownBlock = some k → v.ownBlock = some k ∨ w.heap.size ≤ k
set_option maxHeartbeats 4000000 in
set_option maxRecDepth 20000 in
theorem insert_end (w : World) (base : Nat) (A : Option Addr) (c : Nat) (L : List Hp) (own : w.ownsRow base 92 2 (.slice A L.length c) L.length (hpCells L)) (g : Nat) (h : Hp) (hg : Blk w g 92 h.cells.toArray) (hb : base ≤ w.heap.size) (hl : (L.length + 1) * 24 ≤ 140737488355328) :
    Calls Tryz.prog 120 #[.slice A L.length c, .int .i64 L.length, .slice (some ⟨g, 0, none⟩) 1 1] w (InsAt w base (.slice A L.length c) (insAt L L.length h)) := by
  have hr : RowR w (some ⟨g, 0, none⟩) h.cells := fun j u hj => ⟨g, 0, rfl, by rw [Nat.zero_add, hg.cell j]; simpa using hj⟩
  obtain ⟨A', c', w', happ, own', up, pl⟩ := append_row2 w base 88 92 2 24 _ Tryz.underlying88 info_hop rfl (by decide) (by decide) A L.length c _ own (some ⟨g, 0, none⟩) 1 1 h.cells hr rfl (by simp [Hp.cells]; exact ⟨rfl, rfl⟩) hl hb
  have e : L ++ [h] = insAt L L.length h := by simp [insAt]
  have e2 : hpCells L ++ h.cells = hpCells (insAt L L.length h) := by rw [← e, hpCells_app]; simp [hpCells]
  have e3 : L.length + 1 = (insAt L L.length h).length := by rw [← e]; simp
  have e4 := own_form own
  rw [e2] at own'
  rw [e3] at own' pl
  have HH := Lib.hid (show InsAt w base (.slice A L.length c) (insAt L L.length h) (.returned (.slice A' (L.length + 1) c')) w' from ⟨A', c', by rw [e3], own', up, pl⟩)
  clear own' up pl e3 e e2 own hr hg hb
  obtain ⟨n, hn⟩ : ∃ n, L.length = n := ⟨_, rfl⟩
  rw [hn] at hl e4 happ HH ⊢
  clear hn
  obtain ⟨A0, c0, e5, e6, e7⟩ := e4
  injection e5 with e5 _ e8
  subst e5
  subst e8
  have hc63 : n ≤ 9223372036854775807 := by omega
  go_enter Tryz.func120, Tryz.ntmps120
  rcases e7 with rfl | ⟨g0, rfl⟩
  all_goals
    go_wp2_with (at_builtin; refine wpList_append_run rfl _ _ _ rfl rfl rfl happ ?_)
    all_goals
      go_ret
      exact HH.out
set_option maxHeartbeats 4000000 in
set_option maxRecDepth 20000 in
theorem insert_room (w : World) (base g0 c : Nat) (L : List Hp) (own : w.ownsRow base 92 2 (.slice (some ⟨g0, 0, none⟩) L.length c) L.length (hpCells L)) (g : Nat) (h : Hp) (hg : Blk w g 92 h.cells.toArray) (hne : g ≠ g0) (i : Nat) (hi : i < L.length) (hc : L.length + 1 ≤ c) :
    Calls Tryz.prog 120 #[.slice (some ⟨g0, 0, none⟩) L.length c, .int .i64 i, .slice (some ⟨g, 0, none⟩) 1 1] w (InsAt w base (.slice (some ⟨g0, 0, none⟩) L.length c) (insAt L i h)) := by
  obtain ⟨n, hn⟩ : ∃ n, L.length = n := ⟨_, rfl⟩
  have hcl := hpCells_len L
  rw [hn] at own hi hc hcl ⊢
  rcases own.2 with ⟨e, -⟩ | ⟨g1, c1, cur, e, hbase, hh, hcn, hcm, hcs, hct⟩
  · cases e
  injection e with e _ e2
  injection e with e
  injection e with e
  subst e
  subst e2
  have hlen : n * 2 + 2 ≤ cur.toList.length := by rw [Array.length_toList, hcs]; omega
  have hv : h.cells.length = 2 := rfl
  have hdl : ((hpCells L).drop (i * 2)).length = (n - i) * 2 := by rw [List.length_drop, hcl]; omega
  obtain ⟨Y, hY⟩ : ∃ Y, Y = (hpCells L).drop (i * 2) := ⟨_, rfl⟩
  rw [← hY] at hdl
  have hYc : ∀ j u, Y[j]? = some u → w.drew.cell? ((⟨g0, i * 2, none⟩ : Addr).add j) = some u := fun j u hu => by
    rw [hY, List.getElem?_drop, ← hct, List.getElem?_take] at hu
    split at hu
    · rw [Addr.add_lit]
      rw [cell_of_row w.drew g0 _ cur _ (0, 0) hh]
      simpa using hu
    · cases hu
  have hYo : ∀ u ∈ Y, u.oneCell' = true := fun u hu => one_hp L u (by rw [hY] at hu; exact List.mem_of_mem_drop hu)
  have hsz : (Tryz.prog.info? 92).map (·.size) = some 2 := by
    obtain ⟨i0, hi0, h0, h1, h2⟩ := info_parts info_hop
    rw [hi0]; simp [h1]
  have hcp1 : ∀ ty dc sc, (Builtin.copy_ #[88, 88] ty #[.slice (some ⟨g0, (i + 1) * 2, none⟩) (n + 1 - (i + 1)) dc, .slice (some ⟨g0, i * 2, none⟩) (n + 1 - i) sc]).run Tryz.prog w.drew = .ok (goInt ((n + 1 - (i + 1) : Nat) : Int)) (w.drew.setCells g0 ((i + 1) * 2) Y) := fun ty dc sc => by
    have e : Nat.min (n + 1 - i) (n + 1 - (i + 1)) = n + 1 - (i + 1) := by simp only [Nat.min_def]; split <;> omega
    rw [run_copy_rows w.drew 88 88 ty 92 2 g0 ((i + 1) * 2) (n + 1 - (i + 1)) dc ⟨g0, i * 2, none⟩ (n + 1 - i) sc Y Tryz.underlying88 hsz (by rw [hdl, e]; omega) hYc
      (fun j hj => cells_some (w := w.drew) hh (by rw [hdl] at hj; rw [hcs]; omega)) (fun j hj => cells_free (w := w.drew) hh _) hYo, e]
  obtain ⟨cu1, k1, z1, l1⟩ := setCells_heap g0 Y ((i + 1) * 2) w.drew cur _ hh (by rw [hdl, hcs]; omega)
  have u1 : Upd (fun k => (Value.slice (some ⟨g0, 0, none⟩) n c).ownBlock = some k) w (w.drew.setCells g0 ((i + 1) * 2) Y) := Upd.setCells (F := fun k => (Value.slice (some ⟨g0, 0, none⟩) n c).ownBlock = some k) (a := w) (b := g0) (.inl rfl) Y _ (Upd.refl _ w).drew
  have kg : Blk (w.drew.setCells g0 ((i + 1) * 2) Y) g 92 h.cells.toArray := hg.upd u1 (fun e => by injection e with e; exact hne e.symm)
  have hov : ∀ lb cb, (callFunc 137 #[.slice (some ⟨g, 0, none⟩) 1 1, .slice (some ⟨g0, (i + 1) * 2, none⟩) lb cb]).run Tryz.prog w = .ok (.value (.bool false)) w := fun lb cb => by
    rw [run_callFunc_extern Tryz.func137 (by kernel_rfl) (by kernel_rfl) (by kernel_rfl) (e := Extern.SlicesOverlaps.overlaps #[88, 88] #[4]) (by kernel_rfl)]
    obtain ⟨i0, hi0, h0, h1, h2⟩ := info_parts info_hop
    rw [Lib.run_overlaps_apart w 88 4 92 Tryz.underlying88 2 (fun w => by simp [sizeOf, typeInfo, hi0, h1]) ⟨g, 0, none⟩ ⟨g0, (i + 1) * 2, none⟩ 1 1 lb cb hne 92 92 2 cur.size (by unfold Blk at hg; simp [World.shape?, hg, Hp.cells]) (by simp [World.shape?, hh]) (by rw [hcs]; omega) (hg.frozen _) (hg.frozen _)]
    rfl
  have hcp2 : ∀ ty dc, (Builtin.copy_ #[88, 88] ty #[.slice (some ⟨g0, i * 2, none⟩) (n + 1 - i) dc, .slice (some ⟨g, 0, none⟩) 1 1]).run Tryz.prog (w.drew.setCells g0 ((i + 1) * 2) Y) = .ok (goInt 1) ((w.drew.setCells g0 ((i + 1) * 2) Y).setCells g0 (i * 2) h.cells) := fun ty dc => by
    have e : Nat.min 1 (n + 1 - i) = 1 := by simp only [Nat.min_def]; split <;> omega
    rw [run_copy_rows _ 88 88 ty 92 2 g0 (i * 2) (n + 1 - i) dc ⟨g, 0, none⟩ 1 1 h.cells Tryz.underlying88 hsz (by rw [e]; rfl) (fun j u hu => by rw [Addr.add_lit, Nat.zero_add, kg.cell]; simpa using hu)
      (fun j hj => cells_some k1 (by rw [z1, hcs]; rw [hv] at hj; omega)) (fun j hj => cells_free k1 _) (by simp [Hp.cells]; exact ⟨rfl, rfl⟩), e]
    rfl
  obtain ⟨cu2, k2, z2, l2⟩ := setCells_heap g0 h.cells (i * 2) _ cu1 _ k1 (by rw [z1, hcs, hv]; omega)
  have u2 := Upd.setCells (F := fun k => (Value.slice (some ⟨g0, 0, none⟩) n c).ownBlock = some k) (a := w) (b := g0) (.inl rfl) h.cells (i * 2) u1
  have own' : ((w.drew.setCells g0 ((i + 1) * 2) Y).setCells g0 (i * 2) h.cells).ownsRow base 92 2 (.slice (some ⟨g0, 0, none⟩) (insAt L i h).length c) (insAt L i h).length (hpCells (insAt L i h)) := by
    have e0 : (insAt L i h).length = n + 1 := by rw [insAt_len L h (by omega), hn]
    rw [e0]
    refine ⟨by rw [hpCells_len, e0], .inr ⟨g0, c, cu2, rfl, hbase, k2, hc, hcm, by rw [z2, z1, hcs], ?_⟩⟩
    rw [insAt_cells L i h (by omega), l2, l1, hY]
    have := ins_list cur.toList (hpCells L) h.cells (i * 2) (by rw [hcl]; exact hct) (by omega) (by rw [hcl, hv]; exact hlen)
    rw [hv, hcl] at this
    rw [show (n + 1) * 2 = n * 2 + 2 by omega, show (i + 1) * 2 = i * 2 + 2 by omega]
    exact this
  have e0 : n + 1 = (insAt L i h).length := by rw [insAt_len L h (by omega), hn]
  have HH := Lib.hid (show InsAt w base (.slice (some ⟨g0, 0, none⟩) n c) (insAt L i h) (.returned (.slice (some ⟨g0, 0, none⟩) (n + 1) c)) ((w.drew.setCells g0 ((i + 1) * 2) Y).setCells g0 (i * 2) h.cells) from ⟨_, c, by rw [e0], own', u2, fun k hk => .inl hk⟩)
  clear own own' u2 u1 kg l1 l2 k1 k2 z1 z2 hg hh hcs hct hlen hdl hYc hYo hY hn hcl hv hsz e0
  generalize (w.drew.setCells g0 ((i + 1) * 2) Y).setCells g0 (i * 2) h.cells = W2 at hcp2 HH
  generalize w.drew.setCells g0 ((i + 1) * 2) Y = W1 at hcp1 hcp2
  have hz2 : ¬ ((i : Int) = (n : Int)) := by omega
  have hw1 : IntKind.i64.wrap ((i : Int) + (1 : Int)) = (i : Int) + (1 : Int) := by unfold maxLen at hcm; rw [IntKind.wrap_i64]; omega
  have hc63 : c ≤ 9223372036854775807 := by unfold maxLen at hcm; omega
  have hin : i ≤ n := by omega
  have htn : ((i : Int) + (1 : Int)).toNat = i + 1 := by omega
  have hb1 : (0 : Int) ≤ (i : Int) + 1 := by omega
  have hb2 : ¬ (c = i + 1) := by omega
  have hb3 : (i : Int) ≤ (n : Int) + 1 := by omega
  have hb4 : ¬ (c = i) := by omega
  go_enter Tryz.func120, Tryz.ntmps120
  go_upto_region 15 with (simp only [hov])
  refine wp_region_ord (fun _ => True) 9 [(0, true), (1, true), (2, true), (3, true), (4, true), (5, true), (6, true), (7, true), (8, false)] (by kernel_rfl) (by kernel_rfl) (fun _ _ d _ _ h => by cases d <;> exact h) trivial ?_
  iterate 8 (refine ord_take (v := ?_) rfl (by first | with_reducible rfl | kernel_rfl) ?_ ?_; rotate_left; (focus (intro wS hS; (try dsimp only at hS); go_split_ands; go_simp; (try with_reducible rfl); done)); (try simp only [Act.put, List.getElem_toArray, List.getElem_cons_succ, List.getElem_cons_zero, List.setIfInBounds_toArray, List.set_cons_zero, List.set_cons_succ]))
  refine ord_do rfl rfl (fun K hK => ?_)
  refine wp_copy_runI _ _ _ 88 88 rfl (.slice (some ⟨g0, (i + 1) * 2, none⟩) (n + 1 - (i + 1)) (c - (i + 1))) (.slice (some ⟨g0, i * 2, none⟩) (n + 1 - i) (c - i)) (by simp [Act.eval]) (by simp [Act.eval]) (hcp1 _ _ _) ?_
  refine hK _ _ (fun _ => trivial) ?_
  clear hK K
  (try simp only [Act.put, List.getElem_toArray, List.getElem_cons_succ, List.getElem_cons_zero, List.setIfInBounds_toArray, List.set_cons_zero, List.set_cons_succ])
  refine ord_done ?_
  go_wp2_with (at_builtin; refine wpList_copy_runI _ rfl _ _ 88 88 rfl _ _ rfl rfl (hcp2 _ _) ?_)
  go_ret
  exact HH.out
theorem own_more {w : World} {base e size n c : Nat} {A : Option Addr} {xs : List Value} (h : w.ownsRow base e size (.slice A n c) n xs) : n ≤ c ∧ c ≤ maxLen := by
  rcases h.2 with ⟨e, e2⟩ | ⟨g, cap, cur, e, _, _, hc, hm, _⟩
  · injection e with _ _ e3
    subst e3
    rw [e2]
    exact ⟨Nat.le_refl _, by unfold maxLen; omega⟩
  · injection e with _ _ e3
    subst e3
    exact ⟨hc, hm⟩
set_option maxHeartbeats 4000000 in
set_option maxRecDepth 20000 in
theorem insert_grow (w : World) (base g0 c : Nat) (L : List Hp) (own : w.ownsRow base 92 2 (.slice (some ⟨g0, 0, none⟩) L.length c) L.length (hpCells L)) (g : Nat) (h : Hp) (hg : Blk w g 92 h.cells.toArray) (hb : base ≤ w.heap.size) (i : Nat) (hi : i < L.length) (hc : c < L.length + 1) (hl : (L.length + 1) * 24 ≤ 140737488355328) :
    Calls Tryz.prog 120 #[.slice (some ⟨g0, 0, none⟩) L.length c, .int .i64 i, .slice (some ⟨g, 0, none⟩) 1 1] w (InsAt w base (.slice (some ⟨g0, 0, none⟩) L.length c) (insAt L i h)) := by
  obtain ⟨n, hn⟩ : ∃ n, L.length = n := ⟨_, rfl⟩
  have hcl := hpCells_len L
  have hil := insAt_len L h (Nat.le_of_lt hi)
  have hgs := (own.lt g0 rfl).2
  have hrr := RowR.of_own own
  have hcm := own_more own
  rw [hn] at hi hc hcl hl hil hcm ⊢
  rw [hn] at own
  have hold0 : ∀ j u, (hpCells L)[j]? = some u → w.cell? ⟨g0, j, none⟩ = some u := fun j u hu => by
    obtain ⟨b', o', e, y⟩ := hrr j u hu
    injection e with e
    injection e with e1 e2
    subst e1; subst e2
    rwa [Nat.zero_add] at y
  obtain ⟨i0, hi0, hz0, hz1, hz2⟩ := info_parts info_hop
  have hsz : (Tryz.prog.info? 92).map (·.size) = some 2 := by rw [hi0]; simp [hz1]
  have hv : h.cells.length = 2 := rfl
  have hkk : (n : Int) + 1 - (i : Int) = ((n + 1 - i : Nat) : Int) := by omega
  have hik : i + (n + 1 - i) = n + 1 := by omega
  have hold : (Builtin.firstCells i0.size i (.slice (some ⟨g0, 0, none⟩) i c)).run Tryz.prog w.drew = .ok ((hpCells L).take (i * 2)).toArray w.drew := by
    rw [hz1]
    exact run_firstCells_some w.drew 2 i ⟨g0, 0, none⟩ i c _ (by rw [List.length_take]; omega) (fun j v hj => by
      rw [Addr.add_lit, Nat.zero_add]
      rw [List.getElem?_take] at hj
      split at hj
      · exact hold0 j v hj
      · cases hj)
  have hrz : ∀ ty, (Builtin.append_ #[88, 3] ty #[.slice (some ⟨g0, 0, none⟩) i c, .int .i64 ((n : Int) + 1 - (i : Int))]).run Tryz.prog w =
      .ok (.slice (some ⟨w.heap.size, 0, none⟩) (n + 1) (grownCap w (n + 1) c 92)) (w.drew.alloc (.cells (((hpCells L).take (i * 2)).toArray ++ Builtin.zeroCells (Value.agg #[.string ByteArray.empty, .int .i64 0]).cells (n + 1 - i) ++ Builtin.zeroCells (Value.agg #[.string ByteArray.empty, .int .i64 0]).cells (grownCap w (n + 1) c 92 - (n + 1))) 92)) := fun ty => by
    have h := Lib.run_append_grow_zeros w 88 3 ty 92 i0 _ .i64 .i64 Tryz.underlying88 Tryz.underlying3 hi0 hz0 (some ⟨g0, 0, none⟩) i c ((hpCells L).take (i * 2)) hold (n + 1 - i) (by omega) (by omega) (by omega) (by omega) (by rw [hz2]; omega) (by rw [hz2, hik]; exact growslice_fits hc hl)
    rw [hik] at h
    rw [hkk]
    exact h
  have hG63 : grownCap w (n + 1) c 92 ≤ maxLen := grownCap_le_maxLen w (n + 1) c 92 (by unfold maxLen; omega)
  have hGn : n + 1 ≤ grownCap w (n + 1) c 92 := grownCap_ge w _ _ _
  obtain ⟨G, hG⟩ : ∃ G, G = grownCap w (n + 1) c 92 := ⟨_, rfl⟩
  rw [← hG] at hrz hG63 hGn
  obtain ⟨ROW, hROW⟩ : ∃ ROW : Array Value, ROW = ((hpCells L).take (i * 2)).toArray ++ Builtin.zeroCells (Value.agg #[.string ByteArray.empty, .int .i64 0]).cells (n + 1 - i) ++ Builtin.zeroCells (Value.agg #[.string ByteArray.empty, .int .i64 0]).cells (G - (n + 1)) := ⟨_, rfl⟩
  rw [← hROW] at hrz
  have hRl : ROW.size = G * 2 := by
    rw [hROW]
    simp only [Array.size_append, List.size_toArray, size_zeroCells, List.length_take, hcl]
    simp [Value.cells]
    omega
  have hRt : ROW.toList.take (i * 2) = (hpCells L).take (i * 2) := by
    rw [hROW]
    simp only [Array.toList_append, List.append_assoc]
    exact List.take_left' (by rw [List.length_take]; omega)
  clear hROW hold
  have k0 : (w.drew.alloc (.cells ROW 92)).heap[w.heap.size]? = some (.cells ROW 92 (0, 0)) := Blk.new w.drew _ _
  have u0 : Upd (fun k => (Value.slice (some ⟨g0, 0, none⟩) n c).ownBlock = some k) w (w.drew.alloc (.cells ROW 92)) := ((Upd.refl _ w).drew).alloc _
  have b0 : Upd (fun _ => False) w (w.drew.alloc (.cells ROW 92)) := ((Upd.refl _ w).drew).alloc _
  generalize w.drew.alloc (.cells ROW 92) = W0 at hrz k0 u0 b0
  have hcpA : ∀ ty dc, (Builtin.copy_ #[88, 88] ty #[.slice (some ⟨w.heap.size, i * 2, none⟩) (n + 1 - i) dc, .slice (some ⟨g, 0, none⟩) 1 1]).run Tryz.prog W0 = .ok (goInt 1) (W0.setCells w.heap.size (i * 2) h.cells) := fun ty dc => by
    have e : Nat.min 1 (n + 1 - i) = 1 := by simp only [Nat.min_def]; split <;> omega
    rw [run_copy_rows _ 88 88 ty 92 2 w.heap.size (i * 2) (n + 1 - i) dc ⟨g, 0, none⟩ 1 1 h.cells Tryz.underlying88 hsz (by rw [e]; rfl) (fun j u hu => by rw [Addr.add_lit, Nat.zero_add, (hg.upd b0 id).cell]; simpa using hu)
      (fun j hj => cells_some k0 (by rw [hRl]; rw [hv] at hj; omega)) (fun j hj => cells_free k0 _) (by simp [Hp.cells]; exact ⟨rfl, rfl⟩), e]
    rfl
  obtain ⟨cu1, k1, z1, l1⟩ := setCells_heap w.heap.size h.cells (i * 2) W0 ROW _ k0 (by rw [hRl, hv]; omega)
  have u1 := Upd.setCells (F := fun k => (Value.slice (some ⟨g0, 0, none⟩) n c).ownBlock = some k) (a := w) (b := w.heap.size) (.inr (Nat.le_refl _)) h.cells (i * 2) u0
  have b1 := Upd.setCells (F := fun _ => False) (a := w) (b := w.heap.size) (.inr (Nat.le_refl _)) h.cells (i * 2) b0
  generalize W0.setCells w.heap.size (i * 2) h.cells = W1 at hcpA k1 u1 b1
  have hdl : ((hpCells L).drop (i * 2)).length = (n - i) * 2 := by rw [List.length_drop, hcl]; omega
  obtain ⟨Y, hY⟩ : ∃ Y, Y = (hpCells L).drop (i * 2) := ⟨_, rfl⟩
  rw [← hY] at hdl
  have hYc : ∀ j u, Y[j]? = some u → W1.drew.cell? ((⟨g0, i * 2, none⟩ : Addr).add j) = some u := fun j u hu => by
    rw [hY, List.getElem?_drop] at hu
    rw [Addr.add_lit]
    show W1.cell? _ = _
    rw [b1.cell (by exact hgs) id]
    exact hold0 _ _ hu
  have hYo : ∀ u ∈ Y, u.oneCell' = true := fun u hu => one_hp L u (by rw [hY] at hu; exact List.mem_of_mem_drop hu)
  have hcpB : ∀ ty dc sc, (Builtin.copy_ #[88, 88] ty #[.slice (some ⟨w.heap.size, (i + 1) * 2, none⟩) (n + 1 - (i + 1)) dc, .slice (some ⟨g0, i * 2, none⟩) (n - i) sc]).run Tryz.prog W1.drew = .ok (goInt ((n - i : Nat) : Int)) (W1.drew.setCells w.heap.size ((i + 1) * 2) Y) := fun ty dc sc => by
    have e : Nat.min (n - i) (n + 1 - (i + 1)) = n - i := by simp only [Nat.min_def]; split <;> omega
    rw [run_copy_rows W1.drew 88 88 ty 92 2 w.heap.size ((i + 1) * 2) (n + 1 - (i + 1)) dc ⟨g0, i * 2, none⟩ (n - i) sc Y Tryz.underlying88 hsz (by rw [hdl, e]) hYc
      (fun j hj => cells_some (w := W1.drew) k1 (by rw [hdl] at hj; rw [z1, hRl]; omega)) (fun j hj => cells_free (w := W1.drew) k1 _) hYo, e]
  obtain ⟨cu2, k2, z2, l2⟩ := setCells_heap w.heap.size Y ((i + 1) * 2) W1.drew cu1 _ k1 (by rw [hdl, z1, hRl]; omega)
  have u2 := Upd.setCells (F := fun k => (Value.slice (some ⟨g0, 0, none⟩) n c).ownBlock = some k) (a := w) (b := w.heap.size) (.inr (Nat.le_refl _)) Y ((i + 1) * 2) u1.drew
  generalize W1.drew.setCells w.heap.size ((i + 1) * 2) Y = W2 at hcpB k2 u2
  have own' : W2.ownsRow base 92 2 (.slice (some ⟨w.heap.size, 0, none⟩) (insAt L i h).length G) (insAt L i h).length (hpCells (insAt L i h)) := by
    rw [hil]
    refine ⟨by rw [hpCells_len, hil], .inr ⟨w.heap.size, G, cu2, rfl, hb, k2, hGn, hG63, by rw [z2, z1, hRl], ?_⟩⟩
    rw [insAt_cells L i h (by omega), l2, l1, ← hY, ← hRt]
    have := ins_grow ROW.toList h.cells Y (i * 2) (by rw [hv, hdl, Array.length_toList, hRl]; omega)
    rw [hv, hdl] at this
    rw [hdl, hv, show (n + 1) * 2 = i * 2 + 2 + (n - i) * 2 by omega, show (i + 1) * 2 = i * 2 + 2 by omega]
    exact this
  have HH := Lib.hid (show InsAt w base (.slice (some ⟨g0, 0, none⟩) n c) (insAt L i h) (.returned (.slice (some ⟨w.heap.size, 0, none⟩) (n + 1) G)) W2 from ⟨_, G, by rw [hil], own', u2, fun k hk => .inr (by injection hk with hk; exact Nat.le_of_eq hk)⟩)
  clear own own' u0 u1 u2 b0 b1 k0 k1 k2 z1 z2 l1 l2 hg hRl hRt hdl hYc hYo hY hn hcl hv hsz hil hrr hold0 hik hi0 hz0 hz1 hz2
  have hz2 : ¬ ((i : Int) = (n : Int)) := by omega
  have hz3 : (c : Int) < (n : Int) + 1 := by omega
  have hw1 : IntKind.i64.wrap ((i : Int) + (1 : Int)) = (i : Int) + (1 : Int) := by rw [IntKind.wrap_i64]; omega
  have hc63 : c ≤ 9223372036854775807 := by omega
  have hG64 : G ≤ 9223372036854775807 := by unfold maxLen at hG63; omega
  have hin : i ≤ n := by omega
  have hnc : n ≤ c := hcm.1
  have htn : ((i : Int) + (1 : Int)).toNat = i + 1 := by omega
  have hb1 : (0 : Int) ≤ (i : Int) + 1 := by omega
  have hb3 : (i : Int) ≤ (n : Int) := by omega
  have hb4 : ¬ (c = i) := by omega
  have hb5 : ¬ (G = i) := by omega
  have hb6 : ¬ (G = i + 1) := by omega
  clear hcm hkk hG hG63
  go_enter Tryz.func120, Tryz.ntmps120
  go_upto_region 11 with (first
    | (at_builtin; refine Lib.wpList_append_run _ rfl _ _ _ _ rfl _ _ rfl rfl _ _ (hrz _) ?_)
    | (at_builtin; refine wpList_copy_runI _ rfl _ _ 88 88 rfl _ _ rfl rfl (hcpA _ _) ?_))
  refine wp_region_ord (fun _ => True) 9 [(0, true), (1, true), (2, true), (3, true), (4, true), (5, true), (6, true), (7, true), (8, false)] (by kernel_rfl) (by kernel_rfl) (fun _ _ d _ _ h => by cases d <;> exact h) trivial ?_
  iterate 8 (refine ord_take (v := ?_) rfl (by first | with_reducible rfl | kernel_rfl) ?_ ?_; rotate_left; (focus (intro wS hS; (try dsimp only at hS); go_split_ands; go_simp; (try with_reducible rfl); done)); (try simp only [Act.put, List.getElem_toArray, List.getElem_cons_succ, List.getElem_cons_zero, List.setIfInBounds_toArray, List.set_cons_zero, List.set_cons_succ]))
  refine ord_do rfl rfl (fun K hK => ?_)
  refine wp_copy_runI _ _ _ 88 88 rfl (.slice (some ⟨w.heap.size, (i + 1) * 2, none⟩) (n + 1 - (i + 1)) (G - (i + 1))) (.slice (some ⟨g0, i * 2, none⟩) (n - i) (c - i)) (by simp [Act.eval]) (by simp [Act.eval]) (hcpB _ _ _) ?_
  refine hK _ _ (fun _ => trivial) ?_
  clear hK K
  (try simp only [Act.put, List.getElem_toArray, List.getElem_cons_succ, List.getElem_cons_zero, List.setIfInBounds_toArray, List.set_cons_zero, List.set_cons_succ])
  refine ord_done ?_
  go_wp2
  go_ret
  exact HH.out
/-- slices.Insert of one hop. -/
theorem insert_hop (w : World) (base : Nat) (A : Option Addr) (c : Nat) (L : List Hp) (own : w.ownsRow base 92 2 (.slice A L.length c) L.length (hpCells L)) (g : Nat) (h : Hp) (hg : Blk w g 92 h.cells.toArray) (hne : (Value.slice A L.length c).ownBlock ≠ some g) (hb : base ≤ w.heap.size) (i : Nat) (hi : i ≤ L.length) (hl : (L.length + 1) * 24 ≤ 140737488355328) :
    Calls Tryz.prog 120 #[.slice A L.length c, .int .i64 i, .slice (some ⟨g, 0, none⟩) 1 1] w (InsAt w base (.slice A L.length c) (insAt L i h)) := by
  rcases Nat.lt_or_eq_of_le hi with h1 | rfl
  · obtain ⟨A0, c0, e5, e6, e7⟩ := own_form own
    injection e5 with e5 _ e8
    subst e5
    subst e8
    rcases e7 with rfl | ⟨g0, rfl⟩
    · exfalso
      rcases own.2 with ⟨_, e⟩ | ⟨_, _, _, e, _⟩
      · omega
      · injection e with e
        cases e
    · rcases Nat.lt_or_ge c (L.length + 1) with h2 | h2
      · exact insert_grow w base g0 c L own g h hg hb i h1 h2 hl
      · exact insert_room w base g0 c L own g h hg (fun e => hne (by rw [e]; rfl)) i h1 h2
  · exact insert_end w base A c L own g h hg hb hl
end Go.Proofs.YthmkgnifcbnkpaaGreat
namespace Go.Proofs.YthmkgnifcbnkpaaGreat
open Go.RowKit

def putH (L : List Hp) (h : Hp) : List Hp := insAt L (posH L h) h
theorem posH_none {L : List Hp} {h : Hp} (hn : ∀ x ∈ L, ltH x h = false) : posH L h = 0 := by
  unfold posH
  rw [List.countP_eq_zero]
  intro x hx
  rw [hn x hx]
  simp
theorem putH_nil (h : Hp) : putH [] h = [h] := rfl
theorem putH_yes {x : Hp} {L : List Hp} {h : Hp} (hx : ltH x h = true) : putH (x :: L) h = x :: putH L h := by
  unfold putH posH insAt
  rw [List.countP_cons_of_pos (p := fun x => ltH x h) hx]
  rfl
theorem putH_no {x : Hp} {L : List Hp} {h : Hp} (hup : Rises ltH (x :: L)) (hx : ltH x h = false) : putH (x :: L) h = h :: x :: L := by
  unfold putH insAt
  have h0 := (List.pairwise_cons.1 hup).1
  rw [posH_none (fun y hy => by
    rcases List.mem_cons.1 hy with rfl | hy
    · exact hx
    · cases e : ltH y h
      · rfl
      · rw [stoH.tr _ _ _ (h0 y hy) e] at hx
        cases hx)]
  rfl
theorem putH_mem {L : List Hp} {h y : Hp} : y ∈ putH L h ↔ y ∈ L ∨ y = h := by
  unfold putH insAt
  rw [List.mem_append, List.mem_cons]
  have : y ∈ L ↔ y ∈ L.take (posH L h) ∨ y ∈ L.drop (posH L h) := by rw [← List.mem_append, List.take_append_drop]
  rw [this]
  constructor
  · rintro (h | h | h)
    · exact .inl (.inl h)
    · exact .inr h
    · exact .inl (.inr h)
  · rintro ((h | h) | h)
    · exact .inl h
    · exact .inr (.inr h)
    · exact .inr (.inl h)
theorem putH_len (L : List Hp) (h : Hp) : (putH L h).length = L.length + 1 := insAt_len L h (posH_le L h)
theorem putH_rises : ∀ {L : List Hp} {h : Hp}, Rises ltH L → h ∉ L → Rises ltH (putH L h)
  | [], h, _, _ => by rw [putH_nil]; exact List.pairwise_singleton _ _
  | x :: L, h, hup, hn => by
    have h0 := List.pairwise_cons.1 hup
    cases hx : ltH x h with
    | true =>
      rw [putH_yes hx]
      refine List.pairwise_cons.2 ⟨fun y hy => ?_, putH_rises h0.2 (fun e => hn (List.mem_cons_of_mem _ e))⟩
      rcases putH_mem.1 hy with h1 | rfl
      · exact h0.1 y h1
      · exact hx
    | false =>
      rw [putH_no hup hx]
      have hhx : ltH h x = true := by
        cases e : ltH h x with
        | true => rfl
        | false => exact (hn (by rw [stoH.tri _ _ e hx]; exact List.mem_cons_self ..)).elim
      refine List.pairwise_cons.2 ⟨fun y hy => ?_, hup⟩
      rcases List.mem_cons.1 hy with rfl | hy
      · exact hhx
      · exact stoH.tr _ _ _ hhx (h0.1 y hy)

set_option maxHeartbeats 2000000 in
set_option maxRecDepth 20000 in
theorem put_any (w : World) (base : Nat) (A : Option Addr) (c : Nat) (L : List Hp) (h : Hp) (own : w.ownsRow base 92 2 (.slice A L.length c) L.length (hpCells L)) (hup : Rises ltH L) (hb : base ≤ w.heap.size) (hl : (L.length + 1) * 24 ≤ 140737488355328) :
    Calls Tryz.prog 103 #[.slice A L.length c, h.agg] w (InsAt w base (.slice A L.length c) (putH L h)) := by
  unfold putH
  obtain ⟨i, hi⟩ : ∃ i, posH L h = i := ⟨_, rfl⟩
  have hil : i ≤ L.length := by rw [← hi]; exact posH_le L h
  rw [hi]
  obtain ⟨s0, s1⟩ := h
  have k0 := Blk.new w 92 #[.string s0, .int .i64 s1]
  have u0 : Below w.heap.size w (w.alloc (.cells #[.string s0, .int .i64 s1] 92)) := (Below.refl _ _).alloc (Nat.le_refl _) _
  have H := Lib.hid (And.intro (own.alloc (.cells #[.string s0, .int .i64 s1] 92)) (And.intro k0 (And.intro u0 (And.intro hup (And.intro (own.lt) hi)))))
  clear k0 u0 own hup hi
  unfold Hp.agg
  dsimp only
  go_enter Tryz.func103, Tryz.ntmps103
  go_upto_region 1 with (fail)
  generalize w.alloc (.cells #[.string s0, .int .i64 s1] 92) = W0 at H ⊢
  have q0 : W0.cell? ⟨w.heap.size, 0, none⟩ = some (.string s0) := H.out.2.1.cell 0
  have q1 : W0.cell? ⟨w.heap.size, 1, none⟩ = some (.int .i64 s1) := H.out.2.1.cell 1
  have hcon := bsf_any W0 A c L ⟨s0, s1⟩ (RowR.of_own H.out.1) H.out.2.2.2.1 (by omega)
  rw [H.out.2.2.2.2.2] at hcon
  unfold Hp.agg at hcon
  dsimp only at hcon
  go_wp2_with fail
  refine hcon.mono ?_
  clear hcon q0 q1
  rintro e w1 ⟨rfl, b1⟩
  have k1 := H.out.2.1.upd (Upd.of_below b1 (fun _ => False)) id
  have k2 := Blk.new w1 92 #[.string s0, .int .i64 s1]
  have o2 := (ownsRow_upd H.out.1 (Upd.of_below b1 (fun _ => False)) (fun _ _ h => h)).alloc (.cells #[.string s0, .int .i64 s1] 92)
  have b2 : Below w.heap.size w (w1.alloc (.cells #[.string s0, .int .i64 s1] 92)) := (H.out.2.2.1.trans (b1.mono H.out.2.2.1.size)).alloc (by have := H.out.2.2.1.size; have := b1.size; omega) _
  have q0 : w1.cell? ⟨w.heap.size, 0, none⟩ = some (.string s0) := k1.cell 0
  have q1 : w1.cell? ⟨w.heap.size, 1, none⟩ = some (.int .i64 s1) := k1.cell 1
  have hne : (Value.slice A L.length c).ownBlock ≠ some w1.heap.size := fun e => by
    have := (H.out.2.2.2.2.1 _ e).2
    have := b2.size
    have := H.out.2.2.1.size
    have := b1.size
    omega
  have hcon := insert_hop _ base A c L o2 w1.heap.size ⟨s0, s1⟩ k2 hne (by have := b2.size; omega) i hil hl
  have HB := Lib.hid b2
  clear k1 k2 o2 b2 b1
  go_wp2_with fail
  refine hcon.mono ?_
  clear hcon q0 q1
  generalize w1.alloc (.cells #[.string s0, .int .i64 s1] 92) = W2 at HB ⊢
  rintro e w3 ⟨A', c', rfl, o3, u3, p3⟩
  have FIN := Lib.hid (show InsAt w base (.slice A L.length c) (insAt L i ⟨s0, s1⟩) (.returned (.slice A' (insAt L i ⟨s0, s1⟩).length c')) w3 from ⟨A', c', rfl, o3, (Upd.of_below HB.out _).trans u3 (fun k hk => .inl hk), fun k hk => by
    rcases p3 k hk with h | h
    · exact .inl h
    · exact .inr (by have := HB.out.size; omega)⟩)
  clear o3 u3 p3
  go_wp2
  go_ret
  exact FIN.out
end Go.Proofs.YthmkgnifcbnkpaaGreat
namespace Go.Proofs.YthmkgnifcbnkpaaGreat
open Go.RowKit

/-! A name's number. -/
def idxT (N : List Txt) (s : Txt) : Nat := N.findIdx fun t => decide (t = s)
theorem idxT_at {N : List Txt} {s : Txt} (h : s ∈ N) : N[idxT N s]? = some s := by
  have hl : idxT N s < N.length := List.findIdx_lt_length_of_exists ⟨s, h, by simp⟩
  have := List.findIdx_getElem (p := fun t => decide (t = s)) (xs := N) (w := hl)
  rw [List.getElem?_eq_getElem hl]
  exact congrArg some (of_decide_eq_true this)
theorem idxT_lt {N : List Txt} {s : Txt} (h : s ∈ N) : idxT N s < N.length := (List.getElem?_eq_some_iff.1 (idxT_at h)).1
theorem idxT_out {N : List Txt} {s : Txt} (h : s ∉ N) : idxT N s = N.length := by
  unfold idxT
  rw [List.findIdx_eq_length]
  intro t ht
  rw [decide_eq_false]
  rintro rfl
  exact h ht
theorem idxT_app {N M : List Txt} {s : Txt} (h : s ∈ N) : idxT (N ++ M) s = idxT N s := by
  have hl := idxT_lt h
  unfold idxT at hl ⊢
  rw [List.findIdx_append, if_pos hl]
theorem idxT_is {N : List Txt} (hd : N.Nodup) {s : Txt} {i : Nat} (h : N[i]? = some s) : idxT N s = i := by
  have h1 := idxT_at (List.mem_of_getElem? h)
  obtain ⟨a, e⟩ := List.getElem?_eq_some_iff.1 h
  obtain ⟨b, f⟩ := List.getElem?_eq_some_iff.1 h1
  exact (List.getElem_inj hd).1 (f.trans e.symm)
theorem idxT_addN {N : List Txt} {s t : Txt} (h : s ∈ N) : idxT (addN N t) s = idxT N s := by
  unfold addN
  split
  · rfl
  · exact idxT_app h
theorem idxT_new (N : List Txt) (s : Txt) : idxT (addN N s) s = idxT N s := by
  by_cases h : s ∈ N
  · exact idxT_addN h
  · unfold addN
    rw [if_neg (fun e => h (inB_iff.1 e)), idxT_out h]
    unfold idxT
    rw [List.findIdx_append, if_neg (by have := idxT_out h; unfold idxT at this; omega)]
    simp
def numT (N : List Txt) (s : Txt) : Int := if inB s N = true then (idxT N s : Int) + 1 else 0
theorem look_num {w : World} {r : Nat} {N : List Txt} (h : MapIs w Tryz.prog 9 r (kvN N N.length)) (s : Txt) (hk : TxtOk s) :
    (Instr.lookup 95 (.map (some r)) (.string s) false).run Tryz.prog w = .ok (.int .i64 (numT N s)) w := by
  unfold numT
  by_cases hs : s ∈ N
  · rw [if_pos (inB_iff.2 hs)]
    exact h.look_hit str_law Tryz.underlying95 (kvN_in N N.length _ s (idxT_lt hs) (idxT_at hs)) false
  · rw [if_neg (fun e => hs (inB_iff.1 e))]
    exact h.look_miss str_law Tryz.underlying95 (str_key hk) (fun q hq e => by
      obtain ⟨i, t, hi, ht, rfl⟩ := kvN_mem N N.length q hq
      simp only [Value.string.injEq] at e
      subst e
      exact hs (List.mem_of_getElem? ht)) (by kernel_rfl) false
theorem kvN_app (N M : List Txt) : ∀ k, k ≤ N.length → kvN (N ++ M) k = kvN N k
  | 0, _ => rfl
  | k + 1, h => by
    unfold kvN
    rw [List.getElem?_append_left (by omega), kvN_app N M k (by omega)]
theorem kvN_push (N : List Txt) (s : Txt) : kvN (N ++ [s]) (N.length + 1) = kvN N N.length ++ [(.string s, .int .i64 ((N.length : Int) + 1))] := by
  rw [kvN, kvN_app N [s] _ (Nat.le_refl _)]
  simp

/-! The graph. -/
inductive Ro
  | p | m | n | o | i
  | oo (k : Nat)
  | ii (k : Nat)
structure GrD where
  r : Nat
  nv : Value
  ov : Value
  iv : Value
  fo : Nat → Value
  fi : Nat → Value
def rowV (f : Nat → Value) (n : Nat) : List Value := (List.range n).map f
theorem rowV_len (f : Nat → Value) (n : Nat) : (rowV f n).length = n * 1 := by simp [rowV]
theorem rowV_succ (f : Nat → Value) (n : Nat) : rowV f (n + 1) = rowV f n ++ [f n] := by simp [rowV, List.range_succ]
theorem rowV_at {f : Nat → Value} {n k : Nat} (h : k < n) : (rowV f n)[k]? = some (f k) := by simp [rowV, h]
structure GrI (w : World) (O : Nat → Option Ro) (p : Nat) (N : List Txt) (U V : Nat → List Hp) (cnt : Int) (D : GrD) : Prop where
  blk : Blk w p 98 #[D.nv, .map (some D.r), D.ov, D.iv, .int .i64 cnt]
  map : MapIs w Tryz.prog 9 D.r (kvN N N.length)
  rn : w.ownsRow 0 9 1 D.nv N.length (txtCells N)
  ro : w.ownsRow 0 88 1 D.ov N.length (rowV D.fo N.length)
  ri : w.ownsRow 0 88 1 D.iv N.length (rowV D.fi N.length)
  fo : ∀ k, w.ownsRow 0 92 2 (D.fo k) (U k).length (hpCells (U k))
  fi : ∀ k, w.ownsRow 0 92 2 (D.fi k) (V k).length (hpCells (V k))
  op : O p = some .p
  om : O D.r = some .m
  on : ∀ k, D.nv.ownBlock = some k → O k = some .n
  oo : ∀ k, D.ov.ownBlock = some k → O k = some .o
  oi : ∀ k, D.iv.ownBlock = some k → O k = some .i
  oU : ∀ j k, (D.fo j).ownBlock = some k → O k = some (.oo j)
  oV : ∀ j k, (D.fi j).ownBlock = some k → O k = some (.ii j)
  lt : ∀ k, O k ≠ none → k < w.heap.size
  out : ∀ k, N.length ≤ k → D.fo k = .slice none 0 0 ∧ D.fi k = .slice none 0 0
/-- Block p is a graph of these; F: the blocks that are its own. -/
def GrAt (w : World) (F : Nat → Prop) (p : Nat) (N : List Txt) (U V : Nat → List Hp) (cnt : Int) : Prop := ∃ O D, GrI w O p N U V cnt D ∧ F = fun k => O k ≠ none
theorem GrI.upd {w w' : World} {O : Nat → Option Ro} {p : Nat} {N : List Txt} {U V : Nat → List Hp} {cnt : Int} {D : GrD} {G : Nat → Prop} (h : GrI w O p N U V cnt D) (hu : Upd G w w') (hd : ∀ k, O k ≠ none → ¬ G k) : GrI w' O p N U V cnt D := by
  have no : ∀ k t, O k = some t → ¬ G k := fun k t e => hd k (by simp [e])
  exact ⟨h.blk.upd hu (no _ _ h.op), h.map.upd hu (no _ _ h.om), ownsRow_upd h.rn hu fun k hk => no _ _ (h.on k hk), ownsRow_upd h.ro hu fun k hk => no _ _ (h.oo k hk), ownsRow_upd h.ri hu fun k hk => no _ _ (h.oi k hk),
    fun j => ownsRow_upd (h.fo j) hu fun k hk => no _ _ (h.oU j k hk), fun j => ownsRow_upd (h.fi j) hu fun k hk => no _ _ (h.oV j k hk), h.op, h.om, h.on, h.oo, h.oi, h.oU, h.oV, fun k hk => Nat.lt_of_lt_of_le (h.lt k hk) hu.size, h.out⟩
theorem GrAt.upd {w w' : World} {F G : Nat → Prop} {p : Nat} {N : List Txt} {U V : Nat → List Hp} {cnt : Int} (h : GrAt w F p N U V cnt) (hu : Upd G w w') (hd : ∀ k, F k → ¬ G k) : GrAt w' F p N U V cnt := by
  obtain ⟨O, D, hs, rfl⟩ := h
  exact ⟨O, D, hs.upd hu hd, rfl⟩
theorem GrAt.lt {w : World} {F : Nat → Prop} {p : Nat} {N : List Txt} {U V : Nat → List Hp} {cnt : Int} (h : GrAt w F p N U V cnt) : ∀ k, F k → k < w.heap.size := by
  obtain ⟨O, D, hs, rfl⟩ := h
  exact hs.lt
theorem GrAt.below {w w' : World} {F : Nat → Prop} {p : Nat} {N : List Txt} {U V : Nat → List Hp} {cnt : Int} (h : GrAt w F p N U V cnt) (hb : Below w.heap.size w w') : GrAt w' F p N U V cnt := h.upd (Upd.of_below hb (fun _ => False)) (fun _ _ => id)
/-- What a call that turns this graph leaves. -/
def GrNext (w : World) (F : Nat → Prop) (p : Nat) (N : List Txt) (U V : Nat → List Hp) (cnt : Int) (w' : World) : Prop :=
  ∃ F', GrAt w' F' p N U V cnt ∧ Upd F w w' ∧ ∀ k, F' k → F k ∨ w.heap.size ≤ k
theorem GrNext.refl {w w' : World} {F : Nat → Prop} {p : Nat} {N : List Txt} {U V : Nat → List Hp} {cnt : Int} (h : GrAt w F p N U V cnt) (hb : Below w.heap.size w w') : GrNext w F p N U V cnt w' :=
  ⟨F, h.below hb, Upd.of_below hb F, fun _ hk => .inl hk⟩
theorem GrNext.trans {w w' w'' : World} {F : Nat → Prop} {p : Nat} {N' : List Txt} {U' V' : Nat → List Hp} {cnt' : Int} {F' : Nat → Prop} (hu : Upd F w w') (hF : ∀ k, F' k → F k ∨ w.heap.size ≤ k) (h2 : GrNext w' F' p N' U' V' cnt' w'') : GrNext w F p N' U' V' cnt' w'' := by
  obtain ⟨F2, g, u, hF2⟩ := h2
  refine ⟨F2, g, hu.trans u hF, fun k hk => ?_⟩
  rcases hF2 k hk with h | h
  · exact hF k h
  · exact .inr (Nat.le_trans hu.size h)
theorem GrI.grow {w w' : World} {O : Nat → Option Ro} {p : Nat} {N : List Txt} {U V : Nat → List Hp} {cnt : Int} {D : GrD} (h : GrI w O p N U V cnt D) (s : Txt) (nv ov iv : Value) (B1 B2 : Nat) (hB1 : w.heap.size ≤ B1) (hB2 : B1 ≤ B2)
    (hu : Upd (fun k => k = p ∨ k = D.r ∨ D.nv.ownBlock = some k ∨ D.ov.ownBlock = some k ∨ D.iv.ownBlock = some k) w w') (hb : Blk w' p 98 #[nv, .map (some D.r), ov, iv, .int .i64 cnt])
    (hm : MapIs w' Tryz.prog 9 D.r (kvN N N.length ++ [(.string s, .int .i64 ((N.length : Int) + 1))]))
    (rn : w'.ownsRow 0 9 1 nv (N.length + 1) (txtCells N ++ [.string s])) (ro : w'.ownsRow 0 88 1 ov (N.length + 1) (rowV D.fo N.length ++ [.slice none 0 0])) (ri : w'.ownsRow 0 88 1 iv (N.length + 1) (rowV D.fi N.length ++ [.slice none 0 0]))
    (pn : ∀ k, nv.ownBlock = some k → D.nv.ownBlock = some k ∨ w.heap.size ≤ k ∧ k < B1) (po : ∀ k, ov.ownBlock = some k → D.ov.ownBlock = some k ∨ B1 ≤ k ∧ k < B2) (pi : ∀ k, iv.ownBlock = some k → D.iv.ownBlock = some k ∨ B2 ≤ k) :
    GrNext w (fun k => O k ≠ none) p (N ++ [s]) U V cnt w' := by
  have no : ∀ k t, O k = some t → (t = Ro.p → False) → (t = Ro.m → False) → (t = Ro.n → False) → (t = Ro.o → False) → (t = Ro.i → False) → ¬ (k = p ∨ k = D.r ∨ D.nv.ownBlock = some k ∨ D.ov.ownBlock = some k ∨ D.iv.ownBlock = some k) := by
    rintro k t e h1 h2 h3 h4 h5 (rfl | rfl | hk | hk | hk)
    · rw [h.op] at e; injection e with e; exact h1 e.symm
    · rw [h.om] at e; injection e with e; exact h2 e.symm
    · rw [h.on k hk] at e; injection e with e; exact h3 e.symm
    · rw [h.oo k hk] at e; injection e with e; exact h4 e.symm
    · rw [h.oi k hk] at e; injection e with e; exact h5 e.symm
  have fresh : ∀ k, w.heap.size ≤ k → O k = none := fun k hk => by
    cases e : O k with
    | none => rfl
    | some t => have := h.lt k (by simp [e]); omega
  have hn : ∀ k, nv.ownBlock = some k → O k = some .n ∨ O k = none ∧ w.heap.size ≤ k ∧ k < B1 := fun k hk => by
    rcases pn k hk with h1 | ⟨h1, h2⟩
    · exact .inl (h.on k h1)
    · exact .inr ⟨fresh k h1, h1, h2⟩
  have ho : ∀ k, ov.ownBlock = some k → O k = some .o ∨ O k = none ∧ B1 ≤ k ∧ k < B2 := fun k hk => by
    rcases po k hk with h1 | ⟨h1, h2⟩
    · exact .inl (h.oo k h1)
    · exact .inr ⟨fresh k (by omega), h1, h2⟩
  have hi : ∀ k, iv.ownBlock = some k → O k = some .i ∨ O k = none ∧ B2 ≤ k := fun k hk => by
    rcases pi k hk with h1 | h1
    · exact .inl (h.oi k h1)
    · exact .inr ⟨fresh k (by omega), h1⟩
  have keep : ∀ k t, O k = some t → (t = Ro.n → False) → (t = Ro.o → False) → (t = Ro.i → False) → (if nv.ownBlock = some k then some Ro.n else if ov.ownBlock = some k then some Ro.o else if iv.ownBlock = some k then some Ro.i else O k) = some t := by
    intro k t e h1 h2 h3
    rw [if_neg, if_neg, if_neg, e]
    · intro hk
      rcases hi k hk with h4 | h4
      · rw [e] at h4; injection h4 with h4; exact h3 h4
      · rw [e] at h4; cases h4.1
    · intro hk
      rcases ho k hk with h4 | h4
      · rw [e] at h4; injection h4 with h4; exact h2 h4
      · rw [e] at h4; cases h4.1
    · intro hk
      rcases hn k hk with h4 | h4
      · rw [e] at h4; injection h4 with h4; exact h1 h4
      · rw [e] at h4; cases h4.1
  refine ⟨fun k => (if nv.ownBlock = some k then some Ro.n else if ov.ownBlock = some k then some Ro.o else if iv.ownBlock = some k then some Ro.i else O k) ≠ none, ⟨fun k => if nv.ownBlock = some k then some Ro.n else if ov.ownBlock = some k then some Ro.o else if iv.ownBlock = some k then some Ro.i else O k, ⟨D.r, nv, ov, iv, D.fo, D.fi⟩, ⟨hb, ?_, ?_, ?_, ?_, fun j => ownsRow_upd (h.fo j) hu fun k hk => no _ _ (h.oU j k hk) nofun nofun nofun nofun nofun, fun j => ownsRow_upd (h.fi j) hu fun k hk => no _ _ (h.oV j k hk) nofun nofun nofun nofun nofun, ?_, ?_, ?_, ?_, ?_, ?_, ?_, ?_, ?_⟩, rfl⟩, hu.mono ?_, ?_⟩
  · dsimp only
    rw [List.length_append, List.length_singleton, kvN_push]
    exact hm
  · dsimp only
    rw [List.length_append, List.length_singleton, txtCells, List.map_append]
    exact rn
  · dsimp only
    rw [List.length_append, List.length_singleton, rowV_succ, (h.out _ (Nat.le_refl _)).1]
    exact ro
  · dsimp only
    rw [List.length_append, List.length_singleton, rowV_succ, (h.out _ (Nat.le_refl _)).2]
    exact ri
  · exact keep p _ h.op nofun nofun nofun
  · exact keep _ _ h.om nofun nofun nofun
  · intro k hk
    exact if_pos hk
  · intro k hk
    (try dsimp only at hk ⊢)
    rw [if_neg, if_pos hk]
    intro e
    rcases hn k e with h1 | ⟨h1, h2, h3⟩ <;> rcases ho k hk with h4 | ⟨h4, h5, h6⟩
    · rw [h1] at h4; cases h4
    · rw [h1] at h4; cases h4
    · rw [h1] at h4; cases h4
    · omega
  · intro k hk
    (try dsimp only at hk ⊢)
    rw [if_neg, if_neg, if_pos hk]
    · intro e
      rcases ho k e with h1 | ⟨h1, h2, h3⟩ <;> rcases hi k hk with h4 | ⟨h4, h5⟩
      · rw [h1] at h4; cases h4
      · rw [h1] at h4; cases h4
      · rw [h1] at h4; cases h4
      · omega
    · intro e
      rcases hn k e with h1 | ⟨h1, h2, h3⟩ <;> rcases hi k hk with h4 | ⟨h4, h5⟩
      · rw [h1] at h4; cases h4
      · rw [h1] at h4; cases h4
      · rw [h1] at h4; cases h4
      · omega
  · intro j k hk
    exact keep k _ (h.oU j k hk) nofun nofun nofun
  · intro j k hk
    exact keep k _ (h.oV j k hk) nofun nofun nofun
  · intro k hk
    (try dsimp only at hk)
    by_cases h1 : nv.ownBlock = some k
    · exact (rn.lt k h1).2
    rw [if_neg h1] at hk
    by_cases h2 : ov.ownBlock = some k
    · exact (ro.lt k h2).2
    rw [if_neg h2] at hk
    by_cases h3 : iv.ownBlock = some k
    · exact (ri.lt k h3).2
    rw [if_neg h3] at hk
    exact Nat.lt_of_lt_of_le (h.lt k hk) hu.size
  · intro k hk
    rw [List.length_append, List.length_singleton] at hk
    exact h.out k (by omega)
  · rintro k - (rfl | rfl | hk | hk | hk)
    · rw [h.op]; nofun
    · rw [h.om]; nofun
    · rw [h.on k hk]; nofun
    · rw [h.oo k hk]; nofun
    · rw [h.oi k hk]; nofun
  · intro k hk
    (try dsimp only at hk ⊢)
    by_cases h1 : nv.ownBlock = some k
    · rcases hn k h1 with h2 | h2
      · rw [h2]; exact .inl nofun
      · exact .inr h2.2.1
    rw [if_neg h1] at hk
    by_cases h2 : ov.ownBlock = some k
    · rcases ho k h2 with h2 | h2
      · rw [h2]; exact .inl nofun
      · exact .inr (by omega)
    rw [if_neg h2] at hk
    by_cases h3 : iv.ownBlock = some k
    · rcases hi k h3 with h2 | h2
      · rw [h2]; exact .inl nofun
      · exact .inr (by omega)
    rw [if_neg h3] at hk
    exact .inl hk
end Go.Proofs.YthmkgnifcbnkpaaGreat
namespace Go.Proofs.YthmkgnifcbnkpaaGreat
open Go.RowKit

def NodeP (w : World) (F : Nat → Prop) (p : Nat) (N : List Txt) (U V : Nat → List Hp) (cnt : Int) (s : Txt) (e : Ending) (w' : World) : Prop := e = .returned (.int .i64 (idxT N s)) ∧ GrNext w F p (addN N s) U V cnt w'
theorem info_hops : (Tryz.prog.info? 88).map (fun i => (i.zero, i.size, i.bytes)) = some (some (.slice none 0 0), 1, 24) := by kernel_rfl
theorem row_one {w : World} {g : Nat} {t : TypeId} {v : Value} (h : Blk w g t #[v]) : RowR w (some ⟨g, 0, none⟩) [v] := fun j u hj => ⟨g, 0, rfl, by rw [Nat.zero_add, h.cell j]; simpa using hj⟩
/-- Behind both appends. -/
theorem node_fin {w w3 V V' : World} {O : Nat → Option Ro} {p r n b w2s : Nat} {N : List Txt} {U Vv : Nat → List Hp} {s : Txt} {cnt : Int} {A0 A1 A2 A3 B2 B3 : Option Addr} {c0 c1 c2 c3 d2 d3 : Nat} {fo fi : Nat → Value}
    (hg : GrI w O p N U Vv cnt ⟨r, .slice A0 N.length c0, .slice A2 N.length c2, .slice A3 N.length c3, fo, fi⟩) (hn : N.length = n)
    (k3 : Blk w3 p 98 #[Value.slice A1 (n + 1) c1, .map (some r), Value.slice A2 n c2, Value.slice A3 n c3, .int .i64 cnt]) (m3 : MapIs w3 Tryz.prog 9 r (kvN N n ++ [(.string s, .int .i64 ((n : Int) + 1))])) (n3 : w3.ownsRow 0 9 1 (.slice A1 (n + 1) c1) (n + 1) (txtCells N ++ [.string s]))
    (ut3 : Upd (fun k => k = p ∨ k = r ∨ (Value.slice A0 n c0).ownBlock = some k ∨ (Value.slice A2 n c2).ownBlock = some k ∨ (Value.slice A3 n c3).ownBlock = some k) w w3)
    (pn : ∀ k, (Value.slice A1 (n + 1) c1).ownBlock = some k → (Value.slice A0 n c0).ownBlock = some k ∨ w.heap.size ≤ k ∧ k < w2s) (hw2 : w2s ≤ w3.heap.size)
    (h1 : (Value.slice A1 (n + 1) c1).ownBlock ≠ some r) (h2 : (Value.slice A1 (n + 1) c1).ownBlock ≠ some p) (h3 : r ≠ p) (h4 : ∀ k, (Value.slice A2 n c2).ownBlock = some k → k ≠ p ∧ k ≠ r ∧ k < w.heap.size) (h5 : ∀ k, (Value.slice A3 n c3).ownBlock = some k → k ≠ p ∧ k ≠ r ∧ k < w.heap.size) (h6 : ∀ k, (Value.slice A2 n c2).ownBlock = some k → (Value.slice A3 n c3).ownBlock = some k → False)
    (hj : Upd (fun k => (Value.slice A2 n c2).ownBlock = some k) w3 V) (o2 : V.ownsRow 0 88 1 (.slice B2 (n + 1) d2) (n + 1) (rowV fo n ++ [.slice none 0 0])) (p2 : ∀ k, (Value.slice B2 (n + 1) d2).ownBlock = some k → (Value.slice A2 n c2).ownBlock = some k ∨ b ≤ k) (hb : w3.heap.size ≤ b)
    (o6 : V'.ownsRow 0 88 1 (.slice B3 (n + 1) d3) (n + 1) (rowV fi n ++ [.slice none 0 0])) (u6 : Upd (fun k => (Value.slice A3 n c3).ownBlock = some k) V V') (p6 : ∀ k, (Value.slice B3 (n + 1) d3).ownBlock = some k → (Value.slice A3 n c3).ownBlock = some k ∨ V.heap.size ≤ k) :
    Hid (Blk V' p 98 #[Value.slice A1 (n + 1) c1, .map (some r), Value.slice A2 n c2, Value.slice A3 n c3, .int .i64 cnt] ∧ GrNext w (fun k => O k ≠ none) p (N ++ [s]) U Vv cnt ((V'.setCell ⟨p, 2, none⟩ (.slice B2 (n + 1) d2)).setCell ⟨p, 3, none⟩ (.slice B3 (n + 1) d3)) ∧
      (Instr.lookup 95 (.map (some r)) (.string s) false).run Tryz.prog ((V'.setCell ⟨p, 2, none⟩ (.slice B2 (n + 1) d2)).setCell ⟨p, 3, none⟩ (.slice B3 (n + 1) d3)) = .ok (.int .i64 ((n : Int) + 1)) ((V'.setCell ⟨p, 2, none⟩ (.slice B2 (n + 1) d2)).setCell ⟨p, 3, none⟩ (.slice B3 (n + 1) d3)) ∧
      ((V'.setCell ⟨p, 2, none⟩ (.slice B2 (n + 1) d2)).setCell ⟨p, 3, none⟩ (.slice B3 (n + 1) d3)).cell? ⟨p, 1, none⟩ = some (.map (some r))) := by
  subst hn
  have hs3 := ut3.size
  have hsV := hj.size
  have hp := hg.lt p (by rw [hg.op]; nofun)
  have nB2 : ∀ k, (Value.slice B2 (N.length + 1) d2).ownBlock = some k → k ≠ p ∧ k < V.heap.size ∧ ¬ (Value.slice A3 N.length c3).ownBlock = some k := fun k hk => by
    refine ⟨?_, (o2.lt k hk).2, ?_⟩
    · rintro rfl
      rcases p2 _ hk with h | h
      · exact (h4 _ h).1 rfl
      · omega
    · intro h
      rcases p2 _ hk with h' | h'
      · exact h6 _ h' h
      · have := (h5 _ h).2.2; omega
  have kV' := (k3.upd hj (fun e => (h4 _ e).1 rfl)).upd u6 (fun e => (h5 _ e).1 rfl)
  have mV' := (m3.upd hj (fun e => (h4 _ e).2.1 rfl)).upd u6 (fun e => (h5 _ e).2.1 rfl)
  have nA1 : ∀ k, (Value.slice A1 (N.length + 1) c1).ownBlock = some k → ¬ (Value.slice A2 N.length c2).ownBlock = some k ∧ ¬ (Value.slice A3 N.length c3).ownBlock = some k := fun k hk => by
    rcases pn k hk with h | h
    · have hr := hg.on k h
      exact ⟨fun e => (by rw [hg.oo k e] at hr; cases hr), fun e => (by rw [hg.oi k e] at hr; cases hr)⟩
    · exact ⟨fun e => (by have := (h4 k e).2.2; omega), fun e => (by have := (h5 k e).2.2; omega)⟩
  have nV' := ownsRow_upd (ownsRow_upd n3 hj (fun k hk => (nA1 k hk).1)) u6 (fun k hk => (nA1 k hk).2)
  have oV' := ownsRow_upd o2 u6 (fun k hk => (nB2 k hk).2.2)
  have nB3 : ∀ k, (Value.slice B3 (N.length + 1) d3).ownBlock = some k → k ≠ p := fun k hk => by
    rintro rfl
    rcases p6 _ hk with h | h
    · exact (h5 _ h).1 rfl
    · omega
  have us := ((Upd.refl (fun k => k = p) V').setCell (p := ⟨p, 2, none⟩) (.inl rfl) (.slice B2 (N.length + 1) d2)).setCell (p := ⟨p, 3, none⟩) (.inl rfl) (.slice B3 (N.length + 1) d3)
  have kz := (kV'.set 2 (.slice B2 (N.length + 1) d2)).set 3 (.slice B3 (N.length + 1) d3)
  have mz := mV'.upd us h3
  have utz := ((ut3.trans hj (fun k h => .inl (.inr (.inr (.inr (.inl h)))))).trans u6 (fun k h => .inl (.inr (.inr (.inr (.inr h)))))).trans us (fun k h => .inl (.inl h))
  refine Lib.hid ⟨kV', ?_, ?_, kz.cell 1⟩
  · exact hg.grow s _ _ _ w3.heap.size V.heap.size hs3 hsV utz kz mz (ownsRow_upd nV' us (fun k hk e => h2 (by rw [hk, e]))) (ownsRow_upd oV' us (fun k hk => (nB2 k hk).1)) (ownsRow_upd o6 us nB3)
      (fun k hk => (pn k hk).imp id fun h => ⟨h.1, by omega⟩) (fun k hk => (p2 k hk).imp id fun h => ⟨by omega, (nB2 k hk).2.1⟩) p6
  · exact mz.look_hit str_law Tryz.underlying95 (List.mem_append.2 (.inr (List.mem_singleton.2 rfl))) false
set_option maxHeartbeats 4000000 in
set_option maxRecDepth 20000 in
theorem node_any (w : World) (F : Nat → Prop) (p : Nat) (N : List Txt) (U V : Nat → List Hp) (cnt : Int) (s : Txt) (h : GrAt w F p N U V cnt) (hk : TxtOk s) (hl : N.length ≤ 1000000) :
    Calls Tryz.prog 64 #[.pointer (some ⟨p, 0, none⟩), .string s] w (NodeP w F p N U V cnt s) := by
  by_cases hs : s ∈ N
  · have hadd : addN N s = N := by unfold addN; rw [if_pos (inB_iff.2 hs)]
    have FIN := Lib.hid (show GrNext w F p (addN N s) U V cnt w from by rw [hadd]; exact GrNext.refl h (Below.refl _ _))
    obtain ⟨O, D, hg, rfl⟩ := h
    have l0 := look_num hg.map s hk
    have q1 : w.cell? ⟨p, 1, none⟩ = some (.map (some D.r)) := hg.blk.cell 1
    obtain ⟨k, hk2⟩ : ∃ k, idxT N s = k := ⟨_, rfl⟩
    have hkl : k ≤ 1000000 := by have := idxT_lt hs; omega
    have hnum : numT N s = (k : Int) + 1 := by unfold numT; rw [if_pos (inB_iff.2 hs), hk2]
    rw [hnum] at l0
    have hz : ((k : Int) + 1 == 0) = false := by simp; omega
    have hw : IntKind.i64.wrap (((k : Int) + 1) - 1) = (k : Int) := by rw [IntKind.wrap_i64]; omega
    have HK := Lib.hid hk2
    clear hg hnum hadd hs
    go_enter Tryz.func64, Tryz.ntmps64
    go_wp2
    go_ret
    exact ⟨by rw [HK.out]; rfl, FIN.out⟩
  · have hadd : addN N s = N ++ [s] := by unfold addN; rw [if_neg (fun e => hs (inB_iff.1 e))]
    have hidx := idxT_out hs
    have hnum : numT N s = 0 := by unfold numT; rw [if_neg (fun e => hs (inB_iff.1 e))]
    obtain ⟨O, ⟨r, v0, v2, v3, fo, fi⟩, hg, rfl⟩ := h
    obtain ⟨A0, c0, e0, -, -⟩ := own_form hg.rn
    dsimp only at e0
    subst e0
    obtain ⟨A2, c2, e0, -, -⟩ := own_form hg.ro
    dsimp only at e0
    subst e0
    obtain ⟨A3, c3, e0, -, -⟩ := own_form hg.ri
    dsimp only at e0
    subst e0
    have l0 := look_num hg.map s hk
    rw [hnum] at l0
    have hlt := hg.lt
    have lt : ∀ k t, O k = some t → k < w.heap.size := fun k t e => hlt k (by simp [e])
    have hom : O r = some .m := hg.om
    -- the names
    obtain ⟨nv, w1, happ1, own1, up1, pl1⟩ := push_own w 0 22 9 1 16 _ Tryz.underlying22 info_string rfl (by decide) (Value.slice A0 N.length c0) N.length _ hg.rn [.string s] 1 rfl (by simp; rfl) (by omega) (by unfold maxLen; omega) (Nat.zero_le _)
    obtain ⟨A1, c1, rfl, -, -⟩ := own_form own1
    have kb1 := hg.blk.upd up1 (fun e => by have := hg.on _ e; rw [hg.op] at this; cases this)
    have km1 := hg.map.upd up1 (fun e => by have := hg.on _ e; rw [hom] at this; cases this)
    have ko1 := ownsRow_upd hg.ro up1 (fun k e f => by have := hg.on _ f; rw [hg.oo k e] at this; cases this)
    have ki1 := ownsRow_upd hg.ri up1 (fun k e f => by have := hg.on _ f; rw [hg.oi k e] at this; cases this)
    have np1 : (Value.slice A1 (N.length + 1) c1).ownBlock ≠ some p := fun e => by
      rcases pl1 p e with h | h
      · have := hg.on _ h; rw [hg.op] at this; cases this
      · have := lt _ _ hg.op; omega
    have nr1 : (Value.slice A1 (N.length + 1) c1).ownBlock ≠ some r := fun e => by
      rcases pl1 _ e with h | h
      · have := hg.on _ h; rw [hom] at this; cases this
      · have := lt _ _ hom; omega
    have rp : r ≠ p := fun e => by have := hom; rw [e, hg.op] at this; cases this
    have no : ∀ k, (Value.slice A2 N.length c2).ownBlock = some k → k ≠ p ∧ k ≠ r ∧ k < w.heap.size := fun k hk => ⟨fun e => (by have := hg.oo k hk; rw [e, hg.op] at this; cases this), fun e => (by have := hg.oo k hk; rw [e, hom] at this; cases this), lt _ _ (hg.oo k hk)⟩
    have ni : ∀ k, (Value.slice A3 N.length c3).ownBlock = some k → k ≠ p ∧ k ≠ r ∧ k < w.heap.size := fun k hk => ⟨fun e => (by have := hg.oi k hk; rw [e, hg.op] at this; cases this), fun e => (by have := hg.oi k hk; rw [e, hom] at this; cases this), lt _ _ (hg.oi k hk)⟩
    have noi : ∀ k, (Value.slice A2 N.length c2).ownBlock = some k → (Value.slice A3 N.length c3).ownBlock = some k → False := fun k h1 h2 => by have := hg.oo k h1; rw [hg.oi k h2] at this; cases this
    have kb2 := kb1.set 0 (Value.slice A1 (N.length + 1) c1)
    have us := (Upd.refl (fun k => k = p) w1).setCell (p := ⟨p, 0, none⟩) (.inl rfl) (Value.slice A1 (N.length + 1) c1)
    have km2 := km1.upd us rp
    have ko2 := ownsRow_upd ko1 us (fun k hk => (no k hk).1)
    have ki2 := ownsRow_upd ki1 us (fun k hk => (ni k hk).1)
    have kn2 := ownsRow_upd own1 us (fun k hk e => np1 (by rw [hk, e]))
    have up2 : Upd (fun k => k = p ∨ k = r ∨ (Value.slice A0 N.length c0).ownBlock = some k ∨ (Value.slice A2 N.length c2).ownBlock = some k ∨ (Value.slice A3 N.length c3).ownBlock = some k) w (w1.setCell ⟨p, 0, none⟩ (Value.slice A1 (N.length + 1) c1)) := (up1.mono (fun k _ h => .inr (.inr (.inl h)))).trans us (fun k h => .inl (.inl h))
    have bn : ∀ k, (Value.slice A1 (N.length + 1) c1).ownBlock = some k → (Value.slice A0 N.length c0).ownBlock = some k ∨ w.heap.size ≤ k ∧ k < (w1.setCell ⟨p, 0, none⟩ (Value.slice A1 (N.length + 1) c1)).heap.size := fun k hk => by
      rcases pl1 k hk with h | h
      · exact .inl h
      · exact .inr ⟨h, (kn2.lt k hk).2⟩
    have q0 : w.cell? ⟨p, 0, none⟩ = some (Value.slice A0 N.length c0) := hg.blk.cell 0
    have q1 : w.cell? ⟨p, 1, none⟩ = some (.map (some r)) := hg.blk.cell 1
    have r0 : w1.cell? ⟨p, 0, none⟩ = some (Value.slice A0 N.length c0) := kb1.cell 0
    have f0 : w1.frozen? ⟨p, 0, none⟩ = false := kb1.frozen 0
    have HG := Lib.hid (And.intro hg (And.intro hadd hidx))
    clear hom
    have HX := Lib.hid (And.intro (show Blk (w1.setCell ⟨p, 0, none⟩ (Value.slice A1 (N.length + 1) c1)) p 98 #[Value.slice A1 (N.length + 1) c1, .map (some r), Value.slice A2 N.length c2, Value.slice A3 N.length c3, .int .i64 cnt] from kb2) (And.intro km2 (And.intro kn2 (And.intro ko2 (And.intro ki2 (And.intro up2 bn))))))
    have HN := Lib.hid (And.intro nr1 (And.intro np1 (And.intro rp (And.intro no (And.intro ni noi)))))
    clear hg hadd hidx kb2 km2 kn2 ko2 ki2 up2 bn nr1 np1 rp no ni noi kb1 km1 ko1 ki1 us own1 up1 pl1 hnum hlt lt
    obtain ⟨n, hn⟩ : ∃ n, N.length = n := ⟨_, rfl⟩
    rw [hn] at hl happ1 HX HN q0 r0
    have HL := Lib.hid hn
    clear hn
    go_enter Tryz.func64, Tryz.ntmps64
    go_upto_region 3 with (at_builtin; refine wpList_append_run rfl _ _ _ rfl rfl rfl happ1 ?_)
    generalize w1.setCell ⟨p, 0, none⟩ (Value.slice A1 (n + 1) c1) = W2 at HX ⊢
    clear q0 q1 r0 f0 l0 happ1
    obtain ⟨w3, hrun, hm3, hg3, hz3⟩ := (MapIs.drew HX.out.2.1).put_miss str_law Tryz.underlying95 (.int .i64 ((n : Int) + 1)) (str_key hk) (fun q hq e => by
      obtain ⟨i, t, hi, ht, rfl⟩ := kvN_mem N _ q hq
      simp only [Value.string.injEq] at e
      subst e
      exact hs (List.mem_of_getElem? ht))
    have u3 : Upd (fun k => k = r) W2 w3 := (Upd.refl (fun k => k = r) W2).drew.grown hg3 (fun k e => .inl (by injection e with e; exact e.symm))
    have kb3 := HX.out.1.upd u3 (fun e => HN.out.2.2.1 e.symm)
    have kn3 := ownsRow_upd HX.out.2.2.1 u3 (fun k hk e => HN.out.1 (by rw [hk, e]))
    have ko3 := ownsRow_upd HX.out.2.2.2.1 u3 (fun k hk => (HN.out.2.2.2.1 k hk).2.1)
    have ki3 := ownsRow_upd HX.out.2.2.2.2.1 u3 (fun k hk => (HN.out.2.2.2.2.1 k hk).2.1)
    have ut3 := HX.out.2.2.2.2.2.1.trans u3 (fun k h => .inl (.inr (.inl h)))
    have H3 := Lib.hid (And.intro kb3 (And.intro hm3 (And.intro kn3 (And.intro ko3 (And.intro ki3 (And.intro ut3 u3.size))))))
    have hS : W2.drew.cell? ⟨p, 0, none⟩ = some (.slice A1 (n + 1) c1) ∧ W2.drew.cell? ⟨p, 1, none⟩ = some (.map (some r)) := ⟨HX.out.1.cell 0, HX.out.1.cell 1⟩
    clear hg3 hz3 u3 kb3 hm3 kn3 ko3 ki3 ut3
    refine wp_region_ord (fun W => W.cell? ⟨p, 0, none⟩ = some (.slice A1 (n + 1) c1) ∧ W.cell? ⟨p, 1, none⟩ = some (.map (some r))) 10 [(0, true), (1, true), (2, true), (3, true), (4, true), (5, true), (6, true), (7, true), (8, true), (9, true), (10, false)] (by kernel_rfl) (by kernel_rfl) (fun _ _ d _ _ h => by cases d <;> exact h) hS ?_
    generalize W2.drew = V2 at hrun hS ⊢
    iterate 10 (refine ord_take (v := ?_) rfl (by first | with_reducible rfl | kernel_rfl) ?_ ?_; rotate_left; (focus (intro wS hS; (try dsimp only at hS); go_split_ands; go_simp; (try with_reducible rfl); done)); (try simp only [Act.put, List.getElem_toArray, List.getElem_cons_succ, List.getElem_cons_zero, List.setIfInBounds_toArray, List.set_cons_zero, List.set_cons_succ]))
    refine ord_do rfl rfl (fun K hK => ?_)
    go_simp
    refine hK _ _ (fun h => absurd rfl h) ?_
    clear hK K hS hrun V2
    (try simp only [Act.put, List.getElem_toArray, List.getElem_cons_succ, List.getElem_cons_zero, List.setIfInBounds_toArray, List.set_cons_zero, List.set_cons_succ])
    refine ord_done ?_
    go_upto_region 4 with (fail)
    have KS := Lib.hid (show ∀ V, Upd (fun k => (Value.slice A2 n c2).ownBlock = some k) w3 V → V.cell? ⟨p, 2, none⟩ = some (.slice A2 n c2) ∧ V.cell? ⟨p, 3, none⟩ = some (.slice A3 n c3) from fun V hv => by
      have kb := H3.out.1.upd hv (fun e => (HN.out.2.2.2.1 _ e).1 rfl)
      exact ⟨kb.cell 2, kb.cell 3⟩)
    have hS : w3.drew.cell? ⟨p, 2, none⟩ = some (.slice A2 n c2) ∧ w3.drew.cell? ⟨p, 3, none⟩ = some (.slice A3 n c3) := KS.out _ (Upd.refl _ _).drew
    refine wp_region_late (fun W => W.cell? ⟨p, 2, none⟩ = some (.slice A2 n c2) ∧ W.cell? ⟨p, 3, none⟩ = some (.slice A3 n c3)) (lateFrom 16) (by kernel_rfl) ?_
    have HJ0 := Lib.hid (show Upd (fun _ => False) w3 w3.drew from (Upd.refl _ w3).drew)
    generalize w3.drew = V0 at HJ0 hS ⊢
    intro hd
    (refine late_take (i := 0) (v := ?_) rfl (by kernel_rfl) hd (fun _ _ d _ _ h => by cases d <;> exact h) hS (by first | with_reducible rfl | kernel_rfl) ?_ ?_; rotate_left; (focus (intro wS hS; (try dsimp only at hS); go_split_ands; go_simp; (try with_reducible rfl); done)); clear hd; intro hd; (try simp only [Act.put, List.getElem_toArray, List.getElem_cons_zero, List.setIfInBounds_toArray, List.set_cons_zero, List.set_cons_succ]))
    (refine late_take0 (i := 1) (v := ?_) rfl (by kernel_rfl) hd (fun _ _ d _ _ h => by cases d <;> exact h) (by first | with_reducible rfl | kernel_rfl) ?_ ?_; rotate_left; (focus (intro wS; go_simp; (try with_reducible rfl); done)); clear hd; intro hd; (try simp only [Act.put, List.getElem_toArray, List.getElem_cons_succ, List.getElem_cons_zero, List.setIfInBounds_toArray, List.set_cons_zero, List.set_cons_succ]))
    (refine late_take (i := 2) (v := ?_) rfl (by kernel_rfl) hd (fun _ _ d _ _ h => by cases d <;> exact h) hS (by first | with_reducible rfl | kernel_rfl) ?_ ?_; rotate_left; (focus (intro wS hS; (try dsimp only at hS); go_split_ands; go_simp; (try with_reducible rfl); done)); clear hd; intro hd; (try simp only [Act.put, List.getElem_toArray, List.getElem_cons_succ, List.getElem_cons_zero, List.setIfInBounds_toArray, List.set_cons_zero, List.set_cons_succ]))
    (refine late_take (i := 3) (v := ?_) rfl (by kernel_rfl) hd (fun _ _ d _ _ h => by cases d <;> exact h) hS (by first | with_reducible rfl | kernel_rfl) ?_ ?_; rotate_left; (focus (intro wS hS; (try dsimp only at hS); go_split_ands; go_simp; (try with_reducible rfl); done)); clear hd; intro hd; (try simp only [Act.put, List.getElem_toArray, List.getElem_cons_succ, List.getElem_cons_zero, List.setIfInBounds_toArray, List.set_cons_zero, List.set_cons_succ]))
    (refine late_take (i := 4) (v := ?_) rfl (by kernel_rfl) hd (fun _ _ d _ _ h => by cases d <;> exact h) hS (by first | with_reducible rfl | kernel_rfl) ?_ ?_; rotate_left; (focus (intro wS hS; (try dsimp only at hS); go_split_ands; go_simp; (try with_reducible rfl); done)); clear hd; intro hd; (try simp only [Act.put, List.getElem_toArray, List.getElem_cons_succ, List.getElem_cons_zero, List.setIfInBounds_toArray, List.set_cons_zero, List.set_cons_succ]))
    (refine late_take (i := 5) (v := ?_) rfl (by kernel_rfl) hd (fun _ _ d _ _ h => by cases d <;> exact h) hS (by first | with_reducible rfl | kernel_rfl) ?_ ?_; rotate_left; (focus (intro wS hS; (try dsimp only at hS); go_split_ands; go_simp; (try with_reducible rfl); done)); clear hd; intro hd; (try simp only [Act.put, List.getElem_toArray, List.getElem_cons_succ, List.getElem_cons_zero, List.setIfInBounds_toArray, List.set_cons_zero, List.set_cons_succ]))
    (refine late_take (i := 8) (v := ?_) rfl (by kernel_rfl) hd (fun _ _ d _ _ h => by cases d <;> exact h) hS (by first | with_reducible rfl | kernel_rfl) ?_ ?_; rotate_left; (focus (intro wS hS; (try dsimp only at hS); go_split_ands; go_simp; (try with_reducible rfl); done)); clear hd; intro hd; (try simp only [Act.put, List.getElem_toArray, List.getElem_cons_succ, List.getElem_cons_zero, List.setIfInBounds_toArray, List.set_cons_zero, List.set_cons_succ]))
    (refine late_take (i := 9) (v := ?_) rfl (by kernel_rfl) hd (fun _ _ d _ _ h => by cases d <;> exact h) hS (by first | with_reducible rfl | kernel_rfl) ?_ ?_; rotate_left; (focus (intro wS hS; (try dsimp only at hS); go_split_ands; go_simp; (try with_reducible rfl); done)); clear hd; intro hd; (try simp only [Act.put, List.getElem_toArray, List.getElem_cons_succ, List.getElem_cons_zero, List.setIfInBounds_toArray, List.set_cons_zero, List.set_cons_succ]))
    (refine late_take (i := 10) (v := ?_) rfl (by kernel_rfl) hd (fun _ _ d _ _ h => by cases d <;> exact h) hS (by first | with_reducible rfl | kernel_rfl) ?_ ?_; rotate_left; (focus (intro wS hS; (try dsimp only at hS); go_split_ands; go_simp; (try with_reducible rfl); done)); clear hd; intro hd; (try simp only [Act.put, List.getElem_toArray, List.getElem_cons_succ, List.getElem_cons_zero, List.setIfInBounds_toArray, List.set_cons_zero, List.set_cons_succ]))
    (refine late_take (i := 11) (v := ?_) rfl (by kernel_rfl) hd (fun _ _ d _ _ h => by cases d <;> exact h) hS (by first | with_reducible rfl | kernel_rfl) ?_ ?_; rotate_left; (focus (intro wS hS; (try dsimp only at hS); go_split_ands; go_simp; (try with_reducible rfl); done)); clear hd; intro hd; (try simp only [Act.put, List.getElem_toArray, List.getElem_cons_succ, List.getElem_cons_zero, List.setIfInBounds_toArray, List.set_cons_zero, List.set_cons_succ]))
    clear hS
    refine late_run hd (L := [6, 12]) (by kernel_rfl) (by decide) (fun i hi hd2 => ?_)
    clear hd
    have hd := hd2
    clear hd2
    simp only [List.mem_cons, List.not_mem_nil, or_false] at hi
    rcases hi with rfl | rfl
    · skip
      have koV1 := Blk.new V0 88 #[.slice none 0 0]
      have HJ1 := Lib.hid ((HJ0.out).alloc (.cells #[.slice none 0 0] 88))
      have HBo1 := Lib.hid koV1
      clear koV1
      refine late_do (S := fun W => W.cell? ⟨p, 2, none⟩ = some (.slice A2 n c2) ∧ W.cell? ⟨p, 3, none⟩ = some (.slice A3 n c3)) (late := lateFrom 16) rfl rfl (fun K hK => ?_)
      go_simp
      refine hK _ _ (fun _ _ => KS.out _ (HJ1.out.mono (fun _ _ h => by first | exact h.elim | exact h))) ?_
      clear hK K
      (try simp only [Act.put, List.getElem_toArray, List.getElem_cons_succ, List.getElem_cons_zero, List.setIfInBounds_toArray, List.set_cons_zero, List.set_cons_succ])
      have hS : (V0.alloc (.cells #[.slice none 0 0] 88)).cell? ⟨p, 2, none⟩ = some (.slice A2 n c2) ∧ (V0.alloc (.cells #[.slice none 0 0] 88)).cell? ⟨p, 3, none⟩ = some (.slice A3 n c3) := KS.out _ (HJ1.out.mono (fun _ _ h => by first | exact h.elim | exact h))
      generalize V0.alloc (.cells #[.slice none 0 0] 88) = V1 at HJ1 HBo1 hS ⊢
      clear hS
      refine late_run hd (L := [7, 12]) (by kernel_rfl) (by decide) (fun i hi hd2 => ?_)
      clear hd
      have hd := hd2
      clear hd2
      simp only [List.mem_cons, List.not_mem_nil, or_false] at hi
      rcases hi with rfl | rfl
      · skip
        obtain ⟨B2, d2, V2, happ, o6, u6, p6⟩ := append_row2 V1 0 96 88 1 24 _ Tryz.underlying96 info_hops rfl (by decide) (by decide) A2 n c2 (rowV fo n) (ownsRow_upd H3.out.2.2.2.1 HJ1.out (fun _ _ h => h)) (some ⟨V0.heap.size, 0, none⟩) 1 1 [.slice none 0 0] (row_one HBo1.out) rfl (by simp; rfl) (by omega) (Nat.zero_le _)
        have HJ2 := Lib.hid (show Upd (fun k => (Value.slice A2 n c2).ownBlock = some k) w3 V2 from (HJ1.out.mono (fun _ _ h => h.elim)).trans u6 (fun k h => .inl h))
        have HO := Lib.hid (And.intro o6 (And.intro p6 (show w3.heap.size ≤ V1.heap.size from HJ1.out.size)))
        clear o6 u6 p6
        refine late_do (S := fun W => W.cell? ⟨p, 2, none⟩ = some (.slice A2 n c2) ∧ W.cell? ⟨p, 3, none⟩ = some (.slice A3 n c3)) (late := lateFrom 16) rfl rfl (fun K hK => ?_)
        refine wp_append_run _ _ _ rfl rfl rfl happ ?_
        refine hK _ _ (fun _ _ => KS.out _ HJ2.out) ?_
        clear hK K happ
        (try simp only [Act.put, List.getElem_toArray, List.getElem_cons_succ, List.getElem_cons_zero, List.setIfInBounds_toArray, List.set_cons_zero, List.set_cons_succ])
        refine late_run hd (L := [12]) (by kernel_rfl) (by decide) (fun i hi hd2 => ?_)
        clear hd
        have hd := hd2
        clear hd2
        simp only [List.mem_cons, List.not_mem_nil, or_false] at hi
        subst hi
        have kiV3 := Blk.new V2 88 #[.slice none 0 0]
        have HJ3 := Lib.hid ((HJ2.out).alloc (.cells #[.slice none 0 0] 88))
        have HO := Lib.hid (And.intro (HO.out.1.alloc (.cells #[.slice none 0 0] 88)) HO.out.2)
        have HBi3 := Lib.hid kiV3
        clear kiV3
        refine late_do (S := fun W => W.cell? ⟨p, 2, none⟩ = some (.slice A2 n c2) ∧ W.cell? ⟨p, 3, none⟩ = some (.slice A3 n c3)) (late := lateFrom 16) rfl rfl (fun K hK => ?_)
        go_simp
        refine hK _ _ (fun _ _ => KS.out _ (HJ3.out.mono (fun _ _ h => by first | exact h.elim | exact h))) ?_
        clear hK K
        (try simp only [Act.put, List.getElem_toArray, List.getElem_cons_succ, List.getElem_cons_zero, List.setIfInBounds_toArray, List.set_cons_zero, List.set_cons_succ])
        have hS : (V2.alloc (.cells #[.slice none 0 0] 88)).cell? ⟨p, 2, none⟩ = some (.slice A2 n c2) ∧ (V2.alloc (.cells #[.slice none 0 0] 88)).cell? ⟨p, 3, none⟩ = some (.slice A3 n c3) := KS.out _ (HJ3.out.mono (fun _ _ h => by first | exact h.elim | exact h))
        generalize V2.alloc (.cells #[.slice none 0 0] 88) = V3 at HJ3 HBi3 HO hS ⊢
        clear hS
        refine late_run hd (L := [13]) (by kernel_rfl) (by decide) (fun i hi hd2 => ?_)
        clear hd
        have hd := hd2
        clear hd2
        simp only [List.mem_cons, List.not_mem_nil, or_false] at hi
        subst hi
        obtain ⟨B3, d3, V4, happ, o6, u6, p6⟩ := append_row2 V3 0 96 88 1 24 _ Tryz.underlying96 info_hops rfl (by decide) (by decide) A3 n c3 (rowV fi n) (ownsRow_upd H3.out.2.2.2.2.1 HJ3.out (fun k h1 h2 => HN.out.2.2.2.2.2 k h2 h1)) (some ⟨V2.heap.size, 0, none⟩) 1 1 [.slice none 0 0] (row_one HBi3.out) rfl (by simp; rfl) (by omega) (Nat.zero_le _)
        have HF := node_fin HG.out.1 HL.out H3.out.1 H3.out.2.1 H3.out.2.2.1 H3.out.2.2.2.2.2.1 HX.out.2.2.2.2.2.2 H3.out.2.2.2.2.2.2 HN.out.1 HN.out.2.1 HN.out.2.2.1 HN.out.2.2.2.1 HN.out.2.2.2.2.1 HN.out.2.2.2.2.2 HJ3.out HO.out.1 HO.out.2.1 HO.out.2.2 o6 u6 p6
        clear o6 u6 p6
        refine late_do (S := fun W => W.cell? ⟨p, 2, none⟩ = some (.slice A2 n c2) ∧ W.cell? ⟨p, 3, none⟩ = some (.slice A3 n c3)) (late := lateFrom 16) rfl rfl (fun K hK => ?_)
        refine wp_append_run _ _ _ rfl rfl rfl happ ?_
        refine hK _ _ (fun _ _ => ⟨HF.out.1.cell 2, HF.out.1.cell 3⟩) ?_
        clear hK K happ
        (try simp only [Act.put, List.getElem_toArray, List.getElem_cons_succ, List.getElem_cons_zero, List.setIfInBounds_toArray, List.set_cons_zero, List.set_cons_succ])
        have r2 : V4.cell? ⟨p, 2, none⟩ = some (.slice A2 n c2) := HF.out.1.cell 2
        have f2 : V4.frozen? ⟨p, 2, none⟩ = false := HF.out.1.frozen 2
        have kz := HF.out.1.set 2 (.slice B2 (n + 1) d2)
        have r3 : (V4.setCell ⟨p, 2, none⟩ (.slice B2 (n + 1) d2)).cell? ⟨p, 3, none⟩ = some (.slice A3 n c3) := kz.cell 3
        have f3 : (V4.setCell ⟨p, 2, none⟩ (.slice B2 (n + 1) d2)).frozen? ⟨p, 3, none⟩ = false := kz.frozen 3
        have FIN := Lib.hid HF.out.2
        clear kz
        refine late_run hd (L := [14]) (by kernel_rfl) (by decide) (fun i hi hd2 => ?_)
        clear hd
        have hd := hd2
        clear hd2
        simp only [List.mem_cons, List.not_mem_nil, or_false] at hi
        subst hi
        refine late_do (S := fun W => W.cell? ⟨p, 2, none⟩ = some (.slice A2 n c2) ∧ W.cell? ⟨p, 3, none⟩ = some (.slice A3 n c3)) (late := lateFrom 16) rfl rfl (fun K hK => ?_)
        go_simp
        refine hK _ _ (fun h _ => ⟨HF.out.1.cell 2, HF.out.1.cell 3⟩) ?_
        clear hK K
        (try simp only [Act.put, List.getElem_toArray, List.getElem_cons_succ, List.getElem_cons_zero, List.setIfInBounds_toArray, List.set_cons_zero, List.set_cons_succ])
        refine late_run hd (L := [15]) (by kernel_rfl) (by decide) (fun i hi hd2 => ?_)
        clear hd
        have hd := hd2
        clear hd2
        simp only [List.mem_cons, List.not_mem_nil, or_false] at hi
        subst hi
        refine late_do (S := fun W => W.cell? ⟨p, 2, none⟩ = some (.slice A2 n c2) ∧ W.cell? ⟨p, 3, none⟩ = some (.slice A3 n c3)) (late := lateFrom 16) rfl rfl (fun K hK => ?_)
        go_simp
        refine hK _ _ (fun h _ => ⟨HF.out.1.cell 2, HF.out.1.cell 3⟩) ?_
        clear hK K
        (try simp only [Act.put, List.getElem_toArray, List.getElem_cons_succ, List.getElem_cons_zero, List.setIfInBounds_toArray, List.set_cons_zero, List.set_cons_succ])
        refine late_run hd (L := [16]) (by kernel_rfl) (by decide) (fun i hi hd2 => ?_)
        clear hd
        have hd := hd2
        clear hd2
        simp only [List.mem_cons, List.not_mem_nil, or_false] at hi
        subst hi
        refine late_do (S := fun W => W.cell? ⟨p, 2, none⟩ = some (.slice A2 n c2) ∧ W.cell? ⟨p, 3, none⟩ = some (.slice A3 n c3)) (late := lateFrom 16) rfl rfl (fun K hK => ?_)
        go_simp
        refine hK _ _ (fun h _ => absurd h (by decide)) ?_
        clear hK K
        (try simp only [Act.put, List.getElem_toArray, List.getElem_cons_succ, List.getElem_cons_zero, List.setIfInBounds_toArray, List.set_cons_zero, List.set_cons_succ])
        refine late_run hd (L := [17]) (by kernel_rfl) (by decide) (fun i hi hd2 => ?_)
        clear hd
        have hd := hd2
        clear hd2
        simp only [List.mem_cons, List.not_mem_nil, or_false] at hi
        subst hi
        refine late_do (S := fun W => W.cell? ⟨p, 2, none⟩ = some (.slice A2 n c2) ∧ W.cell? ⟨p, 3, none⟩ = some (.slice A3 n c3)) (late := lateFrom 16) rfl rfl (fun K hK => ?_)
        go_simp
        refine hK _ _ (fun h _ => absurd h (by decide)) ?_
        clear hK K
        (try simp only [Act.put, List.getElem_toArray, List.getElem_cons_succ, List.getElem_cons_zero, List.setIfInBounds_toArray, List.set_cons_zero, List.set_cons_succ])
        refine late_run hd (L := [18]) (by kernel_rfl) (by decide) (fun i hi hd2 => ?_)
        clear hd
        have hd := hd2
        clear hd2
        simp only [List.mem_cons, List.not_mem_nil, or_false] at hi
        subst hi
        refine late_do (S := fun W => W.cell? ⟨p, 2, none⟩ = some (.slice A2 n c2) ∧ W.cell? ⟨p, 3, none⟩ = some (.slice A3 n c3)) (late := lateFrom 16) rfl rfl (fun K hK => ?_)
        go_simp
        refine hK _ _ (fun h _ => absurd h (by decide)) ?_
        clear hK K
        (try simp only [Act.put, List.getElem_toArray, List.getElem_cons_succ, List.getElem_cons_zero, List.setIfInBounds_toArray, List.set_cons_zero, List.set_cons_succ])
        refine late_run hd (L := [19]) (by kernel_rfl) (by decide) (fun i hi hd2 => ?_)
        clear hd
        have hd := hd2
        clear hd2
        simp only [List.mem_cons, List.not_mem_nil, or_false] at hi
        subst hi
        refine late_do (S := fun W => W.cell? ⟨p, 2, none⟩ = some (.slice A2 n c2) ∧ W.cell? ⟨p, 3, none⟩ = some (.slice A3 n c3)) (late := lateFrom 16) rfl rfl (fun K hK => ?_)
        go_simp
        refine hK _ _ (fun h _ => absurd h (by decide)) ?_
        clear hK K
        (try simp only [Act.put, List.getElem_toArray, List.getElem_cons_succ, List.getElem_cons_zero, List.setIfInBounds_toArray, List.set_cons_zero, List.set_cons_succ])
        refine late_done (by kernel_rfl) ?_
        generalize (V4.setCell ⟨p, 2, none⟩ (.slice B2 (n + 1) d2)).setCell ⟨p, 3, none⟩ (.slice B3 (n + 1) d3) = WF at FIN ⊢
        have l0 := FIN.out.2.1
        have q1 : WF.cell? ⟨p, 1, none⟩ = some (.map (some r)) := FIN.out.2.2
        have hw : IntKind.i64.wrap (((n : Int) + 1) - 1) = (n : Int) := by rw [IntKind.wrap_i64]; omega
        clear r2 f2 r3 f3
        go_wp2
        go_ret
        exact ⟨by rw [HG.out.2.2, HL.out]; rfl, by rw [HG.out.2.1]; exact FIN.out.1⟩
      · skip
        have kiV2 := Blk.new V1 88 #[.slice none 0 0]
        have koV2 := HBo1.out.alloc (.cells #[.slice none 0 0] 88)
        have HJ2 := Lib.hid ((HJ1.out).alloc (.cells #[.slice none 0 0] 88))
        have HBo2 := Lib.hid koV2
        have HBi2 := Lib.hid kiV2
        clear koV2 kiV2
        refine late_do (S := fun W => W.cell? ⟨p, 2, none⟩ = some (.slice A2 n c2) ∧ W.cell? ⟨p, 3, none⟩ = some (.slice A3 n c3)) (late := lateFrom 16) rfl rfl (fun K hK => ?_)
        go_simp
        refine hK _ _ (fun _ _ => KS.out _ (HJ2.out.mono (fun _ _ h => by first | exact h.elim | exact h))) ?_
        clear hK K
        (try simp only [Act.put, List.getElem_toArray, List.getElem_cons_succ, List.getElem_cons_zero, List.setIfInBounds_toArray, List.set_cons_zero, List.set_cons_succ])
        have hS : (V1.alloc (.cells #[.slice none 0 0] 88)).cell? ⟨p, 2, none⟩ = some (.slice A2 n c2) ∧ (V1.alloc (.cells #[.slice none 0 0] 88)).cell? ⟨p, 3, none⟩ = some (.slice A3 n c3) := KS.out _ (HJ2.out.mono (fun _ _ h => by first | exact h.elim | exact h))
        generalize V1.alloc (.cells #[.slice none 0 0] 88) = V2 at HJ2 HBo2 HBi2 hS ⊢
        clear hS
        refine late_run hd (L := [7]) (by kernel_rfl) (by decide) (fun i hi hd2 => ?_)
        clear hd
        have hd := hd2
        clear hd2
        simp only [List.mem_cons, List.not_mem_nil, or_false] at hi
        subst hi
        obtain ⟨B2, d2, V3, happ, o6, u6, p6⟩ := append_row2 V2 0 96 88 1 24 _ Tryz.underlying96 info_hops rfl (by decide) (by decide) A2 n c2 (rowV fo n) (ownsRow_upd H3.out.2.2.2.1 HJ2.out (fun _ _ h => h)) (some ⟨V0.heap.size, 0, none⟩) 1 1 [.slice none 0 0] (row_one HBo2.out) rfl (by simp; rfl) (by omega) (Nat.zero_le _)
        have HJ3 := Lib.hid (show Upd (fun k => (Value.slice A2 n c2).ownBlock = some k) w3 V3 from (HJ2.out.mono (fun _ _ h => h.elim)).trans u6 (fun k h => .inl h))
        have HBi3 := Lib.hid (HBi2.out.upd u6 (fun e => by have := (HN.out.2.2.2.1 _ e).2.2; have := H3.out.2.2.2.2.2.2; have := H3.out.2.2.2.2.2.1.size; have := HJ1.out.size; omega))
        have HO := Lib.hid (And.intro o6 (And.intro p6 (show w3.heap.size ≤ V2.heap.size from HJ2.out.size)))
        clear o6 u6 p6
        refine late_do (S := fun W => W.cell? ⟨p, 2, none⟩ = some (.slice A2 n c2) ∧ W.cell? ⟨p, 3, none⟩ = some (.slice A3 n c3)) (late := lateFrom 16) rfl rfl (fun K hK => ?_)
        refine wp_append_run _ _ _ rfl rfl rfl happ ?_
        refine hK _ _ (fun _ _ => KS.out _ HJ3.out) ?_
        clear hK K happ
        (try simp only [Act.put, List.getElem_toArray, List.getElem_cons_succ, List.getElem_cons_zero, List.setIfInBounds_toArray, List.set_cons_zero, List.set_cons_succ])
        refine late_run hd (L := [13]) (by kernel_rfl) (by decide) (fun i hi hd2 => ?_)
        clear hd
        have hd := hd2
        clear hd2
        simp only [List.mem_cons, List.not_mem_nil, or_false] at hi
        subst hi
        obtain ⟨B3, d3, V4, happ, o6, u6, p6⟩ := append_row2 V3 0 96 88 1 24 _ Tryz.underlying96 info_hops rfl (by decide) (by decide) A3 n c3 (rowV fi n) (ownsRow_upd H3.out.2.2.2.2.1 HJ3.out (fun k h1 h2 => HN.out.2.2.2.2.2 k h2 h1)) (some ⟨V1.heap.size, 0, none⟩) 1 1 [.slice none 0 0] (row_one HBi3.out) rfl (by simp; rfl) (by omega) (Nat.zero_le _)
        have HF := node_fin HG.out.1 HL.out H3.out.1 H3.out.2.1 H3.out.2.2.1 H3.out.2.2.2.2.2.1 HX.out.2.2.2.2.2.2 H3.out.2.2.2.2.2.2 HN.out.1 HN.out.2.1 HN.out.2.2.1 HN.out.2.2.2.1 HN.out.2.2.2.2.1 HN.out.2.2.2.2.2 HJ3.out HO.out.1 HO.out.2.1 HO.out.2.2 o6 u6 p6
        clear o6 u6 p6
        refine late_do (S := fun W => W.cell? ⟨p, 2, none⟩ = some (.slice A2 n c2) ∧ W.cell? ⟨p, 3, none⟩ = some (.slice A3 n c3)) (late := lateFrom 16) rfl rfl (fun K hK => ?_)
        refine wp_append_run _ _ _ rfl rfl rfl happ ?_
        refine hK _ _ (fun _ _ => ⟨HF.out.1.cell 2, HF.out.1.cell 3⟩) ?_
        clear hK K happ
        (try simp only [Act.put, List.getElem_toArray, List.getElem_cons_succ, List.getElem_cons_zero, List.setIfInBounds_toArray, List.set_cons_zero, List.set_cons_succ])
        have r2 : V4.cell? ⟨p, 2, none⟩ = some (.slice A2 n c2) := HF.out.1.cell 2
        have f2 : V4.frozen? ⟨p, 2, none⟩ = false := HF.out.1.frozen 2
        have kz := HF.out.1.set 2 (.slice B2 (n + 1) d2)
        have r3 : (V4.setCell ⟨p, 2, none⟩ (.slice B2 (n + 1) d2)).cell? ⟨p, 3, none⟩ = some (.slice A3 n c3) := kz.cell 3
        have f3 : (V4.setCell ⟨p, 2, none⟩ (.slice B2 (n + 1) d2)).frozen? ⟨p, 3, none⟩ = false := kz.frozen 3
        have FIN := Lib.hid HF.out.2
        clear kz
        refine late_run hd (L := [14]) (by kernel_rfl) (by decide) (fun i hi hd2 => ?_)
        clear hd
        have hd := hd2
        clear hd2
        simp only [List.mem_cons, List.not_mem_nil, or_false] at hi
        subst hi
        refine late_do (S := fun W => W.cell? ⟨p, 2, none⟩ = some (.slice A2 n c2) ∧ W.cell? ⟨p, 3, none⟩ = some (.slice A3 n c3)) (late := lateFrom 16) rfl rfl (fun K hK => ?_)
        go_simp
        refine hK _ _ (fun h _ => ⟨HF.out.1.cell 2, HF.out.1.cell 3⟩) ?_
        clear hK K
        (try simp only [Act.put, List.getElem_toArray, List.getElem_cons_succ, List.getElem_cons_zero, List.setIfInBounds_toArray, List.set_cons_zero, List.set_cons_succ])
        refine late_run hd (L := [15]) (by kernel_rfl) (by decide) (fun i hi hd2 => ?_)
        clear hd
        have hd := hd2
        clear hd2
        simp only [List.mem_cons, List.not_mem_nil, or_false] at hi
        subst hi
        refine late_do (S := fun W => W.cell? ⟨p, 2, none⟩ = some (.slice A2 n c2) ∧ W.cell? ⟨p, 3, none⟩ = some (.slice A3 n c3)) (late := lateFrom 16) rfl rfl (fun K hK => ?_)
        go_simp
        refine hK _ _ (fun h _ => ⟨HF.out.1.cell 2, HF.out.1.cell 3⟩) ?_
        clear hK K
        (try simp only [Act.put, List.getElem_toArray, List.getElem_cons_succ, List.getElem_cons_zero, List.setIfInBounds_toArray, List.set_cons_zero, List.set_cons_succ])
        refine late_run hd (L := [16]) (by kernel_rfl) (by decide) (fun i hi hd2 => ?_)
        clear hd
        have hd := hd2
        clear hd2
        simp only [List.mem_cons, List.not_mem_nil, or_false] at hi
        subst hi
        refine late_do (S := fun W => W.cell? ⟨p, 2, none⟩ = some (.slice A2 n c2) ∧ W.cell? ⟨p, 3, none⟩ = some (.slice A3 n c3)) (late := lateFrom 16) rfl rfl (fun K hK => ?_)
        go_simp
        refine hK _ _ (fun h _ => absurd h (by decide)) ?_
        clear hK K
        (try simp only [Act.put, List.getElem_toArray, List.getElem_cons_succ, List.getElem_cons_zero, List.setIfInBounds_toArray, List.set_cons_zero, List.set_cons_succ])
        refine late_run hd (L := [17]) (by kernel_rfl) (by decide) (fun i hi hd2 => ?_)
        clear hd
        have hd := hd2
        clear hd2
        simp only [List.mem_cons, List.not_mem_nil, or_false] at hi
        subst hi
        refine late_do (S := fun W => W.cell? ⟨p, 2, none⟩ = some (.slice A2 n c2) ∧ W.cell? ⟨p, 3, none⟩ = some (.slice A3 n c3)) (late := lateFrom 16) rfl rfl (fun K hK => ?_)
        go_simp
        refine hK _ _ (fun h _ => absurd h (by decide)) ?_
        clear hK K
        (try simp only [Act.put, List.getElem_toArray, List.getElem_cons_succ, List.getElem_cons_zero, List.setIfInBounds_toArray, List.set_cons_zero, List.set_cons_succ])
        refine late_run hd (L := [18]) (by kernel_rfl) (by decide) (fun i hi hd2 => ?_)
        clear hd
        have hd := hd2
        clear hd2
        simp only [List.mem_cons, List.not_mem_nil, or_false] at hi
        subst hi
        refine late_do (S := fun W => W.cell? ⟨p, 2, none⟩ = some (.slice A2 n c2) ∧ W.cell? ⟨p, 3, none⟩ = some (.slice A3 n c3)) (late := lateFrom 16) rfl rfl (fun K hK => ?_)
        go_simp
        refine hK _ _ (fun h _ => absurd h (by decide)) ?_
        clear hK K
        (try simp only [Act.put, List.getElem_toArray, List.getElem_cons_succ, List.getElem_cons_zero, List.setIfInBounds_toArray, List.set_cons_zero, List.set_cons_succ])
        refine late_run hd (L := [19]) (by kernel_rfl) (by decide) (fun i hi hd2 => ?_)
        clear hd
        have hd := hd2
        clear hd2
        simp only [List.mem_cons, List.not_mem_nil, or_false] at hi
        subst hi
        refine late_do (S := fun W => W.cell? ⟨p, 2, none⟩ = some (.slice A2 n c2) ∧ W.cell? ⟨p, 3, none⟩ = some (.slice A3 n c3)) (late := lateFrom 16) rfl rfl (fun K hK => ?_)
        go_simp
        refine hK _ _ (fun h _ => absurd h (by decide)) ?_
        clear hK K
        (try simp only [Act.put, List.getElem_toArray, List.getElem_cons_succ, List.getElem_cons_zero, List.setIfInBounds_toArray, List.set_cons_zero, List.set_cons_succ])
        refine late_done (by kernel_rfl) ?_
        generalize (V4.setCell ⟨p, 2, none⟩ (.slice B2 (n + 1) d2)).setCell ⟨p, 3, none⟩ (.slice B3 (n + 1) d3) = WF at FIN ⊢
        have l0 := FIN.out.2.1
        have q1 : WF.cell? ⟨p, 1, none⟩ = some (.map (some r)) := FIN.out.2.2
        have hw : IntKind.i64.wrap (((n : Int) + 1) - 1) = (n : Int) := by rw [IntKind.wrap_i64]; omega
        clear r2 f2 r3 f3
        go_wp2
        go_ret
        exact ⟨by rw [HG.out.2.2, HL.out]; rfl, by rw [HG.out.2.1]; exact FIN.out.1⟩
    · skip
      have kiV1 := Blk.new V0 88 #[.slice none 0 0]
      have HJ1 := Lib.hid ((HJ0.out).alloc (.cells #[.slice none 0 0] 88))
      have HBi1 := Lib.hid kiV1
      clear kiV1
      refine late_do (S := fun W => W.cell? ⟨p, 2, none⟩ = some (.slice A2 n c2) ∧ W.cell? ⟨p, 3, none⟩ = some (.slice A3 n c3)) (late := lateFrom 16) rfl rfl (fun K hK => ?_)
      go_simp
      refine hK _ _ (fun _ _ => KS.out _ (HJ1.out.mono (fun _ _ h => by first | exact h.elim | exact h))) ?_
      clear hK K
      (try simp only [Act.put, List.getElem_toArray, List.getElem_cons_succ, List.getElem_cons_zero, List.setIfInBounds_toArray, List.set_cons_zero, List.set_cons_succ])
      have hS : (V0.alloc (.cells #[.slice none 0 0] 88)).cell? ⟨p, 2, none⟩ = some (.slice A2 n c2) ∧ (V0.alloc (.cells #[.slice none 0 0] 88)).cell? ⟨p, 3, none⟩ = some (.slice A3 n c3) := KS.out _ (HJ1.out.mono (fun _ _ h => by first | exact h.elim | exact h))
      generalize V0.alloc (.cells #[.slice none 0 0] 88) = V1 at HJ1 HBi1 hS ⊢
      clear hS
      refine late_run hd (L := [6]) (by kernel_rfl) (by decide) (fun i hi hd2 => ?_)
      clear hd
      have hd := hd2
      clear hd2
      simp only [List.mem_cons, List.not_mem_nil, or_false] at hi
      subst hi
      have koV2 := Blk.new V1 88 #[.slice none 0 0]
      have kiV2 := HBi1.out.alloc (.cells #[.slice none 0 0] 88)
      have HJ2 := Lib.hid ((HJ1.out).alloc (.cells #[.slice none 0 0] 88))
      have HBi2 := Lib.hid kiV2
      have HBo2 := Lib.hid koV2
      clear kiV2 koV2
      refine late_do (S := fun W => W.cell? ⟨p, 2, none⟩ = some (.slice A2 n c2) ∧ W.cell? ⟨p, 3, none⟩ = some (.slice A3 n c3)) (late := lateFrom 16) rfl rfl (fun K hK => ?_)
      go_simp
      refine hK _ _ (fun _ _ => KS.out _ (HJ2.out.mono (fun _ _ h => by first | exact h.elim | exact h))) ?_
      clear hK K
      (try simp only [Act.put, List.getElem_toArray, List.getElem_cons_succ, List.getElem_cons_zero, List.setIfInBounds_toArray, List.set_cons_zero, List.set_cons_succ])
      have hS : (V1.alloc (.cells #[.slice none 0 0] 88)).cell? ⟨p, 2, none⟩ = some (.slice A2 n c2) ∧ (V1.alloc (.cells #[.slice none 0 0] 88)).cell? ⟨p, 3, none⟩ = some (.slice A3 n c3) := KS.out _ (HJ2.out.mono (fun _ _ h => by first | exact h.elim | exact h))
      generalize V1.alloc (.cells #[.slice none 0 0] 88) = V2 at HJ2 HBi2 HBo2 hS ⊢
      clear hS
      refine late_run hd (L := [7]) (by kernel_rfl) (by decide) (fun i hi hd2 => ?_)
      clear hd
      have hd := hd2
      clear hd2
      simp only [List.mem_cons, List.not_mem_nil, or_false] at hi
      subst hi
      obtain ⟨B2, d2, V3, happ, o6, u6, p6⟩ := append_row2 V2 0 96 88 1 24 _ Tryz.underlying96 info_hops rfl (by decide) (by decide) A2 n c2 (rowV fo n) (ownsRow_upd H3.out.2.2.2.1 HJ2.out (fun _ _ h => h)) (some ⟨V1.heap.size, 0, none⟩) 1 1 [.slice none 0 0] (row_one HBo2.out) rfl (by simp; rfl) (by omega) (Nat.zero_le _)
      have HJ3 := Lib.hid (show Upd (fun k => (Value.slice A2 n c2).ownBlock = some k) w3 V3 from (HJ2.out.mono (fun _ _ h => h.elim)).trans u6 (fun k h => .inl h))
      have HBi3 := Lib.hid (HBi2.out.upd u6 (fun e => by have := (HN.out.2.2.2.1 _ e).2.2; have := H3.out.2.2.2.2.2.2; have := H3.out.2.2.2.2.2.1.size; have := HJ0.out.size; omega))
      have HO := Lib.hid (And.intro o6 (And.intro p6 (show w3.heap.size ≤ V2.heap.size from HJ2.out.size)))
      clear o6 u6 p6
      refine late_do (S := fun W => W.cell? ⟨p, 2, none⟩ = some (.slice A2 n c2) ∧ W.cell? ⟨p, 3, none⟩ = some (.slice A3 n c3)) (late := lateFrom 16) rfl rfl (fun K hK => ?_)
      refine wp_append_run _ _ _ rfl rfl rfl happ ?_
      refine hK _ _ (fun _ _ => KS.out _ HJ3.out) ?_
      clear hK K happ
      (try simp only [Act.put, List.getElem_toArray, List.getElem_cons_succ, List.getElem_cons_zero, List.setIfInBounds_toArray, List.set_cons_zero, List.set_cons_succ])
      refine late_run hd (L := [13]) (by kernel_rfl) (by decide) (fun i hi hd2 => ?_)
      clear hd
      have hd := hd2
      clear hd2
      simp only [List.mem_cons, List.not_mem_nil, or_false] at hi
      subst hi
      obtain ⟨B3, d3, V4, happ, o6, u6, p6⟩ := append_row2 V3 0 96 88 1 24 _ Tryz.underlying96 info_hops rfl (by decide) (by decide) A3 n c3 (rowV fi n) (ownsRow_upd H3.out.2.2.2.2.1 HJ3.out (fun k h1 h2 => HN.out.2.2.2.2.2 k h2 h1)) (some ⟨V0.heap.size, 0, none⟩) 1 1 [.slice none 0 0] (row_one HBi3.out) rfl (by simp; rfl) (by omega) (Nat.zero_le _)
      have HF := node_fin HG.out.1 HL.out H3.out.1 H3.out.2.1 H3.out.2.2.1 H3.out.2.2.2.2.2.1 HX.out.2.2.2.2.2.2 H3.out.2.2.2.2.2.2 HN.out.1 HN.out.2.1 HN.out.2.2.1 HN.out.2.2.2.1 HN.out.2.2.2.2.1 HN.out.2.2.2.2.2 HJ3.out HO.out.1 HO.out.2.1 HO.out.2.2 o6 u6 p6
      clear o6 u6 p6
      refine late_do (S := fun W => W.cell? ⟨p, 2, none⟩ = some (.slice A2 n c2) ∧ W.cell? ⟨p, 3, none⟩ = some (.slice A3 n c3)) (late := lateFrom 16) rfl rfl (fun K hK => ?_)
      refine wp_append_run _ _ _ rfl rfl rfl happ ?_
      refine hK _ _ (fun _ _ => ⟨HF.out.1.cell 2, HF.out.1.cell 3⟩) ?_
      clear hK K happ
      (try simp only [Act.put, List.getElem_toArray, List.getElem_cons_succ, List.getElem_cons_zero, List.setIfInBounds_toArray, List.set_cons_zero, List.set_cons_succ])
      have r2 : V4.cell? ⟨p, 2, none⟩ = some (.slice A2 n c2) := HF.out.1.cell 2
      have f2 : V4.frozen? ⟨p, 2, none⟩ = false := HF.out.1.frozen 2
      have kz := HF.out.1.set 2 (.slice B2 (n + 1) d2)
      have r3 : (V4.setCell ⟨p, 2, none⟩ (.slice B2 (n + 1) d2)).cell? ⟨p, 3, none⟩ = some (.slice A3 n c3) := kz.cell 3
      have f3 : (V4.setCell ⟨p, 2, none⟩ (.slice B2 (n + 1) d2)).frozen? ⟨p, 3, none⟩ = false := kz.frozen 3
      have FIN := Lib.hid HF.out.2
      clear kz
      refine late_run hd (L := [14]) (by kernel_rfl) (by decide) (fun i hi hd2 => ?_)
      clear hd
      have hd := hd2
      clear hd2
      simp only [List.mem_cons, List.not_mem_nil, or_false] at hi
      subst hi
      refine late_do (S := fun W => W.cell? ⟨p, 2, none⟩ = some (.slice A2 n c2) ∧ W.cell? ⟨p, 3, none⟩ = some (.slice A3 n c3)) (late := lateFrom 16) rfl rfl (fun K hK => ?_)
      go_simp
      refine hK _ _ (fun h _ => ⟨HF.out.1.cell 2, HF.out.1.cell 3⟩) ?_
      clear hK K
      (try simp only [Act.put, List.getElem_toArray, List.getElem_cons_succ, List.getElem_cons_zero, List.setIfInBounds_toArray, List.set_cons_zero, List.set_cons_succ])
      refine late_run hd (L := [15]) (by kernel_rfl) (by decide) (fun i hi hd2 => ?_)
      clear hd
      have hd := hd2
      clear hd2
      simp only [List.mem_cons, List.not_mem_nil, or_false] at hi
      subst hi
      refine late_do (S := fun W => W.cell? ⟨p, 2, none⟩ = some (.slice A2 n c2) ∧ W.cell? ⟨p, 3, none⟩ = some (.slice A3 n c3)) (late := lateFrom 16) rfl rfl (fun K hK => ?_)
      go_simp
      refine hK _ _ (fun h _ => ⟨HF.out.1.cell 2, HF.out.1.cell 3⟩) ?_
      clear hK K
      (try simp only [Act.put, List.getElem_toArray, List.getElem_cons_succ, List.getElem_cons_zero, List.setIfInBounds_toArray, List.set_cons_zero, List.set_cons_succ])
      refine late_run hd (L := [16]) (by kernel_rfl) (by decide) (fun i hi hd2 => ?_)
      clear hd
      have hd := hd2
      clear hd2
      simp only [List.mem_cons, List.not_mem_nil, or_false] at hi
      subst hi
      refine late_do (S := fun W => W.cell? ⟨p, 2, none⟩ = some (.slice A2 n c2) ∧ W.cell? ⟨p, 3, none⟩ = some (.slice A3 n c3)) (late := lateFrom 16) rfl rfl (fun K hK => ?_)
      go_simp
      refine hK _ _ (fun h _ => absurd h (by decide)) ?_
      clear hK K
      (try simp only [Act.put, List.getElem_toArray, List.getElem_cons_succ, List.getElem_cons_zero, List.setIfInBounds_toArray, List.set_cons_zero, List.set_cons_succ])
      refine late_run hd (L := [17]) (by kernel_rfl) (by decide) (fun i hi hd2 => ?_)
      clear hd
      have hd := hd2
      clear hd2
      simp only [List.mem_cons, List.not_mem_nil, or_false] at hi
      subst hi
      refine late_do (S := fun W => W.cell? ⟨p, 2, none⟩ = some (.slice A2 n c2) ∧ W.cell? ⟨p, 3, none⟩ = some (.slice A3 n c3)) (late := lateFrom 16) rfl rfl (fun K hK => ?_)
      go_simp
      refine hK _ _ (fun h _ => absurd h (by decide)) ?_
      clear hK K
      (try simp only [Act.put, List.getElem_toArray, List.getElem_cons_succ, List.getElem_cons_zero, List.setIfInBounds_toArray, List.set_cons_zero, List.set_cons_succ])
      refine late_run hd (L := [18]) (by kernel_rfl) (by decide) (fun i hi hd2 => ?_)
      clear hd
      have hd := hd2
      clear hd2
      simp only [List.mem_cons, List.not_mem_nil, or_false] at hi
      subst hi
      refine late_do (S := fun W => W.cell? ⟨p, 2, none⟩ = some (.slice A2 n c2) ∧ W.cell? ⟨p, 3, none⟩ = some (.slice A3 n c3)) (late := lateFrom 16) rfl rfl (fun K hK => ?_)
      go_simp
      refine hK _ _ (fun h _ => absurd h (by decide)) ?_
      clear hK K
      (try simp only [Act.put, List.getElem_toArray, List.getElem_cons_succ, List.getElem_cons_zero, List.setIfInBounds_toArray, List.set_cons_zero, List.set_cons_succ])
      refine late_run hd (L := [19]) (by kernel_rfl) (by decide) (fun i hi hd2 => ?_)
      clear hd
      have hd := hd2
      clear hd2
      simp only [List.mem_cons, List.not_mem_nil, or_false] at hi
      subst hi
      refine late_do (S := fun W => W.cell? ⟨p, 2, none⟩ = some (.slice A2 n c2) ∧ W.cell? ⟨p, 3, none⟩ = some (.slice A3 n c3)) (late := lateFrom 16) rfl rfl (fun K hK => ?_)
      go_simp
      refine hK _ _ (fun h _ => absurd h (by decide)) ?_
      clear hK K
      (try simp only [Act.put, List.getElem_toArray, List.getElem_cons_succ, List.getElem_cons_zero, List.setIfInBounds_toArray, List.set_cons_zero, List.set_cons_succ])
      refine late_done (by kernel_rfl) ?_
      generalize (V4.setCell ⟨p, 2, none⟩ (.slice B2 (n + 1) d2)).setCell ⟨p, 3, none⟩ (.slice B3 (n + 1) d3) = WF at FIN ⊢
      have l0 := FIN.out.2.1
      have q1 : WF.cell? ⟨p, 1, none⟩ = some (.map (some r)) := FIN.out.2.2
      have hw : IntKind.i64.wrap (((n : Int) + 1) - 1) = (n : Int) := by rw [IntKind.wrap_i64]; omega
      clear r2 f2 r3 f3
      go_wp2
      go_ret
      exact ⟨by rw [HG.out.2.2, HL.out]; rfl, by rw [HG.out.2.1]; exact FIN.out.1⟩
end Go.Proofs.YthmkgnifcbnkpaaGreat
namespace Go.Proofs.YthmkgnifcbnkpaaGreat
open Go.RowKit

def fset {α : Type} (f : Nat → α) (j : Nat) (x : α) : Nat → α := fun k => if k = j then x else f k
theorem fset_same {α : Type} (f : Nat → α) (j : Nat) (x : α) : fset f j x j = x := if_pos rfl
theorem fset_other {α : Type} (f : Nat → α) {j k : Nat} (x : α) (h : k ≠ j) : fset f j x k = f k := if_neg h
theorem rowV_set (f : Nat → Value) (n j : Nat) (x : Value) : (rowV f n).set j x = rowV (fset f j x) n := by
  apply List.ext_getElem?
  intro i
  rw [List.getElem?_set]
  unfold rowV fset
  simp only [List.length_map, List.length_range, List.getElem?_map]
  by_cases hij : j = i
  · subst hij
    by_cases hj : j < n
    · simp [hj]
    · simp [hj]
  · rw [if_neg hij]
    by_cases hi : i < n
    · simp [hi, Ne.symm hij]
    · simp [hi]
section
variable {w w' : World} {O : Nat → Option Ro} {p r g j c : Nat} {N : List Txt} {U V : Nat → List Hp} {cnt : Int} {nv iv ov : Value} {fo fi : Nat → Value}
theorem GrI.setO (h : GrI w O p N U V cnt ⟨r, nv, .slice (some ⟨g, 0, none⟩) N.length c, iv, fo, fi⟩) (hj : j < N.length) {v : Value} {L : List Hp} (o : w'.ownsRow 0 92 2 v L.length (hpCells L)) (u : Upd (fun k => (fo j).ownBlock = some k) w w')
    (pl : ∀ k, v.ownBlock = some k → (fo j).ownBlock = some k ∨ w.heap.size ≤ k) : GrNext w (fun k => O k ≠ none) p N (fset U j L) V cnt (w'.setCell ⟨g, j, none⟩ v) := by
  have us := (Upd.refl (fun k => k = g) w').setCell (p := ⟨g, j, none⟩) (.inl rfl) v
  have hg : O g = some .o := h.oo g rfl
  have fresh : ∀ k, w.heap.size ≤ k → O k = none := fun k hk => by
    cases e : O k with
    | none => rfl
    | some t => have := h.lt k (by simp [e]); omega
  have hv : ∀ k, v.ownBlock = some k → O k = some (.oo j) ∨ O k = none ∧ w.heap.size ≤ k := fun k hk => by
    rcases pl k hk with h1 | h1
    · exact .inl (h.oU j k h1)
    · exact .inr ⟨fresh k h1, h1⟩
  have keep : ∀ k t, O k = some t → (t = Ro.oo j → False) → (if v.ownBlock = some k then some (Ro.oo j) else O k) = some t := fun k t e ht => by
    rw [if_neg, e]
    intro hk
    rcases hv k hk with h1 | h1
    · rw [h1] at e; injection e with e; exact ht e.symm
    · rw [h1.1] at e; cases e
  have no : ∀ k t, O k = some t → (t = Ro.oo j → False) → (t = Ro.o → False) → ¬ (fo j).ownBlock = some k ∧ ¬ k = g := fun k t e h1 h2 =>
    ⟨fun hk => (by have := h.oU j k hk; rw [e] at this; injection this with this; exact h1 this), fun hk => (by rw [hk, hg] at e; injection e with e; exact h2 e.symm)⟩
  have no1 : ∀ k t, O k = some t → (t = Ro.oo j → False) → ¬ (fo j).ownBlock = some k := fun k t e h1 hk => by
    have := h.oU j k hk; rw [e] at this; injection this with this; exact h1 this
  have nvg : ∀ k, v.ownBlock = some k → ¬ k = g := fun k hk e => by
    subst e
    rcases hv k hk with h1 | h1
    · rw [hg] at h1; cases h1
    · rw [hg] at h1; cases h1.1
  have k2 := fun {x : Value} {base e size n : Nat} {xs : List Value} (hx : w.ownsRow base e size x n xs) (hr : ∀ k, x.ownBlock = some k → ¬ (fo j).ownBlock = some k ∧ ¬ k = g) => ownsRow_upd (ownsRow_upd hx u fun k hk => (hr k hk).1) us fun k hk => (hr k hk).2
  have b := no _ _ h.op nofun nofun
  have bm := no _ _ h.om nofun nofun
  refine ⟨_, ⟨fun k => if v.ownBlock = some k then some (Ro.oo j) else O k, ⟨r, nv, .slice (some ⟨g, 0, none⟩) N.length c, iv, fset fo j v, fi⟩, ⟨(h.blk.upd u b.1).upd us b.2, (h.map.upd u bm.1).upd us bm.2, k2 h.rn fun k hk => no _ _ (h.on k hk) nofun nofun, ?_, k2 h.ri fun k hk => no _ _ (h.oi k hk) nofun nofun, ?_, fun i => k2 (h.fi i) fun k hk => no _ _ (h.oV i k hk) nofun nofun,
    keep _ _ h.op nofun, keep _ _ h.om nofun, fun k hk => keep _ _ (h.on k hk) nofun, fun k hk => keep _ _ (h.oo k hk) nofun, fun k hk => keep _ _ (h.oi k hk) nofun, ?_, fun i k hk => keep _ _ (h.oV i k hk) nofun, ?_, ?_⟩, rfl⟩, ?_, ?_⟩
  · have h1 := own_setCell (ownsRow_upd h.ro u fun k hk => no1 _ _ (h.oo k hk) nofun) (i := j) (by omega) v
    rw [rowV_set] at h1
    exact h1
  · intro i
    by_cases e : i = j
    · subst e
      show World.ownsRow _ _ _ _ (fset fo i v i) (fset U i L i).length (hpCells (fset U i L i))
      rw [fset_same, fset_same]
      exact ownsRow_upd o us nvg
    · show World.ownsRow _ _ _ _ (fset fo j v i) (fset U j L i).length (hpCells (fset U j L i))
      rw [fset_other _ _ e, fset_other _ _ e]
      exact k2 (h.fo i) fun k hk => no _ _ (h.oU i k hk) (fun h => by injection h with h; exact e h) nofun
  · intro i k hk
    by_cases e : i = j
    · subst e
      have hk : (fset fo i v i).ownBlock = some k := hk
      rw [fset_same] at hk
      exact if_pos hk
    · have hk : (fset fo j v i).ownBlock = some k := hk
      rw [fset_other _ _ e] at hk
      exact keep _ _ (h.oU i k hk) (fun h => by injection h with h; exact e h)
  · intro k hk
    (try dsimp only at hk)
    by_cases h1 : v.ownBlock = some k
    · exact Nat.lt_of_lt_of_le (o.lt k h1).2 us.size
    · rw [if_neg h1] at hk
      exact Nat.lt_of_lt_of_le (h.lt k hk) (Nat.le_trans u.size us.size)
  · intro k hk
    refine ⟨?_, (h.out k hk).2⟩
    show fset fo j v k = _
    rw [fset_other _ _ (by omega)]
    exact (h.out k hk).1
  · exact (u.mono (fun k _ hk => by rw [h.oU j k hk]; nofun)).trans us (fun k hk => .inl (by rw [hk, hg]; nofun))
  · intro k hk
    (try dsimp only at hk ⊢)
    by_cases h1 : v.ownBlock = some k
    · rcases hv k h1 with h2 | h2
      · rw [h2]; exact .inl nofun
      · exact .inr h2.2
    · rw [if_neg h1] at hk
      exact .inl hk
theorem GrI.setI (h : GrI w O p N U V cnt ⟨r, nv, ov, .slice (some ⟨g, 0, none⟩) N.length c, fo, fi⟩) (hj : j < N.length) {v : Value} {L : List Hp} (o : w'.ownsRow 0 92 2 v L.length (hpCells L)) (u : Upd (fun k => (fi j).ownBlock = some k) w w')
    (pl : ∀ k, v.ownBlock = some k → (fi j).ownBlock = some k ∨ w.heap.size ≤ k) : GrNext w (fun k => O k ≠ none) p N U (fset V j L) cnt (w'.setCell ⟨g, j, none⟩ v) := by
  have us := (Upd.refl (fun k => k = g) w').setCell (p := ⟨g, j, none⟩) (.inl rfl) v
  have hg : O g = some .i := h.oi g rfl
  have fresh : ∀ k, w.heap.size ≤ k → O k = none := fun k hk => by
    cases e : O k with
    | none => rfl
    | some t => have := h.lt k (by simp [e]); omega
  have hv : ∀ k, v.ownBlock = some k → O k = some (.ii j) ∨ O k = none ∧ w.heap.size ≤ k := fun k hk => by
    rcases pl k hk with h1 | h1
    · exact .inl (h.oV j k h1)
    · exact .inr ⟨fresh k h1, h1⟩
  have keep : ∀ k t, O k = some t → (t = Ro.ii j → False) → (if v.ownBlock = some k then some (Ro.ii j) else O k) = some t := fun k t e ht => by
    rw [if_neg, e]
    intro hk
    rcases hv k hk with h1 | h1
    · rw [h1] at e; injection e with e; exact ht e.symm
    · rw [h1.1] at e; cases e
  have no : ∀ k t, O k = some t → (t = Ro.ii j → False) → (t = Ro.i → False) → ¬ (fi j).ownBlock = some k ∧ ¬ k = g := fun k t e h1 h2 =>
    ⟨fun hk => (by have := h.oV j k hk; rw [e] at this; injection this with this; exact h1 this), fun hk => (by rw [hk, hg] at e; injection e with e; exact h2 e.symm)⟩
  have no1 : ∀ k t, O k = some t → (t = Ro.ii j → False) → ¬ (fi j).ownBlock = some k := fun k t e h1 hk => by
    have := h.oV j k hk; rw [e] at this; injection this with this; exact h1 this
  have nvg : ∀ k, v.ownBlock = some k → ¬ k = g := fun k hk e => by
    subst e
    rcases hv k hk with h1 | h1
    · rw [hg] at h1; cases h1
    · rw [hg] at h1; cases h1.1
  have k2 := fun {x : Value} {base e size n : Nat} {xs : List Value} (hx : w.ownsRow base e size x n xs) (hr : ∀ k, x.ownBlock = some k → ¬ (fi j).ownBlock = some k ∧ ¬ k = g) => ownsRow_upd (ownsRow_upd hx u fun k hk => (hr k hk).1) us fun k hk => (hr k hk).2
  have b := no _ _ h.op nofun nofun
  have bm := no _ _ h.om nofun nofun
  refine ⟨_, ⟨fun k => if v.ownBlock = some k then some (Ro.ii j) else O k, ⟨r, nv, ov, .slice (some ⟨g, 0, none⟩) N.length c, fo, fset fi j v⟩, ⟨(h.blk.upd u b.1).upd us b.2, (h.map.upd u bm.1).upd us bm.2, k2 h.rn fun k hk => no _ _ (h.on k hk) nofun nofun, k2 h.ro fun k hk => no _ _ (h.oo k hk) nofun nofun, ?_, fun i => k2 (h.fo i) fun k hk => no _ _ (h.oU i k hk) nofun nofun, ?_,
    keep _ _ h.op nofun, keep _ _ h.om nofun, fun k hk => keep _ _ (h.on k hk) nofun, fun k hk => keep _ _ (h.oo k hk) nofun, fun k hk => keep _ _ (h.oi k hk) nofun, fun i k hk => keep _ _ (h.oU i k hk) nofun, ?_, ?_, ?_⟩, rfl⟩, ?_, ?_⟩
  · have h1 := own_setCell (ownsRow_upd h.ri u fun k hk => no1 _ _ (h.oi k hk) nofun) (i := j) (by omega) v
    rw [rowV_set] at h1
    exact h1
  · intro i
    by_cases e : i = j
    · subst e
      show World.ownsRow _ _ _ _ (fset fi i v i) (fset V i L i).length (hpCells (fset V i L i))
      rw [fset_same, fset_same]
      exact ownsRow_upd o us nvg
    · show World.ownsRow _ _ _ _ (fset fi j v i) (fset V j L i).length (hpCells (fset V j L i))
      rw [fset_other _ _ e, fset_other _ _ e]
      exact k2 (h.fi i) fun k hk => no _ _ (h.oV i k hk) (fun h => by injection h with h; exact e h) nofun
  · intro i k hk
    by_cases e : i = j
    · subst e
      have hk : (fset fi i v i).ownBlock = some k := hk
      rw [fset_same] at hk
      exact if_pos hk
    · have hk : (fset fi j v i).ownBlock = some k := hk
      rw [fset_other _ _ e] at hk
      exact keep _ _ (h.oV i k hk) (fun h => by injection h with h; exact e h)
  · intro k hk
    (try dsimp only at hk)
    by_cases h1 : v.ownBlock = some k
    · exact Nat.lt_of_lt_of_le (o.lt k h1).2 us.size
    · rw [if_neg h1] at hk
      exact Nat.lt_of_lt_of_le (h.lt k hk) (Nat.le_trans u.size us.size)
  · intro k hk
    refine ⟨(h.out k hk).1, ?_⟩
    show fset fi j v k = _
    rw [fset_other _ _ (by omega)]
    exact (h.out k hk).2
  · exact (u.mono (fun k _ hk => by rw [h.oV j k hk]; nofun)).trans us (fun k hk => .inl (by rw [hk, hg]; nofun))
  · intro k hk
    (try dsimp only at hk ⊢)
    by_cases h1 : v.ownBlock = some k
    · rcases hv k h1 with h2 | h2
      · rw [h2]; exact .inl nofun
      · exact .inr h2.2
    · rw [if_neg h1] at hk
      exact .inl hk
theorem GrI.setC {D : GrD} (h : GrI w O p N U V cnt D) (x : Int) : GrNext w (fun k => O k ≠ none) p N U V x (w.setCell ⟨p, 4, none⟩ (.int .i64 x)) := by
  have us := (Upd.refl (fun k => k = p) w).setCell (p := ⟨p, 4, none⟩) (.inl rfl) (.int .i64 x)
  have no : ∀ k t, O k = some t → (t = Ro.p → False) → ¬ k = p := fun k t e ht hk => by
    rw [hk, h.op] at e; injection e with e; exact ht e.symm
  exact ⟨_, ⟨O, D, ⟨h.blk.set 4 _, h.map.upd us (no _ _ h.om nofun), ownsRow_upd h.rn us fun k hk => no _ _ (h.on k hk) nofun, ownsRow_upd h.ro us fun k hk => no _ _ (h.oo k hk) nofun, ownsRow_upd h.ri us fun k hk => no _ _ (h.oi k hk) nofun,
    fun j => ownsRow_upd (h.fo j) us fun k hk => no _ _ (h.oU j k hk) nofun, fun j => ownsRow_upd (h.fi j) us fun k hk => no _ _ (h.oV j k hk) nofun, h.op, h.om, h.on, h.oo, h.oi, h.oU, h.oV, fun k hk => Nat.lt_of_lt_of_le (h.lt k hk) us.size, h.out⟩, rfl⟩,
    us.mono (fun k _ hk => by rw [hk, h.op]; nofun), fun k hk => .inl hk⟩
end
end Go.Proofs.YthmkgnifcbnkpaaGreat
namespace Go.Proofs.YthmkgnifcbnkpaaGreat
open Go.RowKit

theorem row_get {w : World} {n : Nat} {v : Value} {f : Nat → Value} {t : TypeId} (h : w.ownsRow 0 t 1 v n (rowV f n)) {k : Nat} (hk : k < n) :
    ∃ g c, v = .slice (some ⟨g, 0, none⟩) n c ∧ v.ownBlock = some g ∧ w.cell? ⟨g, k, none⟩ = some (f k) ∧ w.frozen? ⟨g, k, none⟩ = false := by
  obtain ⟨g, c, e, e2, -, -, -, hc⟩ := own_cells h (Nat.lt_of_le_of_lt (Nat.zero_le _) hk)
  exact ⟨g, c, e, e2, hc k _ (rowV_at hk)⟩
def hopsU (N : List Txt) (U : Nat → List Hp) (x : Ed) : Nat → List Hp := fset U (idxT N x.fr) (putH (U (idxT N x.fr)) ⟨x.lb, idxT N x.to⟩)
def hopsV (N : List Txt) (V : Nat → List Hp) (x : Ed) : Nat → List Hp := fset V (idxT N x.to) (putH (V (idxT N x.to)) ⟨x.lb, idxT N x.fr⟩)
def EdgeP (w : World) (F : Nat → Prop) (p : Nat) (N : List Txt) (U V : Nat → List Hp) (cnt : Int) (x : Ed) (e : Ending) (w' : World) : Prop :=
  e = .returned (.tuple #[]) ∧ GrNext w F p (addN (addN N x.fr) x.to) (hopsU (addN (addN N x.fr) x.to) U x) (hopsV (addN (addN N x.fr) x.to) V x) (cnt + 1) w'
theorem addN_len (N : List Txt) (s : Txt) : (addN N s).length ≤ N.length + 1 := by
  unfold addN
  split
  · omega
  · simp
set_option maxHeartbeats 4000000 in
set_option maxRecDepth 20000 in
theorem edge_any (w : World) (F : Nat → Prop) (p : Nat) (N : List Txt) (U V : Nat → List Hp) (cnt : Int) (x : Ed) (h : GrAt w F p N U V cnt) (hx : EdOk x) (hl : N.length ≤ 900000) (hU : ∀ k, Rises ltH (U k) ∧ (U k).length ≤ 1000000) (hV : ∀ k, Rises ltH (V k) ∧ (V k).length ≤ 1000000) (hc : 0 ≤ cnt ∧ cnt ≤ 1000000) :
    Calls Tryz.prog 65 #[.pointer (some ⟨p, 0, none⟩), x.agg] w (EdgeP w F p N U V cnt x) := by
  obtain ⟨s0, s1, s2⟩ := x
  have k0 := Blk.new w 39 #[.string s0, .string s1, .string s2]
  have u0 : Below w.heap.size w (w.alloc (.cells #[.string s0, .string s1, .string s2] 39)) := (Below.refl _ _).alloc (Nat.le_refl _) _
  have HG := Lib.hid (And.intro (h.below u0) (And.intro k0 (And.intro u0 (And.intro hU (And.intro hV h.lt)))))
  clear h k0 u0 hU hV
  unfold Ed.agg
  dsimp only
  go_enter Tryz.func65, Tryz.ntmps65
  go_upto_region 1 with (fail)
  generalize w.alloc (.cells #[.string s0, .string s1, .string s2] 39) = W0 at HG ⊢
  have SR := Lib.hid (show ∀ W, Upd F W0 W → W.cell? ⟨w.heap.size, 0, none⟩ = some (.string s0) ∧ W.cell? ⟨w.heap.size, 2, none⟩ = some (.string s2) from fun W hu => by
    have kb := HG.out.2.1.upd hu (fun e => by have := HG.out.2.2.2.2.2 _ e; omega)
    exact ⟨kb.cell 0, kb.cell 2⟩)
  have hS := SR.out W0.drew (Upd.refl _ _).drew
  have HD := Lib.hid (HG.out.1.below (w' := W0.drew) (Below.refl _ _).drew)
  have HU0 := Lib.hid (show Upd F W0 W0.drew from (Upd.refl _ _).drew)
  refine wp_region_ord (fun W => W.cell? ⟨w.heap.size, 0, none⟩ = some (.string s0) ∧ W.cell? ⟨w.heap.size, 2, none⟩ = some (.string s2)) 10 [(0, true), (1, true), (2, true), (4, true), (5, true), (6, true), (3, false), (7, false), (8, true), (9, true)] (by kernel_rfl) (by kernel_rfl) (fun _ _ d _ _ h => by cases d <;> exact h) hS ?_
  generalize W0.drew = W1 at HD HU0 hS ⊢
  iterate 6 (refine ord_take (v := ?_) rfl (by first | with_reducible rfl | kernel_rfl) ?_ ?_; rotate_left; (focus (intro wS hS; (try dsimp only at hS); go_split_ands; go_simp; (try with_reducible rfl); done)); (try simp only [Act.put, List.getElem_toArray, List.getElem_cons_succ, List.getElem_cons_zero, List.setIfInBounds_toArray, List.set_cons_zero, List.set_cons_succ]))
  refine ord_do rfl rfl (fun K hK => ?_)
  go_simp
  refine (node_any W1 F p N U V cnt s0 HD.out hx.1 (by omega)).mono ?_
  rintro e W2 ⟨rfl, F2, g2, u2, n2⟩
  have H2 := Lib.hid (And.intro g2 (And.intro (HU0.out.trans u2 (fun _ h => .inl h)) (show ∀ k, F2 k → F k ∨ W0.heap.size ≤ k from fun k hk => (n2 k hk).imp id fun h => Nat.le_trans HU0.out.size h)))
  clear g2 u2 n2
  refine hK _ _ (fun _ => SR.out _ H2.out.2.1) ?_
  clear hK K hS HD HU0
  (try simp only [Act.put, List.getElem_toArray, List.getElem_cons_succ, List.getElem_cons_zero, List.setIfInBounds_toArray, List.set_cons_zero, List.set_cons_succ])
  refine ord_do rfl rfl (fun K hK => ?_)
  go_simp
  refine (node_any W2 F2 p (addN N s0) U V cnt s2 H2.out.1 hx.2.2 (by have := addN_len N s0; omega)).mono ?_
  rintro e W3 ⟨rfl, F3, g3, u3, n3⟩
  have H3 := Lib.hid (And.intro g3 (And.intro (H2.out.2.1.trans u3 H2.out.2.2) (show ∀ k, F3 k → F k ∨ W0.heap.size ≤ k from fun k hk => by
    rcases n3 k hk with h | h
    · exact H2.out.2.2 k h
    · exact .inr (Nat.le_trans H2.out.2.1.size h))))
  clear g3 u3 n3
  refine hK _ _ (fun _ => SR.out _ H3.out.2.1) ?_
  clear hK K H2
  (try simp only [Act.put, List.getElem_toArray, List.getElem_cons_succ, List.getElem_cons_zero, List.setIfInBounds_toArray, List.set_cons_zero, List.set_cons_succ])
  have hS := SR.out _ H3.out.2.1
  (refine ord_take (v := ?_) rfl (by first | with_reducible rfl | kernel_rfl) ?_ ?_; rotate_left; (focus (intro wS hS; (try dsimp only at hS); go_split_ands; go_simp; (try with_reducible rfl); done)); (try simp only [Act.put, List.getElem_toArray, List.getElem_cons_succ, List.getElem_cons_zero, List.setIfInBounds_toArray, List.set_cons_zero, List.set_cons_succ]))
  (refine ord_take (v := ?_) rfl (by first | with_reducible rfl | kernel_rfl) ?_ ?_; rotate_left; (focus (intro wS hS; (try dsimp only at hS); go_split_ands; go_simp; (try with_reducible rfl); done)); (try simp only [Act.put, List.getElem_toArray, List.getElem_cons_succ, List.getElem_cons_zero, List.setIfInBounds_toArray, List.set_cons_zero, List.set_cons_succ]))
  refine ord_done ?_
  clear hS
  have GX := Lib.hid (show ∀ W, Upd F W0 W → W.cell? ⟨w.heap.size, 1, none⟩ = some (.string s1) from fun W hu => by
    have kb := HG.out.2.1.upd hu (fun e => by have := HG.out.2.2.2.2.2 _ e; omega)
    exact kb.cell 1)
  have hgx := HG.out.2.1.lt
  have hi0 : idxT (addN (addN N s0) s2) s0 = idxT N s0 := by rw [idxT_addN (mem_addN.2 (.inr rfl)), idxT_new]
  have hi2 : idxT (addN (addN N s0) s2) s2 = idxT (addN N s0) s2 := idxT_new _ _
  have hm0 : idxT N s0 < (addN (addN N s0) s2).length := by rw [← hi0]; exact idxT_lt (mem_addN.2 (.inl (mem_addN.2 (.inr rfl))))
  have hm2 : idxT (addN N s0) s2 < (addN (addN N s0) s2).length := by rw [← hi2]; exact idxT_lt (mem_addN.2 (.inr rfl))
  obtain ⟨i, hi⟩ : ∃ u, idxT N s0 = u := ⟨_, rfl⟩
  obtain ⟨j, hj⟩ : ∃ u, idxT (addN N s0) s2 = u := ⟨_, rfl⟩
  have hNl : (addN (addN N s0) s2).length ≤ 1000000 := by have := addN_len N s0; have := addN_len (addN N s0) s2; omega
  unfold EdgeP
  dsimp only
  obtain ⟨M, hM⟩ : ∃ u, addN (addN N s0) s2 = u := ⟨_, rfl⟩
  rw [hM] at hNl hi0 hi2 hm0 hm2 H3 ⊢
  rw [hi] at hi0 hm0 ⊢
  rw [hj] at hi2 hm2 ⊢
  have HI := Lib.hid (And.intro hM (And.intro hi0 hi2))
  clear hi hj hM hi0 hi2
  -- out
  have H5 : Hid (GrAt W3 F3 p M U V cnt ∧ Upd F W0 W3 ∧ ∀ k, F3 k → F k ∨ W0.heap.size ≤ k) := H3
  obtain ⟨O, ⟨r, nv, ov, iv, fo, fi⟩, hg, hFO⟩ := H5.out.1
  obtain ⟨g, c, e, eo, cu, fu⟩ := row_get hg.ro hm0
  dsimp only at e
  subst e
  obtain ⟨A, cA, eA, -, -⟩ := own_form (hg.fo i)
  dsimp only at eA cu
  rw [eA] at cu
  have own0 := hg.fo i
  dsimp only at own0
  rw [eA] at own0
  have hup := HG.out.2.2.2.1 i
  obtain ⟨L, hL⟩ : ∃ L, U i = L := ⟨_, rfl⟩
  obtain ⟨l, hl0⟩ : ∃ l, L.length = l := ⟨_, rfl⟩
  rw [hL] at hup own0 eA cu
  have hcon := put_any W3.drew 0 A cA L ⟨s1, (j : Int)⟩ own0 hup.1 (Nat.zero_le _) (by omega)
  rw [hl0] at hcon eA cu
  unfold Hp.agg at hcon
  dsimp only at hcon
  have q2 : W3.cell? ⟨p, 2, none⟩ = some (.slice (some ⟨g, 0, none⟩) M.length c) := hg.blk.cell 2
  have og : O g = some .o := hg.oo g rfl
  have npg : p ≠ g := fun e => by rw [← e, hg.op] at og; cases og
  have hgx5 : ∀ k, O k ≠ none → ¬ k = w.heap.size := fun k hk e => by
    have h1 := H5.out.2.2 k (by rw [hFO]; exact hk)
    rcases h1 with h1 | h1
    · have := HG.out.2.2.2.2.2 _ h1; omega
    · omega
  have STAY := Lib.hid (show ∀ W, Upd (fun k => (fo i).ownBlock = some k) W3 W → W.cell? ⟨p, 2, none⟩ = some (.slice (some ⟨g, 0, none⟩) M.length c) ∧ W.cell? ⟨g, i, none⟩ = some (.slice A l cA) ∧ W.cell? ⟨w.heap.size, 1, none⟩ = some (.string s1) from fun W hu => by
    have no : ∀ k, (fo i).ownBlock = some k → O k = some (.oo i) := fun k hk => hg.oU i k hk
    refine ⟨(hg.blk.upd hu (fun e => by have := no p e; rw [hg.op] at this; cases this)).cell 2, ?_, ?_⟩
    · rw [← cu]
      exact hu.cell (p := ⟨g, i, none⟩) (hg.lt g (by rw [og]; nofun)) (fun e => by have := no g e; rw [og] at this; cases this)
    · rw [← GX.out _ H5.out.2.1]
      exact hu.cell (p := ⟨w.heap.size, 1, none⟩) (Nat.lt_of_lt_of_le hgx H5.out.2.1.size) (fun e => hgx5 _ (by rw [no _ e]; nofun) rfl))
  have FRO := Lib.hid (show ∀ W, Upd (fun k => (fo i).ownBlock = some k) W3 W → W.frozen? ⟨g, i, none⟩ = false from fun W hu => by
    have no : ∀ k, (fo i).ownBlock = some k → O k = some (.oo i) := fun k hk => hg.oU i k hk
    exact (row_get (ownsRow_upd hg.ro hu (fun k hk e => by
      have h1 := no k e
      rw [hg.oo k hk] at h1
      cases h1)) hm0).elim fun g' h => by
        obtain ⟨c', e1, -, -, h4⟩ := h
        injection e1 with e1
        injection e1 with e1
        injection e1 with e1
        rw [e1]
        exact h4)
  have HGG := Lib.hid (And.intro hg (And.intro hFO (And.intro eA (And.intro hL hl0))))
  have hS := STAY.out W3.drew (Upd.refl _ _).drew
  clear hg hFO eA hL own0 hup og npg hgx5 q2 cu fu eo
  have hml : (i : Int) < (M.length : Int) := by omega
  go_upto_region 2 with (fail)
  refine wp_region_ord (fun W => W.cell? ⟨p, 2, none⟩ = some (.slice (some ⟨g, 0, none⟩) M.length c) ∧ W.cell? ⟨g, i, none⟩ = some (.slice A l cA) ∧ W.cell? ⟨w.heap.size, 1, none⟩ = some (.string s1)) 18 [(0, true), (1, true), (2, true), (3, true), (4, true), (5, true), (6, true), (7, true), (8, true), (9, true), (10, true), (11, true), (12, true), (13, true), (14, true), (15, true), (16, false), (17, true), (18, false)] (by kernel_rfl) (by kernel_rfl) (fun _ _ d _ _ h => by cases d <;> exact h) hS ?_
  have HU5 := Lib.hid (show Upd (fun _ => False) W3 W3.drew from (Upd.refl _ _).drew)
  generalize W3.drew = W4 at HU5 hS hcon ⊢
  iterate 16 (refine ord_take (v := ?_) rfl (by first | with_reducible rfl | kernel_rfl) ?_ ?_; rotate_left; (focus (intro wS hS; (try dsimp only at hS); go_split_ands; go_simp; (try with_reducible rfl); done)); (try simp only [Act.put, List.getElem_toArray, List.getElem_cons_succ, List.getElem_cons_zero, List.setIfInBounds_toArray, List.set_cons_zero, List.set_cons_succ]))
  refine ord_do rfl rfl (fun K hK => ?_)
  go_simp
  refine hcon.mono ?_
  clear hcon hS
  rintro e W6 ⟨A6, c6, rfl, o6, u6, p6⟩
  have u7 : Upd (fun k => (fo i).ownBlock = some k) W3 W6 := (HU5.out.mono (fun _ _ h => h.elim)).trans u6 (fun k hk => .inl (by rw [HGG.out.2.2.1]; exact hk))
  have NX := Lib.hid (HGG.out.1.setO hm0 o6 u7 (fun k hk => (p6 k hk).imp (fun h => by show (fo i).ownBlock = some k; rw [HGG.out.2.2.1]; exact h) (fun h => Nat.le_trans HU5.out.size h)))
  have hS := STAY.out _ u7
  have r6 := hS.2.1
  have f6 := FRO.out _ u7
  clear u6 u7 o6 p6
  refine hK _ _ (fun _ => hS) ?_
  clear hK K
  (try simp only [Act.put, List.getElem_toArray, List.getElem_cons_succ, List.getElem_cons_zero, List.setIfInBounds_toArray, List.set_cons_zero, List.set_cons_succ])
  (refine ord_take (v := ?_) rfl (by first | with_reducible rfl | kernel_rfl) ?_ ?_; rotate_left; (focus (intro wS hS; (try dsimp only at hS); go_split_ands; go_simp; (try with_reducible rfl); done)); (try simp only [Act.put, List.getElem_toArray, List.getElem_cons_succ, List.getElem_cons_zero, List.setIfInBounds_toArray, List.set_cons_zero, List.set_cons_succ]))
  refine ord_do rfl rfl (fun K hK => ?_)
  go_simp
  refine hK _ _ (fun h => absurd rfl h) ?_
  clear hK K hS r6 f6
  (try simp only [Act.put, List.getElem_toArray, List.getElem_cons_succ, List.getElem_cons_zero, List.setIfInBounds_toArray, List.set_cons_zero, List.set_cons_succ])
  refine ord_done ?_
  generalize W6.setCell ⟨g, i, none⟩ _ = W7 at NX ⊢
  have H7 : Hid (∃ F9, GrAt W7 F9 p M (fset U i (putH (U i) ⟨s1, (j : Int)⟩)) V cnt ∧ Upd F W0 W7 ∧ ∀ k, F9 k → F k ∨ W0.heap.size ≤ k) := by
    obtain ⟨F9, g9, u9, n9⟩ := NX.out
    refine Lib.hid ⟨F9, by rw [HGG.out.2.2.2.1]; exact g9, H5.out.2.1.trans u9 (fun k hk => H5.out.2.2 k (by rw [HGG.out.2.1]; exact hk)), fun k hk => ?_⟩
    rcases n9 k hk with h | h
    · exact H5.out.2.2 k (by rw [HGG.out.2.1]; exact h)
    · exact .inr (Nat.le_trans H5.out.2.1.size h)
  clear NX HGG STAY FRO HU5 H5 hml
  clear H3
  obtain ⟨F7, hF7⟩ := H7.out
  have H7b := Lib.hid hF7
  clear hF7 H7
  -- in
  have H5 : Hid (GrAt W7 F7 p M (fset U i (putH (U i) ⟨s1, (j : Int)⟩)) V cnt ∧ Upd F W0 W7 ∧ ∀ k, F7 k → F k ∨ W0.heap.size ≤ k) := H7b
  obtain ⟨O, ⟨r, nv, ov, iv, fo, fi⟩, hg, hFO⟩ := H5.out.1
  obtain ⟨g, c, e, eo, cu, fu⟩ := row_get hg.ri hm2
  dsimp only at e
  subst e
  obtain ⟨A, cA, eA, -, -⟩ := own_form (hg.fi j)
  dsimp only at eA cu
  rw [eA] at cu
  have own0 := hg.fi j
  dsimp only at own0
  rw [eA] at own0
  have hup := HG.out.2.2.2.2.1 j
  obtain ⟨L, hL⟩ : ∃ L, V j = L := ⟨_, rfl⟩
  obtain ⟨l, hl0⟩ : ∃ l, L.length = l := ⟨_, rfl⟩
  rw [hL] at hup own0 eA cu
  have hcon := put_any W7.drew 0 A cA L ⟨s1, (i : Int)⟩ own0 hup.1 (Nat.zero_le _) (by omega)
  rw [hl0] at hcon eA cu
  unfold Hp.agg at hcon
  dsimp only at hcon
  have q2 : W7.cell? ⟨p, 3, none⟩ = some (.slice (some ⟨g, 0, none⟩) M.length c) := hg.blk.cell 3
  have og : O g = some .i := hg.oi g rfl
  have npg : p ≠ g := fun e => by rw [← e, hg.op] at og; cases og
  have hgx5 : ∀ k, O k ≠ none → ¬ k = w.heap.size := fun k hk e => by
    have h1 := H5.out.2.2 k (by rw [hFO]; exact hk)
    rcases h1 with h1 | h1
    · have := HG.out.2.2.2.2.2 _ h1; omega
    · omega
  have STAY := Lib.hid (show ∀ W, Upd (fun k => (fi j).ownBlock = some k) W7 W → W.cell? ⟨p, 3, none⟩ = some (.slice (some ⟨g, 0, none⟩) M.length c) ∧ W.cell? ⟨g, j, none⟩ = some (.slice A l cA) ∧ W.cell? ⟨w.heap.size, 1, none⟩ = some (.string s1) from fun W hu => by
    have no : ∀ k, (fi j).ownBlock = some k → O k = some (.ii j) := fun k hk => hg.oV j k hk
    refine ⟨(hg.blk.upd hu (fun e => by have := no p e; rw [hg.op] at this; cases this)).cell 3, ?_, ?_⟩
    · rw [← cu]
      exact hu.cell (p := ⟨g, j, none⟩) (hg.lt g (by rw [og]; nofun)) (fun e => by have := no g e; rw [og] at this; cases this)
    · rw [← GX.out _ H5.out.2.1]
      exact hu.cell (p := ⟨w.heap.size, 1, none⟩) (Nat.lt_of_lt_of_le hgx H5.out.2.1.size) (fun e => hgx5 _ (by rw [no _ e]; nofun) rfl))
  have FRO := Lib.hid (show ∀ W, Upd (fun k => (fi j).ownBlock = some k) W7 W → W.frozen? ⟨g, j, none⟩ = false from fun W hu => by
    have no : ∀ k, (fi j).ownBlock = some k → O k = some (.ii j) := fun k hk => hg.oV j k hk
    exact (row_get (ownsRow_upd hg.ri hu (fun k hk e => by
      have h1 := no k e
      rw [hg.oi k hk] at h1
      cases h1)) hm2).elim fun g' h => by
        obtain ⟨c', e1, -, -, h4⟩ := h
        injection e1 with e1
        injection e1 with e1
        injection e1 with e1
        rw [e1]
        exact h4)
  have HGG := Lib.hid (And.intro hg (And.intro hFO (And.intro eA (And.intro hL hl0))))
  have hS := STAY.out W7.drew (Upd.refl _ _).drew
  clear hg hFO eA hL own0 hup og npg hgx5 q2 cu fu eo
  have hml : (j : Int) < (M.length : Int) := by omega
  go_upto_region 3 with (fail)
  refine wp_region_ord (fun W => W.cell? ⟨p, 3, none⟩ = some (.slice (some ⟨g, 0, none⟩) M.length c) ∧ W.cell? ⟨g, j, none⟩ = some (.slice A l cA) ∧ W.cell? ⟨w.heap.size, 1, none⟩ = some (.string s1)) 18 [(0, true), (1, true), (2, true), (3, true), (4, true), (5, true), (6, true), (7, true), (8, true), (9, true), (10, true), (11, true), (12, true), (13, true), (14, true), (15, true), (16, false), (17, true), (18, false)] (by kernel_rfl) (by kernel_rfl) (fun _ _ d _ _ h => by cases d <;> exact h) hS ?_
  have HU5 := Lib.hid (show Upd (fun _ => False) W7 W7.drew from (Upd.refl _ _).drew)
  generalize W7.drew = W4 at HU5 hS hcon ⊢
  iterate 16 (refine ord_take (v := ?_) rfl (by first | with_reducible rfl | kernel_rfl) ?_ ?_; rotate_left; (focus (intro wS hS; (try dsimp only at hS); go_split_ands; go_simp; (try with_reducible rfl); done)); (try simp only [Act.put, List.getElem_toArray, List.getElem_cons_succ, List.getElem_cons_zero, List.setIfInBounds_toArray, List.set_cons_zero, List.set_cons_succ]))
  refine ord_do rfl rfl (fun K hK => ?_)
  go_simp
  refine hcon.mono ?_
  clear hcon hS
  rintro e W6 ⟨A6, c6, rfl, o6, u6, p6⟩
  have u7 : Upd (fun k => (fi j).ownBlock = some k) W7 W6 := (HU5.out.mono (fun _ _ h => h.elim)).trans u6 (fun k hk => .inl (by rw [HGG.out.2.2.1]; exact hk))
  have NX := Lib.hid (HGG.out.1.setI hm2 o6 u7 (fun k hk => (p6 k hk).imp (fun h => by show (fi j).ownBlock = some k; rw [HGG.out.2.2.1]; exact h) (fun h => Nat.le_trans HU5.out.size h)))
  have hS := STAY.out _ u7
  have r6 := hS.2.1
  have f6 := FRO.out _ u7
  clear u6 u7 o6 p6
  refine hK _ _ (fun _ => hS) ?_
  clear hK K
  (try simp only [Act.put, List.getElem_toArray, List.getElem_cons_succ, List.getElem_cons_zero, List.setIfInBounds_toArray, List.set_cons_zero, List.set_cons_succ])
  (refine ord_take (v := ?_) rfl (by first | with_reducible rfl | kernel_rfl) ?_ ?_; rotate_left; (focus (intro wS hS; (try dsimp only at hS); go_split_ands; go_simp; (try with_reducible rfl); done)); (try simp only [Act.put, List.getElem_toArray, List.getElem_cons_succ, List.getElem_cons_zero, List.setIfInBounds_toArray, List.set_cons_zero, List.set_cons_succ]))
  refine ord_do rfl rfl (fun K hK => ?_)
  go_simp
  refine hK _ _ (fun h => absurd rfl h) ?_
  clear hK K hS r6 f6
  (try simp only [Act.put, List.getElem_toArray, List.getElem_cons_succ, List.getElem_cons_zero, List.setIfInBounds_toArray, List.set_cons_zero, List.set_cons_succ])
  refine ord_done ?_
  generalize W6.setCell ⟨g, j, none⟩ _ = W9 at NX ⊢
  have H9 : Hid (∃ F9, GrAt W9 F9 p M (fset U i (putH (U i) ⟨s1, (j : Int)⟩)) (fset V j (putH (V j) ⟨s1, (i : Int)⟩)) cnt ∧ Upd F W0 W9 ∧ ∀ k, F9 k → F k ∨ W0.heap.size ≤ k) := by
    obtain ⟨F9, g9, u9, n9⟩ := NX.out
    refine Lib.hid ⟨F9, by rw [HGG.out.2.2.2.1]; exact g9, H5.out.2.1.trans u9 (fun k hk => H5.out.2.2 k (by rw [HGG.out.2.1]; exact hk)), fun k hk => ?_⟩
    rcases n9 k hk with h | h
    · exact H5.out.2.2 k (by rw [HGG.out.2.1]; exact h)
    · exact .inr (Nat.le_trans H5.out.2.1.size h)
  clear NX HGG STAY FRO HU5 H5 hml
  clear H7b
  obtain ⟨F9, hF9⟩ := H9.out
  obtain ⟨O, D, hg, hFO⟩ := hF9.1
  have q4 : W9.cell? ⟨p, 4, none⟩ = some (.int .i64 cnt) := hg.blk.cell 4
  have f4 : W9.frozen? ⟨p, 4, none⟩ = false := hg.blk.frozen 4
  have hw : IntKind.i64.wrap (cnt + 1) = cnt + 1 := by rw [IntKind.wrap_i64]; omega
  have NX := Lib.hid (hg.setC (cnt + 1))
  have HF := Lib.hid (And.intro hF9 hFO)
  clear hF9 hFO hg H9
  go_wp2
  generalize W9.setCell ⟨p, 4, none⟩ (.int .i64 (cnt + 1)) = WZ at NX ⊢
  go_end0
  refine ⟨rfl, ?_⟩
  unfold hopsU hopsV
  dsimp only
  rw [HI.out.1, HI.out.2.1, HI.out.2.2]
  obtain ⟨FZ, gz, uz, nz⟩ := NX.out
  refine ⟨FZ, gz, ?_, ?_⟩
  · exact ((Upd.of_below HG.out.2.2.1 F).trans HF.out.1.2.1 (fun k h => .inl h)).trans uz (fun k hk => (HF.out.1.2.2 k (by rw [HF.out.2]; exact hk)).imp id fun h => Nat.le_trans HG.out.2.2.1.size h)
  · intro k hk
    have hw0 := HG.out.2.2.1.size
    rcases nz k hk with h | h
    · exact (HF.out.1.2.2 k (by rw [HF.out.2]; exact h)).imp id fun h => Nat.le_trans hw0 h
    · exact .inr (Nat.le_trans hw0 (Nat.le_trans HF.out.1.2.1.size h))
end Go.Proofs.YthmkgnifcbnkpaaGreat
