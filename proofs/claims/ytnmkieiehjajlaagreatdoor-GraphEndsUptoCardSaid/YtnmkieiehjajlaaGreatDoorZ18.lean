/- Graphs: hops held one against the other; where a hop stands in a rising list; Graphs: where a hop stands in a rising list (slices.BinarySearchFunc). -/
import Derived.Test.YtnmkieiehjajlaaGreatDoorZ12
import Derived.Shelf.Abstract
set_option linter.unusedVariables false
set_option linter.unusedSimpArgs false
namespace Go.Proofs.YtnmkieiehjajlaaGreatDoor
open Go.RowKit

/-- A hop: a label and a node's number. -/
structure Hp where
  lb : Txt
  nd : Int
deriving DecidableEq
def Hp.cells (x : Hp) : List Value := [.string x.lb, .int .i64 x.nd]
def Hp.agg (x : Hp) : Value := .agg #[.string x.lb, .int .i64 x.nd]
def cmpI (a b : Int) : Int := if a < b then -1 else if b < a then 1 else 0
def or2 (a b : Int) : Int := if a ≠ 0 then a else b
def cmpH (x y : Hp) : Int := or2 (cmpT x.lb y.lb) (cmpI x.nd y.nd)
def ltH (x y : Hp) : Bool := if x.lb = y.lb then decide (x.nd < y.nd) else ltT x.lb y.lb
theorem cmpI_zero {a b : Int} : cmpI a b = 0 ↔ a = b := by
  unfold cmpI
  split
  · constructor
    · intro h; cases h
    · rintro rfl; omega
  · split
    · constructor
      · intro h; cases h
      · rintro rfl; omega
    · constructor
      · intro _; omega
      · intro _; rfl
theorem cmpI_lt (a b : Int) : decide (cmpI a b < 0) = decide (a < b) := by
  unfold cmpI
  by_cases h : a < b
  · rw [if_pos h, decide_eq_true h]; rfl
  · rw [if_neg h, decide_eq_false h]
    split <;> rfl
theorem cmpH_lt (x y : Hp) : decide (cmpH x y < 0) = ltH x y := by
  unfold cmpH or2 ltH
  by_cases h : x.lb = y.lb
  · rw [if_neg (by simp [cmpT_zero, h]), if_pos h]
    exact cmpI_lt _ _
  · rw [if_pos (by simpa [cmpT_zero] using h), if_neg h]
    exact cmpT_lt _ _
theorem cmpH_zero {x y : Hp} : cmpH x y = 0 ↔ x = y := by
  obtain ⟨a, n⟩ := x
  obtain ⟨b, m⟩ := y
  unfold cmpH or2
  dsimp only
  by_cases h : cmpT a b = 0
  · rw [if_neg (by simpa using h), cmpI_zero]
    rw [cmpT_zero] at h
    subst h
    simp
  · rw [if_pos h]
    constructor
    · intro h2; exact (h h2).elim
    · intro h2
      injection h2 with h2 h3
      exact (h (cmpT_zero.2 h2)).elim
theorem stoH : Sto ltH where
  irr := fun a => by simp [ltH]
  tr := fun a b c h k => by
    unfold ltH at h k ⊢
    by_cases h1 : a.lb = b.lb
    · rw [if_pos h1] at h
      by_cases h2 : b.lb = c.lb
      · rw [if_pos h2] at k
        rw [if_pos (h1.trans h2)]
        simp at h k ⊢
        omega
      · rw [if_neg h2] at k
        rw [if_neg (by rw [h1]; exact h2), h1]
        exact k
    · rw [if_neg h1] at h
      by_cases h2 : b.lb = c.lb
      · rw [if_neg (by rw [← h2]; exact h1), ← h2]
        exact h
      · rw [if_neg h2] at k
        have h3 := stoT.tr _ _ _ h k
        rw [if_neg (stoT.ne h3)]
        exact h3
  tri := fun a b h k => by
    obtain ⟨s, n⟩ := a
    obtain ⟨t, m⟩ := b
    unfold ltH at h k
    dsimp only at h k
    by_cases h1 : s = t
    · subst h1
      simp at h k
      have : n = m := by omega
      rw [this]
    · rw [if_neg h1] at h
      rw [if_neg (fun e => h1 e.symm)] at k
      exact (h1 (stoT.tri _ _ h k)).elim

set_option maxHeartbeats 1000000 in
set_option maxRecDepth 100000 in
theorem isnan_any (x : Int) (w : World) : Calls Tryz.prog 122 #[.int .i64 x] w (Only w (.bool false)) := by
  go_enter Tryz.func122, Tryz.ntmps122
  go_wp2
  go_ret
  exact ⟨by simp, rfl⟩
set_option maxHeartbeats 1000000 in
set_option maxRecDepth 100000 in
theorem cmpI_any (x y : Int) (w : World) : Calls Tryz.prog 83 #[.int .i64 x, .int .i64 y] w (Only w (.int .i64 (cmpI x y))) := by
  obtain ⟨r, hr⟩ : ∃ r, cmpI x y = r := ⟨_, rfl⟩
  rw [hr]
  have HR := Lib.hid hr
  clear hr
  go_enter Tryz.func83, Tryz.ntmps83
  go_wp2_with fail
  refine (isnan_any x w).mono ?_
  rintro e w' ⟨rfl, hw⟩
  subst w'
  go_wp2_with fail
  refine (isnan_any y w).mono ?_
  rintro e w' ⟨rfl, hw⟩
  subst w'
  by_cases h1 : x < y
  · have HE := Lib.hid (show (-1 : Int) = r by rw [← HR.out, cmpI, if_pos h1])
    go_wp2
    go_ret
    exact ⟨by rw [← HE.out]; rfl, rfl⟩
  by_cases h2 : y < x
  · have HE := Lib.hid (show (1 : Int) = r by rw [← HR.out, cmpI, if_neg h1, if_pos h2])
    go_wp2
    go_ret
    exact ⟨by rw [← HE.out]; rfl, rfl⟩
  · have HE := Lib.hid (show (0 : Int) = r by rw [← HR.out, cmpI, if_neg h1, if_neg h2])
    go_wp2
    go_ret
    exact ⟨by rw [← HE.out]; rfl, rfl⟩
set_option maxHeartbeats 1000000 in
set_option maxRecDepth 100000 in
theorem or2_any (w : World) (g : Nat) (a b : Int) (h : Blk w g 3 #[.int .i64 a, .int .i64 b]) :
    Calls Tryz.prog 81 #[.slice (some ⟨g, 0, none⟩) 2 2] w (Only w (.int .i64 (or2 a b))) := by
  have key : ∀ x, or2 a b = x → Calls Tryz.prog 81 #[.slice (some ⟨g, 0, none⟩) 2 2] w (Only w (.int .i64 x)) := by
    intro x hx
    have c0 : w.cell? ⟨g, 0, none⟩ = some (.int .i64 a) := h.cell 0
    have c1 : w.cell? ⟨g, 1, none⟩ = some (.int .i64 b) := h.cell 1
    clear h
    have HX := Lib.hid hx
    clear hx
    go_enter Tryz.func81, Tryz.ntmps81
    go_wp2_with fail
    go_loop [5, 8] (fun _ i => ∃ k : Nat, k ≤ 2 ∧ i = .int .i64 k ∧ Hid ((1 ≤ k → a = 0) ∧ (2 ≤ k → b = 0))) (fun _ i => 2 - (intOf i).toNat)
    case atStart => exact ⟨0, by omega, rfl, Lib.hid ⟨by omega, by omega⟩⟩
    case round =>
      obtain ⟨k, hk, rfl, hz⟩ := hrel
      have hk4 : k = 0 ∨ k = 1 ∨ k = 2 := by omega
      rcases hk4 with rfl | rfl | rfl
      · by_cases ha : a = 0
        · have HA := Lib.hid ha
          have e : (a == 0) = true := by simpa using ha
          go_wp2
          go_round
          case rel => exact ⟨1, by omega, rfl, Lib.hid ⟨fun _ => HA.out, by omega⟩⟩
          case measure => simp [intOf]
        · have HA := Lib.hid ha
          go_wp2
          go_ret
          refine ⟨?_, rfl⟩
          rw [← HX.out, or2, if_pos HA.out]
          rfl
      · by_cases ha : b = 0
        · have HA := Lib.hid ha
          go_wp2
          go_round
          case rel => exact ⟨2, by omega, rfl, Lib.hid ⟨fun _ => hz.out.1 (by omega), fun _ => HA.out⟩⟩
          case measure => simp [intOf]
        · have HA := Lib.hid ha
          go_wp2
          go_ret
          refine ⟨?_, rfl⟩
          rw [← HX.out, or2, if_neg (by simp [hz.out.1 (by omega)])]
          rfl
      · go_wp2
        go_ret
        refine ⟨?_, rfl⟩
        rw [← HX.out, or2, if_neg (by simp [hz.out.1 (by omega)]), hz.out.2 (by omega)]
        rfl
  exact key _ rfl
set_option maxHeartbeats 2000000 in
set_option maxRecDepth 100000 in
theorem order_hop (x y : Hp) (w : World) : Calls Tryz.prog 45 #[x.agg, y.agg] w (Sam w (.int .i64 (cmpH x y))) := by
  obtain ⟨a0, a1⟩ := x
  obtain ⟨b0, b1⟩ := y
  unfold cmpH
  dsimp only
  obtain ⟨v0, e0⟩ : ∃ v, cmpT a0 b0 = v := ⟨_, rfl⟩
  obtain ⟨v1, e1⟩ : ∃ v, cmpI a1 b1 = v := ⟨_, rfl⟩
  have H0 := fun W => compare_any a0 b0 W
  have H1 := fun W => cmpI_any a1 b1 W
  rw [e0] at H0 ⊢
  rw [e1] at H1 ⊢
  clear e0 e1
  have k0 := (Blk.new w 36 #[.string a0, .int .i64 a1]).alloc (.cells #[.string b0, .int .i64 b1] 36)
  have k1 := Blk.new (w.alloc (.cells #[.string a0, .int .i64 a1] 36)) 36 #[.string b0, .int .i64 b1]
  simp only [World.size_alloc] at k1
  have bb : Below w.heap.size w ((w.alloc (.cells #[.string a0, .int .i64 a1] 36)).alloc (.cells #[.string b0, .int .i64 b1] 36)) := by (repeat (first | exact Below.refl _ _ | apply Below.drew | refine Below.alloc ?_ (by first | exact Nat.le_refl _ | (simp; done) | (simp; omega)) _ | refine Below.setCell ?_ (by first | exact Nat.le_refl _ | (simp; done) | (simp; omega)) _))
  have HK := Lib.hid (And.intro k0 (And.intro k1 bb))
  clear k0 k1 bb
  unfold Hp.agg
  dsimp only
  go_enter Tryz.func45, Tryz.ntmps45
  go_upto_region 1 with (fail)
  generalize (w.alloc (.cells #[.string a0, .int .i64 a1] 36)).alloc (.cells #[.string b0, .int .i64 b1] 36) = W0 at HK ⊢
  have UP := Lib.hid (show ∀ W, Below W0.heap.size W0 W → W.cell? ⟨w.heap.size, 0, none⟩ = some (.string a0) ∧ W.cell? ⟨w.heap.size, 1, none⟩ = some (.int .i64 a1) ∧ W.cell? ⟨w.heap.size + 1, 0, none⟩ = some (.string b0) ∧ W.cell? ⟨w.heap.size + 1, 1, none⟩ = some (.int .i64 b1) from fun W hb => by
    have u := Upd.of_below hb (fun _ => False)
    have h1 := HK.out.1.upd u id
    have h2 := HK.out.2.1.upd u id
    exact ⟨h1.cell 0, h1.cell 1, h2.cell 0, h2.cell 1⟩)
  have HB0 := Lib.hid (show Below W0.heap.size W0 W0.drew from (Below.refl _ _).drew)
  have hS := UP.out _ HB0.out
  refine wp_region_ord (fun W => W.cell? ⟨w.heap.size, 0, none⟩ = some (.string a0) ∧ W.cell? ⟨w.heap.size, 1, none⟩ = some (.int .i64 a1) ∧ W.cell? ⟨w.heap.size + 1, 0, none⟩ = some (.string b0) ∧ W.cell? ⟨w.heap.size + 1, 1, none⟩ = some (.int .i64 b1)) 13 [(0, true), (1, true), (2, true), (3, true), (5, true), (6, true), (7, true), (8, true), (4, false), (9, false), (10, false), (11, false), (12, true)] (by kernel_rfl) (by kernel_rfl) (fun _ _ d _ _ h => by cases d <;> exact h) hS ?_
  generalize W0.drew = W1 at HB0 hS ⊢
  iterate 8 (refine ord_take (v := ?_) rfl (by first | with_reducible rfl | kernel_rfl) ?_ ?_; rotate_left; (focus (intro wS hS; (try dsimp only at hS); go_split_ands; go_simp; (try with_reducible rfl); done)); (try simp only [Act.put, List.getElem_toArray, List.getElem_cons_succ, List.getElem_cons_zero, List.setIfInBounds_toArray, List.set_cons_zero, List.set_cons_succ]))
  refine ord_do rfl rfl (fun K hK => ?_)
  go_simp
  refine (H0 _).mono ?_
  rintro e w1 ⟨rfl, hw⟩
  subst w1
  refine hK _ _ (fun _ => hS) ?_
  clear hK K
  (try simp only [Act.put, List.getElem_toArray, List.getElem_cons_succ, List.getElem_cons_zero, List.setIfInBounds_toArray, List.set_cons_zero, List.set_cons_succ])
  refine ord_do rfl rfl (fun K hK => ?_)
  go_simp
  refine (H1 _).mono ?_
  rintro e w1 ⟨rfl, hw⟩
  subst w1
  refine hK _ _ (fun _ => hS) ?_
  clear hK K
  (try simp only [Act.put, List.getElem_toArray, List.getElem_cons_succ, List.getElem_cons_zero, List.setIfInBounds_toArray, List.set_cons_zero, List.set_cons_succ])
  have kA := Blk.new W1 3 #[.int .i64 v0, .int .i64 v1]
  have bA := HB0.out.alloc HB0.out.size (.cells #[.int .i64 v0, .int .i64 v1] 3)
  have HA := Lib.hid (And.intro (or2_any _ _ v0 v1 kA) bA)
  clear kA bA
  refine ord_do rfl rfl (fun K hK => ?_)
  go_simp
  refine hK _ _ (fun _ => UP.out _ HA.out.2) ?_
  clear hK K
  (try simp only [Act.put, List.getElem_toArray, List.getElem_cons_succ, List.getElem_cons_zero, List.setIfInBounds_toArray, List.set_cons_zero, List.set_cons_succ])
  generalize W1.alloc (.cells #[.int .i64 v0, .int .i64 v1] 3) = W2 at HA ⊢
  refine ord_do rfl rfl (fun K hK => ?_)
  go_simp
  refine HA.out.1.mono ?_
  rintro e w1 ⟨rfl, hw⟩
  subst w1
  have FIN := Lib.hid (HK.out.2.2.trans (HA.out.2.mono HK.out.2.2.size))
  refine hK _ _ (fun _ => UP.out _ HA.out.2) ?_
  clear hK K
  (try simp only [Act.put, List.getElem_toArray, List.getElem_cons_succ, List.getElem_cons_zero, List.setIfInBounds_toArray, List.set_cons_zero, List.set_cons_succ])
  (refine ord_take (v := ?_) rfl (by first | with_reducible rfl | kernel_rfl) ?_ ?_; rotate_left; (focus (intro wS hS; (try dsimp only at hS); go_split_ands; go_simp; (try with_reducible rfl); done)); (try simp only [Act.put, List.getElem_toArray, List.getElem_cons_succ, List.getElem_cons_zero, List.setIfInBounds_toArray, List.set_cons_zero, List.set_cons_succ]))
  refine ord_done ?_
  go_wp2
  go_ret
  exact ⟨rfl, FIN.out⟩

def hpCells (L : List Hp) : List Value := L.flatMap Hp.cells
theorem hpCells_len (L : List Hp) : (hpCells L).length = L.length * 2 := flat_len Hp.cells 2 (fun _ => rfl) L
theorem one_hp (E : List Hp) : ∀ u ∈ hpCells E, u.oneCell' = true := by
  intro u hu
  obtain ⟨x, _, hx⟩ := List.mem_flatMap.1 hu
  simp [Hp.cells] at hx
  rcases hx with rfl | rfl <;> rfl
theorem info_hop : (Tryz.prog.info? 36).map (fun i => (i.zero, i.size, i.bytes)) = some (some (.agg #[.string ByteArray.empty, .int .i64 0]), 2, 24) := by kernel_rfl
theorem RowR.hp {w : World} {B : Option Addr} {L : List Hp} (h : RowR w B (hpCells L)) {k : Nat} {x : Hp} (hk : L[k]? = some x) :
    ∃ b o, B = some ⟨b, o, none⟩ ∧ w.cell? ⟨b, o + k * 2, none⟩ = some (.string x.lb) ∧ w.cell? ⟨b, o + k * 2 + 1, none⟩ = some (.int .i64 x.nd) := by
  have g := fun j hj => flat_get Hp.cells 2 (fun _ => rfl) L k j x hk hj
  obtain ⟨b, o, e, y0⟩ := h (k * 2 + 0) _ (g 0 (by decide))
  obtain ⟨b1, o1, e1, y1⟩ := h (k * 2 + 1) _ (g 1 (by decide))
  rw [e] at e1
  injection e1 with e1
  injection e1 with e3 e4
  subst e3; subst e4
  exact ⟨b, o, e, y0, by rw [Nat.add_assoc]; exact y1⟩
end Go.Proofs.YtnmkieiehjajlaaGreatDoor
namespace Go.Proofs.YtnmkieiehjajlaaGreatDoor
open Go.RowKit

/-- How many stand ahead of it. -/
def posH (L : List Hp) (h : Hp) : Nat := L.countP fun x => ltH x h
theorem posH_le (L : List Hp) (h : Hp) : posH L h ≤ L.length := List.countP_le_length
theorem posH_at {L : List Hp} {h : Hp} (_hup : Rises ltH L) {i : Nat} (hi : i ≤ L.length) (h1 : ∀ k x, k < i → L[k]? = some x → ltH x h = true) (h2 : ∀ k x, i ≤ k → L[k]? = some x → ltH x h = false) : posH L h = i := by
  have e : posH L h = (L.take i).countP (fun x => ltH x h) + (L.drop i).countP (fun x => ltH x h) := by
    unfold posH
    rw [← List.countP_append, List.take_append_drop]
  have a : (L.take i).countP (fun x => ltH x h) = (L.take i).length := by
    rw [List.countP_eq_length]
    intro x hx
    obtain ⟨k, hk, rfl⟩ := List.getElem_of_mem hx
    rw [List.length_take] at hk
    exact h1 k _ (by omega) (by rw [List.getElem_take, List.getElem?_eq_getElem])
  have b : (L.drop i).countP (fun x => ltH x h) = 0 := by
    rw [List.countP_eq_zero]
    intro x hx
    obtain ⟨k, hk, rfl⟩ := List.getElem_of_mem hx
    rw [List.length_drop] at hk
    rw [h2 (i + k) _ (by omega) (by rw [List.getElem_drop, List.getElem?_eq_getElem])]
    simp
  rw [e, a, b, List.length_take]
  omega
theorem rise_at {L : List Hp} (hup : Rises ltH L) {i j : Nat} {x y : Hp} (hx : L[i]? = some x) (hy : L[j]? = some y) (hij : i < j) : ltH x y = true := by
  obtain ⟨h1, e1⟩ := List.getElem?_eq_some_iff.1 hx
  obtain ⟨h2, e2⟩ := List.getElem?_eq_some_iff.1 hy
  have := (List.pairwise_iff_getElem.1 hup) i j h1 h2 hij
  rwa [e1, e2] at this
set_option maxHeartbeats 2000000 in
set_option maxRecDepth 100000 in
theorem bsf_any (w : World) (A : Option Addr) (c : Nat) (L : List Hp) (h : Hp) (hr : RowR w A (hpCells L)) (hup : Rises ltH L) (hl : L.length * 24 ≤ 140737488355328) :
    Calls Tryz.prog 44 #[.slice A L.length c, h.agg, .func (.func 45) #[] #[]] w (Sam w (.tuple #[.int .i64 (posH L h), .bool (decide (h ∈ L))])) := by
  obtain ⟨s0, s1⟩ := h
  obtain ⟨r, hr0⟩ : ∃ r, posH L ⟨s0, s1⟩ = r := ⟨_, rfl⟩
  obtain ⟨b, hb0⟩ : ∃ r, decide ((⟨s0, s1⟩ : Hp) ∈ L) = r := ⟨_, rfl⟩
  rw [hr0, hb0]
  obtain ⟨n, hn⟩ : ∃ n, L.length = n := ⟨_, rfl⟩
  rw [hn] at hl ⊢
  have k0 := Blk.new w 36 #[.string s0, .int .i64 s1]
  have u0 : Below w.heap.size w (w.alloc (.cells #[.string s0, .int .i64 s1] 36)) := (Below.refl _ _).alloc (Nat.le_refl _) _
  have H := Lib.hid (And.intro (hr.below u0) (And.intro k0 (And.intro u0 (And.intro hup (And.intro hn (And.intro hr0 hb0))))))
  clear hr k0 u0 hup hn hr0 hb0
  have eg : ∀ args w, (callFunc 45 args).run Tryz.prog w = .ok (.enter 45 args) w := Go.Proofs.enters_of Tryz.func45 (by kernel_rfl) rfl
  unfold Hp.agg
  dsimp only
  go_enter Tryz.func44, Tryz.ntmps44
  go_upto_region 1 with (fail)
  generalize w.alloc (.cells #[.string s0, .int .i64 s1] 36) = W0 at H ⊢
  go_wp2_with fail
  go_loopw [9, 10, 11] (fun lo hi _ wr => ∃ i j : Nat, i ≤ j ∧ j ≤ n ∧ lo = .int .i64 i ∧ hi = .int .i64 j ∧ Hid (Below W0.heap.size W0 wr) ∧ Hid ((∀ k x, k < i → L[k]? = some x → ltH x ⟨s0, s1⟩ = true) ∧ ∀ k x, j ≤ k → L[k]? = some x → ltH x ⟨s0, s1⟩ = false)) (fun lo hi _ _ => (intOf hi).toNat - (intOf lo).toNat)
  case atStart => exact ⟨0, n, Nat.zero_le _, Nat.le_refl _, rfl, rfl, Lib.hid (Below.refl _ _), Lib.hid ⟨fun k x hk => by omega, fun k x hk hx => by have := (List.getElem?_eq_some_iff.1 hx).1; have := H.out.2.2.2.2.1; omega⟩⟩
  case round =>
    obtain ⟨i, j, hij, hjn, rfl, rfl, hbw, hs⟩ := hrel
    by_cases hlt : i < j
    · have hltI : (i : Int) < (j : Int) := by omega
      obtain ⟨k, hk⟩ : ∃ k, (i + j) / 2 = k := ⟨_, rfl⟩
      have hq : ((i : Int) + (j : Int)) / 2 = (k : Int) := by rw [← hk]; omega
      have hkj : k < j := by omega
      have hik : i ≤ k := by omega
      have hkn : k < n := by omega
      have hknI : (k : Int) < (n : Int) := by omega
      have hw2 : IntKind.i64.wrap ((k : Int) + 1) = (k : Int) + 1 := IntWalk.i64_in _ (by omega)
      obtain ⟨⟨x0, x1⟩, hx⟩ : ∃ x, L[k]? = some x := ⟨L[k]'(by rw [H.out.2.2.2.2.1]; exact hkn), List.getElem?_eq_getElem _⟩
      obtain ⟨ab, ao, rfl, y0, y1⟩ := (H.out.1.below hbw.out).hp hx
      dsimp only at y0 y1
      obtain ⟨v, hv⟩ : ∃ v, cmpH ⟨x0, x1⟩ ⟨s0, s1⟩ = v := ⟨_, rfl⟩
      have hcon := fun W => order_hop ⟨x0, x1⟩ ⟨s0, s1⟩ W
      rw [hv] at hcon
      unfold Hp.agg at hcon
      dsimp only at hcon
      have hlt2 := cmpH_lt ⟨x0, x1⟩ ⟨s0, s1⟩
      rw [hv] at hlt2
      have HX := Lib.hid (And.intro hx hlt2)
      have HC := Lib.hid hcon
      have SR := Lib.hid (show ∀ W, Below W0.heap.size W0 W → W.cell? ⟨w.heap.size, 0, none⟩ = some (.string s0) ∧ W.cell? ⟨w.heap.size, 1, none⟩ = some (.int .i64 s1) ∧ W.cell? ⟨ab, ao + k * 2, none⟩ = some (.string x0) ∧ W.cell? ⟨ab, ao + k * 2 + 1, none⟩ = some (.int .i64 x1) from fun W hb => by
        have kb := H.out.2.1.upd (Upd.of_below hb (fun _ => False)) id
        obtain ⟨b', o', e, z0, z1⟩ := (H.out.1.below hb).hp HX.out.1
        injection e with e
        injection e with e1 e2
        subst e1; subst e2
        exact ⟨kb.cell 0, kb.cell 1, z0, z1⟩)
      have hS := SR.out _ hbw.out.drew
      clear hx hlt2 hcon hv hk y0 y1
      go_upto_region 5 with (fail)
      refine wp_region_ord (fun W => W.cell? ⟨w.heap.size, 0, none⟩ = some (.string s0) ∧ W.cell? ⟨w.heap.size, 1, none⟩ = some (.int .i64 s1) ∧ W.cell? ⟨ab, ao + k * 2, none⟩ = some (.string x0) ∧ W.cell? ⟨ab, ao + k * 2 + 1, none⟩ = some (.int .i64 x1)) 8 [(0, true), (1, true), (2, true), (3, true), (4, true), (5, true), (6, false), (7, true)] (by kernel_rfl) (by kernel_rfl) (fun _ _ d _ _ h => by cases d <;> exact h) hS ?_
      iterate 6 (refine ord_take (v := ?_) rfl (by first | with_reducible rfl | kernel_rfl) ?_ ?_; rotate_left; (focus (intro wS hS; (try dsimp only at hS); go_split_ands; go_simp; (try with_reducible rfl); done)); (try simp only [Act.put, List.getElem_toArray, List.getElem_cons_succ, List.getElem_cons_zero, List.setIfInBounds_toArray, List.set_cons_zero, List.set_cons_succ]))
      refine ord_do rfl rfl (fun K hK => ?_)
      go_simp
      refine (HC.out wr.drew).mono ?_
      rintro e W5 ⟨rfl, b5⟩
      have HB5 := Lib.hid (hbw.out.drew.trans (b5.mono hbw.out.size))
      refine hK _ _ (fun _ => SR.out _ HB5.out) ?_
      clear hK K hS b5
      (try simp only [Act.put, List.getElem_toArray, List.getElem_cons_succ, List.getElem_cons_zero, List.setIfInBounds_toArray, List.set_cons_zero, List.set_cons_succ])
      by_cases hv0 : v < 0
      · have hlx : ltH ⟨x0, x1⟩ ⟨s0, s1⟩ = true := by rw [← HX.out.2]; simpa using hv0
        have HL := Lib.hid hlx
        clear hlx
        (refine ord_take (v := ?_) rfl (by first | with_reducible rfl | kernel_rfl) ?_ ?_; rotate_left; (focus (intro wS hS; (try dsimp only at hS); go_split_ands; go_simp; (try with_reducible rfl); done)); (try simp only [Act.put, List.getElem_toArray, List.getElem_cons_succ, List.getElem_cons_zero, List.setIfInBounds_toArray, List.set_cons_zero, List.set_cons_succ]))
        refine ord_done ?_
        go_wp2
        go_roundw
        case rel => exact ⟨k + 1, j, by omega, hjn, by go_num, rfl, HB5, Lib.hid ⟨fun k' x' hk' hx' => by
            rcases Nat.lt_succ_iff_lt_or_eq.1 hk' with h | rfl
            · exact stoH.tr _ _ _ (rise_at H.out.2.2.2.1 hx' HX.out.1 h) HL.out
            · rw [HX.out.1] at hx'
              injection hx' with e
              rw [← e]
              exact HL.out, hs.out.2⟩⟩
        case measure => simp [intOf]; omega
      · have hlx : ltH ⟨x0, x1⟩ ⟨s0, s1⟩ = false := by rw [← HX.out.2]; simpa using hv0
        have HL := Lib.hid hlx
        clear hlx
        (refine ord_take (v := ?_) rfl (by first | with_reducible rfl | kernel_rfl) ?_ ?_; rotate_left; (focus (intro wS hS; (try dsimp only at hS); go_split_ands; go_simp; (try with_reducible rfl); done)); (try simp only [Act.put, List.getElem_toArray, List.getElem_cons_succ, List.getElem_cons_zero, List.setIfInBounds_toArray, List.set_cons_zero, List.set_cons_succ]))
        refine ord_done ?_
        go_wp2
        go_roundw
        case rel => exact ⟨i, k, hik, by omega, rfl, rfl, HB5, Lib.hid ⟨hs.out.1, fun k' x' hk' hx' => by
            rcases Nat.lt_or_eq_of_le hk' with h | rfl
            · cases e : ltH x' ⟨s0, s1⟩
              · rfl
              · have := stoH.tr _ _ _ (rise_at H.out.2.2.2.1 HX.out.1 hx' h) e
                rw [HL.out] at this
                cases this
            · rw [HX.out.1] at hx'
              injection hx' with e
              rw [← e]
              exact HL.out⟩⟩
        case measure => simp [intOf]; omega
    · obtain rfl : i = j := by omega
      have hri : r = i := by
        rw [← H.out.2.2.2.2.2.1]
        exact posH_at H.out.2.2.2.1 (by rw [H.out.2.2.2.2.1]; exact hjn) hs.out.1 hs.out.2
      subst hri
      obtain ⟨W2, hW2⟩ : ∃ W, W = wr := ⟨_, rfl⟩
      subst hW2
      by_cases hin : r < n
      · have hinI : (r : Int) < (n : Int) := by omega
        obtain ⟨⟨x0, x1⟩, hx⟩ : ∃ x, L[r]? = some x := ⟨L[r]'(by rw [H.out.2.2.2.2.1]; exact hin), List.getElem?_eq_getElem _⟩
        obtain ⟨ab, ao, rfl, -, -⟩ := (H.out.1.below hbw.out).hp hx
        obtain ⟨v, hv⟩ : ∃ v, cmpH ⟨x0, x1⟩ ⟨s0, s1⟩ = v := ⟨_, rfl⟩
        have hcon := fun W => order_hop ⟨x0, x1⟩ ⟨s0, s1⟩ W
        rw [hv] at hcon
        unfold Hp.agg at hcon
        dsimp only at hcon
        have hbv : b = decide (v = 0) := by
          rw [← H.out.2.2.2.2.2.2, ← hv, Bool.eq_iff_iff, decide_eq_true_iff, decide_eq_true_iff, cmpH_zero]
          constructor
          · intro hm
            obtain ⟨k, hk, e⟩ := List.getElem_of_mem hm
            have hk' : L[k]? = some ⟨s0, s1⟩ := by rw [List.getElem?_eq_getElem hk, e]
            rcases Nat.lt_trichotomy k r with h | rfl | h
            · have := hs.out.1 k _ h hk'
              rw [stoH.irr] at this
              cases this
            · rw [hx] at hk'
              injection hk'
            · have h1 := hs.out.2 r _ (Nat.le_refl _) hx
              rw [rise_at H.out.2.2.2.1 hx hk' h] at h1
              cases h1
          · intro e
            rw [← e]
            exact List.mem_of_getElem? hx
        have HX := Lib.hid (And.intro hx hbv)
        have HC := Lib.hid hcon
        have SR := Lib.hid (show ∀ W, Below W0.heap.size W0 W → W.cell? ⟨w.heap.size, 0, none⟩ = some (.string s0) ∧ W.cell? ⟨w.heap.size, 1, none⟩ = some (.int .i64 s1) ∧ W.cell? ⟨ab, ao + r * 2, none⟩ = some (.string x0) ∧ W.cell? ⟨ab, ao + r * 2 + 1, none⟩ = some (.int .i64 x1) from fun W hb => by
          have kb := H.out.2.1.upd (Upd.of_below hb (fun _ => False)) id
          obtain ⟨b', o', e, z0, z1⟩ := (H.out.1.below hb).hp HX.out.1
          injection e with e
          injection e with e1 e2
          subst e1; subst e2
          exact ⟨kb.cell 0, kb.cell 1, z0, z1⟩)
        have hS := SR.out _ hbw.out.drew
        clear hx hbv hcon hv
        go_upto_region 8 with (fail)
        refine wp_region_ord (fun W => W.cell? ⟨w.heap.size, 0, none⟩ = some (.string s0) ∧ W.cell? ⟨w.heap.size, 1, none⟩ = some (.int .i64 s1) ∧ W.cell? ⟨ab, ao + r * 2, none⟩ = some (.string x0) ∧ W.cell? ⟨ab, ao + r * 2 + 1, none⟩ = some (.int .i64 x1)) 16 [(0, true), (1, true), (2, true), (3, true), (4, true), (5, true), (6, true), (7, true), (8, true), (9, true), (10, true), (11, false), (12, true), (13, true), (14, true), (15, true)] (by kernel_rfl) (by kernel_rfl) (fun _ _ d _ _ h => by cases d <;> exact h) hS ?_
        iterate 11 (refine ord_take (v := ?_) rfl (by first | with_reducible rfl | kernel_rfl) ?_ ?_; rotate_left; (focus (intro wS hS; (try dsimp only at hS); go_split_ands; go_simp; (try with_reducible rfl); done)); (try simp only [Act.put, List.getElem_toArray, List.getElem_cons_succ, List.getElem_cons_zero, List.setIfInBounds_toArray, List.set_cons_zero, List.set_cons_succ]))
        (refine ord_dog rfl (by first | with_reducible rfl | kernel_rfl) (fun K hK => ?_); go_simp)
        refine (HC.out W2.drew).mono ?_
        rintro e W5 ⟨rfl, b5⟩
        have HB5 := Lib.hid (hbw.out.drew.trans (b5.mono hbw.out.size))
        refine hK _ _ (fun _ => SR.out _ HB5.out) ?_
        clear hK K hS b5
        (try simp only [Act.put, List.getElem_toArray, List.getElem_cons_succ, List.getElem_cons_zero, List.setIfInBounds_toArray, List.set_cons_zero, List.set_cons_succ])
        iterate 4 (refine ord_take (v := ?_) rfl (by first | with_reducible rfl | kernel_rfl) ?_ ?_; rotate_left; (focus (intro wS hS; (try dsimp only at hS); go_split_ands; go_simp; (try with_reducible rfl); done)); (try simp only [Act.put, List.getElem_toArray, List.getElem_cons_succ, List.getElem_cons_zero, List.setIfInBounds_toArray, List.set_cons_zero, List.set_cons_succ]))
        refine ord_done ?_
        have FIN := Lib.hid (H.out.2.2.1.trans (HB5.out.mono H.out.2.2.1.size))
        have HV := Lib.hid HX.out.2
        go_wp2
        refine bodyPost_ret (v := .tuple #[.int .i64 r, .bool (v == 0)]) (by simp [results, Tryz.f44, go_sem]) rfl ⟨?_, FIN.out⟩
        rw [HV.out]
        congr 1
      · obtain rfl : r = n := by omega
        have hbf : b = false := by
          cases b with
          | false => rfl
          | true =>
            have hm := of_decide_eq_true H.out.2.2.2.2.2.2
            obtain ⟨k, hk, e⟩ := List.getElem_of_mem hm
            have := hs.out.1 k _ (by have := H.out.2.2.2.2.1; omega) (by rw [List.getElem?_eq_getElem hk, e])
            rw [stoH.irr] at this
            cases this
        subst hbf
        have hS : True := trivial
        have FIN := Lib.hid (H.out.2.2.1.trans (hbw.out.drew.mono H.out.2.2.1.size))
        go_upto_region 8 with (fail)
        refine wp_region_ord (fun _ => True) 16 [(0, true), (1, true), (2, true), (3, true), (4, true), (5, true), (6, true), (7, true), (8, true), (9, true), (10, true), (11, false), (12, true), (13, true), (14, true), (15, true)] (by kernel_rfl) (by kernel_rfl) (fun _ _ d _ _ h => by cases d <;> exact h) hS ?_
        iterate 5 (refine ord_take (v := ?_) rfl (by first | with_reducible rfl | kernel_rfl) ?_ ?_; rotate_left; (focus (intro wS hS; (try dsimp only at hS); go_split_ands; go_simp; (try with_reducible rfl); done)); (try simp only [Act.put, List.getElem_toArray, List.getElem_cons_succ, List.getElem_cons_zero, List.setIfInBounds_toArray, List.set_cons_zero, List.set_cons_succ]))
        iterate 6 (refine ord_skip rfl (by kernel_rfl) ?_; (try simp only [Act.put, List.getElem_toArray, List.getElem_cons_succ, List.getElem_cons_zero, List.setIfInBounds_toArray, List.set_cons_zero, List.set_cons_succ]))
        (refine ord_skipf rfl (by kernel_rfl) (by first | assumption | trivial | exact UP.out _ H5.out) ?_; (try simp only [Act.put, List.getElem_toArray, List.getElem_cons_succ, List.getElem_cons_zero, List.setIfInBounds_toArray, List.set_cons_zero, List.set_cons_succ]))
        (refine ord_skip rfl (by kernel_rfl) ?_; (try simp only [Act.put, List.getElem_toArray, List.getElem_cons_succ, List.getElem_cons_zero, List.setIfInBounds_toArray, List.set_cons_zero, List.set_cons_succ]))
        iterate 3 (refine ord_take (v := ?_) rfl (by first | with_reducible rfl | kernel_rfl) ?_ ?_; rotate_left; (focus (intro wS hS; (try dsimp only at hS); go_split_ands; go_simp; (try with_reducible rfl); done)); (try simp only [Act.put, List.getElem_toArray, List.getElem_cons_succ, List.getElem_cons_zero, List.setIfInBounds_toArray, List.set_cons_zero, List.set_cons_succ]))
        refine ord_done ?_
        go_wp2
        refine bodyPost_ret (v := .tuple #[.int .i64 r, .bool false]) (by simp [results, Tryz.f44, go_sem]) rfl ⟨rfl, FIN.out⟩
end Go.Proofs.YtnmkieiehjajlaaGreatDoor
