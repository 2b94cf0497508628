/- Edges: a name's letter, a name, a label; texts and edges held one against the other; Edges: edges held one against the other; lists that rise; Edges: a graph as a value in memory; lists that rise; names; Edges: are all names, all labels? Are all ends among the nodes?. -/
import Derived.Test.YtnmkieiehjajlaaGreatDoorZ02
import Derived.Test.YtnmkieiehjajlaaGreatDoorZ11
import Derived.Laws.Externs
import Derived.Sort.Grow
set_option linter.unusedVariables false
set_option linter.unusedSimpArgs false
namespace Go.Proofs.YtnmkieiehjajlaaGreatDoor
open Go.RowKit

def letN (n : Nat) : Bool := decide ((97 ≤ n ∧ n ≤ 122) ∨ (65 ≤ n ∧ n ≤ 90) ∨ (48 ≤ n ∧ n ≤ 57) ∨ n = 95)
def nameB (s : Txt) : Bool := decide (1 ≤ s.size ∧ s.size ≤ 16) && s.data.toList.all fun b => letN b.toNat
def labelB (s : Txt) : Bool := nameB s && decide (97 ≤ (s.data.toList.headD 0).toNat ∧ (s.data.toList.headD 0).toNat ≤ 122)
/-- It only computes. -/
def Only (w : World) (v : Value) (e : Ending) (w' : World) : Prop := e = .returned v ∧ w' = w

theorem retb {a b : Bool} (h : a = b) : Ending.returned (.bool a) = .returned (.bool b) := by rw [h]
set_option maxHeartbeats 1000000 in
theorem letter_any (n : Nat) (w : World) : Calls Tryz.prog 171 #[.int .u8 (n : Int)] w (Only w (.bool (letN n))) := by
  have key : ∀ b, letN n = b → Calls Tryz.prog 171 #[.int .u8 (n : Int)] w (Only w (.bool b)) := by
    intro b hb
    have HB := Lib.hid hb
    clear hb
    go_enter Tryz.func171, Tryz.ntmps171
    go_wp2
    all_goals
      go_ret
      refine ⟨retb ?_, rfl⟩
      rw [← HB.out, Bool.eq_iff_iff]
      simp [letN]
      try omega
  exact key _ rfl

set_option maxHeartbeats 1000000 in
set_option maxRecDepth 100000 in
theorem compare_any (a b : Txt) (w : World) : Calls Tryz.prog 82 #[.string a, .string b] w (Only w (.int .i64 (cmpT a b))) := by
  have h1 : Calls Tryz.prog 121 #[.string a, .string b] w (Only w (.int .i64 (cmpT a b))) := by
    go_enter Tryz.func121, Tryz.ntmps121
    go_wp2
    rw [run_callFunc_extern Tryz.func159 (by kernel_rfl) (by kernel_rfl) (by kernel_rfl) (e := Extern.BytealgCompare.compare) (by kernel_rfl), Lib.run_compareString]
    simp only [Result.andThen]
    rw [Oper.upon_value]
    go_wp2
    go_ret
    exact ⟨rfl, rfl⟩
  generalize cmpT a b = x at h1 ⊢
  go_enter Tryz.func82, Tryz.ntmps82
  go_wp2_with fail
  refine h1.mono ?_
  rintro e w' ⟨rfl, rfl⟩
  go_wp2
  go_ret
  exact ⟨rfl, rfl⟩

theorem nameB_long {s : Txt} (h : ¬ (1 ≤ s.size ∧ s.size ≤ 16)) : nameB s = false := by simp only [nameB, decide_eq_false h, Bool.false_and]
theorem nameB_at {s : Txt} {k : Nat} (hk : k < s.size) (h : letN s[k].toNat = false) : nameB s = false := by
  unfold nameB
  rw [Bool.and_eq_false_iff]
  refine .inr ?_
  rw [List.all_eq_false]
  exact ⟨s[k], by simp [ByteArray.getElem_eq_getElem_data], by rw [h]; simp⟩
theorem nameB_all {s : Txt} (h : 1 ≤ s.size ∧ s.size ≤ 16) (ha : ∀ k (hk : k < s.size), letN s[k].toNat = true) : nameB s = true := by
  unfold nameB
  rw [decide_eq_true h, Bool.true_and, List.all_eq_true]
  intro b hb
  obtain ⟨i, hi, rfl⟩ := List.getElem_of_mem hb
  have := ha i (by simpa using hi)
  simpa [ByteArray.getElem_eq_getElem_data] using this

set_option maxHeartbeats 1000000 in
set_option maxRecDepth 100000 in
theorem name_any (s : Txt) (w : World) (hs : s.size ≤ 9223372036854775807) : Calls Tryz.prog 135 #[.string s] w (Only w (.bool (nameB s))) := by
  by_cases hl : 1 ≤ s.size ∧ s.size ≤ 16
  · have h1 : ¬ ((s.size : Int) < 1) := by omega
    have h2 : ¬ (16 < (s.size : Int)) := by omega
    have HL := Lib.hid hl
    clear hl
    go_enter Tryz.func135, Tryz.ntmps135
    go_wp2_with fail
    go_loop [3] (fun i => ∃ k : Nat, k ≤ s.size ∧ i = .int .i64 k ∧ Hid (∀ j (hj : j < s.size), j < k → letN s[j].toNat = true)) (fun i => s.size - (intOf i).toNat)
    case atStart => exact ⟨0, Nat.zero_le _, rfl, Lib.hid (fun j _ hj => by omega)⟩
    case round =>
      obtain ⟨k, hk, rfl, hall⟩ := hrel
      by_cases hlt : k < s.size
      · cases hb : letN s[k].toNat with
        | true =>
          have HB := Lib.hid hb
          go_wp2_with fail
          refine (letter_any _ _).mono ?_
          rintro e w' ⟨rfl, rfl⟩
          go_wp2
          go_round
          case rel => exact ⟨k + 1, by omega, by go_num, Lib.hid (fun j hj h => by
            rcases Nat.lt_succ_iff_lt_or_eq.1 h with h | rfl
            · exact hall.out j hj h
            · exact HB.out)⟩
          case measure => simp [intOf]; omega
        | false =>
          have HB := Lib.hid hb
          go_wp2_with fail
          refine (letter_any _ _).mono ?_
          rintro e w' ⟨rfl, rfl⟩
          go_wp2
          go_ret
          exact ⟨retb (nameB_at hlt HB.out).symm, rfl⟩
      · obtain rfl : k = s.size := by omega
        go_wp2
        go_ret
        exact ⟨retb (nameB_all HL.out (fun j hj => hall.out j hj hj)).symm, rfl⟩
  · rw [nameB_long hl]
    by_cases h1 : (s.size : Int) < 1
    · go_enter Tryz.func135, Tryz.ntmps135
      go_wp2
      go_ret
      exact ⟨rfl, rfl⟩
    · have h2 : 16 < (s.size : Int) := by omega
      go_enter Tryz.func135, Tryz.ntmps135
      go_wp2
      go_ret
      exact ⟨rfl, rfl⟩

theorem head_at {s : Txt} (h : 0 < s.size) : s.data.toList.headD 0 = s[0] := by
  obtain ⟨⟨l⟩⟩ := s
  cases l with
  | nil => simp [ByteArray.size] at h
  | cons a l => rfl
set_option maxHeartbeats 1000000 in
set_option maxRecDepth 100000 in
theorem label_any (s : Txt) (w : World) (hs : s.size ≤ 9223372036854775807) : Calls Tryz.prog 136 #[.string s] w (Only w (.bool (labelB s))) := by
  have key : ∀ b, labelB s = b → Calls Tryz.prog 136 #[.string s] w (Only w (.bool b)) := by
    intro b hb
    cases hn : nameB s with
    | false =>
      have e : b = false := by rw [← hb, labelB, hn, Bool.false_and]
      subst e
      have hcon := name_any s w hs
      rw [hn] at hcon
      clear hb hn
      go_enter Tryz.func136, Tryz.ntmps136
      go_wp2_with fail
      refine hcon.mono ?_
      rintro e w' ⟨rfl, rfl⟩
      go_wp2
      go_ret
      exact ⟨rfl, rfl⟩
    | true =>
      have h1 : 0 < s.size := by
        unfold nameB at hn
        simp at hn
        omega
      have hb' : decide (97 ≤ (s[0].toNat : Int) ∧ (s[0].toNat : Int) ≤ 122) = b := by
        rw [← hb, labelB, hn, Bool.true_and, head_at h1]
        exact decide_eq_decide.2 (by omega)
      have hcon := name_any s w hs
      rw [hn] at hcon
      have HB := Lib.hid hb'
      have h2 : (0 : Int) < (s.size : Int) := by omega
      clear hb hn hb'
      go_enter Tryz.func136, Tryz.ntmps136
      go_wp2_with fail
      refine hcon.mono ?_
      rintro e w' ⟨rfl, rfl⟩
      go_wp2
      all_goals
        go_ret
        refine ⟨retb ?_, rfl⟩
        rw [← HB.out, Bool.eq_iff_iff]
        simp
        try omega
  exact key _ rfl
end Go.Proofs.YtnmkieiehjajlaaGreatDoor
namespace Go.Proofs.YtnmkieiehjajlaaGreatDoor
open Go.RowKit

def or3 (a b c : Int) : Int := if a ≠ 0 then a else if b ≠ 0 then b else c
theorem cmpE_or (x y : Ed) : cmpE x y = or3 (cmpT x.fr y.fr) (cmpT x.lb y.lb) (cmpT x.to y.to) := rfl

set_option maxHeartbeats 1000000 in
set_option maxRecDepth 100000 in
theorem or3_any (w : World) (g : Nat) (a b c : Int) (h : Blk w g 3 #[.int .i64 a, .int .i64 b, .int .i64 c]) :
    Calls Tryz.prog 81 #[.slice (some ⟨g, 0, none⟩) 3 3] w (Only w (.int .i64 (or3 a b c))) := by
  have key : ∀ x, or3 a b c = x → Calls Tryz.prog 81 #[.slice (some ⟨g, 0, none⟩) 3 3] w (Only w (.int .i64 x)) := by
    intro x hx
    have c0 : w.cell? ⟨g, 0, none⟩ = some (.int .i64 a) := h.cell 0
    have c1 : w.cell? ⟨g, 1, none⟩ = some (.int .i64 b) := h.cell 1
    have c2 : w.cell? ⟨g, 2, none⟩ = some (.int .i64 c) := h.cell 2
    clear h
    have HX := Lib.hid hx
    clear hx
    go_enter Tryz.func81, Tryz.ntmps81
    go_wp2_with fail
    go_loop [5, 8] (fun _ i => ∃ k : Nat, k ≤ 3 ∧ i = .int .i64 k ∧ Hid ((1 ≤ k → a = 0) ∧ (2 ≤ k → b = 0) ∧ (3 ≤ k → c = 0))) (fun _ i => 3 - (intOf i).toNat)
    case atStart => exact ⟨0, by omega, rfl, Lib.hid ⟨by omega, by omega, by omega⟩⟩
    case round =>
      obtain ⟨k, hk, rfl, hz⟩ := hrel
      have hk4 : k = 0 ∨ k = 1 ∨ k = 2 ∨ k = 3 := by omega
      rcases hk4 with rfl | rfl | rfl | rfl
      · by_cases ha : a = 0
        · have HA := Lib.hid ha
          have e : (a == 0) = true := by simpa using ha
          go_wp2
          go_round
          case rel => exact ⟨1, by omega, rfl, Lib.hid ⟨fun _ => HA.out, by omega, by omega⟩⟩
          case measure => simp [intOf]
        · have HA := Lib.hid ha
          go_wp2
          go_ret
          refine ⟨?_, rfl⟩
          rw [← HX.out, or3, if_pos HA.out]
          rfl
      · by_cases ha : b = 0
        · have HA := Lib.hid ha
          go_wp2
          go_round
          case rel => exact ⟨2, by omega, rfl, Lib.hid ⟨fun _ => hz.out.1 (by omega), fun _ => HA.out, by omega⟩⟩
          case measure => simp [intOf]
        · have HA := Lib.hid ha
          go_wp2
          go_ret
          refine ⟨?_, rfl⟩
          rw [← HX.out, or3, if_neg (by simp [hz.out.1 (by omega)]), if_pos HA.out]
          rfl
      · by_cases ha : c = 0
        · have HA := Lib.hid ha
          go_wp2
          go_round
          case rel => exact ⟨3, by omega, rfl, Lib.hid ⟨fun _ => hz.out.1 (by omega), fun _ => hz.out.2.1 (by omega), fun _ => HA.out⟩⟩
          case measure => simp [intOf]
        · have HA := Lib.hid ha
          go_wp2
          go_ret
          refine ⟨?_, rfl⟩
          rw [← HX.out, or3, if_neg (by simp [hz.out.1 (by omega)]), if_neg (by simp [hz.out.2.1 (by omega)])]
          rfl
      · go_wp2
        go_ret
        refine ⟨?_, rfl⟩
        rw [← HX.out, or3, if_neg (by simp [hz.out.1 (by omega)]), if_neg (by simp [hz.out.2.1 (by omega)]), hz.out.2.2 (by omega)]
        rfl
  exact key _ rfl

/-- It has laid blocks of its own, and drawn. -/
def Laid (w : World) (v : Value) (e : Ending) (w' : World) : Prop := e = .returned v ∧ ∃ q os, w' = Sort.grow (w.drewN q) os
theorem Laid.below {w w' : World} {v : Value} {e : Ending} (h : Laid w v e w') : Below w.heap.size w w' := by
  obtain ⟨-, q, os, rfl⟩ := h
  refine ⟨rfl, rfl, rfl, by simp [Sort.grow, World.drewN], fun k hk => ?_⟩
  simp only [Sort.grow, World.drewN]
  rw [Array.getElem?_append_left hk]

set_option maxHeartbeats 2000000 in
set_option maxRecDepth 100000 in
theorem order_edge (x y : Ed) (w : World) : Calls Tryz.prog 134 #[x.agg, y.agg] w (Laid w (.int .i64 (cmpE x y))) := by
  obtain ⟨a0, a1, a2⟩ := x
  obtain ⟨b0, b1, b2⟩ := y
  rw [cmpE_or]
  dsimp only
  obtain ⟨v0, e0⟩ : ∃ v, cmpT a0 b0 = v := ⟨_, rfl⟩
  obtain ⟨v1, e1⟩ : ∃ v, cmpT a1 b1 = v := ⟨_, rfl⟩
  obtain ⟨v2, e2⟩ : ∃ v, cmpT a2 b2 = v := ⟨_, rfl⟩
  have H0 := fun W => compare_any a0 b0 W
  have H1 := fun W => compare_any a1 b1 W
  have H2 := fun W => compare_any a2 b2 W
  rw [e0] at H0 ⊢
  rw [e1] at H1 ⊢
  rw [e2] at H2 ⊢
  clear e0 e1 e2
  have k0 := (Blk.new w 52 #[.string a0, .string a1, .string a2]).alloc (.cells #[.string b0, .string b1, .string b2] 52)
  have k1 := Blk.new (w.alloc (.cells #[.string a0, .string a1, .string a2] 52)) 52 #[.string b0, .string b1, .string b2]
  simp only [World.size_alloc] at k1
  have HK := Lib.hid (And.intro k0 k1)
  have hg : ∀ o, Sort.grow (w.drewN 1) #[.cells #[.string a0, .string a1, .string a2] 52, .cells #[.string b0, .string b1, .string b2] 52, o] = ((w.alloc (.cells #[.string a0, .string a1, .string a2] 52)).alloc (.cells #[.string b0, .string b1, .string b2] 52)).drew.alloc o := fun o => by
    rw [Sort.alloc_eq_grow, Sort.alloc_eq_grow, Sort.alloc_eq_grow, Sort.grow_grow, Sort.drew_grow, Sort.grow_grow]
    rfl
  have HG := Lib.hid hg
  clear k0 k1 hg
  unfold Ed.agg
  go_enter Tryz.func134, Tryz.ntmps134
  go_upto_region 1 with (fail)
  generalize (w.alloc (.cells #[.string a0, .string a1, .string a2] 52)).alloc (.cells #[.string b0, .string b1, .string b2] 52) = W0 at HK HG ⊢
  have c00 : W0.cell? ⟨w.heap.size, 0, none⟩ = some (.string a0) := HK.out.1.cell 0
  have c01 : W0.cell? ⟨w.heap.size, 1, none⟩ = some (.string a1) := HK.out.1.cell 1
  have c02 : W0.cell? ⟨w.heap.size, 2, none⟩ = some (.string a2) := HK.out.1.cell 2
  have c10 : W0.cell? ⟨w.heap.size + 1, 0, none⟩ = some (.string b0) := HK.out.2.cell 0
  have c11 : W0.cell? ⟨w.heap.size + 1, 1, none⟩ = some (.string b1) := HK.out.2.cell 1
  have c12 : W0.cell? ⟨w.heap.size + 1, 2, none⟩ = some (.string b2) := HK.out.2.cell 2
  refine wp_region_ord (fun w' => w'.cell? ⟨w.heap.size, 0, none⟩ = some (.string a0) ∧ w'.cell? ⟨w.heap.size, 1, none⟩ = some (.string a1) ∧ w'.cell? ⟨w.heap.size, 2, none⟩ = some (.string a2) ∧ w'.cell? ⟨w.heap.size + 1, 0, none⟩ = some (.string b0) ∧ w'.cell? ⟨w.heap.size + 1, 1, none⟩ = some (.string b1) ∧ w'.cell? ⟨w.heap.size + 1, 2, none⟩ = some (.string b2)) 18
    [(0, true), (1, true), (2, true), (3, true), (5, true), (6, true), (7, true), (8, true), (10, true), (11, true), (12, true), (13, true), (4, false), (9, false), (14, false), (15, false), (16, false), (17, true)] (by kernel_rfl) (by kernel_rfl) (fun _ _ d _ _ h => by cases d <;> exact h) ⟨c00, c01, c02, c10, c11, c12⟩ ?_
  iterate 12 (refine ord_take (v := ?_) rfl (by first | with_reducible rfl | kernel_rfl) ?_ ?_; rotate_left; (focus (intro wS hS; (try dsimp only at hS); go_split_ands; go_simp; (try with_reducible rfl); done)); (try simp only [Act.put, List.getElem_toArray, List.getElem_cons_succ, List.getElem_cons_zero, List.setIfInBounds_toArray, List.set_cons_zero, List.set_cons_succ]))
  refine ord_do rfl rfl (fun K hK => ?_)
  go_simp
  refine (H0 _).mono ?_
  rintro e w1 ⟨rfl, rfl⟩
  refine hK _ _ (fun _ => ⟨c00, c01, c02, c10, c11, c12⟩) ?_
  clear hK K
  (try simp only [Act.put, List.getElem_toArray, List.getElem_cons_succ, List.getElem_cons_zero, List.setIfInBounds_toArray, List.set_cons_zero, List.set_cons_succ])
  refine ord_do rfl rfl (fun K hK => ?_)
  go_simp
  refine (H1 _).mono ?_
  rintro e w1 ⟨rfl, rfl⟩
  refine hK _ _ (fun _ => ⟨c00, c01, c02, c10, c11, c12⟩) ?_
  clear hK K
  (try simp only [Act.put, List.getElem_toArray, List.getElem_cons_succ, List.getElem_cons_zero, List.setIfInBounds_toArray, List.set_cons_zero, List.set_cons_succ])
  refine ord_do rfl rfl (fun K hK => ?_)
  go_simp
  refine (H2 _).mono ?_
  rintro e w1 ⟨rfl, rfl⟩
  refine hK _ _ (fun _ => ⟨c00, c01, c02, c10, c11, c12⟩) ?_
  clear hK K
  (try simp only [Act.put, List.getElem_toArray, List.getElem_cons_succ, List.getElem_cons_zero, List.setIfInBounds_toArray, List.set_cons_zero, List.set_cons_succ])
  have bA : Below W0.heap.size W0 (W0.drew.alloc (.cells #[.int .i64 v0, .int .i64 v1, .int .i64 v2] 3)) := by (repeat (first | exact Below.refl _ _ | apply Below.drew | refine Below.alloc ?_ (by first | exact Nat.le_refl _ | (simp; done) | (simp; omega)) _ | refine Below.setCell ?_ (by first | exact Nat.le_refl _ | (simp; done) | (simp; omega)) _))
  have up : ∀ w', Below W0.heap.size W0 w' → w'.cell? ⟨w.heap.size, 0, none⟩ = some (.string a0) ∧ w'.cell? ⟨w.heap.size, 1, none⟩ = some (.string a1) ∧ w'.cell? ⟨w.heap.size, 2, none⟩ = some (.string a2) ∧ w'.cell? ⟨w.heap.size + 1, 0, none⟩ = some (.string b0) ∧ w'.cell? ⟨w.heap.size + 1, 1, none⟩ = some (.string b1) ∧ w'.cell? ⟨w.heap.size + 1, 2, none⟩ = some (.string b2) := fun w' hb => by
    have u := Upd.of_below hb (fun _ => False)
    have h1 := HK.out.1.upd u id
    have h2 := HK.out.2.upd u id
    exact ⟨h1.cell 0, h1.cell 1, h1.cell 2, h2.cell 0, h2.cell 1, h2.cell 2⟩
  have SA := Lib.hid (up _ bA)
  have kA := Blk.new W0.drew 3 #[.int .i64 v0, .int .i64 v1, .int .i64 v2]
  have HA := Lib.hid (or3_any _ _ v0 v1 v2 kA)
  clear up bA kA
  refine ord_do rfl rfl (fun K hK => ?_)
  go_simp
  refine hK _ _ (fun _ => SA.out) ?_
  clear hK K
  (try simp only [Act.put, List.getElem_toArray, List.getElem_cons_succ, List.getElem_cons_zero, List.setIfInBounds_toArray, List.set_cons_zero, List.set_cons_succ])
  refine ord_do rfl rfl (fun K hK => ?_)
  go_simp
  refine HA.out.mono ?_
  rintro e w1 ⟨rfl, rfl⟩
  refine hK _ _ (fun _ => SA.out) ?_
  clear hK K
  (try simp only [Act.put, List.getElem_toArray, List.getElem_cons_succ, List.getElem_cons_zero, List.setIfInBounds_toArray, List.set_cons_zero, List.set_cons_succ])
  (refine ord_take (v := ?_) rfl (by first | with_reducible rfl | kernel_rfl) ?_ ?_; rotate_left; (focus (intro wS hS; (try dsimp only at hS); go_split_ands; go_simp; (try with_reducible rfl); done)); (try simp only [Act.put, List.getElem_toArray, List.getElem_cons_succ, List.getElem_cons_zero, List.setIfInBounds_toArray, List.set_cons_zero, List.set_cons_succ]))
  refine ord_done ?_
  go_wp2
  go_ret
  exact ⟨rfl, 1, _, (HG.out _).symm⟩
end Go.Proofs.YtnmkieiehjajlaaGreatDoor
namespace Go.Proofs.YtnmkieiehjajlaaGreatDoor
open Go.RowKit

def txtCells (N : List Txt) : List Value := N.map Value.string
def edCells (E : List Ed) : List Value := E.flatMap Ed.cells
theorem txtCells_len (N : List Txt) : (txtCells N).length = N.length * 1 := by simp [txtCells]
theorem edCells_len (E : List Ed) : (edCells E).length = E.length * 3 := flat_len Ed.cells 3 (fun _ => rfl) E
theorem one_txt (N : List Txt) : ∀ u ∈ txtCells N, u.oneCell' = true := by
  intro u hu
  obtain ⟨f, _, rfl⟩ := List.mem_map.1 hu
  rfl
theorem one_ed (E : List Ed) : ∀ u ∈ edCells E, u.oneCell' = true := by
  intro u hu
  obtain ⟨f, _, hf⟩ := List.mem_flatMap.1 hu
  simp [Ed.cells] at hf
  rcases hf with rfl | rfl | rfl <;> rfl
/-- A text none too long. -/
def TxtOk (s : Txt) : Prop := s.size ≤ 9223372036854775807
def EdOk (x : Ed) : Prop := TxtOk x.fr ∧ TxtOk x.lb ∧ TxtOk x.to
theorem RowR.txt {w : World} {A : Option Addr} {N : List Txt} (h : RowR w A (txtCells N)) {k : Nat} {s : Txt} (hk : N[k]? = some s) :
    ∃ b o, A = some ⟨b, o, none⟩ ∧ w.cell? ⟨b, o + k, none⟩ = some (.string s) := h k (.string s) (by simp [txtCells, hk])
theorem RowR.ed {w : World} {B : Option Addr} {E : List Ed} (h : RowR w B (edCells E)) {k : Nat} {x : Ed} (hk : E[k]? = some x) :
    ∃ b o, B = some ⟨b, o, none⟩ ∧ w.cell? ⟨b, o + k * 3, none⟩ = some (.string x.fr) ∧ w.cell? ⟨b, o + k * 3 + 1, none⟩ = some (.string x.lb) ∧ w.cell? ⟨b, o + k * 3 + 2, none⟩ = some (.string x.to) := by
  have hg := fun j (hj : j < 3) => flat_get Ed.cells 3 (fun _ => rfl) E k j x hk hj
  obtain ⟨b, o, rfl, h0⟩ := h _ _ (hg 0 (by omega))
  obtain ⟨b1, o1, e1, h1⟩ := h _ _ (hg 1 (by omega))
  obtain ⟨b2, o2, e2, h2⟩ := h _ _ (hg 2 (by omega))
  injection e1 with e1; injection e1 with e1 e1'
  injection e2 with e2; injection e2 with e2 e2'
  subst e1; subst e1'; subst e2; subst e2'
  exact ⟨_, _, rfl, h0, h1, h2⟩

/-- A graph is none too great for a machine. -/
structure FitG (N : List Txt) (E : List Ed) : Prop where
  n : N.length * 16 ≤ 140737488355328
  e : E.length * 48 ≤ 140737488355328
  tn : ∀ s ∈ N, TxtOk s
  te : ∀ x ∈ E, EdOk x
/-- Both lists of a graph, where they lie. -/
structure ForG (w : World) (A : Option Addr) (c : Nat) (B : Option Addr) (d : Nat) (N : List Txt) (E : List Ed) : Prop where
  rn : RowR w A (txtCells N)
  re : RowR w B (edCells E)
  hc : N.length ≤ c
  hd : E.length ≤ d
  fit : FitG N E
theorem ForG.below {w w' : World} {A B : Option Addr} {c d : Nat} {N : List Txt} {E : List Ed} (h : ForG w A c B d N E) (hb : Below w.heap.size w w') : ForG w' A c B d N E := ⟨h.rn.below hb, h.re.below hb, h.hc, h.hd, h.fit⟩
def twoV (A : Option Addr) (n c : Nat) (B : Option Addr) (m d : Nat) : Value := .agg #[.slice A n c, .slice B m d]

/-! Lists that rise. -/
def upB {α : Type} (lt : α → α → Bool) : List α → Bool
  | [] => true
  | [_] => true
  | a :: b :: l => lt a b && upB lt (b :: l)
theorem upB_iff {α : Type} {lt : α → α → Bool} : ∀ (l : List α), upB lt l = true ↔ ∀ i a b, l[i]? = some a → l[i + 1]? = some b → lt a b = true
  | [] => by simp [upB]
  | [x] => by simp [upB]
  | x :: y :: l => by
    have ih := upB_iff (lt := lt) (y :: l)
    rw [upB, Bool.and_eq_true, ih]
    constructor
    · rintro ⟨h1, h2⟩ i a b ha hb
      cases i with
      | zero =>
        simp at ha hb
        subst ha; subst hb
        exact h1
      | succ i => exact h2 i a b (by simpa using ha) (by simpa using hb)
    · intro h
      exact ⟨h 0 x y rfl rfl, fun i a b ha hb => h (i + 1) a b (by simpa using ha) (by simpa using hb)⟩
theorem rises_of_up {α : Type} {lt : α → α → Bool} (hs : Sto lt) : ∀ {l : List α}, upB lt l = true → Rises lt l
  | [], _ => .nil
  | [_], _ => List.pairwise_singleton _ _
  | x :: y :: l, h => by
    rw [upB, Bool.and_eq_true] at h
    have ih := rises_of_up hs h.2
    refine List.pairwise_cons.2 ⟨fun z hz => ?_, ih⟩
    rcases List.mem_cons.1 hz with rfl | hz
    · exact h.1
    · exact hs.tr _ _ _ h.1 ((List.pairwise_cons.1 ih).1 z hz)
theorem up_of_rises {α : Type} {lt : α → α → Bool} : ∀ {l : List α}, Rises lt l → upB lt l = true
  | [], _ => rfl
  | [_], _ => rfl
  | x :: y :: l, h => by
    obtain ⟨h1, h2⟩ := List.pairwise_cons.1 h
    rw [upB, h1 y (by simp), up_of_rises h2]
    rfl
theorem up_false {α : Type} {lt : α → α → Bool} {l : List α} {i : Nat} {a b : α} (ha : l[i]? = some a) (hb : l[i + 1]? = some b) (h : lt a b = false) : upB lt l = false := by
  cases e : upB lt l
  · rfl
  · rw [(upB_iff l).1 e i a b ha hb] at h
    cases h

set_option maxHeartbeats 2000000 in
set_option maxRecDepth 100000 in
theorem rising_txt (w : World) (A : Option Addr) (c : Nat) (N : List Txt) (h : RowR w A (txtCells N)) (_hc : N.length ≤ c) (hn : N.length * 16 ≤ 140737488355328) :
    Calls Tryz.prog 132 #[.slice A N.length c, .func (.func 82) #[] #[]] w (Sam w (.bool (upB ltT N))) := by
  have HH := Lib.hid h
  clear h
  go_enter Tryz.func132, Tryz.ntmps132
  go_wp2_with fail
  go_loopw [5] (fun i wr => ∃ k : Nat, k ≤ N.length ∧ i = .int .i64 ((k : Int) + 1) ∧ Hid (Below w.heap.size w wr) ∧ Hid (∀ j, j < k → ∀ a b, N[j]? = some a → N[j + 1]? = some b → ltT a b = true)) (fun i _ => N.length + 1 - (intOf i).toNat)
  case atStart => exact ⟨0, Nat.zero_le _, rfl, Lib.hid (Below.refl _ _), Lib.hid (fun j hj => by omega)⟩
  case round =>
    obtain ⟨k, hk, rfl, hb, hall⟩ := hrel
    have hkw : IntKind.i64.wrap (k : Int) = (k : Int) := IntWalk.i64_in _ (by omega)
    have hkw2 : IntKind.i64.wrap ((k : Int) + 1 + 1) = (k : Int) + 1 + 1 := IntWalk.i64_in _ (by omega)
    by_cases hlt : k + 1 < N.length
    · have hltI : (k : Int) + 1 < (N.length : Int) := by omega
      have hltI2 : (k : Int) < (N.length : Int) := by omega
      have ht : ((k : Int) + 1).toNat = k + 1 := by omega
      have hn0 : (0 : Int) ≤ (k : Int) + 1 := by omega
      have h0 := HH.out.below hb.out
      obtain ⟨x, hx⟩ : ∃ x, N[k]? = some x := ⟨N[k], List.getElem?_eq_getElem _⟩
      obtain ⟨y, hy⟩ : ∃ y, N[k + 1]? = some y := ⟨N[k + 1], List.getElem?_eq_getElem _⟩
      obtain ⟨ab, ao, rfl, x0⟩ := h0.txt hx
      obtain ⟨_, _, e1, y0⟩ := h0.txt hy
      injection e1 with e1; injection e1 with e1 e2; subst e1; subst e2
      have HXY := Lib.hid (And.intro hx hy)
      clear h0 hx hy
      have b2' : Below wr.heap.size wr wr.drew := (Below.refl _ _).drew
      clear b2'
      go_upto_region 4 with (fail)
      refine wp_region_ord (fun w' => w'.cell? ⟨ab, ao + k, none⟩ = some (.string x) ∧ w'.cell? ⟨ab, ao + (k + 1), none⟩ = some (.string y)) 12 [(0, true), (1, true), (2, true), (3, true), (4, true), (5, true), (6, true), (7, true), (8, true), (9, true), (10, false), (11, true)] (by kernel_rfl) (by kernel_rfl) (fun _ _ d _ _ h => by cases d <;> exact h) ⟨x0, y0⟩ ?_
      iterate 10 (refine ord_take (v := ?_) rfl (by first | with_reducible rfl | kernel_rfl) ?_ ?_; rotate_left; (focus (intro wS hS; (try dsimp only at hS); go_split_ands; go_simp; (try with_reducible rfl); done)); (try simp only [Act.put, List.getElem_toArray, List.getElem_cons_succ, List.getElem_cons_zero, List.setIfInBounds_toArray, List.set_cons_zero, List.set_cons_succ]))
      refine ord_do rfl rfl (fun K hK => ?_)
      go_simp
      refine (compare_any x y _).mono ?_
      rintro e w2 ⟨rfl, rfl⟩
      have b2 : Below wr.heap.size wr wr.drew := (Below.refl _ _).drew
      have hcmp := cmpT_lt x y
      obtain ⟨v, hv⟩ : ∃ v, cmpT x y = v := ⟨_, rfl⟩
      rw [hv] at hcmp ⊢
      clear hv
      refine hK _ _ (fun _ => ⟨x0, y0⟩) ?_
      clear hK K
      (try simp only [Act.put, List.getElem_toArray, List.getElem_cons_succ, List.getElem_cons_zero, List.setIfInBounds_toArray, List.set_cons_zero, List.set_cons_succ])
      have HB := Lib.hid (hb.out.trans (b2.mono hb.out.size))
      have HC := Lib.hid hcmp
      clear hcmp b2
      by_cases hv : v < 0
      · have hv1 : decide (0 ≤ v) = false := by simpa using hv
        have hlt2 : ltT x y = true := by rw [← HC.out]; simpa using hv
        have HL := Lib.hid hlt2
        clear hlt2
        (refine ord_take (v := ?_) rfl (by first | with_reducible rfl | kernel_rfl) ?_ ?_; rotate_left; (focus (intro wS hS; (try dsimp only at hS); go_split_ands; go_simp; (try with_reducible rfl); done)); (try simp only [Act.put, List.getElem_toArray, List.getElem_cons_succ, List.getElem_cons_zero, List.setIfInBounds_toArray, List.set_cons_zero, List.set_cons_succ]))
        refine ord_done ?_
        go_wp2
        go_roundw
        case rel => exact ⟨k + 1, by omega, by go_num, HB, Lib.hid (fun j hj a b ha hb => by
          rcases Nat.lt_succ_iff_lt_or_eq.1 hj with h | rfl
          · exact hall.out j h a b ha hb
          · rw [HXY.out.1] at ha
            rw [HXY.out.2] at hb
            injection ha with ha
            injection hb with hb
            subst ha; subst hb
            exact HL.out)⟩
        case measure => simp [intOf]; omega
      · have hv1 : decide (0 ≤ v) = true := by simpa using hv
        have hlt2 : ltT x y = false := by rw [← HC.out]; simpa using hv
        have HL := Lib.hid hlt2
        clear hlt2
        (refine ord_take (v := ?_) rfl (by first | with_reducible rfl | kernel_rfl) ?_ ?_; rotate_left; (focus (intro wS hS; (try dsimp only at hS); go_split_ands; go_simp; (try with_reducible rfl); done)); (try simp only [Act.put, List.getElem_toArray, List.getElem_cons_succ, List.getElem_cons_zero, List.setIfInBounds_toArray, List.set_cons_zero, List.set_cons_succ]))
        refine ord_done ?_
        go_wp2
        go_ret
        exact ⟨retb (up_false HXY.out.1 HXY.out.2 HL.out).symm, HB.out⟩
    · have hgeI : (N.length : Int) ≤ (k : Int) + 1 := by omega
      go_wp2
      go_ret
      refine ⟨retb ?_, hb.out⟩
      refine ((upB_iff N).2 (fun i a b ha hb' => ?_)).symm
      have := (List.getElem?_eq_some_iff.1 hb').1
      exact hall.out i (by omega) a b ha hb'

set_option maxHeartbeats 2000000 in
set_option maxRecDepth 100000 in
theorem rising_ed (w : World) (A : Option Addr) (c : Nat) (N : List Ed) (h : RowR w A (edCells N)) (_hc : N.length ≤ c) (hn : N.length * 48 ≤ 140737488355328) :
    Calls Tryz.prog 133 #[.slice A N.length c, .func (.func 134) #[] #[]] w (Sam w (.bool (upB ltE N))) := by
  have HH := Lib.hid h
  clear h
  go_enter Tryz.func133, Tryz.ntmps133
  go_wp2_with fail
  go_loopw [5] (fun i wr => ∃ k : Nat, k ≤ N.length ∧ i = .int .i64 ((k : Int) + 1) ∧ Hid (Below w.heap.size w wr) ∧ Hid (∀ j, j < k → ∀ a b, N[j]? = some a → N[j + 1]? = some b → ltE a b = true)) (fun i _ => N.length + 1 - (intOf i).toNat)
  case atStart => exact ⟨0, Nat.zero_le _, rfl, Lib.hid (Below.refl _ _), Lib.hid (fun j hj => by omega)⟩
  case round =>
    obtain ⟨k, hk, rfl, hb, hall⟩ := hrel
    have hkw : IntKind.i64.wrap (k : Int) = (k : Int) := IntWalk.i64_in _ (by omega)
    have hkw2 : IntKind.i64.wrap ((k : Int) + 1 + 1) = (k : Int) + 1 + 1 := IntWalk.i64_in _ (by omega)
    by_cases hlt : k + 1 < N.length
    · have hltI : (k : Int) + 1 < (N.length : Int) := by omega
      have hltI2 : (k : Int) < (N.length : Int) := by omega
      have ht : ((k : Int) + 1).toNat = k + 1 := by omega
      have hn0 : (0 : Int) ≤ (k : Int) + 1 := by omega
      have h0 := HH.out.below hb.out
      obtain ⟨⟨x1, x2, x3⟩, hx⟩ : ∃ x, N[k]? = some x := ⟨N[k], List.getElem?_eq_getElem _⟩
      obtain ⟨⟨y1, y2, y3⟩, hy⟩ : ∃ y, N[k + 1]? = some y := ⟨N[k + 1], List.getElem?_eq_getElem _⟩
      obtain ⟨ab, ao, rfl, x0, x0', x0''⟩ := h0.ed hx
      obtain ⟨_, _, e1, y0, y0', y0''⟩ := h0.ed hy
      injection e1 with e1; injection e1 with e1 e2; subst e1; subst e2
      dsimp only at x0 x0' x0'' y0 y0' y0''
      have HXY := Lib.hid (And.intro hx hy)
      clear h0 hx hy
      have b2' : Below wr.heap.size wr wr.drew := (Below.refl _ _).drew
      clear b2'
      go_upto_region 4 with (fail)
      refine wp_region_ord (fun w' => w'.cell? ⟨ab, ao + k * 3, none⟩ = some (.string x1) ∧ w'.cell? ⟨ab, ao + k * 3 + 1, none⟩ = some (.string x2) ∧ w'.cell? ⟨ab, ao + k * 3 + 2, none⟩ = some (.string x3) ∧ w'.cell? ⟨ab, ao + (k + 1) * 3, none⟩ = some (.string y1) ∧ w'.cell? ⟨ab, ao + (k + 1) * 3 + 1, none⟩ = some (.string y2) ∧ w'.cell? ⟨ab, ao + (k + 1) * 3 + 2, none⟩ = some (.string y3)) 12 [(0, true), (1, true), (2, true), (3, true), (4, true), (5, true), (6, true), (7, true), (8, true), (9, true), (10, false), (11, true)] (by kernel_rfl) (by kernel_rfl) (fun _ _ d _ _ h => by cases d <;> exact h) ⟨x0, x0', x0'', y0, y0', y0''⟩ ?_
      iterate 10 (refine ord_take (v := ?_) rfl (by first | with_reducible rfl | kernel_rfl) ?_ ?_; rotate_left; (focus (intro wS hS; (try dsimp only at hS); go_split_ands; go_simp; (try with_reducible rfl); done)); (try simp only [Act.put, List.getElem_toArray, List.getElem_cons_succ, List.getElem_cons_zero, List.setIfInBounds_toArray, List.set_cons_zero, List.set_cons_succ]))
      refine ord_do rfl rfl (fun K hK => ?_)
      go_simp
      refine (order_edge ⟨x1, x2, x3⟩ ⟨y1, y2, y3⟩ _).mono ?_
      intro e w2 hL
      have b2 : Below wr.heap.size wr w2 := (Below.refl wr.heap.size wr).drew.trans hL.below
      obtain ⟨rfl, -⟩ := hL
      have hcmp := cmpE_lt ⟨x1, x2, x3⟩ ⟨y1, y2, y3⟩
      obtain ⟨v, hv⟩ : ∃ v, cmpE ⟨x1, x2, x3⟩ ⟨y1, y2, y3⟩ = v := ⟨_, rfl⟩
      rw [hv] at hcmp ⊢
      clear hv
      have sb : w2.cell? ⟨ab, ao + k * 3, none⟩ = some (.string x1) ∧ w2.cell? ⟨ab, ao + k * 3 + 1, none⟩ = some (.string x2) ∧ w2.cell? ⟨ab, ao + k * 3 + 2, none⟩ = some (.string x3) ∧ w2.cell? ⟨ab, ao + (k + 1) * 3, none⟩ = some (.string y1) ∧ w2.cell? ⟨ab, ao + (k + 1) * 3 + 1, none⟩ = some (.string y2) ∧ w2.cell? ⟨ab, ao + (k + 1) * 3 + 2, none⟩ = some (.string y3) := by
        have hbl : ab < wr.heap.size := World.block_lt_of_cell? wr _ x0
        have cc := fun j => b2.cell (p := ⟨ab, j, none⟩) hbl
        exact ⟨(cc _).trans x0, (cc _).trans x0', (cc _).trans x0'', (cc _).trans y0, (cc _).trans y0', (cc _).trans y0''⟩
      refine hK _ _ (fun _ => sb) ?_
      clear hK K
      (try simp only [Act.put, List.getElem_toArray, List.getElem_cons_succ, List.getElem_cons_zero, List.setIfInBounds_toArray, List.set_cons_zero, List.set_cons_succ])
      have HB := Lib.hid (hb.out.trans (b2.mono hb.out.size))
      have HC := Lib.hid hcmp
      clear hcmp b2
      by_cases hv : v < 0
      · have hv1 : decide (0 ≤ v) = false := by simpa using hv
        have hlt2 : ltE ⟨x1, x2, x3⟩ ⟨y1, y2, y3⟩ = true := by rw [← HC.out]; simpa using hv
        have HL := Lib.hid hlt2
        clear hlt2
        (refine ord_take (v := ?_) rfl (by first | with_reducible rfl | kernel_rfl) ?_ ?_; rotate_left; (focus (intro wS hS; (try dsimp only at hS); go_split_ands; go_simp; (try with_reducible rfl); done)); (try simp only [Act.put, List.getElem_toArray, List.getElem_cons_succ, List.getElem_cons_zero, List.setIfInBounds_toArray, List.set_cons_zero, List.set_cons_succ]))
        refine ord_done ?_
        go_wp2
        go_roundw
        case rel => exact ⟨k + 1, by omega, by go_num, HB, Lib.hid (fun j hj a b ha hb => by
          rcases Nat.lt_succ_iff_lt_or_eq.1 hj with h | rfl
          · exact hall.out j h a b ha hb
          · rw [HXY.out.1] at ha
            rw [HXY.out.2] at hb
            injection ha with ha
            injection hb with hb
            subst ha; subst hb
            exact HL.out)⟩
        case measure => simp [intOf]; omega
      · have hv1 : decide (0 ≤ v) = true := by simpa using hv
        have hlt2 : ltE ⟨x1, x2, x3⟩ ⟨y1, y2, y3⟩ = false := by rw [← HC.out]; simpa using hv
        have HL := Lib.hid hlt2
        clear hlt2
        (refine ord_take (v := ?_) rfl (by first | with_reducible rfl | kernel_rfl) ?_ ?_; rotate_left; (focus (intro wS hS; (try dsimp only at hS); go_split_ands; go_simp; (try with_reducible rfl); done)); (try simp only [Act.put, List.getElem_toArray, List.getElem_cons_succ, List.getElem_cons_zero, List.setIfInBounds_toArray, List.set_cons_zero, List.set_cons_succ]))
        refine ord_done ?_
        go_wp2
        go_ret
        exact ⟨retb (up_false HXY.out.1 HXY.out.2 HL.out).symm, HB.out⟩
    · have hgeI : (N.length : Int) ≤ (k : Int) + 1 := by omega
      go_wp2
      go_ret
      refine ⟨retb ?_, hb.out⟩
      refine ((upB_iff N).2 (fun i a b ha hb' => ?_)).symm
      have := (List.getElem?_eq_some_iff.1 hb').1
      exact hall.out i (by omega) a b ha hb'
end Go.Proofs.YtnmkieiehjajlaaGreatDoor
namespace Go.Proofs.YtnmkieiehjajlaaGreatDoor
open Go.RowKit

def edNamed (x : Ed) : Bool := nameB x.fr && (labelB x.lb && nameB x.to)
def namedB (N : List Txt) (E : List Ed) : Bool := N.all nameB && E.all edNamed
theorem all_false_at {α : Type} {p : α → Bool} {l : List α} {k : Nat} {x : α} (h : l[k]? = some x) (hp : p x = false) : l.all p = false := by
  rw [List.all_eq_false]
  exact ⟨x, List.mem_of_getElem? h, by rw [hp]; simp⟩
theorem all_true_at {α : Type} {p : α → Bool} {l : List α} (h : ∀ (k : Nat) (x : α), l[k]? = some x → p x = true) : l.all p = true := by
  rw [List.all_eq_true]
  intro x hx
  obtain ⟨k, hk⟩ := List.mem_iff_getElem?.1 hx
  exact h k x hk

set_option maxHeartbeats 2000000 in
set_option maxRecDepth 100000 in
theorem named_any (w : World) (A : Option Addr) (c : Nat) (B : Option Addr) (d : Nat) (N : List Txt) (E : List Ed) (h : ForG w A c B d N E) :
    Calls Tryz.prog 91 #[twoV A N.length c B E.length d] w (Sam w (.bool (namedB N E))) := by
  have k0 := Blk.new w 54 #[.slice A N.length c, .slice B E.length d]
  have u0 : Below w.heap.size w (w.alloc (.cells #[.slice A N.length c, .slice B E.length d] 54)) := (Below.refl _ _).alloc (Nat.le_refl _) _
  have hn : N.length ≤ 140737488355328 := by have := h.fit.n; omega
  have hd : E.length ≤ 140737488355328 := by have := h.fit.e; omega
  have HA := Lib.hid (And.intro h.fit.tn h.fit.te)
  have H := Lib.hid (And.intro (h.below u0) (And.intro k0 u0))
  clear h k0 u0
  unfold twoV
  go_enter Tryz.func91, Tryz.ntmps91
  go_upto_region 1 with (fail)
  generalize w.alloc (.cells #[.slice A N.length c, .slice B E.length d] 54) = W0 at H ⊢
  have q0 : W0.cell? ⟨w.heap.size, 0, none⟩ = some (.slice A N.length c) := H.out.2.1.cell 0
  have q1 : W0.cell? ⟨w.heap.size, 1, none⟩ = some (.slice B E.length d) := H.out.2.1.cell 1
  go_wp2_with fail
  go_loop [4, 10] (fun _ i => ∃ k : Nat, k ≤ N.length ∧ i = .int .i64 k ∧ Hid (∀ j, j < k → ∀ x, N[j]? = some x → nameB x = true)) (fun _ i => N.length - (intOf i).toNat)
  case atStart => exact ⟨0, Nat.zero_le _, rfl, Lib.hid (fun j hj => by omega)⟩
  case round =>
    obtain ⟨k, hk, rfl, hall⟩ := hrel
    by_cases hlt : k < N.length
    · have hltI : (k : Int) < (N.length : Int) := by omega
      have hkw : IntKind.i64.wrap ((k : Int) + 1) = (k : Int) + 1 := IntWalk.i64_in _ (by omega)
      obtain ⟨x, hx⟩ : ∃ x, N[k]? = some x := ⟨N[k], List.getElem?_eq_getElem _⟩
      obtain ⟨ab, ao, rfl, x0⟩ := H.out.1.rn.txt hx
      have hcon := fun w => name_any x w (HA.out.1 x (List.mem_of_getElem? hx))
      obtain ⟨b, hb⟩ : ∃ b, nameB x = b := ⟨_, rfl⟩
      rw [hb] at hcon
      have HX := Lib.hid (And.intro hx hb)
      clear hx hb
      cases b
      · go_wp2_with fail
        refine (hcon _).mono ?_
        rintro e w' ⟨rfl, rfl⟩
        go_wp2
        go_ret
        refine ⟨retb ?_, H.out.2.2⟩
        rw [namedB, all_false_at HX.out.1 HX.out.2, Bool.false_and]
      · go_wp2_with fail
        refine (hcon _).mono ?_
        rintro e w' ⟨rfl, rfl⟩
        go_wp2
        go_round
        case rel => exact ⟨k + 1, by omega, by go_num, Lib.hid (fun j hj y hy => by
          rcases Nat.lt_succ_iff_lt_or_eq.1 hj with h | rfl
          · exact hall.out j h y hy
          · rw [HX.out.1] at hy
            injection hy with hy
            rw [← hy]
            exact HX.out.2)⟩
        case measure => simp [intOf]; omega
    · obtain rfl : k = N.length := by omega
      have hN : N.all nameB = true := all_true_at (fun j x hx => hall.out j (List.getElem?_eq_some_iff.1 hx).1 x hx)
      have HN := Lib.hid hN
      clear hN hall hk hlt
      go_wp2_with fail
      clear q0 q1
      go_loopw [6, 21] (fun _ i wr => ∃ k : Nat, k ≤ E.length ∧ i = .int .i64 k ∧ Hid (Below W0.heap.size W0 wr) ∧ Hid (∀ j, j < k → ∀ x, E[j]? = some x → edNamed x = true)) (fun _ i _ => E.length - (intOf i).toNat)
      case atStart => exact ⟨0, Nat.zero_le _, rfl, Lib.hid (Below.refl _ _), Lib.hid (fun j hj => by omega)⟩
      case round =>
        obtain ⟨k, hk, rfl, hb, hall⟩ := hrel
        by_cases hlt : k < E.length
        · have hltI : (k : Int) < (E.length : Int) := by omega
          have hkw : IntKind.i64.wrap ((k : Int) + 1) = (k : Int) + 1 := IntWalk.i64_in _ (by omega)
          obtain ⟨⟨s0, s1, s2⟩, hx⟩ : ∃ x, E[k]? = some x := ⟨E[k], List.getElem?_eq_getElem _⟩
          obtain ⟨ab, ao, rfl, x0, x1, x2⟩ := (H.out.1.below hb.out).re.ed hx
          dsimp only at x0 x1 x2
          have hok := HA.out.2 _ (List.mem_of_getElem? hx)
          have c0 := fun w => name_any s0 w hok.1
          have c1 := fun w => label_any s1 w hok.2.1
          have c2 := fun w => name_any s2 w hok.2.2
          obtain ⟨v0, e0⟩ : ∃ b, nameB s0 = b := ⟨_, rfl⟩
          obtain ⟨v1, e1⟩ : ∃ b, labelB s1 = b := ⟨_, rfl⟩
          obtain ⟨v2, e2⟩ : ∃ b, nameB s2 = b := ⟨_, rfl⟩
          rw [e0] at c0
          rw [e1] at c1
          rw [e2] at c2
          have hv : edNamed ⟨s0, s1, s2⟩ = (v0 && (v1 && v2)) := by rw [edNamed, e0, e1, e2]
          have kx := Blk.new wr 52 #[.string s0, .string s1, .string s2]
          have bx : Below wr.heap.size wr (wr.alloc (.cells #[.string s0, .string s1, .string s2] 52)) := (Below.refl _ _).alloc (Nat.le_refl _) _
          have HX := Lib.hid (And.intro hx (And.intro hv (And.intro kx (hb.out.trans (bx.mono hb.out.size)))))
          clear hx hok e0 e1 e2 hv kx bx
          go_upto_region 10 with (fail)
          generalize wr.alloc (.cells #[.string s0, .string s1, .string s2] 52) = W1 at HX ⊢
          clear x0 x1 x2
          have x0 : W1.cell? ⟨wr.heap.size, 0, none⟩ = some (.string s0) := HX.out.2.2.1.cell 0
          have x1 : W1.cell? ⟨wr.heap.size, 1, none⟩ = some (.string s1) := HX.out.2.2.1.cell 1
          have x2 : W1.cell? ⟨wr.heap.size, 2, none⟩ = some (.string s2) := HX.out.2.2.1.cell 2
          go_wp2_with fail
          refine (c0 _).mono ?_
          rintro e w' ⟨rfl, rfl⟩
          cases v0
          · go_wp2
            go_ret
            refine ⟨retb ?_, H.out.2.2.trans (HX.out.2.2.2.mono H.out.2.2.size)⟩
            rw [namedB, all_false_at (p := edNamed) HX.out.1 HX.out.2.1, Bool.and_false]
          · go_wp2_with fail
            refine (c1 _).mono ?_
            rintro e w' ⟨rfl, rfl⟩
            cases v1
            · go_wp2
              go_ret
              refine ⟨retb ?_, H.out.2.2.trans (HX.out.2.2.2.mono H.out.2.2.size)⟩
              rw [namedB, all_false_at (p := edNamed) HX.out.1 HX.out.2.1, Bool.and_false]
            · go_wp2_with fail
              refine (c2 _).mono ?_
              rintro e w' ⟨rfl, rfl⟩
              cases v2
              · go_wp2
                go_ret
                refine ⟨retb ?_, H.out.2.2.trans (HX.out.2.2.2.mono H.out.2.2.size)⟩
                rw [namedB, all_false_at (p := edNamed) HX.out.1 HX.out.2.1, Bool.and_false]
              · go_wp2
                go_roundw
                case rel => exact ⟨k + 1, by omega, by go_num, Lib.hid HX.out.2.2.2, Lib.hid (fun j hj y hy => by
                  rcases Nat.lt_succ_iff_lt_or_eq.1 hj with h | rfl
                  · exact hall.out j h y hy
                  · rw [HX.out.1] at hy
                    injection hy with hy
                    rw [← hy]
                    exact HX.out.2.1)⟩
                case measure => simp [intOf]; omega
        · obtain rfl : k = E.length := by omega
          go_wp2
          go_ret
          refine ⟨retb ?_, H.out.2.2.trans (hb.out.mono H.out.2.2.size)⟩
          rw [namedB, HN.out, Bool.true_and]
          exact (all_true_at (fun j x hx => hall.out j (List.getElem?_eq_some_iff.1 hx).1 x hx)).symm

/-! The places of the nodes. -/
def kvN (N : List Txt) : Nat → List (Value × Value)
  | 0 => []
  | k + 1 => match N[k]? with
    | some s => kvN N k ++ [(.string s, .int .i64 ((k : Int) + 1))]
    | none => kvN N k
theorem kvN_mem (N : List Txt) : ∀ k, ∀ q ∈ kvN N k, ∃ (i : Nat) (s : Txt), i < k ∧ N[i]? = some s ∧ q = (.string s, .int .i64 ((i : Int) + 1))
  | 0, q, h => by simp [kvN] at h
  | k + 1, q, h => by
    unfold kvN at h
    cases hx : N[k]? with
    | none =>
      rw [hx] at h
      obtain ⟨i, s, h1, h2, h3⟩ := kvN_mem N k q h
      exact ⟨i, s, by omega, h2, h3⟩
    | some s =>
      rw [hx] at h
      rcases List.mem_append.1 h with h | h
      · obtain ⟨i, s, h1, h2, h3⟩ := kvN_mem N k q h
        exact ⟨i, s, by omega, h2, h3⟩
      · exact ⟨k, s, by omega, hx, List.mem_singleton.1 h⟩
theorem kvN_in (N : List Txt) : ∀ k (i : Nat) (s : Txt), i < k → N[i]? = some s → ((.string s, .int .i64 ((i : Int) + 1)) : Value × Value) ∈ kvN N k
  | 0, _, _, h, _ => by omega
  | k + 1, i, s, h, hi => by
    unfold kvN
    by_cases e : i = k
    · subst e
      rw [hi]
      simp
    · have := kvN_in N k i s (by omega) hi
      cases N[k]? with
      | none => exact this
      | some _ => exact List.mem_append.2 (.inl this)
theorem str_law : Maps.Keyed Tryz.prog 9 := Maps.string_keyed Tryz.underlying9
theorem str_key {s : Txt} (hs : TxtOk s) : ∃ l, keyOf Tryz.prog 9 (.string s) = some l := by
  have h : s.size ≤ maxLen := hs
  simp [keyOf, mapKey, Tryz.underlying9, h]
/-- Is a text on a list? -/
def inB (s : Txt) (N : List Txt) : Bool := N.any fun t => decide (t = s)
theorem inB_iff {s : Txt} {N : List Txt} : inB s N = true ↔ s ∈ N := by
  unfold inB
  rw [List.any_eq_true]
  constructor
  · rintro ⟨t, h, e⟩
    rw [of_decide_eq_true e] at h
    exact h
  · intro h
    exact ⟨s, h, by simp⟩
theorem kvN_new {N : List Txt} (hN : upB ltT N = true) {k : Nat} {s : Txt} (hs : N[k]? = some s) : ∀ q ∈ kvN N k, q.1 ≠ .string s := by
  intro q hq e
  obtain ⟨i, t, hi, ht, rfl⟩ := kvN_mem N k q hq
  simp only [Value.string.injEq] at e
  subst e
  have h := rises_of_up stoT hN
  have h1 := List.pairwise_iff_getElem.1 h i k (List.getElem?_eq_some_iff.1 ht).1 (List.getElem?_eq_some_iff.1 hs).1 hi
  rw [(List.getElem?_eq_some_iff.1 ht).2, (List.getElem?_eq_some_iff.1 hs).2, stoT.irr] at h1
  cases h1
/-- What a lookup of a node answers. -/
theorem look_node {w : World} {r : Nat} {N : List Txt} (h : MapIs w Tryz.prog 9 r (kvN N N.length)) (s : Txt) (hk : TxtOk s) :
    ∃ v : Int, (Instr.lookup 98 (.map (some r)) (.string s) false).run Tryz.prog w = .ok (.int .i64 v) w ∧ ((v == 0) = !inB s N) ∧ 0 ≤ v := by
  by_cases hs : s ∈ N
  · obtain ⟨i, hi⟩ := List.mem_iff_getElem?.1 hs
    refine ⟨(i : Int) + 1, h.look_hit str_law Tryz.underlying98 (kvN_in N N.length i s (List.getElem?_eq_some_iff.1 hi).1 hi) false, ?_, by omega⟩
    rw [inB_iff.2 hs]
    simp
    omega
  · refine ⟨0, h.look_miss str_law Tryz.underlying98 (str_key hk) (fun q hq e => ?_) (by kernel_rfl) false, by rw [show inB s N = false from by cases e : inB s N; rfl; exact (hs (inB_iff.1 e)).elim]; rfl, by omega⟩
    obtain ⟨i, t, hi, ht, rfl⟩ := kvN_mem N N.length q hq
    simp only [Value.string.injEq] at e
    subst e
    exact hs (List.mem_of_getElem? ht)
def endsIn (N : List Txt) (x : Ed) : Bool := inB x.fr N && inB x.to N
def formB (N : List Txt) (E : List Ed) : Bool := upB ltT N && (upB ltE E && E.all (endsIn N))

set_option maxHeartbeats 4000000 in
set_option maxRecDepth 100000 in
theorem form_any (w : World) (A : Option Addr) (c : Nat) (B : Option Addr) (d : Nat) (N : List Txt) (E : List Ed) (h : ForG w A c B d N E) :
    Calls Tryz.prog 90 #[twoV A N.length c B E.length d] w (Sam w (.bool (formB N E))) := by
  have k0 := Blk.new w 54 #[.slice A N.length c, .slice B E.length d]
  have u0 : Below w.heap.size w (w.alloc (.cells #[.slice A N.length c, .slice B E.length d] 54)) := (Below.refl _ _).alloc (Nat.le_refl _) _
  have hn : N.length ≤ 140737488355328 := by have := h.fit.n; omega
  have hd : E.length ≤ 140737488355328 := by have := h.fit.e; omega
  have HA := Lib.hid (And.intro h.fit (And.intro h.hc h.hd))
  have H := Lib.hid (And.intro (h.below u0) (And.intro k0 u0))
  clear h k0 u0
  obtain ⟨v0, e0⟩ : ∃ b, upB ltT N = b := ⟨_, rfl⟩
  obtain ⟨v1, e1⟩ : ∃ b, upB ltE E = b := ⟨_, rfl⟩
  have HE := Lib.hid (And.intro e0 e1)
  clear e0 e1
  unfold twoV
  go_enter Tryz.func90, Tryz.ntmps90
  go_upto_region 1 with (fail)
  generalize w.alloc (.cells #[.slice A N.length c, .slice B E.length d] 54) = W0 at H ⊢
  have q0 : W0.cell? ⟨w.heap.size, 0, none⟩ = some (.slice A N.length c) := H.out.2.1.cell 0
  have q1 : W0.cell? ⟨w.heap.size, 1, none⟩ = some (.slice B E.length d) := H.out.2.1.cell 1
  go_wp2_with fail
  refine (rising_txt W0 A c N H.out.1.rn HA.out.2.1 HA.out.1.n).mono ?_
  rintro e w1 ⟨rfl, b1⟩
  rw [HE.out.1]
  have k1 := H.out.2.1.upd (Upd.of_below b1 (fun _ => False)) id
  clear q0 q1
  have q0 : w1.cell? ⟨w.heap.size, 0, none⟩ = some (.slice A N.length c) := k1.cell 0
  have q1 : w1.cell? ⟨w.heap.size, 1, none⟩ = some (.slice B E.length d) := k1.cell 1
  have H1 := Lib.hid (And.intro (H.out.1.below b1) (And.intro k1 (H.out.2.2.trans (b1.mono H.out.2.2.size))))
  clear k1 b1
  cases v0
  · go_wp2
    go_ret
    refine ⟨retb ?_, H1.out.2.2⟩
    rw [formB, HE.out.1, Bool.false_and]
  go_wp2_with fail
  refine (rising_ed w1 B d E H1.out.1.re HA.out.2.2 HA.out.1.e).mono ?_
  rintro e w2 ⟨rfl, b2⟩
  rw [HE.out.2]
  have k2 := H1.out.2.1.upd (Upd.of_below b2 (fun _ => False)) id
  clear q0 q1
  have q0 : w2.cell? ⟨w.heap.size, 0, none⟩ = some (.slice A N.length c) := k2.cell 0
  have H2 := Lib.hid (And.intro (H1.out.1.below b2) (And.intro k2 (H1.out.2.2.trans (b2.mono H1.out.2.2.size))))
  clear k2 b2
  cases v1
  · go_wp2
    go_ret
    refine ⟨retb ?_, H2.out.2.2⟩
    rw [formB, HE.out.1, HE.out.2]
    rfl
  have hmm := @run_makeMap Tryz.prog
  clear q0
  go_upto_region 4 with (fail)
  have m3 := MapIs.made w2 Tryz.prog 9
  have b3 : Below w2.heap.size w2 (w2.alloc (.map #[] 0)) := (Below.refl _ _).alloc (Nat.le_refl _) _
  have k3 := H2.out.2.1.upd (Upd.of_below b3 (fun _ => False)) id
  have H3 := Lib.hid (And.intro (H2.out.1.below b3) (And.intro k3 (And.intro (H2.out.2.2.trans (b3.mono H2.out.2.2.size)) m3)))
  have hr1 : w.heap.size < w2.heap.size := H2.out.2.1.lt
  clear b3 m3 k3 hmm
  generalize w2.alloc (.map #[] 0) = W3 at H3 ⊢
  have q0 : W3.cell? ⟨w.heap.size, 0, none⟩ = some (.slice A N.length c) := H3.out.2.1.cell 0
  go_wp2_with fail
  clear q0
  have HA2 := Lib.hid (show ∀ b o s, A = some ⟨b, o, s⟩ → N ≠ [] → b < w2.heap.size from fun b o s e hne => by
    obtain ⟨x, hx⟩ := List.exists_mem_of_ne_nil N hne
    obtain ⟨i, hi⟩ := List.mem_iff_getElem?.1 hx
    obtain ⟨b', o', e', hc⟩ := H2.out.1.rn.txt hi
    rw [e] at e'
    injection e' with e'
    injection e' with e' _ _
    subst e'
    exact World.block_lt_of_cell? w2 _ hc)
  have HB2 := Lib.hid (show ∀ b o s, B = some ⟨b, o, s⟩ → E ≠ [] → b < w2.heap.size from fun b o s e hne => by
    obtain ⟨x, hx⟩ := List.exists_mem_of_ne_nil E hne
    obtain ⟨i, hi⟩ := List.mem_iff_getElem?.1 hx
    obtain ⟨b', o', e', hc, -, -⟩ := H2.out.1.re.ed hi
    rw [e] at e'
    injection e' with e'
    injection e' with e' _ _
    subst e'
    exact World.block_lt_of_cell? w2 _ hc)
  go_loopw [4, 5, 22] (fun _ _ i wr => ∃ k : Nat, k ≤ N.length ∧ i = .int .i64 k ∧ Hid (Upd (fun q => q = w2.heap.size) W3 wr) ∧ Hid (MapIs wr Tryz.prog 9 w2.heap.size (kvN N k))) (fun _ _ i _ => N.length - (intOf i).toNat)
  case atStart => exact ⟨0, Nat.zero_le _, rfl, Lib.hid (Upd.refl _ _), Lib.hid H3.out.2.2.2⟩
  case round =>
    obtain ⟨k, hk, rfl, hu, hm⟩ := hrel
    by_cases hlt : k < N.length
    · have hltI : (k : Int) < (N.length : Int) := by omega
      have hkw : IntKind.i64.wrap ((k : Int) + 1) = (k : Int) + 1 := IntWalk.i64_in _ (by omega)
      obtain ⟨x, hx⟩ : ∃ x, N[k]? = some x := ⟨N[k], List.getElem?_eq_getElem _⟩
      obtain ⟨ab, ao, rfl, y0⟩ := H3.out.1.rn.txt hx
      have hab := HA2.out ab ao none rfl (fun e => by rw [e] at hx; simp at hx)
      have x0 : wr.cell? ⟨ab, ao + k, none⟩ = some (.string x) := (hu.out.cell (p := ⟨ab, ao + k, none⟩) (World.block_lt_of_cell? W3 _ y0) (by show ¬ ab = _; omega)).trans y0
      obtain ⟨w5, hrun, hm5, hg5, hz5⟩ := hm.out.put_miss str_law Tryz.underlying98 (.int .i64 ((k : Int) + 1)) (str_key (HA.out.1.tn x (List.mem_of_getElem? hx))) (kvN_new HE.out.1 hx)
      have hkv : kvN N (k + 1) = kvN N k ++ [(.string x, .int .i64 ((k : Int) + 1))] := by rw [kvN, hx]
      rw [← hkv] at hm5
      have HX := Lib.hid (And.intro hm5 (hu.out.trans (Upd.of_grown hg5) (fun i e => .inl (by injection e with e; exact e.symm))))
      clear y0 hx hm5 hg5 hz5 hkv
      go_wp2
      go_roundw
      case rel => exact ⟨k + 1, by omega, by go_num, Lib.hid HX.out.2, Lib.hid HX.out.1⟩
      case measure => simp [intOf]; omega
    · obtain rfl : k = N.length := by omega
      have k4 := H3.out.2.1.upd hu.out (by omega)
      have q1 : wr.cell? ⟨w.heap.size, 1, none⟩ = some (.slice B E.length d) := k4.cell 1
      have bw4 : Below w.heap.size w wr := H3.out.2.2.1.trans (hu.out.below (fun q _ e => by omega) H3.out.2.2.1.size)
      have re4 : ∀ (j : Nat) (x : Ed), E[j]? = some x → ∃ b o, B = some ⟨b, o, none⟩ ∧ b < wr.heap.size ∧ wr.cell? ⟨b, o + j * 3, none⟩ = some (.string x.fr) ∧ wr.cell? ⟨b, o + j * 3 + 1, none⟩ = some (.string x.lb) ∧ wr.cell? ⟨b, o + j * 3 + 2, none⟩ = some (.string x.to) := fun j x hx => by
        obtain ⟨bb, bo, e, y0, y1, y2⟩ := H3.out.1.re.ed hx
        have hbb := HB2.out bb bo none e (fun e => by rw [e] at hx; simp at hx)
        have hlt3 := World.block_lt_of_cell? W3 _ y0
        have cc := fun i => hu.out.cell (p := ⟨bb, i, none⟩) hlt3 (by show ¬ bb = _; omega)
        exact ⟨bb, bo, e, Nat.lt_of_lt_of_le hlt3 hu.out.size, (cc _).trans y0, (cc _).trans y1, (cc _).trans y2⟩
      have H4 := Lib.hid (And.intro bw4 re4)
      clear k4 bw4 re4 hk hlt hu
      obtain ⟨W4, hW4⟩ : ∃ W, W = wr := ⟨_, rfl⟩
      subst hW4
      go_wp2_with fail
      clear q1
      go_loopw [7, 35] (fun _ i wz => ∃ k : Nat, k ≤ E.length ∧ i = .int .i64 k ∧ Hid (Below W4.heap.size W4 wz) ∧ Hid (∀ j, j < k → ∀ x, E[j]? = some x → endsIn N x = true)) (fun _ i _ => E.length - (intOf i).toNat)
      case atStart => exact ⟨0, Nat.zero_le _, rfl, Lib.hid (Below.refl _ _), Lib.hid (fun j hj => by omega)⟩
      case round =>
        obtain ⟨k, hk, rfl, hb, hall⟩ := hrel
        by_cases hlt : k < E.length
        · have hltI : (k : Int) < (E.length : Int) := by omega
          have hkw : IntKind.i64.wrap ((k : Int) + 1) = (k : Int) + 1 := IntWalk.i64_in _ (by omega)
          obtain ⟨⟨s0, s1, s2⟩, hx⟩ : ∃ x, E[k]? = some x := ⟨E[k], List.getElem?_eq_getElem _⟩
          obtain ⟨ab, ao, rfl, hlt4, y0, y1, y2⟩ := H4.out.2 k _ hx
          dsimp only at y0 y1 y2
          have cc := fun i => hb.out.cell (p := ⟨ab, i, none⟩) hlt4
          have x0 := (cc _).trans y0
          have x1 := (cc _).trans y1
          have x2 := (cc _).trans y2
          have kx := Blk.new wr 52 #[.string s0, .string s1, .string s2]
          have bx : Below wr.heap.size wr (wr.alloc (.cells #[.string s0, .string s1, .string s2] 52)) := (Below.refl _ _).alloc (Nat.le_refl _) _
          have b5 := hb.out.trans (bx.mono hb.out.size)
          have hm5 := hm.out.upd (Upd.of_below b5 (fun _ => False)) id
          have HX := Lib.hid (And.intro hx (And.intro kx (And.intro b5 hm5)))
          clear hx y0 y1 y2 cc kx bx b5 hm5
          go_upto_region 12 with (fail)
          generalize wr.alloc (.cells #[.string s0, .string s1, .string s2] 52) = W5 at HX ⊢
          clear x0 x1 x2
          have x0 : W5.cell? ⟨wr.heap.size, 0, none⟩ = some (.string s0) := HX.out.2.1.cell 0
          have x2 : W5.cell? ⟨wr.heap.size, 2, none⟩ = some (.string s2) := HX.out.2.1.cell 2
          obtain ⟨v0, l0, h0, -⟩ := look_node HX.out.2.2.2 s0 ((HA.out.1.te _ (List.mem_of_getElem? HX.out.1)).1)
          obtain ⟨v1, l1, h1, -⟩ := look_node HX.out.2.2.2 s2 ((HA.out.1.te _ (List.mem_of_getElem? HX.out.1)).2.2)
          obtain ⟨i0, e0⟩ : ∃ b, inB s0 N = b := ⟨_, rfl⟩
          obtain ⟨i1, e1⟩ : ∃ b, inB s2 N = b := ⟨_, rfl⟩
          rw [e0] at h0
          rw [e1] at h1
          have hv : endsIn N ⟨s0, s1, s2⟩ = (i0 && i1) := by rw [endsIn, e0, e1]
          have HV := Lib.hid hv
          clear e0 e1 hv
          have fin : w.heap.size ≤ W4.heap.size := H4.out.1.size
          cases i0
          · simp only [Bool.not_false] at h0
            go_wp2
            go_ret
            refine ⟨retb ?_, H4.out.1.trans (HX.out.2.2.1.mono H4.out.1.size)⟩
            rw [formB, HE.out.1, HE.out.2, all_false_at (p := endsIn N) HX.out.1 HV.out]
            rfl
          · simp only [Bool.not_true] at h0
            cases i1
            · simp only [Bool.not_false] at h1
              go_wp2
              go_ret
              refine ⟨retb ?_, H4.out.1.trans (HX.out.2.2.1.mono H4.out.1.size)⟩
              rw [formB, HE.out.1, HE.out.2, all_false_at (p := endsIn N) HX.out.1 HV.out]
              rfl
            · simp only [Bool.not_true] at h1
              go_wp2
              go_roundw
              case rel => exact ⟨k + 1, by omega, by go_num, Lib.hid HX.out.2.2.1, Lib.hid (fun j hj y hy => by
                rcases Nat.lt_succ_iff_lt_or_eq.1 hj with h | rfl
                · exact hall.out j h y hy
                · rw [HX.out.1] at hy
                  injection hy with hy
                  rw [← hy]
                  exact HV.out)⟩
              case measure => simp [intOf]; omega
        · obtain rfl : k = E.length := by omega
          go_wp2
          go_ret
          refine ⟨retb ?_, H4.out.1.trans (hb.out.mono H4.out.1.size)⟩
          rw [formB, HE.out.1, HE.out.2, all_true_at (p := endsIn N) (fun j x hx => hall.out j (List.getElem?_eq_some_iff.1 hx).1 x hx)]
          rfl
end Go.Proofs.YtnmkieiehjajlaaGreatDoor
