/- Edges: edges held one against the other; lists that rise. -/
import Derived.Test.YthmkgnifcbnkpaaGreatEdB
import Derived.Sort.Grow
namespace Go.Proofs.YthmkgnifcbnkpaaGreat
open Go.RowKit

def or3 (a b c : Int) : Int := if a ≠ 0 then a else if b ≠ 0 then b else c
theorem cmpE_or (x y : Ed) : cmpE x y = or3 (cmpT x.fr y.fr) (cmpT x.lb y.lb) (cmpT x.to y.to) := rfl

set_option maxHeartbeats 1000000 in
set_option maxRecDepth 100000 in
theorem or3_any (w : World) (g : Nat) (a b c : Int) (h : Blk w g 3 #[.int .i64 a, .int .i64 b, .int .i64 c]) :
    Calls Tryz.prog 105 #[.slice (some ⟨g, 0, none⟩) 3 3] w (Only w (.int .i64 (or3 a b c))) := by
  have key : ∀ x, or3 a b c = x → Calls Tryz.prog 105 #[.slice (some ⟨g, 0, none⟩) 3 3] w (Only w (.int .i64 x)) := by
    intro x hx
    have c0 : w.cell? ⟨g, 0, none⟩ = some (.int .i64 a) := h.cell 0
    have c1 : w.cell? ⟨g, 1, none⟩ = some (.int .i64 b) := h.cell 1
    have c2 : w.cell? ⟨g, 2, none⟩ = some (.int .i64 c) := h.cell 2
    clear h
    have HX := Lib.hid hx
    clear hx
    go_enter Tryz.func105, Tryz.ntmps105
    go_wp2_with fail
    go_loop [5, 8] (fun _ i => ∃ k : Nat, k ≤ 3 ∧ i = .int .i64 k ∧ Hid ((1 ≤ k → a = 0) ∧ (2 ≤ k → b = 0) ∧ (3 ≤ k → c = 0))) (fun _ i => 3 - (intOf i).toNat)
    case atStart => exact ⟨0, by omega, rfl, Lib.hid ⟨by omega, by omega, by omega⟩⟩
    case round =>
      obtain ⟨k, hk, rfl, hz⟩ := hrel
      have hk4 : k = 0 ∨ k = 1 ∨ k = 2 ∨ k = 3 := by omega
      rcases hk4 with rfl | rfl | rfl | rfl
      · by_cases ha : a = 0
        · have HA := Lib.hid ha
          have e : (a == 0) = true := by simpa using ha
          go_wp2
          go_round
          case rel => exact ⟨1, by omega, rfl, Lib.hid ⟨fun _ => HA.out, by omega, by omega⟩⟩
          case measure => simp [intOf]
        · have HA := Lib.hid ha
          go_wp2
          go_ret
          refine ⟨?_, rfl⟩
          rw [← HX.out, or3, if_pos HA.out]
          rfl
      · by_cases ha : b = 0
        · have HA := Lib.hid ha
          go_wp2
          go_round
          case rel => exact ⟨2, by omega, rfl, Lib.hid ⟨fun _ => hz.out.1 (by omega), fun _ => HA.out, by omega⟩⟩
          case measure => simp [intOf]
        · have HA := Lib.hid ha
          go_wp2
          go_ret
          refine ⟨?_, rfl⟩
          rw [← HX.out, or3, if_neg (by simp [hz.out.1 (by omega)]), if_pos HA.out]
          rfl
      · by_cases ha : c = 0
        · have HA := Lib.hid ha
          go_wp2
          go_round
          case rel => exact ⟨3, by omega, rfl, Lib.hid ⟨fun _ => hz.out.1 (by omega), fun _ => hz.out.2.1 (by omega), fun _ => HA.out⟩⟩
          case measure => simp [intOf]
        · have HA := Lib.hid ha
          go_wp2
          go_ret
          refine ⟨?_, rfl⟩
          rw [← HX.out, or3, if_neg (by simp [hz.out.1 (by omega)]), if_neg (by simp [hz.out.2.1 (by omega)])]
          rfl
      · go_wp2
        go_ret
        refine ⟨?_, rfl⟩
        rw [← HX.out, or3, if_neg (by simp [hz.out.1 (by omega)]), if_neg (by simp [hz.out.2.1 (by omega)]), hz.out.2.2 (by omega)]
        rfl
  exact key _ rfl

/-- It has laid blocks of its own, and drawn. -/
def Laid (w : World) (v : Value) (e : Ending) (w' : World) : Prop := e = .returned v ∧ ∃ q os, w' = Sort.grow (w.drewN q) os
theorem Laid.below {w w' : World} {v : Value} {e : Ending} (h : Laid w v e w') : Below w.heap.size w w' := by
  obtain ⟨-, q, os, rfl⟩ := h
  refine ⟨rfl, rfl, rfl, by simp [Sort.grow, World.drewN], fun k hk => ?_⟩
  simp only [Sort.grow, World.drewN]
  rw [Array.getElem?_append_left hk]

set_option maxHeartbeats 2000000 in
set_option maxRecDepth 100000 in
theorem order_edge (x y : Ed) (w : World) : Calls Tryz.prog 85 #[x.agg, y.agg] w (Laid w (.int .i64 (cmpE x y))) := by
  obtain ⟨a0, a1, a2⟩ := x
  obtain ⟨b0, b1, b2⟩ := y
  rw [cmpE_or]
  dsimp only
  obtain ⟨v0, e0⟩ : ∃ v, cmpT a0 b0 = v := ⟨_, rfl⟩
  obtain ⟨v1, e1⟩ : ∃ v, cmpT a1 b1 = v := ⟨_, rfl⟩
  obtain ⟨v2, e2⟩ : ∃ v, cmpT a2 b2 = v := ⟨_, rfl⟩
  have H0 := fun W => compare_any a0 b0 W
  have H1 := fun W => compare_any a1 b1 W
  have H2 := fun W => compare_any a2 b2 W
  rw [e0] at H0 ⊢
  rw [e1] at H1 ⊢
  rw [e2] at H2 ⊢
  clear e0 e1 e2
  have k0 := (Blk.new w 39 #[.string a0, .string a1, .string a2]).alloc (.cells #[.string b0, .string b1, .string b2] 39)
  have k1 := Blk.new (w.alloc (.cells #[.string a0, .string a1, .string a2] 39)) 39 #[.string b0, .string b1, .string b2]
  simp only [World.size_alloc] at k1
  have HK := Lib.hid (And.intro k0 k1)
  have hg : ∀ o, Sort.grow (w.drewN 1) #[.cells #[.string a0, .string a1, .string a2] 39, .cells #[.string b0, .string b1, .string b2] 39, o] = ((w.alloc (.cells #[.string a0, .string a1, .string a2] 39)).alloc (.cells #[.string b0, .string b1, .string b2] 39)).drew.alloc o := fun o => by
    rw [Sort.alloc_eq_grow, Sort.alloc_eq_grow, Sort.alloc_eq_grow, Sort.grow_grow, Sort.drew_grow, Sort.grow_grow]
    rfl
  have HG := Lib.hid hg
  clear k0 k1 hg
  unfold Ed.agg
  go_enter Tryz.func85, Tryz.ntmps85
  go_upto_region 1 with (fail)
  generalize (w.alloc (.cells #[.string a0, .string a1, .string a2] 39)).alloc (.cells #[.string b0, .string b1, .string b2] 39) = W0 at HK HG ⊢
  have c00 : W0.cell? ⟨w.heap.size, 0, none⟩ = some (.string a0) := HK.out.1.cell 0
  have c01 : W0.cell? ⟨w.heap.size, 1, none⟩ = some (.string a1) := HK.out.1.cell 1
  have c02 : W0.cell? ⟨w.heap.size, 2, none⟩ = some (.string a2) := HK.out.1.cell 2
  have c10 : W0.cell? ⟨w.heap.size + 1, 0, none⟩ = some (.string b0) := HK.out.2.cell 0
  have c11 : W0.cell? ⟨w.heap.size + 1, 1, none⟩ = some (.string b1) := HK.out.2.cell 1
  have c12 : W0.cell? ⟨w.heap.size + 1, 2, none⟩ = some (.string b2) := HK.out.2.cell 2
  refine wp_region_ord (fun w' => w'.cell? ⟨w.heap.size, 0, none⟩ = some (.string a0) ∧ w'.cell? ⟨w.heap.size, 1, none⟩ = some (.string a1) ∧ w'.cell? ⟨w.heap.size, 2, none⟩ = some (.string a2) ∧ w'.cell? ⟨w.heap.size + 1, 0, none⟩ = some (.string b0) ∧ w'.cell? ⟨w.heap.size + 1, 1, none⟩ = some (.string b1) ∧ w'.cell? ⟨w.heap.size + 1, 2, none⟩ = some (.string b2)) 18
    [(0, true), (1, true), (2, true), (3, true), (5, true), (6, true), (7, true), (8, true), (10, true), (11, true), (12, true), (13, true), (4, false), (9, false), (14, false), (15, false), (16, false), (17, true)] (by kernel_rfl) (by kernel_rfl) (fun _ _ d _ _ h => by cases d <;> exact h) ⟨c00, c01, c02, c10, c11, c12⟩ ?_
  iterate 12 (refine ord_take (v := ?_) rfl (by first | with_reducible rfl | kernel_rfl) ?_ ?_; rotate_left; (focus (intro wS hS; (try dsimp only at hS); go_split_ands; go_simp; (try with_reducible rfl); done)); (try simp only [Act.put, List.getElem_toArray, List.getElem_cons_succ, List.getElem_cons_zero, List.setIfInBounds_toArray, List.set_cons_zero, List.set_cons_succ]))
  refine ord_do rfl rfl (fun K hK => ?_)
  go_simp
  refine (H0 _).mono ?_
  rintro e w1 ⟨rfl, rfl⟩
  refine hK _ _ (fun _ => ⟨c00, c01, c02, c10, c11, c12⟩) ?_
  clear hK K
  (try simp only [Act.put, List.getElem_toArray, List.getElem_cons_succ, List.getElem_cons_zero, List.setIfInBounds_toArray, List.set_cons_zero, List.set_cons_succ])
  refine ord_do rfl rfl (fun K hK => ?_)
  go_simp
  refine (H1 _).mono ?_
  rintro e w1 ⟨rfl, rfl⟩
  refine hK _ _ (fun _ => ⟨c00, c01, c02, c10, c11, c12⟩) ?_
  clear hK K
  (try simp only [Act.put, List.getElem_toArray, List.getElem_cons_succ, List.getElem_cons_zero, List.setIfInBounds_toArray, List.set_cons_zero, List.set_cons_succ])
  refine ord_do rfl rfl (fun K hK => ?_)
  go_simp
  refine (H2 _).mono ?_
  rintro e w1 ⟨rfl, rfl⟩
  refine hK _ _ (fun _ => ⟨c00, c01, c02, c10, c11, c12⟩) ?_
  clear hK K
  (try simp only [Act.put, List.getElem_toArray, List.getElem_cons_succ, List.getElem_cons_zero, List.setIfInBounds_toArray, List.set_cons_zero, List.set_cons_succ])
  have bA : Below W0.heap.size W0 (W0.drew.alloc (.cells #[.int .i64 v0, .int .i64 v1, .int .i64 v2] 3)) := by (repeat (first | exact Below.refl _ _ | apply Below.drew | refine Below.alloc ?_ (by first | exact Nat.le_refl _ | (simp; done) | (simp; omega)) _ | refine Below.setCell ?_ (by first | exact Nat.le_refl _ | (simp; done) | (simp; omega)) _))
  have up : ∀ w', Below W0.heap.size W0 w' → w'.cell? ⟨w.heap.size, 0, none⟩ = some (.string a0) ∧ w'.cell? ⟨w.heap.size, 1, none⟩ = some (.string a1) ∧ w'.cell? ⟨w.heap.size, 2, none⟩ = some (.string a2) ∧ w'.cell? ⟨w.heap.size + 1, 0, none⟩ = some (.string b0) ∧ w'.cell? ⟨w.heap.size + 1, 1, none⟩ = some (.string b1) ∧ w'.cell? ⟨w.heap.size + 1, 2, none⟩ = some (.string b2) := fun w' hb => by
    have u := Upd.of_below hb (fun _ => False)
    have h1 := HK.out.1.upd u id
    have h2 := HK.out.2.upd u id
    exact ⟨h1.cell 0, h1.cell 1, h1.cell 2, h2.cell 0, h2.cell 1, h2.cell 2⟩
  have SA := Lib.hid (up _ bA)
  have kA := Blk.new W0.drew 3 #[.int .i64 v0, .int .i64 v1, .int .i64 v2]
  have HA := Lib.hid (or3_any _ _ v0 v1 v2 kA)
  clear up bA kA
  refine ord_do rfl rfl (fun K hK => ?_)
  go_simp
  refine hK _ _ (fun _ => SA.out) ?_
  clear hK K
  (try simp only [Act.put, List.getElem_toArray, List.getElem_cons_succ, List.getElem_cons_zero, List.setIfInBounds_toArray, List.set_cons_zero, List.set_cons_succ])
  refine ord_do rfl rfl (fun K hK => ?_)
  go_simp
  refine HA.out.mono ?_
  rintro e w1 ⟨rfl, rfl⟩
  refine hK _ _ (fun _ => SA.out) ?_
  clear hK K
  (try simp only [Act.put, List.getElem_toArray, List.getElem_cons_succ, List.getElem_cons_zero, List.setIfInBounds_toArray, List.set_cons_zero, List.set_cons_succ])
  (refine ord_take (v := ?_) rfl (by first | with_reducible rfl | kernel_rfl) ?_ ?_; rotate_left; (focus (intro wS hS; (try dsimp only at hS); go_split_ands; go_simp; (try with_reducible rfl); done)); (try simp only [Act.put, List.getElem_toArray, List.getElem_cons_succ, List.getElem_cons_zero, List.setIfInBounds_toArray, List.set_cons_zero, List.set_cons_succ]))
  refine ord_done ?_
  go_wp2
  go_ret
  exact ⟨rfl, 1, _, (HG.out _).symm⟩
end Go.Proofs.YthmkgnifcbnkpaaGreat
