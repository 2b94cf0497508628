/- Matrices of bits: grow, at the corner; Matrices of bits: grow, at the corner, without a leaf; Blocks of bits: how many cells an union has; a row of blocks written over (the plain law); Matrices of bits: or, at the corner. -/
import Derived.Test.YtnmkieiehjajlaaGreatDoorZ35
set_option linter.unusedVariables false
set_option linter.unusedSimpArgs false
namespace Go.Proofs.YtnmkieiehjajlaaGreatDoor
open Go.RowKit

def GrowP (w : World) (O : Nat → Option QRo) (p side dep cnt : Nat) (r : List Nat) (e : Ending) (w' : World) : Prop :=
  e = .returned (.int .i64 0) ∧ ∃ O' pv' lv', QuI w' O' p side dep cnt (dep - 1) 1 [r] pv' lv' ∧ Upd (fun k => O k ≠ none) w w' ∧ ∀ k, O' k ≠ none → O k ≠ none ∨ w.heap.size ≤ k
theorem QuX.cellP {w : World} {O : Nat → Option QRo} {p side dep cnt np nl pg pc : Nat} {xs ls : List Value} {lv : Value} (h : QuX w O p side dep cnt np xs nl ls (.slice (some ⟨pg, 0, none⟩) np pc) lv) (hn : 0 < np) {i : Nat} {v : Value} (hi : xs[i]? = some v) : w.cell? ⟨pg, i, none⟩ = some v ∧ w.frozen? ⟨pg, i, none⟩ = false := by
  obtain ⟨g', c', e', -, -, -, -, hc'⟩ := own_cells h.rp hn
  injection e' with e'
  injection e' with e'
  injection e' with e'
  subst e'
  exact hc' i v hi
set_option maxHeartbeats 4000000 in
set_option maxRecDepth 20000 in
theorem grow_full (w : World) (O : Nat → Option QRo) (p side dep cnt m : Nat) (r : List Nat) (pv lv : Value) (h : QuI w O p side dep cnt m 1 [r] pv lv) (hd : m + 1 = dep) (hd4 : dep ≤ 4) :
    Calls Tryz.prog 124 #[.pointer (some ⟨p, 0, none⟩), .int .i64 0, .int .i64 0] w (GrowP w O p side dep cnt r) := by
  have hx := h.x
  have q1 : w.cell? ⟨p, 1, none⟩ = some (.int .i64 (dep : Int)) := h.blk.cell 1
  obtain ⟨pg, pc, e, -, -, -, -, -⟩ := own_cells h.rp (by omega)
  subst e
  have SR := Lib.hid (show ∀ W, Below w.heap.size w W → ∀ k, k ≤ m → W.cell? ⟨p, 3, none⟩ = some (.slice (some ⟨pg, 0, none⟩) (m + 1) pc) ∧ W.cell? ⟨pg, k * 4, none⟩ = some (.int .i64 (if k < m then (k : Int) + 2 else 1)) from fun W hb k hk => by
    have hi := hx.below hb
    refine ⟨hi.blk.cell 3, ?_⟩
    by_cases hkm : k < m
    · rw [if_pos hkm]
      exact (hi.cellP (by omega) (qsC_in hkm)).1
    · obtain rfl : k = m := by omega
      rw [if_neg hkm]
      exact (hi.cellP (by omega) qsC_last).1)
  have HP := Lib.hid (show ∀ W, Below w.heap.size w W → GrowP w O p side dep cnt r (.returned (.int .i64 0)) W from fun W hb => ⟨rfl, O, _, _, by
    have hm : dep - 1 = m := by omega
    rw [hm]
    exact (hx.below hb).i, Upd.of_below hb _, fun _ hk => .inl hk⟩)
  obtain ⟨n, hn⟩ : ∃ n, m + 1 = n := ⟨_, rfl⟩
  rw [hn] at SR
  have hw1 : IntKind.i64.wrap ((dep : Int) - 1) = (dep : Int) - 1 := by rw [IntKind.wrap_i64]; omega
  have hdm : (dep : Int) - 1 = (m : Int) := by omega
  rw [hdm] at hw1
  have hw1 : IntKind.i64.wrap ((dep : Int) - 1) = (m : Int) := by rw [hdm]; exact hw1
  clear h hx
  go_enter Tryz.func124, Tryz.ntmps124
  go_wp2_with fail
  clear q1
  go_loopw [7, 8] (fun a l wr => ∃ k : Nat, k ≤ m ∧ a = .int .i64 k ∧ l = .int .i64 ((m : Int) - k) ∧ Hid (Below w.heap.size w wr)) (fun _ l _ => (intOf l).toNat)
  case atStart => exact ⟨0, Nat.zero_le _, rfl, by simp, Lib.hid (Below.refl _ _)⟩
  case round =>
    obtain ⟨k, hk, rfl, rfl, hb⟩ := hrel
    obtain ⟨l, hl0⟩ : ∃ l : Nat, (m : Int) - (k : Int) = (l : Int) := ⟨m - k, by omega⟩
    rw [hl0]
    have hl10 : l ≤ 10 := by omega
    have hkn : (k : Int) < (n : Int) := by omega
    have hwy := way_any l hl10 wr
    by_cases hlt : k < m
    · have hlp : 0 < l := by omega
      go_wp2_with fail
      refine hwy.mono ?_
      clear hwy
      rintro e V1 ⟨rfl, b1⟩
      have HB1 := Lib.hid (hb.out.trans (b1.mono hb.out.size))
      obtain ⟨q3, qk⟩ := SR.out V1 HB1.out k hk
      rw [if_pos hlt] at qk
      have z0 : ((k : Int) + 2 == 0) = false := by simp; omega
      have w0 : IntKind.i64.wrap ((k : Int) + 1) = (k : Int) + 1 := IntWalk.i64_in _ (by omega)
      have w1 : IntKind.i64.wrap ((l : Int) - 1) = (l : Int) - 1 := by rw [IntKind.wrap_i64]; omega
      clear b1 hb
      go_wp2
      go_roundw
      case rel => exact ⟨k + 1, by omega, by go_num, by congr 1; omega, HB1⟩
      case measure => simp [intOf] <;> omega
    · obtain rfl : k = m := by omega
      obtain rfl : l = 0 := by omega
      clear hwy
      go_wp2_with fail
      refine (way_any 0 (by decide) wr).mono ?_
      rintro e V1 ⟨rfl, b1⟩
      have HB1 := Lib.hid (hb.out.trans (b1.mono hb.out.size))
      obtain ⟨q3, qk⟩ := SR.out V1 HB1.out k hk
      rw [if_neg hlt] at qk
      clear b1 hb
      have FIN := Lib.hid (HP.out V1 HB1.out)
      go_wp2
      go_ret
      exact FIN.out
end Go.Proofs.YtnmkieiehjajlaaGreatDoor
namespace Go.Proofs.YtnmkieiehjajlaaGreatDoor
open Go.RowKit

theorem info_blk : (Tryz.prog.info? 124).map (fun i => (i.zero, i.size, i.bytes)) = some (some (.agg #[Value.int .u64 0, Value.int .u64 0, Value.int .u64 0, Value.int .u64 0, Value.int .u64 0, Value.int .u64 0, Value.int .u64 0, Value.int .u64 0, Value.int .u64 0, Value.int .u64 0, Value.int .u64 0, Value.int .u64 0, Value.int .u64 0, Value.int .u64 0, Value.int .u64 0, Value.int .u64 0, Value.int .u64 0, Value.int .u64 0, Value.int .u64 0, Value.int .u64 0, Value.int .u64 0, Value.int .u64 0, Value.int .u64 0, Value.int .u64 0, Value.int .u64 0, Value.int .u64 0, Value.int .u64 0, Value.int .u64 0, Value.int .u64 0, Value.int .u64 0, Value.int .u64 0, Value.int .u64 0, Value.int .u64 0, Value.int .u64 0, Value.int .u64 0, Value.int .u64 0, Value.int .u64 0, Value.int .u64 0, Value.int .u64 0, Value.int .u64 0, Value.int .u64 0, Value.int .u64 0, Value.int .u64 0, Value.int .u64 0, Value.int .u64 0, Value.int .u64 0, Value.int .u64 0, Value.int .u64 0, Value.int .u64 0, Value.int .u64 0, Value.int .u64 0, Value.int .u64 0, Value.int .u64 0, Value.int .u64 0, Value.int .u64 0, Value.int .u64 0, Value.int .u64 0, Value.int .u64 0, Value.int .u64 0, Value.int .u64 0, Value.int .u64 0, Value.int .u64 0, Value.int .u64 0, Value.int .u64 0]), 64, 512) := by kernel_rfl
theorem one_four (x : Int) : ∀ u ∈ four x, u.oneCell' = true := fun u hu => by
  simp only [four, List.mem_cons, List.not_mem_nil, or_false] at hu
  rcases hu with rfl | rfl | rfl | rfl <;> rfl
theorem zl_eq : (#[Value.int .u64 0, Value.int .u64 0, Value.int .u64 0, Value.int .u64 0, Value.int .u64 0, Value.int .u64 0, Value.int .u64 0, Value.int .u64 0, Value.int .u64 0, Value.int .u64 0, Value.int .u64 0, Value.int .u64 0, Value.int .u64 0, Value.int .u64 0, Value.int .u64 0, Value.int .u64 0, Value.int .u64 0, Value.int .u64 0, Value.int .u64 0, Value.int .u64 0, Value.int .u64 0, Value.int .u64 0, Value.int .u64 0, Value.int .u64 0, Value.int .u64 0, Value.int .u64 0, Value.int .u64 0, Value.int .u64 0, Value.int .u64 0, Value.int .u64 0, Value.int .u64 0, Value.int .u64 0, Value.int .u64 0, Value.int .u64 0, Value.int .u64 0, Value.int .u64 0, Value.int .u64 0, Value.int .u64 0, Value.int .u64 0, Value.int .u64 0, Value.int .u64 0, Value.int .u64 0, Value.int .u64 0, Value.int .u64 0, Value.int .u64 0, Value.int .u64 0, Value.int .u64 0, Value.int .u64 0, Value.int .u64 0, Value.int .u64 0, Value.int .u64 0, Value.int .u64 0, Value.int .u64 0, Value.int .u64 0, Value.int .u64 0, Value.int .u64 0, Value.int .u64 0, Value.int .u64 0, Value.int .u64 0, Value.int .u64 0, Value.int .u64 0, Value.int .u64 0, Value.int .u64 0, Value.int .u64 0] : Array Value) = (wdC zero64).toArray := by kernel_rfl
set_option maxHeartbeats 8000000 in
set_option maxRecDepth 20000 in
theorem grow_empty (w : World) (O : Nat → Option QRo) (p side dep cnt : Nat) (pv lv : Value) (h : QuI w O p side dep cnt 0 0 [] pv lv) (hd : 1 ≤ dep) (hd4 : dep ≤ 4) :
    Calls Tryz.prog 124 #[.pointer (some ⟨p, 0, none⟩), .int .i64 0, .int .i64 0] w (GrowP w O p side dep cnt zero64) := by
  obtain ⟨m, hm⟩ : ∃ m, dep = m + 1 := ⟨dep - 1, by omega⟩
  subst hm
  have q1 : w.cell? ⟨p, 1, none⟩ = some (.int .i64 ((m + 1 : Nat) : Int)) := h.blk.cell 1
  have H0 := Lib.hid h.x
  have hw1 : IntKind.i64.wrap (((m + 1 : Nat) : Int) - 1) = (m : Int) := by rw [IntKind.wrap_i64]; omega
  generalize ((m + 1 : Nat) : Int) = dI at q1 hw1
  clear h
  go_enter Tryz.func124, Tryz.ntmps124
  go_wp2_with fail
  clear q1
  go_loopw [7, 8] (fun a l wr => ∃ k : Nat, k ≤ m ∧ a = .int .i64 k ∧ l = .int .i64 ((m : Int) - k) ∧ Hid (∃ O1 pv1 lv1, QuX wr O1 p side (m + 1) cnt (k + 1) (qsC k 0) 0 [] pv1 lv1 ∧ Upd (fun b => O b ≠ none) w wr ∧ ∀ b, O1 b ≠ none → O b ≠ none ∨ w.heap.size ≤ b)) (fun _ l _ => (intOf l).toNat)
  case atStart => exact ⟨0, Nat.zero_le _, rfl, by simp, Lib.hid ⟨O, pv, lv, H0.out, Upd.refl _ _, fun _ h => .inl h⟩⟩
  case round =>
    obtain ⟨k, hk, rfl, rfl, hq⟩ := hrel
    obtain ⟨l, hl0⟩ : ∃ l : Nat, (m : Int) - (k : Int) = (l : Int) := ⟨m - k, by omega⟩
    rw [hl0]
    have hl10 : l ≤ 10 := by omega
    have hwy := way_any l hl10 wr
    obtain ⟨O1, pv1, lv1, hx1, hu1, hn1⟩ := hq.out
    obtain ⟨pg, pc, e, -, hpc, -, -, -⟩ := own_cells hx1.rp (by omega)
    subst e
    have HX1 := Lib.hid (And.intro hx1 (And.intro hu1 hn1))
    obtain ⟨n, hn⟩ : ∃ n, k + 1 = n := ⟨_, rfl⟩
    have hkn : (k : Int) < (n : Int) := by omega
    clear hq hx1 hu1 hn1
    by_cases hlt : k < m
    · have hlp : 0 < l := by omega
      go_wp2_with fail
      refine hwy.mono ?_
      clear hwy
      rintro e V1 ⟨rfl, b1⟩
      have hx2 := HX1.out.1.below b1
      have hu2 : Upd (fun b => O b ≠ none) w V1 := HX1.out.2.1.trans (Upd.of_below b1 (fun _ => False)) (fun _ h => h.elim)
      have hsz : wr.heap.size ≤ V1.heap.size := b1.size
      have q3 : V1.cell? ⟨p, 3, none⟩ = some (.slice (some ⟨pg, 0, none⟩) n pc) := by rw [← hn]; exact hx2.blk.cell 3
      have qk : V1.cell? ⟨pg, k * 4, none⟩ = some (.int .i64 0) := (hx2.cellP (by omega) qsC_last).1
      have f3 := hx2.blk.frozen 3
      obtain ⟨v2, W2, happ, own2, u2, p2⟩ := push_own V1 0 113 169 4 32 _ Tryz.underlying113 info_four rfl (by decide) (.slice (some ⟨pg, 0, none⟩) (k + 1) pc) (k + 1) _ hx2.rp (four 0) 1 rfl (one_four 0) (by omega) (by unfold maxLen; omega) (Nat.zero_le _)
      obtain ⟨A2, c2, rfl, -, -⟩ := own_form own2
      obtain ⟨O2, hx3, hn3, hu3⟩ := hx2.pushP own2 u2 p2
      have kb2 : Blk W2 p 116 #[.int .i64 (side : Int), .int .i64 ((m + 1 : Nat) : Int), .int .i64 (cnt : Int), .slice (some ⟨pg, 0, none⟩) (k + 1) pc, lv1] := hx2.blk.upd u2 (fun e => by have := hx2.oa _ e; rw [hx2.op] at this; cases this)
      have r3 : W2.cell? ⟨p, 3, none⟩ = some (.slice (some ⟨pg, 0, none⟩) n pc) := by rw [← hn]; exact kb2.cell 3
      have g3 : W2.frozen? ⟨p, 3, none⟩ = false := kb2.frozen 3
      rw [hn] at happ
      have HX3 := Lib.hid (show QuX (W2.setCell ⟨p, 3, none⟩ (.slice A2 (k + 1 + 1) c2)) O2 p side (m + 1) cnt (k + 1 + 1) (qsC k 0 ++ four 0) 0 [] (.slice A2 (k + 1 + 1) c2) lv1 ∧ Upd (fun b => O b ≠ none) w (W2.setCell ⟨p, 3, none⟩ (.slice A2 (k + 1 + 1) c2)) ∧ ∀ b, O2 b ≠ none → O b ≠ none ∨ w.heap.size ≤ b from
        ⟨hx3, hu2.trans hu3 (fun b hb => HX1.out.2.2 b hb), fun b hb => by
          rcases hn3 b hb with h1 | h1
          · exact HX1.out.2.2 b h1
          · have := hu2.size; exact .inr (by omega)⟩)
      obtain ⟨n2, hn2⟩ : ∃ n2, k + 1 + 1 = n2 := ⟨_, rfl⟩
      rw [hn2] at HX3
      have hn2' : n + 1 = n2 := by omega
      rw [hn2'] at happ
      have hfour : (four 0).toArray = #[.int .i64 0, .int .i64 0, .int .i64 0, .int .i64 0] := rfl
      rw [hfour] at happ
      clear hx2 hu2 own2 u2 p2 hx3 hn3 hu3 kb2 hfour f3
      go_upto_region 8 with (first | (at_builtin; refine wpList_append_run rfl _ _ _ rfl rfl rfl happ ?_) | fail)
      generalize W2.setCell ⟨p, 3, none⟩ (.slice A2 n2 c2) = W3 at HX3 ⊢
      clear q3 qk r3 g3 happ
      obtain ⟨hx3, hu3, hn3⟩ := HX3.out
      obtain ⟨pg2, pc2, e2, -, -, -, -, -⟩ := own_cells hx3.rp (by omega)
      injection e2 with e2 e3 e4
      subst e2
      subst e4
      clear e3
      have hk4 : (qsC k 0 ++ four 0)[k * 4]? = some (.int .i64 0) := by rw [List.getElem?_append_left (by rw [qsC_len]; omega)]; exact qsC_last
      have c0 := hx3.cellP (by omega) hk4
      have q3 : W3.drew.cell? ⟨p, 3, none⟩ = some (.slice (some ⟨pg2, 0, none⟩) n2 c2) := hx3.blk.cell 3
      have qk : W3.drew.cell? ⟨pg2, k * 4, none⟩ = some (.int .i64 0) := c0.1
      have fk : W3.drew.frozen? ⟨pg2, k * 4, none⟩ = false := c0.2
      obtain ⟨hx4, hu4⟩ := hx3.setP (i := k * 4) (by omega) (.int .i64 ((k : Int) + 2))
      have hst := qsC_step k
      have hx4' : QuX (W3.setCell ⟨pg2, k * 4, none⟩ (.int .i64 ((k : Int) + 2))).drew O2 p side (m + 1) cnt (k + 1 + 1) (qsC (k + 1) 0) 0 [] (.slice (some ⟨pg2, 0, none⟩) n2 c2) lv1 := by
        rw [hst] at hx4
        rw [hn2]
        exact hx4.below (Below.refl _ _).drew
      have HX4 := Lib.hid (show QuX (W3.setCell ⟨pg2, k * 4, none⟩ (.int .i64 ((k : Int) + 2))).drew O2 p side (m + 1) cnt (k + 1 + 1) (qsC (k + 1) 0) 0 [] (.slice (some ⟨pg2, 0, none⟩) n2 c2) lv1 ∧ Upd (fun b => O b ≠ none) w (W3.setCell ⟨pg2, k * 4, none⟩ (.int .i64 ((k : Int) + 2))).drew ∧ ∀ b, O2 b ≠ none → O b ≠ none ∨ w.heap.size ≤ b from ⟨hx4', (hu3.trans hu4 (fun b hb => hn3 b hb)).drew, hn3⟩)
      have hn2I := Lib.hid (show ((n2 : Nat) : Int) = (k : Int) + 2 by omega)
      have hkn2 : (k : Int) < (n2 : Int) := by omega
      clear hx3 hu3 hn3 hx4 hu4 hst hx4' c0 hk4 HX3 hn2 hn2'
      refine wp_region_ord (fun W => W.cell? ⟨p, 3, none⟩ = some (.slice (some ⟨pg2, 0, none⟩) n2 c2)) 13 [(0, true), (1, true), (2, true), (3, true), (4, true), (5, true), (6, true), (7, true), (8, true), (9, true), (10, true), (11, true), (12, true), (13, false)] (by kernel_rfl) (by kernel_rfl) (fun _ _ d _ _ h => by cases d <;> exact h) q3 ?_
      iterate 13 (refine ord_take (v := ?_) rfl (by first | with_reducible rfl | kernel_rfl) ?_ ?_; rotate_left; (focus (intro wS hS; (try dsimp only at hS); go_split_ands; go_simp; (try with_reducible rfl); done)); (try simp only [Act.put, List.getElem_toArray, List.getElem_cons_succ, List.getElem_cons_zero, List.setIfInBounds_toArray, List.set_cons_zero, List.set_cons_succ]))
      refine ord_do rfl rfl (fun K hK => ?_)
      go_simp
      rw [hn2I.out]
      refine hK _ _ (fun h => absurd rfl h) ?_
      clear hK K q3 qk fk
      (try simp only [Act.put, List.getElem_toArray, List.getElem_cons_succ, List.getElem_cons_zero, List.setIfInBounds_toArray, List.set_cons_zero, List.set_cons_succ])
      refine ord_done ?_
      generalize (W3.setCell ⟨pg2, k * 4, none⟩ (.int .i64 ((k : Int) + 2))).drew = W5 at HX4 ⊢
      have q5 : W5.cell? ⟨p, 3, none⟩ = some (.slice (some ⟨pg2, 0, none⟩) n2 c2) := HX4.out.1.blk.cell 3
      have q6 : W5.cell? ⟨pg2, k * 4, none⟩ = some (.int .i64 ((k : Int) + 2)) := by
        have h5 := HX4.out.1
        have hn3 : k + 1 + 1 = n2 := by have := hn2I.out; omega
        rw [hn3] at h5
        exact (h5.cellP (by omega) (qsC_in (by omega))).1
      have w0 : IntKind.i64.wrap ((k : Int) + 1) = (k : Int) + 1 := IntWalk.i64_in _ (by omega)
      have w1 : IntKind.i64.wrap ((l : Int) - 1) = (l : Int) - 1 := by rw [IntKind.wrap_i64]; omega
      go_wp2
      go_roundw
      case rel => exact ⟨k + 1, by omega, by go_num, by congr 1; omega, Lib.hid ⟨O2, _, lv1, HX4.out.1, HX4.out.2.1, HX4.out.2.2⟩⟩
      case measure => simp [intOf] <;> omega
    · obtain rfl : k = m := by omega
      obtain rfl : l = 0 := by omega
      clear hwy
      go_wp2_with fail
      refine (way_any 0 (by decide) wr).mono ?_
      rintro e V1 ⟨rfl, b1⟩
      have hx2 := HX1.out.1.below b1
      have hu2 : Upd (fun b => O b ≠ none) w V1 := HX1.out.2.1.trans (Upd.of_below b1 (fun _ => False)) (fun _ h => h.elim)
      have hsz : wr.heap.size ≤ V1.heap.size := b1.size
      have q3 : V1.cell? ⟨p, 3, none⟩ = some (.slice (some ⟨pg, 0, none⟩) n pc) := by rw [← hn]; exact hx2.blk.cell 3
      have qk : V1.cell? ⟨pg, k * 4, none⟩ = some (.int .i64 0) := (hx2.cellP (by omega) qsC_last).1
      obtain ⟨A1, c1, rfl, -, -⟩ := own_form hx2.rl
      have q4 : V1.cell? ⟨p, 4, none⟩ = some (.slice A1 0 c1) := hx2.blk.cell 4
      obtain ⟨v2, W2, happ, own2, u2, p2⟩ := push_own V1 0 114 124 64 512 _ Tryz.underlying114 info_blk rfl (by decide) (.slice A1 0 c1) 0 _ hx2.rl (wdC zero64) 1 (by simp [wdC_len, zero64_len]) (one_wd _) (by decide) (by decide) (Nat.zero_le _)
      rw [List.nil_append, Nat.zero_add] at own2
      obtain ⟨A2, c2, rfl, -, -⟩ := own_form own2
      obtain ⟨O2, hx3, hn3, hu3⟩ := hx2.pushL own2 u2 p2
      have kb2 : Blk W2 p 116 #[.int .i64 (side : Int), .int .i64 ((k + 1 : Nat) : Int), .int .i64 (cnt : Int), .slice (some ⟨pg, 0, none⟩) (k + 1) pc, .slice A1 0 c1] := hx2.blk.upd u2 (fun e => by have := hx2.ol _ e; rw [hx2.op] at this; cases this)
      have r4 : W2.cell? ⟨p, 4, none⟩ = some (.slice A1 0 c1) := kb2.cell 4
      have g4 : W2.frozen? ⟨p, 4, none⟩ = false := kb2.frozen 4
      rw [← zl_eq] at happ
      have HX3 := Lib.hid (And.intro hx3 (And.intro (hu2.trans hu3 (fun b hb => HX1.out.2.2 b hb)) (show ∀ b, O2 b ≠ none → O b ≠ none ∨ w.heap.size ≤ b from fun b hb => by
          rcases hn3 b hb with h1 | h1
          · exact HX1.out.2.2 b h1
          · have := hu2.size; exact .inr (by omega))))
      clear hx2 hu2 own2 u2 p2 hx3 hn3 hu3 kb2
      go_upto_region 13 with (first | (at_builtin; refine wpList_append_run rfl _ _ _ rfl rfl rfl happ ?_) | fail)
      generalize W2.setCell ⟨p, 4, none⟩ (.slice A2 1 c2) = W3 at HX3 ⊢
      clear q3 qk q4 r4 g4 happ
      obtain ⟨hx3, hu3, hn3⟩ := HX3.out
      have c0 := hx3.cellP (by omega) (qsC_last (m := k) (last := 0))
      have q3 : W3.drew.cell? ⟨p, 3, none⟩ = some (.slice (some ⟨pg, 0, none⟩) n pc) := by rw [← hn]; exact hx3.blk.cell 3
      have q4 : W3.drew.cell? ⟨p, 4, none⟩ = some (.slice A2 1 c2) := hx3.blk.cell 4
      have qk : W3.drew.cell? ⟨pg, k * 4, none⟩ = some (.int .i64 0) := c0.1
      have fk : W3.drew.frozen? ⟨pg, k * 4, none⟩ = false := c0.2
      obtain ⟨hx4, hu4⟩ := hx3.setP (i := k * 4) (by omega) (.int .i64 1)
      rw [qsC_end] at hx4
      have HX4 := Lib.hid (And.intro (hx4.below (show Below _ _ (W3.setCell ⟨pg, k * 4, none⟩ (.int .i64 1)).drew from (Below.refl _ _).drew)) (And.intro ((hu3.trans hu4 (fun b hb => hn3 b hb)).drew) hn3))
      have hS : W3.drew.cell? ⟨p, 3, none⟩ = some (.slice (some ⟨pg, 0, none⟩) n pc) ∧ W3.drew.cell? ⟨p, 4, none⟩ = some (.slice A2 1 c2) := ⟨q3, q4⟩
      clear hx3 hu3 hn3 hx4 hu4 c0 HX3 q3 q4
      refine wp_region_ord (fun W => W.cell? ⟨p, 3, none⟩ = some (.slice (some ⟨pg, 0, none⟩) n pc) ∧ W.cell? ⟨p, 4, none⟩ = some (.slice A2 1 c2)) 13 [(0, true), (1, true), (2, true), (3, true), (4, true), (5, true), (6, true), (7, true), (8, true), (9, true), (10, true), (11, true), (12, true), (13, false)] (by kernel_rfl) (by kernel_rfl) (fun _ _ d _ _ h => by cases d <;> exact h) hS ?_
      iterate 13 (refine ord_take (v := ?_) rfl (by first | with_reducible rfl | kernel_rfl) ?_ ?_; rotate_left; (focus (intro wS hS; (try dsimp only at hS); go_split_ands; go_simp; (try with_reducible rfl); done)); (try simp only [Act.put, List.getElem_toArray, List.getElem_cons_succ, List.getElem_cons_zero, List.setIfInBounds_toArray, List.set_cons_zero, List.set_cons_succ]))
      refine ord_do rfl rfl (fun K hK => ?_)
      go_simp
      refine hK _ _ (fun h => absurd rfl h) ?_
      clear hK K hS qk fk
      (try simp only [Act.put, List.getElem_toArray, List.getElem_cons_succ, List.getElem_cons_zero, List.setIfInBounds_toArray, List.set_cons_zero, List.set_cons_succ])
      refine ord_done ?_
      generalize (W3.setCell ⟨pg, k * 4, none⟩ (.int .i64 1)).drew = W5 at HX4 ⊢
      have q5 : W5.cell? ⟨p, 3, none⟩ = some (.slice (some ⟨pg, 0, none⟩) n pc) := by rw [← hn]; exact HX4.out.1.blk.cell 3
      have q6 : W5.cell? ⟨pg, k * 4, none⟩ = some (.int .i64 1) := (HX4.out.1.cellP (by omega) qsC_last).1
      have FIN := Lib.hid (show GrowP w O p side (k + 1) cnt zero64 (.returned (.int .i64 0)) W5 from ⟨rfl, O2, _, _, by
        have h5 := HX4.out.1
        have e : wdC zero64 = lfC [zero64] := by simp [lfC]
        rw [e] at h5
        exact h5.i, HX4.out.2.1, HX4.out.2.2⟩)
      clear HX4
      go_wp2
      go_ret
      first | exact FIN.out | (rw [← hn]; exact FIN.out)
end Go.Proofs.YtnmkieiehjajlaaGreatDoor
namespace Go.Proofs.YtnmkieiehjajlaaGreatDoor
open Go.RowKit

theorem low_bit (y : Nat) : y % 2 = (y.testBit 0).toNat := by
  rw [Nat.testBit_zero]
  rcases Nat.mod_two_eq_zero_or_one y with h | h <;> simp [h]
theorem pcN_or : ∀ (k o x n : Nat), (∀ i, i < k → n.testBit i = !o.testBit i) → pcN k (o ||| x) = pcN k o + pcN k (x &&& n)
  | 0, _, _, _, _ => rfl
  | k + 1, o, x, n, h => by
    have ih := pcN_or k (o / 2) (x / 2) (n / 2) (fun i hi => by
      have := h (i + 1) (by omega)
      rwa [Nat.testBit_succ, Nat.testBit_succ] at this)
    have h0 := h 0 (by omega)
    have e1 : (o ||| x) / 2 = o / 2 ||| x / 2 := Nat.or_div_two
    have e2 : (x &&& n) / 2 = x / 2 &&& n / 2 := Nat.and_div_two
    have m1 : (o ||| x) % 2 = o % 2 + (x &&& n) % 2 := by
      rw [low_bit (o ||| x), low_bit o, low_bit (x &&& n), Nat.testBit_or, Nat.testBit_and, h0]
      cases o.testBit 0 <;> cases x.testBit 0 <;> rfl
    rw [pcN, pcN, pcN, e1, e2, ih, m1]
    omega
theorem pcN_orN (o x : Nat) (ho : o < 18446744073709551616) : pcN 64 (orN o x) = pcN 64 o + pcN 64 (lessN x o) := by
  refine pcN_or 64 o x _ (fun i hi => ?_)
  have h := Nat.testBit_two_pow_sub_succ (x := o) (n := 64) ho i
  have e : 2 ^ 64 - (o + 1) = 18446744073709551615 - o := by omega
  rw [e] at h
  rw [h]
  simp [hi]
theorem lenB_or : ∀ {o x : List Nat}, (∀ y ∈ o, y < 18446744073709551616) → o.length = x.length → lenB (List.zipWith orN o x) = lenB o + lenB (List.zipWith lessN x o)
  | [], [], _, _ => rfl
  | [], _ :: _, _, h => by simp at h
  | _ :: _, [], _, h => by simp at h
  | a :: o, b :: x, hf, h => by
    have ih := lenB_or (o := o) (x := x) (fun y hy => hf y (by simp [hy])) (by simpa using h)
    have hp := pcN_orN a b (hf a (by simp))
    unfold lenB at *
    simp only [List.zipWith_cons_cons, List.map_cons, List.sum_cons]
    omega
theorem own_setAll {w : World} {base e size n g cap : Nat} {xs ys : List Value} (h : w.ownsRow base e size (.slice (some ⟨g, 0, none⟩) n cap) n xs) (hy : ys.length = n * size) :
    (w.setCells g 0 ys).ownsRow base e size (.slice (some ⟨g, 0, none⟩) n cap) n ys := by
  rcases h.2 with ⟨hv, -⟩ | ⟨g', cap', cur, hv, hb, hg, h1, h2, h3, h4⟩
  · cases hv
  injection hv with hv _ hv3
  injection hv with hv
  injection hv with hv _ _
  subst hv; subst hv3
  have hle : n * size ≤ cap * size := Nat.mul_le_mul_right _ h1
  obtain ⟨c', e1, e2, e3⟩ := setCells_heap g ys 0 w cur e hg (by omega)
  refine ⟨hy, .inr ⟨g, cap, c', rfl, hb, e1, h1, h2, by rw [e2]; exact h3, ?_⟩⟩
  rw [e3, List.take_zero, List.nil_append, ← hy, List.take_left]
theorem QuX.setLeaf {w : World} {O : Nat → Option QRo} {p side dep cnt np g cap : Nat} {xs ls ys : List Value} {pv : Value} (h : QuX w O p side dep cnt np xs 1 ls pv (.slice (some ⟨g, 0, none⟩) 1 cap)) (hy : ys.length = 64) :
    QuX (w.setCells g 0 ys) O p side dep cnt np xs 1 ys pv (.slice (some ⟨g, 0, none⟩) 1 cap) ∧ Upd (fun k => O k ≠ none) w (w.setCells g 0 ys) := by
  have us := Upd.setCells (F := fun k => k = g) (a := w) (b := g) (.inl rfl) ys 0 (Upd.refl _ w)
  have hg : O g = some .l := h.ol g rfl
  refine ⟨?_, us.mono (fun k _ e => by rw [e, hg]; nofun)⟩
  constructor
  case blk => exact h.blk.upd us (fun e => by have := hg; rw [← e, h.op] at this; cases this)
  case rl => exact own_setAll h.rl (by rw [hy])
  case rp => exact ownsRow_upd h.rp us fun k hk e => (by have := h.oa k hk; rw [e, hg] at this; cases this)
  case op => exact h.op
  case oa => exact h.oa
  case ol => exact h.ol
  case lt => exact fun k hk => Nat.lt_of_lt_of_le (h.lt k hk) us.size
end Go.Proofs.YtnmkieiehjajlaaGreatDoor
namespace Go.Proofs.YtnmkieiehjajlaaGreatDoor
open Go.RowKit

section
variable {P : Program} {ops : Array Oper} {Q : Exit → Act → World → Prop} {S : World → Prop} {n : Nat}
/-- A whole array that is read is taken first. -/
theorem ord_load {i : Nat} {r : List (Nat × Bool)} {a : Act} {w : World} {oi : Oper} (hi : ops[i]? = some oi) (hw : Region.wanted oi (yielded ops a.tmps) = true) (ty : TypeId) (x : Operand) (ho : oi.op = .load ty x) (b o : Nat) (hx : a.eval x = .pointer (some ⟨b, o, none⟩)) (cs : List Value) (d : TypeDesc) (hS : ∀ w, S w → w.rangeAt b o cs)
    (hu : P.underlying ty = some d) (hd : d.isRow = true) (hz : (P.info? ty).map (·.size) = some cs.length) (h : wpOrd P ops Q S n r (a.put oi.dst (.agg cs.toArray)) w) : wpOrd P ops Q S n ((i, true) :: r) a w :=
  ⟨_, oi, hi, yieldsIf_load_mid hw ty x ho b o hx cs d hS hu hd hz, h⟩
end
def QTo (w : World) (F : Nat → Prop) (p side : Nat) (b : Option (List Nat)) (w' : World) : Prop := ∃ F', QuS w' F' p side b ∧ Upd F w w' ∧ ∀ k, F' k → F k ∨ w.heap.size ≤ k
def oldW (b : Option (List Nat)) : List Nat := b.getD zero64
theorem oldW_wd {side dep cnt m : Nat} {last : Int} {L : List (List Nat)} {b : Option (List Nat)} (ok : QuOk side dep cnt m last L b) : Wd (oldW b) := by
  cases b with
  | none => exact zero64_wd
  | some r => exact (ok.is r rfl).2.2.2.2
theorem lenB_zero : lenB zero64 = 0 := by decide +kernel
theorem oldW_cnt {side dep cnt m : Nat} {last : Int} {L : List (List Nat)} {b : Option (List Nat)} (ok : QuOk side dep cnt m last L b) : cnt = lenB (oldW b) := by
  cases b with
  | none => rw [(ok.no rfl).2.2.2]; exact lenB_zero.symm
  | some r => exact (ok.is r rfl).2.2.2.1
theorem grow_any (w : World) (O : Nat → Option QRo) (p side dep cnt m : Nat) (last : Int) (L : List (List Nat)) (pv lv : Value) (b : Option (List Nat)) (h : QuI w O p side dep cnt m last L pv lv) (ok : QuOk side dep cnt m last L b) :
    Calls Tryz.prog 124 #[.pointer (some ⟨p, 0, none⟩), .int .i64 0, .int .i64 0] w (GrowP w O p side dep cnt (oldW b)) := by
  cases b with
  | none =>
    obtain ⟨rfl, rfl, rfl, -⟩ := ok.no rfl
    exact grow_empty w O p side dep cnt pv lv h ok.d1 ok.d2
  | some r =>
    obtain ⟨hm, rfl, rfl, -, -⟩ := ok.is r rfl
    exact grow_full w O p side dep cnt m r pv lv h hm ok.d2
set_option maxHeartbeats 4000000 in
set_option maxRecDepth 20000 in
theorem qor_any (w : World) (F : Nat → Prop) (p side : Nat) (b : Option (List Nat)) (h : QuS w F p side b) (x : List Nat) (hx : Wd x) (hne : x ≠ zero64) :
    Calls Tryz.prog 85 #[.pointer (some ⟨p, 0, none⟩), .int .i64 0, .int .i64 0, wdV x] w (fun e w' => e = .returned (.bool (decide (0 < lenB (List.zipWith lessN x (oldW b))))) ∧ QTo w F p side (some (List.zipWith orN (oldW b) x)) w') := by
  obtain ⟨O, dep, cnt, m, last, L, pv, lv, hq, ok, rfl⟩ := h
  have k0 := Blk.new w 124 (wdC x).toArray
  have u0 : Below w.heap.size w (w.alloc (.cells (wdC x).toArray 124)) := (Below.refl _ _).alloc (Nat.le_refl _) _
  have hq0 := hq.upd (Upd.of_below u0 (fun _ => False)) (fun _ _ => id)
  have hgrow := grow_any _ O p side dep cnt m last L pv lv b hq0 ok
  have hwo := oldW_wd ok
  have hcnt := oldW_cnt ok
  have hrg := range_blk k0
  have hsz := info_wd hx
  have hcl := lenB_or hwo.fit (hwo.len.trans hx.len.symm)
  have hlb := lenB_le (List.zipWith orN (oldW b) x)
  rw [List.length_zipWith, hwo.len, hx.len] at hlb
  obtain ⟨o, ho⟩ : ∃ o, oldW b = o := ⟨_, rfl⟩
  rw [ho] at hgrow hwo hcnt hcl hlb ⊢
  have heq : ∀ W, (binOp .eql 124 (.agg (wdC x).toArray) (.agg #[Value.int .u64 0, Value.int .u64 0, Value.int .u64 0, Value.int .u64 0, Value.int .u64 0, Value.int .u64 0, Value.int .u64 0, Value.int .u64 0, Value.int .u64 0, Value.int .u64 0, Value.int .u64 0, Value.int .u64 0, Value.int .u64 0, Value.int .u64 0, Value.int .u64 0, Value.int .u64 0, Value.int .u64 0, Value.int .u64 0, Value.int .u64 0, Value.int .u64 0, Value.int .u64 0, Value.int .u64 0, Value.int .u64 0, Value.int .u64 0, Value.int .u64 0, Value.int .u64 0, Value.int .u64 0, Value.int .u64 0, Value.int .u64 0, Value.int .u64 0, Value.int .u64 0, Value.int .u64 0, Value.int .u64 0, Value.int .u64 0, Value.int .u64 0, Value.int .u64 0, Value.int .u64 0, Value.int .u64 0, Value.int .u64 0, Value.int .u64 0, Value.int .u64 0, Value.int .u64 0, Value.int .u64 0, Value.int .u64 0, Value.int .u64 0, Value.int .u64 0, Value.int .u64 0, Value.int .u64 0, Value.int .u64 0, Value.int .u64 0, Value.int .u64 0, Value.int .u64 0, Value.int .u64 0, Value.int .u64 0, Value.int .u64 0, Value.int .u64 0, Value.int .u64 0, Value.int .u64 0, Value.int .u64 0, Value.int .u64 0, Value.int .u64 0, Value.int .u64 0, Value.int .u64 0, Value.int .u64 0])).run Tryz.prog W = .ok (.bool false) W := fun W => by
    have h2 := eql_blk W hx zero64_wd
    rw [decide_eq_false hne, ← zl_eq] at h2
    exact h2
  have HK := Lib.hid (And.intro k0 (And.intro u0 (And.intro ok (And.intro hx (And.intro hwo (And.intro hcnt hcl))))))
  have hOw : ∀ k, O k ≠ none → k < w.heap.size := hq.lt
  have HO := Lib.hid hOw
  clear hq hq0 ok k0 u0 hne hx hwo hcnt hcl ho hOw
  unfold wdV
  go_enter Tryz.func85, Tryz.ntmps85
  go_upto_region 1 with (fail)
  generalize w.alloc (.cells (wdC x).toArray 124) = W0 at HK hgrow hrg ⊢
  go_wp2_with (first | (refine wpList_load_mid rfl 124 _ rfl w.heap.size 0 rfl (wdC x) (.array 64 122) hrg Tryz.underlying124 rfl hsz ?_) | fail)
  refine hgrow.mono ?_
  clear hgrow hrg heq
  rintro e W1 ⟨rfl, O1, pv1, lv1, hi1, hu1, hn1⟩
  have hx1 := hi1.x
  obtain ⟨lg, lc, e1, -, -, -, -, -⟩ := own_cells hx1.rl (by simp)
  subst e1
  have hgx : ¬ O w.heap.size ≠ none := fun e => by have := HO.out _ e; omega
  have hbx := HK.out.1.upd hu1 hgx
  have H1 := Lib.hid (And.intro hx1 (And.intro hu1 (And.intro hn1 hbx)))
  have SR := Lib.hid (show ∀ W, Below W1.heap.size W1 W → (fun W => W.cell? ⟨p, 4, none⟩ = some (.slice (some ⟨lg, 0, none⟩) 1 lc) ∧ W.rangeAt w.heap.size 0 (wdC x) ∧ W.rangeAt lg 0 (wdC o)) W from fun W hb => by
    have hi := hx1.below hb
    refine ⟨hi.blk.cell 4, range_blk (hbx.upd (Upd.of_below hb (fun _ => False)) id), fun j u hj => ?_⟩
    obtain ⟨g', c', e', -, -, -, -, hc'⟩ := own_cells hi.rl (by simp)
    injection e' with e'
    injection e' with e'
    injection e' with e'
    subst e'
    rw [Nat.zero_add]
    exact (hc' j u (by simpa [lfC] using hj)).1)
  have hS := SR.out W1.drew (Below.refl _ W1).drew
  have hszo := info_wd HK.out.2.2.2.2.1
  clear hi1 hx1 hu1 hn1 hbx hgx
  go_upto_region 4 with (fail)
  have B0 := Lib.hid (show Below W1.heap.size W1 W1.drew from (Below.refl _ _).drew)
  refine wp_region_ord (fun W => W.cell? ⟨p, 4, none⟩ = some (.slice (some ⟨lg, 0, none⟩) 1 lc) ∧ W.rangeAt w.heap.size 0 (wdC x) ∧ W.rangeAt lg 0 (wdC o)) 11 [(0, true), (1, true), (2, true), (3, true), (4, true), (5, true), (6, true), (7, true), (8, false), (9, false), (10, true)] (by kernel_rfl) (by kernel_rfl) (fun _ _ d _ _ h => by cases d <;> exact h) hS ?_
  generalize W1.drew = V0 at B0 hS ⊢
  (refine ord_load rfl (by first | with_reducible rfl | kernel_rfl) 124 _ rfl w.heap.size 0 rfl (wdC x) (.array 64 122) (fun _ h => h.2.1) Tryz.underlying124 rfl hsz ?_; (try simp only [Act.put, List.getElem_toArray, List.getElem_cons_succ, List.getElem_cons_zero, List.setIfInBounds_toArray, List.set_cons_zero, List.set_cons_succ]))
  iterate 6 (refine ord_take (v := ?_) rfl (by first | with_reducible rfl | kernel_rfl) ?_ ?_; rotate_left; (focus (intro wS hS; (try dsimp only at hS); go_split_ands; go_simp; (try with_reducible rfl); done)); (try simp only [Act.put, List.getElem_toArray, List.getElem_cons_succ, List.getElem_cons_zero, List.setIfInBounds_toArray, List.set_cons_zero, List.set_cons_succ]))
  (refine ord_load rfl (by first | with_reducible rfl | kernel_rfl) 124 _ rfl lg 0 rfl (wdC o) (.array 64 122) (fun _ h => h.2.2) Tryz.underlying124 rfl hszo ?_; (try simp only [Act.put, List.getElem_toArray, List.getElem_cons_succ, List.getElem_cons_zero, List.setIfInBounds_toArray, List.set_cons_zero, List.set_cons_succ]))
  refine ord_do rfl rfl (fun K hK => ?_)
  have hcon := bless_any V0 x o HK.out.2.2.2.1 HK.out.2.2.2.2.1
  unfold wdV at hcon
  go_simp
  refine hcon.mono ?_
  clear hcon
  rintro e V1 ⟨rfl, b1⟩
  have B1 := Lib.hid (B0.out.trans (b1.mono B0.out.size))
  refine hK _ _ (fun _ => SR.out _ B1.out) ?_
  clear hK K hS b1
  (try simp only [Act.put, List.getElem_toArray, List.getElem_cons_succ, List.getElem_cons_zero, List.setIfInBounds_toArray, List.set_cons_zero, List.set_cons_succ])
  refine ord_do rfl rfl (fun K hK => ?_)
  have hcon := blen_any V1 (List.zipWith lessN x o) (less_wd HK.out.2.2.2.1 HK.out.2.2.2.2.1)
  unfold wdV at hcon
  go_simp
  refine hcon.mono ?_
  clear hcon
  rintro e V2 ⟨rfl, b2⟩
  have B2 := Lib.hid (B1.out.trans (b2.mono B1.out.size))
  have hS := SR.out _ B2.out
  refine hK _ _ (fun _ => hS) ?_
  clear hK K b2
  (try simp only [Act.put, List.getElem_toArray, List.getElem_cons_succ, List.getElem_cons_zero, List.setIfInBounds_toArray, List.set_cons_zero, List.set_cons_succ])
  (refine ord_take (v := ?_) rfl (by first | with_reducible rfl | kernel_rfl) ?_ ?_; rotate_left; (focus (intro wS hS; (try dsimp only at hS); go_split_ands; go_simp; (try with_reducible rfl); done)); (try simp only [Act.put, List.getElem_toArray, List.getElem_cons_succ, List.getElem_cons_zero, List.setIfInBounds_toArray, List.set_cons_zero, List.set_cons_succ]))
  refine ord_done ?_
  clear hS
  go_upto_region 5 with (fail)
  have B3 := Lib.hid (show Below W1.heap.size W1 V2.drew from B2.out.drew)
  have hS := SR.out _ B3.out
  have hnw : Wd (List.zipWith orN o x) := or_wd HK.out.2.2.2.2.1 HK.out.2.2.2.1
  refine wp_region_ord (fun W => W.cell? ⟨p, 4, none⟩ = some (.slice (some ⟨lg, 0, none⟩) 1 lc) ∧ W.rangeAt w.heap.size 0 (wdC x) ∧ W.rangeAt lg 0 (wdC o)) 15 [(0, true), (1, true), (2, true), (3, true), (4, true), (5, true), (6, true), (7, true), (8, true), (9, true), (10, true), (11, true), (12, true), (13, false), (14, true), (15, false)] (by kernel_rfl) (by kernel_rfl) (fun _ _ d _ _ h => by cases d <;> exact h) hS ?_
  generalize V2.drew = V3 at B3 hS ⊢
  iterate 11 (refine ord_take (v := ?_) rfl (by first | with_reducible rfl | kernel_rfl) ?_ ?_; rotate_left; (focus (intro wS hS; (try dsimp only at hS); go_split_ands; go_simp; (try with_reducible rfl); done)); (try simp only [Act.put, List.getElem_toArray, List.getElem_cons_succ, List.getElem_cons_zero, List.setIfInBounds_toArray, List.set_cons_zero, List.set_cons_succ]))
  (refine ord_load rfl (by first | with_reducible rfl | kernel_rfl) 124 _ rfl lg 0 rfl (wdC o) (.array 64 122) (fun _ h => h.2.2) Tryz.underlying124 rfl hszo ?_; (try simp only [Act.put, List.getElem_toArray, List.getElem_cons_succ, List.getElem_cons_zero, List.setIfInBounds_toArray, List.set_cons_zero, List.set_cons_succ]))
  (refine ord_load rfl (by first | with_reducible rfl | kernel_rfl) 124 _ rfl w.heap.size 0 rfl (wdC x) (.array 64 122) (fun _ h => h.2.1) Tryz.underlying124 rfl hsz ?_; (try simp only [Act.put, List.getElem_toArray, List.getElem_cons_succ, List.getElem_cons_zero, List.setIfInBounds_toArray, List.set_cons_zero, List.set_cons_succ]))
  refine ord_do rfl rfl (fun K hK => ?_)
  have hcon := bor_any V3 o x HK.out.2.2.2.2.1 HK.out.2.2.2.1
  unfold wdV at hcon
  go_simp
  refine hcon.mono ?_
  clear hcon
  rintro e V4 ⟨rfl, b4⟩
  have B4 := Lib.hid (B3.out.trans (b4.mono B3.out.size))
  have hS := SR.out _ B4.out
  refine hK _ _ (fun _ => hS) ?_
  clear hK K b4
  (try simp only [Act.put, List.getElem_toArray, List.getElem_cons_succ, List.getElem_cons_zero, List.setIfInBounds_toArray, List.set_cons_zero, List.set_cons_succ])
  (refine ord_take (v := ?_) rfl (by first | with_reducible rfl | kernel_rfl) ?_ ?_; rotate_left; (focus (intro wS hS; (try dsimp only at hS); go_split_ands; go_simp; (try with_reducible rfl); done)); (try simp only [Act.put, List.getElem_toArray, List.getElem_cons_succ, List.getElem_cons_zero, List.setIfInBounds_toArray, List.set_cons_zero, List.set_cons_succ]))
  have hx4 := H1.out.1.below B4.out
  have hth : V4.there lg 0 (wdC (List.zipWith orN o x)).toArray.size := fun i hi => by
    obtain ⟨g', c', e', -, -, -, -, hc'⟩ := own_cells hx4.rl (by simp)
    injection e' with e'
    injection e' with e'
    injection e' with e'
    subst e'
    have hi : i < 64 := by simpa [wdC_len, hnw.len] using hi
    obtain ⟨y, hy⟩ : ∃ y, o[i]? = some y := ⟨o[i]'(by rw [HK.out.2.2.2.2.1.len]; exact hi), List.getElem?_eq_getElem _⟩
    have := hc' i _ (by simpa [lfC] using wdC_at hy)
    rw [Nat.zero_add]
    exact ⟨by rw [this.1]; rfl, this.2⟩
  have hsz2 : (Tryz.prog.info? 124).map (·.size) = some (wdC (List.zipWith orN o x)).toArray.size := by simpa using info_wd hnw
  have h1c : (wdC (List.zipWith orN o x)).toArray.all (·.oneCell') = true := all_oneCell_toArray (one_wd _)
  obtain ⟨hx5, hu5⟩ := hx4.setLeaf (ys := wdC (List.zipWith orN o x)) (by rw [wdC_len, hnw.len])
  have H5 := Lib.hid (And.intro hx5 hu5)
  have HN := Lib.hid hnw
  refine ord_do rfl rfl (fun K hK => ?_)
  refine wp_store_mid 124 _ _ rfl lg 0 (wdC (List.zipWith orN o x)).toArray rfl rfl hth hsz2 h1c ?_
  refine hK _ _ (fun h => absurd rfl h) ?_
  clear hK K hS hth hsz2 h1c hx4 hx5 hu5 hnw
  (try simp only [Act.put, List.getElem_toArray, List.getElem_cons_succ, List.getElem_cons_zero, List.setIfInBounds_toArray, List.set_cons_zero, List.set_cons_succ])
  refine ord_done ?_
  generalize V4.setCells lg 0 (wdC (List.zipWith orN o x)) = W5 at H5 ⊢
  have q2 : W5.cell? ⟨p, 2, none⟩ = some (.int .i64 (cnt : Int)) := H5.out.1.blk.cell 2
  have f2 : W5.frozen? ⟨p, 2, none⟩ = false := H5.out.1.blk.frozen 2
  have hc1 := HK.out.2.2.2.2.2.1
  have hc2 := HK.out.2.2.2.2.2.2
  obtain ⟨more, hmo⟩ : ∃ q, lenB (List.zipWith lessN x o) = q := ⟨_, rfl⟩
  obtain ⟨all, hal⟩ : ∃ q, lenB (List.zipWith orN o x) = q := ⟨_, rfl⟩
  have HMO := Lib.hid hmo
  rw [hmo, hal] at hc2
  rw [hal] at hlb
  rw [hmo]
  have hlb' : all ≤ 4096 := by simpa using hlb
  have hcm : cnt + more = all := by omega
  have hadd : IntKind.i64.wrap ((cnt : Int) + (more : Int)) = (all : Int) := by rw [IntKind.wrap_i64]; omega
  have us := (Upd.refl (fun k => k = p) W5).setCell (p := ⟨p, 2, none⟩) (.inl rfl) (.int .i64 (all : Int))
  have FIN := Lib.hid (show QTo w (fun k => O k ≠ none) p side (some (List.zipWith orN o x)) (W5.setCell ⟨p, 2, none⟩ (.int .i64 (all : Int))) from by
    have h5 := H5.out.1
    have e : wdC (List.zipWith orN o x) = lfC [List.zipWith orN o x] := by simp [lfC]
    rw [e] at h5
    have h6 := (QuX.i (L := [List.zipWith orN o x]) h5).setC all
    have ok := HK.out.2.2.1
    refine ⟨_, ⟨O1, dep, all, dep - 1, 1, _, pv1, _, h6, ⟨ok.s1, ok.s2, ok.d1, ok.d2, fun e => (by cases e), fun r e => ?_⟩, rfl⟩, ?_, fun k hk => ?_⟩
    · injection e with e
      subst e
      exact ⟨by have := ok.d1; omega, rfl, rfl, hal.symm, HN.out⟩
    · have u1 := (Upd.of_below HK.out.2.1 (fun k => O k ≠ none)).trans H1.out.2.1 (fun k h => .inl h)
      have u2 := u1.trans (Upd.of_below B4.out (fun _ => False)) (fun _ h => h.elim)
      have hn : ∀ k, O1 k ≠ none → O k ≠ none ∨ w.heap.size ≤ k := fun k hk => by
        rcases H1.out.2.2.1 k hk with h | h
        · exact .inl h
        · exact .inr (Nat.le_trans HK.out.2.1.size h)
      exact (u2.trans H5.out.2 hn).trans us (fun k hk => hn k (by rw [hk, H5.out.1.op]; nofun))
    · rcases H1.out.2.2.1 k hk with h | h
      · exact .inl h
      · exact .inr (Nat.le_trans HK.out.2.1.size h))
  clear us hc1 hc2 hlb hlb' hmo hal hcm SR
  go_wp2
  go_ret
  exact ⟨by rw [HMO.out]; rfl, FIN.out⟩
end Go.Proofs.YtnmkieiehjajlaaGreatDoor
