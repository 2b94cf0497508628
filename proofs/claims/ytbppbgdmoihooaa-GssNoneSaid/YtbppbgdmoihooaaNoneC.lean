/- GssNone: the walk. -/
import Derived.Test.YtbppbgdmoihooaaNoneB
namespace Go.Proofs.Ytbppbgdmoihooaa
open Go.RowKit Go.Shelf
attribute [local go_sem] Oper.semAt_some

set_option maxRecDepth 20000 in
set_option maxHeartbeats 4000000 in
theorem none_walk (w : World) (n a b : Int) : Calls Try.prog 6 #[.int .i64 n, .int .i64 a, .int .i64 b] w (Same w (.bool true)) := by
  have heq := eql_func_nil
  refine (callsIn_wide (n := 3)).1 ?_
  refine callsIn_of_wp_marks Try.func6 rfl trivial ?_ rfl
  simp only [Try.ntmps6, List.size_toArray, List.length_cons, List.length_nil, Nat.reduceAdd, Nat.reduceSub, Array.replicate_succ, Array.replicate_zero, List.push_toArray, List.append_toArray, List.nil_append, List.cons_append]
  gi_wp2_with (first
    | (refine ⟨trivial, ?_⟩; gi_at_call 12; refine (callsIn_wide.2 (node_nil _ _ _)).mono ?_; rintro e w1 ⟨rfl, hb1⟩)
    | (refine ⟨trivial, ?_⟩; gi_at_call 26; refine (callsIn_wide.2 (push_nil _ _ _ _)).mono ?_; rintro e w2 ⟨rfl, hb2⟩)
    | (refine ⟨trivial, ?_⟩; gi_at_call 27; refine (callsIn_wide.2 (pop_nil _ _ _)).mono ?_; rintro e w3 ⟨rfl, hb3⟩)
    | (refine ⟨trivial, ?_⟩; gi_at_call 13; refine (callsIn_wide.2 (at_nil _ _)).mono ?_; rintro e w4 ⟨rfl, hb4⟩)
    | (refine ⟨trivial, ?_⟩; gi_at_call 18; refine (callsIn_wide.2 (frames_nil _ _)).mono ?_; rintro e w5 ⟨rfl, hb5⟩)
    | (refine ⟨trivial, ?_⟩; gi_at_call 19; refine (callsIn_wide.2 (pops_nil _ _)).mono ?_; rintro e w6 ⟨rfl, hb6⟩)
    | (refine ⟨trivial, ?_⟩; gi_at_call 28; refine (callsIn_wide.2 (all_nil _)).mono ?_; rintro e w7 ⟨rfl, rfl⟩))
  obtain ⟨wN, hwN⟩ : ∃ wN, w6.alloc (.cells #[.slice none 0 0] 120) = wN := ⟨_, rfl⟩
  have k0 := Blk.new w 4 #[.bool false]
  have d0 : Below (w.alloc (.cells #[.bool false] 4)).heap.size (w.alloc (.cells #[.bool false] 4)) w6 := by
    refine hb1.trans ((hb2.trans ((hb3.trans ((hb4.trans ((hb5.trans (hb6.mono hb5.size)).mono hb4.size)).mono hb3.size)).mono hb2.size)).mono hb1.size)
  have k6 := k0.upd (Upd.of_below d0 (fun _ => False)) id
  have kN : Blk wN w.heap.size 4 #[.bool false] := by rw [← hwN]; exact k6.alloc _
  have cN : wN.cell? ⟨w6.heap.size, 0, none⟩ = some (.slice none 0 0) := by rw [← hwN]; exact (Blk.new w6 _ _).cell 0
  have bN : Below w.heap.size w wN := by
    rw [← hwN]
    have a0 : Below w.heap.size w (w.alloc (.cells #[.bool false] 4)) := (Below.refl _ _).alloc (Nat.le_refl _) _
    have a1 := a0.trans (d0.mono a0.size)
    exact a1.alloc a1.size _
  have sN : w6.heap.size < wN.heap.size := by rw [← hwN]; simp
  rw [hwN]
  clear hwN hb1 hb2 hb3 hb4 hb5 hb6 k0 k6 d0
  refine wpIn_rangeFunc_ownH rfl (by omega) (gf := 60) (lb := #[.pointer (some ⟨w6.heap.size, 0, none⟩)]) rfl trivial (enters_of Try.func60 (by kernel_rfl) rfl)
    (nil_stops Fence.wide (3 - 1) trivial rfl w6.heap.size wN.heap.size wN sN cN) belowK_t (belowK_b (Nat.le_refl _)) (Below.refl _ _) (fun _ => rfl)
    (fun _ W => Below wN.heap.size wN W) (fun _ _ W => Below wN.heap.size wN W) (ownFrom_below (Nat.le_refl _) (Nat.le_refl _)) (fun _ => ownFrom_below (Nat.le_refl _) (Nat.le_refl _)) (Below.refl _ _)
    (fun _ _ _ => True) (fun _ _ _ _ _ _ _ _ _ => trivial) ?assign ?body ?done ?stop
  case assign =>
    intro l pre x W K hi hK
    gi_wp2
    exact hK _ _ (KeepsFrom.refl _ _) (Below.refl _ _) hi trivial
  case body =>
    rintro l pre x a' W _ _ _ _ hlt
    exact absurd hlt (Nat.not_lt_zero _)
  case stop =>
    rintro D c pre W _ h _ _
    exact h.elim
  case done =>
    rintro D ys W hD rfl hB hK
    have kW := kN.upd (Upd.of_below hB (fun _ => False)) id
    have bW := bN.trans (hB.mono bN.size)
    have r0 := kW.cell 0
    have r1 := kW.frozen 0
    gi_wp2_with (first
      | (refine ⟨trivial, ?_⟩; gi_at_call 14; refine (callsIn_wide.2 (len_nil _)).mono ?_; rintro e w8 ⟨rfl, rfl⟩)
      | (refine ⟨trivial, ?_⟩; gi_at_call 15; refine (callsIn_wide.2 (awake_any _)).mono ?_; rintro e w9 ⟨rfl, hb9⟩; have k9 := kW.upd (Upd.of_below hb9 (fun _ => False)) id; have q0 := k9.cell 0; have q1 := k9.frozen 0))
    have hK9 : w9.heap[D]? = some (.deferred (some [])) := (hb9.block D (Array.getElem?_eq_some_iff.1 hK).1).trans hK
    have hKs := (KeepsOthers.setCell w9 ⟨w.heap.size, 0, none⟩ (.bool true)).same D _ hK9 rfl
    have kS : Blk (w9.setCell ⟨w.heap.size, 0, none⟩ (.bool true)) w.heap.size 4 #[.bool true] := k9.set 0 (.bool true)
    have bS := (bW.trans (hb9.mono bW.size)).setCell (p := ⟨w.heap.size, 0, none⟩) (Nat.le_refl _) (.bool true)
    refine ⟨by simp, .inl ⟨_, _, rfl, run_takeDeferred hKs, ?_⟩⟩
    have hc5 := cell_kept (kS.cell 0) (grownBy_putObj' _ D (.deferred none)) (fun r e => by cases e; exact ⟨_, hKs, rfl⟩)
    have hsz := bN.size
    refine ⟨.bool true, ?_, rfl, bS.trans (belowK_b (w := w) (Nat.le_refl _) _ D _ _ (by omega) hKs rfl rfl)⟩
    simp [results, Try.f6, go_sem, hc5]
end Go.Proofs.Ytbppbgdmoihooaa
