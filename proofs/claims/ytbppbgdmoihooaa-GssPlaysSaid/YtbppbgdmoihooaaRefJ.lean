/- GssPlays: the function that All hands back, as an iterator. -/
import Derived.Test.YtbppbgdmoihooaaRefH
import Derived.Test.YtbppbgdmoihooaaNoneB
namespace Go.Proofs.Ytbppbgdmoihooaa
open Go.RowKit Go.Shelf
attribute [local go_sem] Oper.semAt_some

set_option maxRecDepth 100000 in
set_option maxHeartbeats 4000000 in
theorem each_in (F : Fence) (n : Nat) (h8 : F.fn 60) (hro : F.round = none) (hn : 1 ≤ n) (l Bs n₀ base : Nat) (L : List (Nat × Int × Int)) (v : Value) (hL : L.length ≤ 1000000) (J Jx : List (Nat × Int × Int) → World → Prop)
    (W : World) (hn₀ : n₀ ≤ W.heap.size) (hJ : AbidesFrom W.heap.size J)
    (hY : ∀ pre x W1, J pre W1 → pre.length < L.length → YieldAt F (n - 1) Try.prog l (encF x) W1 fun e W' =>
      (e = .returned (.bool true) ∧ J (pre ++ [x]) W' ∧ Below n₀ W1 W') ∨ (e = .returned (.bool false) ∧ Jx (pre ++ [x]) W'))
    (hBs : W.cell? ⟨Bs, 0, none⟩ = some v) (hrow : W.ownsRow base 119 3 v L.length (tripCells L)) (hlt : ∀ q, v.ownBlock = some q → q < n₀) (h0 : J [] W) :
    CallsIn F n Try.prog 60 #[.func (.yield l) #[] #[], .pointer (some ⟨Bs, 0, none⟩)] W fun e W' => (∃ v, e = .returned v) ∧
      ((∃ ys, ys = L ∧ J ys W') ∨ (∃ pre, (∃ k, k ≤ L.length ∧ pre = L.take k) ∧ Jx pre W')) := by
  obtain ⟨A, c, rfl, hc, -⟩ := own_form hrow
  have hc' : (L.length : Int) ≤ (c : Int) := by omega
  have H := Lib.hid (And.intro hrow (And.intro hlt (And.intro hJ (And.intro hY (And.intro h0 hn₀)))))
  clear hrow hlt hJ hY h0 hn₀ hc
  refine callsIn_of_wp Try.func60 rfl h8 ?_ hro
  simp only [Try.ntmps60, List.size_toArray, List.length_cons, List.length_nil, Nat.reduceAdd, Nat.reduceSub, Array.replicate_succ, Array.replicate_zero, List.push_toArray, List.append_toArray, List.nil_append, List.cons_append]
  gi_wp2
  gi_loopw [7] (fun i wr => ∃ k : Nat, k ≤ L.length ∧ i = .int .i64 k ∧ J (L.take k) wr ∧ Below n₀ W wr ∧ W.heap.size ≤ wr.heap.size) (fun i _ => L.length - (intOf i).toNat)
  case atStart => exact ⟨0, Nat.zero_le _, rfl, H.out.2.2.2.2.1, Below.refl _ _, Nat.le_refl _⟩
  case round =>
    obtain ⟨k, hk, rfl, hJs, hnx, hsz⟩ := hrel
    by_cases hlt2 : k < L.length
    · obtain ⟨hrow, hlt, hJ, hY, -, hn₀⟩ := H.out
      obtain ⟨⟨m, f1, f2⟩, hm⟩ : ∃ m, L[k]? = some m := ⟨L[k], List.getElem?_eq_getElem hlt2⟩
      obtain ⟨gl, cc, hv, hob, -, -, -, hcell⟩ := own_cells hrow (by omega)
      injection hv with hA _ hcc
      subst hA
      have hgl := hlt gl hob
      have hg := fun j (hj : j < 3) => flat_get (fun m : Nat × Int × Int => [Value.int .i64 m.1, .int .i64 m.2.1, .int .i64 m.2.2]) 3 (fun _ => rfl) L k j _ hm hj
      have s0 : wr.cell? ⟨gl, k * 3, none⟩ = some (.int .i64 (m : Int)) := (hnx.cell (p := ⟨gl, k * 3, none⟩) hgl).trans (hcell _ _ (hg 0 (by omega))).1
      have s1 : wr.cell? ⟨gl, k * 3 + 1, none⟩ = some (.int .i64 f1) := (hnx.cell (p := ⟨gl, k * 3 + 1, none⟩) hgl).trans (hcell _ _ (hg 1 (by omega))).1
      have s2 : wr.cell? ⟨gl, k * 3 + 2, none⟩ = some (.int .i64 f2) := (hnx.cell (p := ⟨gl, k * 3 + 2, none⟩) hgl).trans (hcell _ _ (hg 2 (by omega))).1
      have kb := Blk.new wr 119 #[.int .i64 (m : Int), .int .i64 f1, .int .i64 f2]
      have q0 := kb.cell 0
      have q1 := kb.cell 1
      have q2 := kb.cell 2
      simp only [List.getElem?_toArray, List.getElem?_cons_succ, List.getElem?_cons_zero] at q0 q1 q2
      have hJa : J (L.take k) (wr.alloc (.cells #[.int .i64 (m : Int), .int .i64 f1, .int .i64 f2] 119)) := hJ _ _ _ none hJs (World.grownBy_alloc wr _ none) (fun r e => by cases e)
      have hna : Below n₀ W (wr.alloc (.cells #[.int .i64 (m : Int), .int .i64 f1, .int .i64 f2] 119)) := hnx.alloc (Nat.le_trans hn₀ hsz) _
      have hza : W.heap.size ≤ (wr.alloc (.cells #[.int .i64 (m : Int), .int .i64 f1, .int .i64 f2] 119)).heap.size := by simp; omega
      obtain ⟨fn, tmps, assign, body, hy, hR⟩ := hY _ (m, f1, f2) _ hJa (by rw [List.length_take]; omega)
      dsimp only [encF] at hy
      have HT := Lib.hid (And.intro (take_snoc hm) (And.intro hna hza))
      clear hm hcell hg hob hgl hcc hrow hlt hJ hY hn₀ hJs hnx hJa hna hza kb hsz
      gi_wp2
      refine hR.mono ?_
      rintro e W3 (⟨rfl, hJ3, hk3⟩ | ⟨rfl, hJx3⟩)
      · have hJ4 := hJ3
        rw [← HT.out.1] at hJ4
        have HR := Lib.hid (And.intro hJ4 (HT.out.2.1.trans hk3))
        have hz3 := Lib.hid (Nat.le_trans HT.out.2.2 hk3.size)
        clear hJ3 hJ4 hk3 q0 q1 q2 s0 s1 s2 hR hy
        gi_wp2
        go_roundw
        case rel => exact ⟨k + 1, by omega, by go_num, HR.out.1, HR.out.2, hz3.out⟩
        case measure => simp [intOf]; omega
      · clear hR hy
        gi_wp2
        refine bodyPost_ret (results_none rfl _ _ _) rfl ?_
        exact ⟨⟨_, rfl⟩, .inr ⟨_, ⟨k + 1, by omega, HT.out.1.symm⟩, hJx3⟩⟩
    · obtain rfl : L.length = k := by omega
      gi_wp2
      go_end0
      rw [List.take_of_length_le (Nat.le_refl _)] at hJs
      exact ⟨⟨_, rfl⟩, .inl ⟨_, rfl, hJs⟩⟩

theorem each_stops (F : Fence) (n : Nat) (h8 : F.fn 60) (hro : F.round = none) (hn : 1 ≤ n) (Bs n₀ base : Nat) (L : List (Nat × Int × Int)) (v : Value) (hL : L.length ≤ 1000000) (w : World) (hBs : Bs < w.heap.size) (hn₀ : n₀ ≤ w.heap.size)
    (hc : w.cell? ⟨Bs, 0, none⟩ = some v) (hrow : w.ownsRow base 119 3 v L.length (tripCells L)) (hlt : ∀ q, v.ownBlock = some q → q < n₀) :
    SeqStopsK F n Try.prog 60 #[.pointer (some ⟨Bs, 0, none⟩)] encF (Below n₀) (fun ys => ys = L) (fun pre => ∃ k, k ≤ L.length ∧ pre = L.take k) L.length w := fun l J Jx W hW hJ _ hY h0 =>
  each_in F n h8 hro hn l Bs n₀ base L v hL J Jx W (Nat.le_trans hn₀ hW.size) hJ hY ((hW.cell (p := ⟨Bs, 0, none⟩) hBs).trans hc) (row_below hrow hW) hlt h0
end Go.Proofs.Ytbppbgdmoihooaa
