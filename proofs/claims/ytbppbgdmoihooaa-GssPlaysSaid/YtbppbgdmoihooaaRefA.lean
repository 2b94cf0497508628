/- GssPlays: the document's list of nodes in memory, and what reads it. -/
import Derived.Test.YtbppbgdmoihooaaMeetD
namespace Go.Proofs.Ytbppbgdmoihooaa
open Go.RowKit

theorem eql_frame (W : World) (a b c d : Int) : (binOp .eql 48 (.agg #[.int .i64 a, .int .i64 b]) (.agg #[.int .i64 c, .int .i64 d])).run Try.prog W = .ok (.bool (a == c && b == d)) W := by
  have e : (Op.equal 48 (.agg #[.int .i64 a, .int .i64 b]) (.agg #[.int .i64 c, .int .i64 d])).run Try.prog W = .ok (a == c && b == d) W := equalIn_frame W a b c d 9998
  simp only [binOp]
  simp [e]
theorem neq_frame (W : World) (a b c d : Int) : (binOp .neq 48 (.agg #[.int .i64 a, .int .i64 b]) (.agg #[.int .i64 c, .int .i64 d])).run Try.prog W = .ok (.bool (!(a == c && b == d))) W := by
  have e : (Op.equal 48 (.agg #[.int .i64 a, .int .i64 b]) (.agg #[.int .i64 c, .int .i64 d])).run Try.prog W = .ok (a == c && b == d) W := equalIn_frame W a b c d 9998
  simp only [binOp]
  simp [e]

structure RefD where
  fv : Nat → Value
  pv : Nat → Value

structure RefI (w : World) (O : Nat → Option Tag) (v : Value) (N : List GNode) (D : RefD) : Prop where
  row : w.ownsRow 0 59 4 v N.length (nodeCells N D.fv D.pv)
  rowF : ∀ i x, N[i]? = some x → w.ownsRow 0 48 2 (D.fv i) x.frames.length (frameCells x.frames)
  rowP : ∀ i x, N[i]? = some x → w.ownsRow 0 3 1 (D.pv i) x.pops.length (popCells x.pops)
  oN : ∀ k, v.ownBlock = some k → O k = some .nodes
  oF : ∀ i, i < N.length → ∀ k, (D.fv i).ownBlock = some k → O k = some (.fr i)
  oP : ∀ i, i < N.length → ∀ k, (D.pv i).ownBlock = some k → O k = some (.po i)
  lt : ∀ k, O k ≠ none → k < w.heap.size
  out : ∀ i, N.length ≤ i → D.fv i = .slice none 0 0 ∧ D.pv i = .slice none 0 0

/-- v is the document's list of these nodes; G: the blocks that are its own. -/
def RefAt (w : World) (G : Nat → Prop) (v : Value) (N : List GNode) : Prop := ∃ O D, RefI w O v N D ∧ G = fun k => O k ≠ none

theorem RefAt.upd {w w' : World} {G H : Nat → Prop} {v : Value} {N : List GNode} (h : RefAt w G v N) (hu : Upd H w w') (hd : ∀ k, G k → ¬ H k) : RefAt w' G v N := by
  obtain ⟨O, D, hs, rfl⟩ := h
  have no : ∀ k t, O k = some t → ¬ H k := fun k t e => hd k (by simp [e])
  refine ⟨O, D, ⟨ownsRow_upd hs.row hu fun k hk => no _ _ (hs.oN k hk), ?_, ?_, hs.oN, hs.oF, hs.oP, fun k hk => Nat.lt_of_lt_of_le (hs.lt k hk) hu.size, hs.out⟩, rfl⟩
  · intro i x hx
    exact ownsRow_upd (hs.rowF i x hx) hu fun k hk => no _ _ (hs.oF i (List.getElem?_eq_some_iff.1 hx).1 k hk)
  · intro i x hx
    exact ownsRow_upd (hs.rowP i x hx) hu fun k hk => no _ _ (hs.oP i (List.getElem?_eq_some_iff.1 hx).1 k hk)
theorem RefAt.below {w w' : World} {G : Nat → Prop} {v : Value} {N : List GNode} (h : RefAt w G v N) (hb : Below w.heap.size w w') : RefAt w' G v N := h.upd (H := fun _ => False) (Upd.of_below hb _) (fun _ _ => id)
theorem RefAt.lt {w : World} {G : Nat → Prop} {v : Value} {N : List GNode} (h : RefAt w G v N) : ∀ k, G k → k < w.heap.size := by
  obtain ⟨O, D, hs, rfl⟩ := h
  exact hs.lt
theorem RefAt.nil (w : World) : RefAt w (fun _ => False) (.slice none 0 0) [] := by
  refine ⟨fun _ => none, ⟨fun _ => .slice none 0 0, fun _ => .slice none 0 0⟩, ⟨World.ownsRow_nil _ _ _ _, by simp, by simp, by simp [Value.ownBlock], by simp, by simp, by simp, fun _ _ => ⟨rfl, rfl⟩⟩, by simp⟩

/-- The document's list: where a node lies. -/
theorem ref_cells {w : World} {O : Nat → Option Tag} {v : Value} {N : List GNode} {D : RefD} (hs : RefI w O v N D) {i : Nat} {x : GNode} (hi : N[i]? = some x) :
    ∃ g c, v = .slice (some ⟨g, 0, none⟩) N.length c ∧ N.length ≤ c ∧ O g = some .nodes ∧ w.cell? ⟨g, i * 4, none⟩ = some (.int .i64 x.mark) ∧ w.cell? ⟨g, i * 4 + 1, none⟩ = some (.int .i64 x.place) ∧ w.cell? ⟨g, i * 4 + 2, none⟩ = some (D.fv i) ∧
      w.cell? ⟨g, i * 4 + 3, none⟩ = some (D.pv i) ∧ ∀ j, j < 4 → w.frozen? ⟨g, i * 4 + j, none⟩ = false := by
  have hlt := (List.getElem?_eq_some_iff.1 hi).1
  obtain ⟨g, c, hv, hg, hc, -, -, hcell⟩ := own_cells hs.row (by omega)
  have hget := fun r (hr : r < 4) => nodeCells_get N D.fv D.pv i r hr
  rw [hi] at hget
  refine ⟨g, c, hv, hc, hs.oN g hg, (hcell _ _ (hget 0 (by omega))).1, (hcell _ _ (hget 1 (by omega))).1, (hcell _ _ (hget 2 (by omega))).1, (hcell _ _ (hget 3 (by omega))).1, ?_⟩
  intro j hj
  match j, hj with
  | 0, _ => exact (hcell _ _ (hget 0 (by omega))).2
  | 1, _ => exact (hcell _ _ (hget 1 (by omega))).2
  | 2, _ => exact (hcell _ _ (hget 2 (by omega))).2
  | 3, _ => exact (hcell _ _ (hget 3 (by omega))).2

set_option maxHeartbeats 400000 in
set_option maxRecDepth 20000 in
theorem in_any (w : World) (A : Option Addr) (len c : Nat) (n : Int) : Calls Try.prog 55 #[.slice A len c, .int .i64 n] w fun e w' => e = .returned (.bool (decide (0 ≤ n ∧ n < (len : Int)))) ∧ w = w' := by
  by_cases h0 : 0 ≤ n
  · have e0 : decide (0 ≤ n) = true := by simp [h0]
    go_enter Try.func55, Try.ntmps55
    go_wp2
    go_ret
    simp [h0]
  · have e0 : decide (0 ≤ n) = false := by simp [h0]
    go_enter Try.func55, Try.ntmps55
    go_wp2
    go_ret
    simp

set_option maxHeartbeats 1600000 in
set_option maxRecDepth 20000 in
theorem find_any (w : World) (G : Nat → Prop) (v : Value) (N : List GNode) (m p : Int) (h : RefAt w G v N) (hN : N.length ≤ 1000000) :
    Calls Try.prog 21 #[v, .int .i64 m, .int .i64 p] w fun e w' => w = w' ∧ ((∃ i : Nat, e = .returned (.int .i64 i) ∧ AtNode N m p i) ∨ (e = .returned (.int .i64 (-1)) ∧ ∀ i, ¬ AtNode N m p i)) := by
  obtain ⟨O, D, hs, rfl⟩ := h
  obtain ⟨A, c, rfl, hc, -⟩ := own_form hs.row
  have H := Lib.hid hs
  have hc' : (N.length : Int) ≤ (c : Int) := by omega
  clear hs
  go_enter Try.func21, Try.ntmps21
  go_wp2
  go_loop [7] (fun t => ∃ k : Nat, k ≤ N.length ∧ t = .int .i64 k ∧ ∀ i, i < k → ¬ AtNode N m p i) (fun t => N.length - (intOf t).toNat)
  case atStart => exact ⟨0, Nat.zero_le _, rfl, fun i hi => by omega⟩
  case round =>
    obtain ⟨k, hk, rfl, hall⟩ := hrel
    have HA := Lib.hid hall
    clear hall
    by_cases hlt : k < N.length
    · obtain ⟨x, hx⟩ : ∃ x, N[k]? = some x := ⟨N[k], List.getElem?_eq_getElem hlt⟩
      obtain ⟨g, cc, hv, -, -, n0, n1, -⟩ := ref_cells H.out hx
      injection hv with hA _ hcc
      subst hA
      obtain ⟨xm, hxm⟩ : ∃ xm, x.mark = xm := ⟨_, rfl⟩
      obtain ⟨xp, hxp⟩ : ∃ xp, x.place = xp := ⟨_, rfl⟩
      rw [hxm] at n0
      rw [hxp] at n1
      have HX := Lib.hid (And.intro hx (And.intro hxm hxp))
      clear hx hxm hxp hcc hc
      by_cases h1 : xm = m
      · have e1 : (xm == m) = true := by simp [h1]
        have HM := Lib.hid h1
        clear h1
        by_cases h2 : xp = p
        · have e2 : (xp == p) = true := by simp [h2]
          have HP := Lib.hid h2
          clear h2
          go_wp2
          go_ret
          exact ⟨rfl, .inl ⟨k, rfl, x, HX.out.1, HX.out.2.1.trans HM.out, HX.out.2.2.trans HP.out⟩⟩
        · have e2 : (xp == p) = false := by simp [h2]
          have HP := Lib.hid h2
          clear h2
          go_wp2
          go_round
          case rel =>
            refine ⟨k + 1, by omega, by go_num, fun i hi => ?_⟩
            by_cases e : i = k
            · subst e
              rintro ⟨y, hy, _, y2⟩
              rw [HX.out.1] at hy
              injection hy with hy
              subst hy
              exact HP.out (HX.out.2.2.symm.trans y2)
            · exact HA.out i (by omega)
          case measure => simp [intOf]; omega
      · have e1 : (xm == m) = false := by simp [h1]
        have HM := Lib.hid h1
        clear h1
        go_wp2
        go_round
        case rel =>
          refine ⟨k + 1, by omega, by go_num, fun i hi => ?_⟩
          by_cases e : i = k
          · subst e
            rintro ⟨y, hy, y1, _⟩
            rw [HX.out.1] at hy
            injection hy with hy
            subst hy
            exact HM.out (HX.out.2.1.symm.trans y1)
          · exact HA.out i (by omega)
        case measure => simp [intOf]; omega
    · go_wp2
      go_ret
      refine ⟨rfl, .inr ⟨rfl, fun i hi => ?_⟩⟩
      obtain ⟨y, hy, _⟩ := id hi
      exact HA.out i (by have := (List.getElem?_eq_some_iff.1 hy).1; omega) hi
end Go.Proofs.Ytbppbgdmoihooaa
