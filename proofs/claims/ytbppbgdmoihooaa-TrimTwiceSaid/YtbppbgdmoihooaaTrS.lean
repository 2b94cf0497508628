/- Forests: what is left behind a derivation: the walk of bywayref29.Left. -/
import Derived.Test.YtbppbgdmoihooaaTrR
namespace Go.Proofs.Ytbppbgdmoihooaa
open Go.RowKit

theorem RowR.drop_packs {w : World} {b o : Nat} {xs ys : List Pk} (h : RowR w (some ⟨b, o, none⟩) (packCells (xs ++ ys))) : RowR w (some ⟨b, o + xs.length * 5, none⟩) (packCells ys) := fun j u hj => by
  have : (packCells (xs ++ ys))[xs.length * 5 + j]? = some u := by
    rw [packCells_app, List.getElem?_append_right (by rw [packCells_len]; omega), packCells_len, Nat.add_sub_cancel_left]
    exact hj
  obtain ⟨b', o', e, hc⟩ := h _ _ this
  injection e with e
  injection e with e1 e2
  subst e1; subst e2
  exact ⟨_, _, rfl, by rw [Nat.add_assoc]; exact hc⟩

set_option maxHeartbeats 4000000 in
set_option maxRecDepth 20000 in
theorem left_leaf (w : World) (A : Option Addr) (c : Nat) (B : Option Addr) (d : Nat) (S : List Fct) (P : List Pk) (p : Pk) (tl : List Pk) (L : Option Addr) (cL : Nat) (h : ForR w A c B d S P) (hp : p ∈ P) (hl : p.left < 0) (hrow : RowR w L (packCells (p :: tl))) (hcap : (p :: tl).length ≤ cL) (hlen : tl.length ≤ 100000) :
    Calls Try.prog 41 #[forV A S.length c B P.length d, .int .i64 p.spot, .slice L (p :: tl).length cL] w (Sam w (.int .i64 (tl.length : Int))) := by
  obtain ⟨p0, p1, p2, p3, p4⟩ := p
  obtain ⟨gl, ol, rfl, l0, l1, l2, l3, l4⟩ := hrow.pack (k := 0) (p := ⟨p0, p1, p2, p3, p4⟩) rfl
  rw [Nat.zero_mul, Nat.add_zero] at l0 l1 l2 l3 l4
  have hcI : ((tl.length : Int) + 1) ≤ (cL : Int) := by simp at hcap; omega
  have hdI : (P.length : Int) ≤ (d : Int) := by have := h.hd; omega
  have hP8 : P.length ≤ 100000000000000 := by have := h.fit.p; omega
  have k0 := Blk.new w 75 #[.slice A S.length c, .slice B P.length d]
  have u0 : Below w.heap.size w (w.alloc (.cells #[.slice A S.length c, .slice B P.length d] 75)) := (Below.refl _ _).alloc (Nat.le_refl _) _
  have hl8 := hlen
  have H := Lib.hid (And.intro h (And.intro k0 (And.intro u0 (And.intro hrow (And.intro hcap (And.intro hp hl))))))
  have L0 := (u0.cell (p := ⟨gl, ol, none⟩) (World.block_lt_of_cell? w _ l0)).trans l0
  clear h k0 u0 hrow hcap hp hl
  simp only [List.length_cons]
  go_enter Try.func41, Try.ntmps41
  unfold forV
  go_upto_region 1 with (fail)
  generalize w.alloc (.cells #[.slice A S.length c, .slice B P.length d] 75) = W0 at H L0 ⊢
  go_wp2
  clear L0
  go_loopw [7, 8] (fun bv iv wr => ∃ (b : Bool) (i nq : Nat), bv = .bool b ∧ iv = .int .i64 i ∧ i ≤ P.length ∧ (b = true ↔ ∃ j, j < i ∧ P[j]? = some ⟨p0, p1, p2, p3, p4⟩) ∧ wr = W0.drewN nq) (fun _ iv _ => P.length - (intOf iv).toNat)
  case atStart => exact ⟨false, 0, 0, rfl, rfl, Nat.zero_le _, ⟨fun h => (by cases h), fun ⟨j, hj, _⟩ => (by omega)⟩, rfl⟩
  case round =>
    obtain ⟨b, i, nq, rfl, rfl, hi, hb, rfl⟩ := hrel
    have HB := Lib.hid hb
    clear hb
    have q1 : W0.cell? ⟨w.heap.size, 1, none⟩ = some (.slice B P.length d) := H.out.2.1.cell 1
    by_cases hlt : i < P.length
    · obtain ⟨⟨r0, r1, r2, r3, r4⟩, hr⟩ : ∃ q, P[i]? = some q := ⟨P[i], List.getElem?_eq_getElem hlt⟩
      obtain ⟨gb, go, rfl, a0, a1, a2, a3, a4⟩ := (H.out.1.rp.below H.out.2.2.1).pack hr
      have up : ∀ o u, w.cell? ⟨gl, o, none⟩ = some u → W0.cell? ⟨gl, o, none⟩ = some u := fun o u hu => (H.out.2.2.1.cell (p := ⟨gl, o, none⟩) (World.block_lt_of_cell? w _ hu)).trans hu
      have m0 := up _ _ l0
      have m1 := up _ _ l1
      have m2 := up _ _ l2
      have m3 := up _ _ l3
      have m4 := up _ _ l4
      have hltI : (i : Int) < (P.length : Int) := by omega
      have HR := Lib.hid hr
      clear hr up
      cases b with
      | true =>
        go_wp2
        go_quiet (fail)
        go_wp2
        go_roundw
        case rel =>
          refine ⟨true, i + 1, _, rfl, by go_num, by omega, ⟨fun _ => ?_, fun _ => rfl⟩, rfl⟩
          obtain ⟨j, hj, e⟩ := HB.out.1 (by first | rfl | trivial)
          exact ⟨j, by omega, e⟩
        case measure => simp [intOf]; omega
      | false =>
        by_cases hq : (⟨r0, r1, r2, r3, r4⟩ : Pk) = ⟨p0, p1, p2, p3, p4⟩
        · have heq : ∀ W, (binOp .eql 125 (.agg #[.int .i64 r0, .int .i64 r1, .int .i64 r2, .int .i64 r3, .int .i64 r4]) (.agg #[.int .i64 p0, .int .i64 p1, .int .i64 p2, .int .i64 p3, .int .i64 p4])).run Try.prog W = .ok (.bool true) W := fun W => by
            have := eql_pack W ⟨r0, r1, r2, r3, r4⟩ ⟨p0, p1, p2, p3, p4⟩
            rw [decide_eq_true hq] at this
            exact this
          have KQ := Lib.hid hq
          clear hq
          go_wp2
          go_quiet (fail)
          go_wp2
          go_roundw
          case rel => exact ⟨true, i + 1, _, rfl, by go_num, by omega, ⟨fun _ => ⟨i, by omega, by rw [HR.out, KQ.out]⟩, fun _ => rfl⟩, rfl⟩
          case measure => simp [intOf]; omega
        · have heq : ∀ W, (binOp .eql 125 (.agg #[.int .i64 r0, .int .i64 r1, .int .i64 r2, .int .i64 r3, .int .i64 r4]) (.agg #[.int .i64 p0, .int .i64 p1, .int .i64 p2, .int .i64 p3, .int .i64 p4])).run Try.prog W = .ok (.bool false) W := fun W => by
            have := eql_pack W ⟨r0, r1, r2, r3, r4⟩ ⟨p0, p1, p2, p3, p4⟩
            rw [decide_eq_false hq] at this
            exact this
          have KQ := Lib.hid hq
          clear hq
          go_wp2
          go_quiet (fail)
          go_wp2
          go_roundw
          case rel =>
            refine ⟨false, i + 1, _, rfl, by go_num, by omega, ⟨fun h => (by cases h), fun ⟨j, hj, e⟩ => ?_⟩, rfl⟩
            by_cases e2 : j < i
            · exact HB.out.2 ⟨j, e2, e⟩
            · obtain rfl : j = i := by omega
              have := HR.out.symm.trans e
              injection this with this
              exact (KQ.out this).elim
          case measure => simp [intOf]; omega
    · obtain rfl : i = P.length := by omega
      clear hlt
      cases b with
      | false =>
        obtain ⟨j, hj⟩ := List.mem_iff_getElem?.1 H.out.2.2.2.2.2.1
        have := HB.out.2 ⟨j, (List.getElem?_eq_some_iff.1 hj).1, hj⟩
        cases this
      | true =>
        have up : ∀ o u, w.cell? ⟨gl, o, none⟩ = some u → W0.cell? ⟨gl, o, none⟩ = some u := fun o u hu => (H.out.2.2.1.cell (p := ⟨gl, o, none⟩) (World.block_lt_of_cell? w _ hu)).trans hu
        have m3 := up _ _ l3
        have m4 := up _ _ l4
        clear up
        have el : decide (p3 < 0) = true := by simpa using H.out.2.2.2.2.2.2
        go_wp2
        go_ret
        exact ⟨rfl, below_drewN H.out.2.2.1 _⟩
end Go.Proofs.Ytbppbgdmoihooaa
