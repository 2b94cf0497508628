/- GssMeets: how often a meeting is in a list (has). -/
import Derived.Test.YtbppbgdmoihooaaMeetB
namespace Go.Proofs.Ytbppbgdmoihooaa
open Go.RowKit

theorem stood_met : Try.prog.stoodInHeld 50 = false := by kernel_rfl
theorem stood_frame : Try.prog.stoodInHeld 48 = false := by kernel_rfl
theorem part4 (W : World) (a b c d : Int) : (part 3 #[.int .i64 a, .int .i64 b, .int .i64 c, .int .i64 d] 0).run Try.prog W = .ok (.int .i64 a) W ∧ (part 3 #[.int .i64 a, .int .i64 b, .int .i64 c, .int .i64 d] 1).run Try.prog W = .ok (.int .i64 b) W := by
  simp [part, isAgg, run_underlying Try.underlying3]
theorem part4f (W : World) (a b c d : Int) : (part 48 #[.int .i64 a, .int .i64 b, .int .i64 c, .int .i64 d] 2).run Try.prog W = .ok (.agg #[.int .i64 c, .int .i64 d]) W := by
  simp [part, isAgg, run_underlying Try.underlying48]
theorem equalIn_frame (W : World) (a b c d : Int) (n : Nat) : (Op.equalIn (n + 2) 48 (.agg #[.int .i64 a, .int .i64 b]) (.agg #[.int .i64 c, .int .i64 d])).run Try.prog W = .ok (a == c && b == d) W := by
  have hs : Try.prog.underlying 48 = some (.struct (Try.prog.fieldsOf 48)) := by kernel_rfl
  have h9 := fun a b => run_equalIn_int (P := Try.prog) W n 3 .i64 .i64 a b Try.underlying3
  rw [run_equalIn_struct (P := Try.prog) W (n + 1) _ _ _ hs stood_frame]
  simp only [Program.fieldsOf, Try.underlying48, Op.eqFields]
  rw [if_pos (by decide), if_pos (by decide)]
  simp only [Sem.run_bind, (part_int W a b).1, (part_int W c d).1, h9, Result.andThen_ok]
  cases h : a == c
  · simp
  · simp only [Bool.not_true, Bool.false_eq_true, if_false, Sem.run_bind, (part_int W a b).2, (part_int W c d).2, h9, Result.andThen_ok, Bool.true_and]
    cases h' : b == d <;> simp
theorem eql_met (W : World) (a b c d a' b' c' d' : Int) : (binOp .eql 50 (.agg #[.int .i64 a, .int .i64 b, .int .i64 c, .int .i64 d]) (.agg #[.int .i64 a', .int .i64 b', .int .i64 c', .int .i64 d'])).run Try.prog W = .ok (.bool (a == a' && b == b' && c == c' && d == d')) W := by
  have hs : Try.prog.underlying 50 = some (.struct (Try.prog.fieldsOf 50)) := by kernel_rfl
  have h9 := fun a b => run_equalIn_int (P := Try.prog) W 9998 3 .i64 .i64 a b Try.underlying3
  have hf := fun a b c d => equalIn_frame W a b c d 9997
  have e : (Op.equal 50 (.agg #[.int .i64 a, .int .i64 b, .int .i64 c, .int .i64 d]) (.agg #[.int .i64 a', .int .i64 b', .int .i64 c', .int .i64 d'])).run Try.prog W = .ok (a == a' && b == b' && c == c' && d == d') W := by
    show (Op.equalIn (9999 + 1) _ _ _).run _ _ = _
    rw [run_equalIn_struct (P := Try.prog) W 9999 _ _ _ hs stood_met]
    simp only [Program.fieldsOf, Try.underlying50, Op.eqFields]
    rw [if_pos (by decide), if_pos (by decide), if_pos (by decide)]
    simp only [Sem.run_bind, (part4 W a b c d).1, (part4 W a' b' c' d').1, Result.andThen_ok]
    rw [show (9999 : Nat) = 9998 + 1 from rfl, h9]
    simp only [Result.andThen_ok]
    cases h : a == a'
    · simp
    · simp only [Bool.not_true, Bool.false_eq_true, if_false, Sem.run_bind, (part4 W a b c d).2, (part4 W a' b' c' d').2, h9, Result.andThen_ok, Bool.true_and]
      cases h' : b == b'
      · simp
      · simp only [Bool.not_true, Bool.false_eq_true, if_false, Sem.run_bind, part4f, Result.andThen_ok, Bool.true_and]
        rw [show (9998 + 1 : Nat) = 9997 + 2 from rfl, hf]
        simp only [Result.andThen_ok]
        cases h'' : (c == c' && d == d') <;> simp
  simp only [binOp]
  simp [e]

def CountPost (w : World) (n : Nat) (e : Ending) (w' : World) : Prop := e = .returned (.int .i64 n) ∧ Below w.heap.size w w'

set_option maxHeartbeats 1600000 in
set_option maxRecDepth 20000 in
theorem has_any (w : World) (base : Nat) (v : Value) (L : List (Nat × Int × Int × Int)) (q : Nat) (a f1 f2 : Int) (h : w.ownsRow base 50 4 v L.length (metCells L)) (hL : L.length ≤ 1000000) :
    Calls Try.prog 20 #[v, .agg #[.int .i64 q, .int .i64 a, .int .i64 f1, .int .i64 f2]] w (CountPost w (L.count (q, a, f1, f2))) := by
  obtain ⟨A, c, rfl, hc, -⟩ := own_form h
  have heq := eql_met
  have H := Lib.hid h
  have k0 := Blk.new w 50 #[.int .i64 (q : Int), .int .i64 a, .int .i64 f1, .int .i64 f2]
  have u1 : Below w.heap.size w (w.alloc (.cells #[.int .i64 (q : Int), .int .i64 a, .int .i64 f1, .int .i64 f2] 50)) := (Below.refl _ _).alloc (Nat.le_refl _) _
  have hc' : (L.length : Int) ≤ (c : Int) := by omega
  clear h
  go_enter Try.func20, Try.ntmps20
  have HU := Lib.hid (And.intro k0 u1)
  clear k0 u1
  go_wp2
  generalize w.alloc (.cells #[.int .i64 (q : Int), .int .i64 a, .int .i64 f1, .int .i64 f2] 50) = w1 at HU ⊢
  go_loopw [5, 6] (fun n i wr => ∃ k nq : Nat, k ≤ L.length ∧ i = .int .i64 k ∧ n = .int .i64 (((L.take k).count (q, a, f1, f2) : Nat) : Int) ∧ wr = w1.drewN nq) (fun _ i _ => L.length - (intOf i).toNat)
  case atStart => exact ⟨0, 0, Nat.zero_le _, rfl, rfl, rfl⟩
  case round =>
    obtain ⟨k, nq, hk, rfl, rfl, rfl⟩ := hrel
    by_cases hlt : k < L.length
    · obtain ⟨m, hm⟩ : ∃ m, L[k]? = some m := ⟨L[k], List.getElem?_eq_getElem hlt⟩
      obtain ⟨g, cc, hv, -, -, -, -, hcell⟩ := own_cells H.out (by omega)
      injection hv with hA _ hcc
      subst hA
      have hg := fun j (hj : j < 4) => flat_get (fun m : Nat × Int × Int × Int => [Value.int .i64 m.1, .int .i64 m.2.1, .int .i64 m.2.2.1, .int .i64 m.2.2.2]) 4 (fun _ => rfl) L k j m hm hj
      obtain ⟨m0, m1, m2, m3⟩ := m
      have s0 := (HU.out.2.cell (p := ⟨g, k * 4, none⟩) (World.block_lt_of_cell? w _ (hcell _ _ (hg 0 (by omega))).1)).trans (hcell _ _ (hg 0 (by omega))).1
      have s1 := (HU.out.2.cell (p := ⟨g, k * 4 + 1, none⟩) (World.block_lt_of_cell? w _ (hcell _ _ (hg 1 (by omega))).1)).trans (hcell _ _ (hg 1 (by omega))).1
      have s2 := (HU.out.2.cell (p := ⟨g, k * 4 + 2, none⟩) (World.block_lt_of_cell? w _ (hcell _ _ (hg 2 (by omega))).1)).trans (hcell _ _ (hg 2 (by omega))).1
      have s3 := (HU.out.2.cell (p := ⟨g, k * 4 + 3, none⟩) (World.block_lt_of_cell? w _ (hcell _ _ (hg 3 (by omega))).1)).trans (hcell _ _ (hg 3 (by omega))).1
      have t0 : w1.cell? ⟨w.heap.size, 0, none⟩ = some (.int .i64 (q : Int)) := HU.out.1.cell 0
      have t1 : w1.cell? ⟨w.heap.size, 1, none⟩ = some (.int .i64 a) := HU.out.1.cell 1
      have t2 : w1.cell? ⟨w.heap.size, 2, none⟩ = some (.int .i64 f1) := HU.out.1.cell 2
      have t3 : w1.cell? ⟨w.heap.size, 3, none⟩ = some (.int .i64 f2) := HU.out.1.cell 3
      have hcnt : (L.take (k + 1)).count (q, a, f1, f2) = (L.take k).count (q, a, f1, f2) + if (m0, m1, m2, m3) = (q, a, f1, f2) then 1 else 0 := by
        rw [List.take_succ_eq_append_getElem hlt, List.count_append, (List.getElem?_eq_some_iff.1 hm).2, List.count_singleton]
        simp
      have hcl : (L.take k).count (q, a, f1, f2) ≤ k := Nat.le_trans List.count_le_length (List.length_take_le _ _)
      have HC := Lib.hid hcnt
      clear hm hcell hg hcc hcnt hc
      by_cases he : (m0, m1, m2, m3) = (q, a, f1, f2)
      · have hb : ((m0 : Int) == (q : Int) && m1 == a && m2 == f1 && m3 == f2) = true := by
          simp only [Prod.mk.injEq] at he
          simp [he.1, he.2.1, he.2.2.1, he.2.2.2]
        have HE := Lib.hid he
        clear he
        go_wp2
        go_quiet (fail)
        go_wp2
        go_roundw
        case rel => exact ⟨k + 1, _, by omega, by go_num, by rw [HC.out, if_pos HE.out]; go_num, rfl⟩
        case measure => simp [intOf]; omega
      · have hb : ((m0 : Int) == (q : Int) && m1 == a && m2 == f1 && m3 == f2) = false := by
          rw [Bool.eq_false_iff]
          intro hh
          simp only [Bool.and_eq_true, beq_iff_eq] at hh
          exact he (by rw [hh.1.1.2, hh.1.2, hh.2]; simp only [Prod.mk.injEq, and_true]; omega)
        have HE := Lib.hid he
        clear he
        go_wp2
        go_quiet (fail)
        go_wp2
        go_roundw
        case rel => exact ⟨k + 1, _, by omega, by go_num, by rw [HC.out, if_neg HE.out]; rfl, rfl⟩
        case measure => simp [intOf]; omega
    · go_wp2
      go_ret
      refine ⟨?_, below_drewN HU.out.2 _⟩
      rw [List.take_of_length_le (by omega)]
      rfl
end Go.Proofs.Ytbppbgdmoihooaa
