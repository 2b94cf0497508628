/- The laws on the shared stack: small facts. -/
import Derived.Test.YtbppbgdmoihooaaGssJ
namespace Go.Proofs.Ytbppbgdmoihooaa
open Go.RowKit

theorem info_i : (Try.prog.info? 3).isSome = true := by kernel_rfl
theorem part_int (W : World) (x y : Int) : (part 3 #[.int .i64 x, .int .i64 y] 0).run Try.prog W = .ok (.int .i64 x) W ∧ (part 3 #[.int .i64 x, .int .i64 y] 1).run Try.prog W = .ok (.int .i64 y) W := by
  simp [part, isAgg, run_underlying Try.underlying3]
theorem equal_pair (W : World) (x y p q : Int) : (Op.equal 27 (.agg #[.int .i64 x, .int .i64 y]) (.agg #[.int .i64 p, .int .i64 q])).run Try.prog W = .ok (x == p && y == q) W := by
  obtain ⟨i0, hi0⟩ := Option.isSome_iff_exists.1 info_i
  have h := run_equalIn_array (P := Try.prog) W 9999 #[.int .i64 x, .int .i64 y] #[.int .i64 p, .int .i64 q] Try.underlying27 hi0
  have h9 := fun a b => run_equalIn_int (P := Try.prog) W 9998 3 .i64 .i64 a b Try.underlying3
  have e : Op.equal 27 (.agg #[.int .i64 x, .int .i64 y]) (.agg #[.int .i64 p, .int .i64 q]) = Op.equalIn (9999 + 1) 27 (.agg #[.int .i64 x, .int .i64 y]) (.agg #[.int .i64 p, .int .i64 q]) := rfl
  rw [e, h, cells_int]
  simp only [List.range_succ, List.range_zero, List.nil_append, List.cons_append, Op.eqItems, Nat.zero_mul, Nat.one_mul, Sem.run_bind, (part_int W x y).1, (part_int W p q).1, Result.andThen_ok]
  rw [show (9999 : Nat) = 9998 + 1 from rfl, h9]
  simp only [Result.andThen_ok]
  cases hx : x == p
  · simp
  · simp only [Bool.not_true, Bool.false_eq_true, if_false, Sem.run_bind, (part_int W x y).2, (part_int W p q).2, Result.andThen_ok, h9, Bool.true_and]
    cases hy : y == q <;> simp
theorem eql_pair (W : World) (x y p q : Int) : (binOp .eql 27 (.agg #[.int .i64 x, .int .i64 y]) (.agg #[.int .i64 p, .int .i64 q])).run Try.prog W = .ok (.bool (x == p && y == q)) W := by
  simp only [binOp]
  simp [equal_pair]
end Go.Proofs.Ytbppbgdmoihooaa
