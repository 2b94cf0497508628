/- Forests: what is left behind a derivation (bywayref29.Left). -/
import Derived.Test.YtbppbgdmoihooaaTrP
import Derived.Test.YtbppbgdmoihooaaTrQ
namespace Go.Proofs.Ytbppbgdmoihooaa
open Go.RowKit

theorem stood_pack : Try.prog.stoodInHeld 125 = false := by kernel_rfl
theorem part_pack (W : World) (a b c d e : Int) (k : Nat) (x : Int) (h : [a, b, c, d, e][k]? = some x) : (part 3 #[.int .i64 a, .int .i64 b, .int .i64 c, .int .i64 d, .int .i64 e] k).run Try.prog W = .ok (.int .i64 x) W := by
  match k, h with
  | 0, h => simp at h; subst h; simp [part, isAgg, run_underlying Try.underlying3]
  | 1, h => simp at h; subst h; simp [part, isAgg, run_underlying Try.underlying3]
  | 2, h => simp at h; subst h; simp [part, isAgg, run_underlying Try.underlying3]
  | 3, h => simp at h; subst h; simp [part, isAgg, run_underlying Try.underlying3]
  | 4, h => simp at h; subst h; simp [part, isAgg, run_underlying Try.underlying3]
  | k + 5, h => simp at h
set_option maxRecDepth 20000 in
theorem eql_pack (W : World) (a b : Pk) : (binOp .eql 125 a.agg b.agg).run Try.prog W = .ok (.bool (decide (a = b))) W := by
  obtain ⟨a0, a1, a2, a3, a4⟩ := a
  obtain ⟨b0, b1, b2, b3, b4⟩ := b
  have hs : Try.prog.underlying 125 = some (.struct (Try.prog.fieldsOf 125)) := by kernel_rfl
  have h9 := fun a b => run_equalIn_int (P := Try.prog) W 9998 3 .i64 .i64 a b Try.underlying3
  have pa := part_pack W a0 a1 a2 a3 a4
  have pb := part_pack W b0 b1 b2 b3 b4
  have e : (Op.equal 125 (.agg #[.int .i64 a0, .int .i64 a1, .int .i64 a2, .int .i64 a3, .int .i64 a4]) (.agg #[.int .i64 b0, .int .i64 b1, .int .i64 b2, .int .i64 b3, .int .i64 b4])).run Try.prog W = .ok (a0 == b0 && (a1 == b1 && (a2 == b2 && (a3 == b3 && a4 == b4)))) W := by
    show (Op.equalIn (9999 + 1) _ _ _).run _ _ = _
    rw [run_equalIn_struct (P := Try.prog) W 9999 _ _ _ hs stood_pack]
    simp only [Program.fieldsOf, Try.underlying125, Op.eqFields]
    rw [if_pos (by decide), if_pos (by decide), if_pos (by decide), if_pos (by decide), if_pos (by decide)]
    simp only [Sem.run_bind, pa 0 a0 rfl, pb 0 b0 rfl, h9, Result.andThen_ok]
    cases a0 == b0
    · simp
    · simp only [Bool.not_true, Bool.false_eq_true, if_false, Sem.run_bind, pa 1 a1 rfl, pb 1 b1 rfl, h9, Result.andThen_ok, Bool.true_and]
      cases a1 == b1
      · simp
      · simp only [Bool.not_true, Bool.false_eq_true, if_false, Sem.run_bind, pa 2 a2 rfl, pb 2 b2 rfl, h9, Result.andThen_ok, Bool.true_and]
        cases a2 == b2
        · simp
        · simp only [Bool.not_true, Bool.false_eq_true, if_false, Sem.run_bind, pa 3 a3 rfl, pb 3 b3 rfl, h9, Result.andThen_ok, Bool.true_and]
          cases a3 == b3
          · simp
          · simp only [Bool.not_true, Bool.false_eq_true, if_false, Sem.run_bind, pa 4 a4 rfl, pb 4 b4 rfl, h9, Result.andThen_ok, Bool.true_and]
            cases a4 == b4 <;> simp
  have hd : decide ((⟨a0, a1, a2, a3, a4⟩ : Pk) = ⟨b0, b1, b2, b3, b4⟩) = (a0 == b0 && (a1 == b1 && (a2 == b2 && (a3 == b3 && a4 == b4)))) := by
    rw [Bool.eq_iff_iff]
    simp
  rw [hd]
  unfold Pk.agg
  clear hd pa pb h9 hs
  simp only [binOp]
  simp [e]
end Go.Proofs.Ytbppbgdmoihooaa
