/- A region that draws its order, walked in one order: a guarded operation that comes up alone. Nothing here names the program. -/
import Derived.Test.YthmkgnifcbnkpaaGreatOrdPre
namespace Go.Proofs.YthmkgnifcbnkpaaGreat
open Go
section
variable {P : Program} {ops : Array Oper} {Q : Exit → Act → World → Prop} {md : Region.Mode} {S : World → Prop} {n : Nat}
theorem ord_dog {i : Nat} {r : List (Nat × Bool)} {a : Act} {w : World} {oi : Oper} (hi : ops[i]? = some oi) (hw : Region.wanted oi (yielded ops a.tmps) = true)
    (h : ∀ K : Act → World → Prop, (∀ a w, (i ≠ n → S w) → wpOrd P ops Q S n r a w → K a w) → oi.wp P a w K Q) : wpOrd P ops Q S n ((i, false) :: r) a w := by
  show wpOp P ops Q i _ a w
  unfold wpOp
  simp only [hi]
  rw [if_pos hw]
  exact .inl (h _ fun a w h1 h2 => ⟨h1, h2⟩)
theorem ord_skipf {i : Nat} {r : List (Nat × Bool)} {a : Act} {w : World} {oi : Oper} (hi : ops[i]? = some oi) (hw : Region.wanted oi (yielded ops a.tmps) = false) (hS : S w)
    (h : wpOrd P ops Q S n r (a.put oi.dst undef) w) : wpOrd P ops Q S n ((i, false) :: r) a w := by
  show wpOp P ops Q i _ a w
  unfold wpOp
  simp only [hi, hw]
  exact ⟨fun _ => hS, h⟩
end
end Go.Proofs.YthmkgnifcbnkpaaGreat
