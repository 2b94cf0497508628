/- Edges: cut to what this seat wants. -/
import Derived.Test.YtnmkieiehjajlaaGreatDoorZ17
import Derived.Test.YtnmkieiehjajlaaGreatDoorZ21
import Derived.Test.YtnmkieiehjajlaaGreatDoorZ05
set_option linter.unusedVariables false
set_option linter.unusedSimpArgs false
namespace Go.Proofs.YtnmkieiehjajlaaGreatDoor
open Go.RowKit

theorem own_le2 {w : World} {base e size n : Nat} {v : Value} {xs : List Value} (h : w.ownsRow base e size v n xs) : ∃ A c, v = .slice A n c ∧ n ≤ c ∧ RowR w A xs := by
  obtain ⟨A, c, rfl, hc, -⟩ := own_form h
  exact ⟨A, c, rfl, hc, RowR.of_own h⟩
end Go.Proofs.YtnmkieiehjajlaaGreatDoor
