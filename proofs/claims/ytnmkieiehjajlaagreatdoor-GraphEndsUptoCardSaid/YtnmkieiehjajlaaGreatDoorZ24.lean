/- Edges: cut to what this seat wants. -/
import Derived.Test.YtnmkieiehjajlaaGreatDoorZ23
import Derived.Test.YtnmkieiehjajlaaGreatDoorZ22
set_option linter.unusedVariables false
set_option linter.unusedSimpArgs false
namespace Go.Proofs.YtnmkieiehjajlaaGreatDoor
open Go.RowKit

theorem i64_and1023 (n : Int) : bits .and .i64 n 1023 = n % 1024 := by
  have h127 : (BitVec.ofInt 64 1023).toNat = 2 ^ 10 - 1 := by decide
  have key : (BitVec.ofInt 64 n &&& BitVec.ofInt 64 1023).toNat = (n % ((2 ^ 64 : Nat) : Int)).toNat % 2 ^ 10 := by
    rw [BitVec.toNat_and, BitVec.toNat_ofInt, h127, Nat.and_two_pow_sub_one_eq_mod]
  show IntKind.i64.wrap ((BitVec.ofInt 64 n &&& BitVec.ofInt 64 1023).toNat : Nat) = n % 1024
  rw [key, IntKind.wrap_i64]
  omega
/-- What tells the same nodes and edges makes the same graph. -/
theorem same_of {N M : List Txt} {E F : List Ed} (h : checkI N E = 0) (hN : ∀ s, s ∈ M ↔ s ∈ N) (hE : ∀ x, x ∈ F ↔ x ∈ E) : ofI M F = 0 ∧ gN M F = N ∧ gE F = E := by
  obtain ⟨f1, f2, f3⟩ := form_iff (check_caps h).1
  obtain ⟨a, b, c⟩ := ofI_form h (M := N) (fun s => ⟨.inl, fun hs => by
    rcases hs with hs | ⟨x, hx, rfl | rfl⟩
    · exact hs
    · exact (f3 x hx).1
    · exact (f3 x hx).2⟩)
  have hends : ∀ s, (s ∈ M ∨ ∃ x ∈ F, s = x.fr ∨ s = x.to) ↔ (s ∈ N ∨ ∃ x ∈ E, s = x.fr ∨ s = x.to) := fun s => by
    constructor
    · rintro (hs | ⟨x, hx, hs⟩)
      · exact .inl ((hN s).1 hs)
      · exact .inr ⟨x, (hE x).1 hx, hs⟩
    · rintro (hs | ⟨x, hx, hs⟩)
      · exact .inl ((hN s).2 hs)
      · exact .inr ⟨x, (hE x).2 hx, hs⟩
  refine ⟨?_, by rw [gN_same hends, b], by rw [gE_same hE, c]⟩
  rw [ofI_same hends hE (fun s hs => .inl ((hN s).1 hs)) (fun s hs => .inl ((hN s).2 hs)), a]
end Go.Proofs.YtnmkieiehjajlaaGreatDoor
