/- Small words of this seat: an int that fits; a slice that reads as a list. -/
import Derived.Test.YtlgpjgplgpgkiaaGreatDoorRows
import Derived.Test.YtlgpjgplgpgkiaaGreatDoorBase
import Derived.WalkLawsBesides
import Derived.Deep.QuietTactic
import Derived.BigQuiet
import Derived.StillTailTactics
import Derived.Carry
import Derived.Lib.Hide
import Derived.DeepKeys4
namespace Go.Proofs.YtlgpjgplgpgkiaaGreatDoor
open Go.RowKit

/-- An int that fits. -/
def Wf (a : Int) : Prop := (Lit.int .i64 a).wf = true
/-- A slice at A of n elements of some cells each reads as these cells. -/
def Reads (w : World) (size : Nat) (A : Option Addr) (n : Nat) (xs : List Value) : Prop :=
  xs.length = n * size ∧ (A = none → n = 0) ∧ ∀ ad, A = some ad → ∀ j u, xs[j]? = some u → w.cell? (ad.add j) = some u
theorem Reads.nil {w : World} {size n : Nat} {xs : List Value} (h : Reads w size none n xs) : n = 0 ∧ xs = [] := by
  have hn := h.2.1 rfl
  subst hn
  exact ⟨rfl, List.eq_nil_of_length_eq_zero (by simpa using h.1)⟩
theorem info_int : (Tryz.prog.info? 3).map (fun i => (i.zero, i.size, i.bytes)) = some (some (.int .i64 0), 1, 8) := by kernel_rfl
end Go.Proofs.YtlgpjgplgpgkiaaGreatDoor
