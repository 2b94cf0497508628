/- A fact that comes in, read. -/
import Derived.Test.YtlgpjgplgpgkiaaGreatDoorForRead
namespace Go.Proofs.YtlgpjgplgpgkiaaGreatDoor.forRead
open Go.ChangeShapes Go.WideShapes Go.ChangeAt Go.RowKit

set_option maxRecDepth 20000 in
theorem open_fact {H : Type} {enc : TypeId × Value → H} {W : World} {base : Nat} {v : Value} {d0 : DataW H} {p0 : List MemPlace} (hv : Value.okWide Tryz.prog W .any base 33 v) (h : DataW.Trod enc Tryz.prog W 0 (fun _ => true) true 33 v d0 p0) :
    ∃ f : Fct, v = f.agg := by
  obtain ⟨cs, rfl, hcs⟩ := okWide_struct Tryz.underlying33 hv
  rw [cells_fact] at hcs
  obtain ⟨fuel, hf⟩ := h
  have hk := (keyLits_of_trod 2 33 (by kernel_rfl) fuel _ _ hf).1
  obtain ⟨f, hf⟩ := lits_fact (by simpa [Value.cells] using hcs) hk
  refine ⟨f, ?_⟩
  obtain ⟨l⟩ := cs
  simp only [Value.cells] at hf
  subst hf
  rfl
end Go.Proofs.YtlgpjgplgpgkiaaGreatDoor.forRead
