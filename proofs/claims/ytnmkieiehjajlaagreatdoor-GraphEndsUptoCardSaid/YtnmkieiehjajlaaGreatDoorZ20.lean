/- An edge, a row of texts, a row of edges that come in, read. -/
import Derived.Test.YtnmkieiehjajlaaGreatDoorZ16
set_option linter.unusedVariables false
set_option linter.unusedSimpArgs false
namespace Go.Proofs.YtnmkieiehjajlaaGreatDoor.edRead
open Go.ChangeShapes Go.WideShapes Go.ChangeAt Go.RowKit

set_option maxRecDepth 20000 in
theorem open_edge {H : Type} {enc : TypeId × Value → H} {W : World} {base : Nat} {v : Value} {d0 : DataW H} {p0 : List MemPlace} (hv : Value.okWide Tryz.prog W .any base 52 v) (h : DataW.Trod enc Tryz.prog W 0 (fun _ => true) true 52 v d0 p0) :
    ∃ x : Ed, v = x.agg ∧ EdOk x := by
  obtain ⟨cs, rfl, hcs⟩ := okWide_struct Tryz.underlying52 hv
  rw [cells_edge] at hcs
  obtain ⟨fuel, hf⟩ := h
  have hk := (keyLits_of_trod 2 52 (by kernel_rfl) fuel _ _ hf).1
  obtain ⟨x, hx, ok⟩ := lits_ed (by simpa [Value.cells] using hcs) hk
  refine ⟨x, ?_, ok⟩
  obtain ⟨l⟩ := cs
  simp only [Value.cells] at hx
  subst hx
  rfl
set_option maxRecDepth 20000 in
theorem top_txts {H : Type} {enc : TypeId × Value → H} {W : World} {base : Nat} {v : Value} {d0 : DataW H} {p0 : List MemPlace} (hv : Value.okWide Tryz.prog W .any base 22 v) (h : DataW.Trod enc Tryz.prog W 0 (fun _ => true) true 22 v d0 p0)
    (hz : ∀ n ∈ d0.weights Tryz.prog 22, n ≤ reachBytes) : ∃ A c N, v = .slice A (List.length N) c ∧ RowR W A (txtCells N) ∧ N.length ≤ c ∧ N.length * 16 ≤ 140737488355328 ∧ ∀ s ∈ N, TxtOk s := by
  obtain ⟨a, len, cap, rfl⟩ := okWide_slice Tryz.underlying22 hv
  obtain ⟨fuel, hf⟩ := h
  exact read_txts (y := (d0, p0)) hf hz
set_option maxRecDepth 20000 in
theorem top_eds {H : Type} {enc : TypeId × Value → H} {W : World} {base : Nat} {v : Value} {d0 : DataW H} {p0 : List MemPlace} (hv : Value.okWide Tryz.prog W .any base 23 v) (h : DataW.Trod enc Tryz.prog W 0 (fun _ => true) true 23 v d0 p0)
    (hz : ∀ n ∈ d0.weights Tryz.prog 23, n ≤ reachBytes) : ∃ A c E, v = .slice A (List.length E) c ∧ RowR W A (edCells E) ∧ E.length ≤ c ∧ E.length * 48 ≤ 140737488355328 ∧ ∀ x ∈ E, EdOk x := by
  obtain ⟨a, len, cap, rfl⟩ := okWide_slice Tryz.underlying23 hv
  obtain ⟨fuel, hf⟩ := h
  exact read_eds (y := (d0, p0)) hf hz
end Go.Proofs.YtnmkieiehjajlaaGreatDoor.edRead
