/- Rows: what stands at a place; texts added. -/
import Derived.Test.YthmkgnifcbnkpaaGreatEdD
namespace Go.Proofs.YthmkgnifcbnkpaaGreat
open Go.RowKit

theorem add_okk (a b : Txt) (h : a.size + b.size ≤ 100000) : ∀ w, (Op.stringOp .add a b).run Tryz.prog w = .ok (.string (a ++ b)) w := fun w => run_string_add_sum w a b (by omega)
theorem RowR.txt_at {w : World} {b o : Nat} {N : List Txt} (h : RowR w (some ⟨b, o, none⟩) (txtCells N)) {k : Nat} {s : Txt} (hk : N[k]? = some s) : w.cell? ⟨b, o + k, none⟩ = some (.string s) := by
  obtain ⟨b', o', e, x⟩ := h.txt hk
  injection e with e
  injection e with e1 e2
  subst e1; subst e2
  exact x
theorem RowR.ed_at {w : World} {b o : Nat} {E : List Ed} (h : RowR w (some ⟨b, o, none⟩) (edCells E)) {k : Nat} {x : Ed} (hk : E[k]? = some x) : w.cell? ⟨b, o + k * 3, none⟩ = some (.string x.fr) ∧ w.cell? ⟨b, o + k * 3 + 1, none⟩ = some (.string x.lb) ∧ w.cell? ⟨b, o + k * 3 + 2, none⟩ = some (.string x.to) := by
  obtain ⟨b', o', e, x1, x2, x3⟩ := h.ed hk
  injection e with e
  injection e with e1 e2
  subst e1; subst e2
  exact ⟨x1, x2, x3⟩
end Go.Proofs.YthmkgnifcbnkpaaGreat
