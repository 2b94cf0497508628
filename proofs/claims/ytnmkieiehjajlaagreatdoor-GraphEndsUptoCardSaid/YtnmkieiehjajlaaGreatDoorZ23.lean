/- Edges: cut to what this seat wants. -/
import Derived.Test.YtnmkieiehjajlaaGreatDoorZ21
set_option linter.unusedVariables false
set_option linter.unusedSimpArgs false
namespace Go.Proofs.YtnmkieiehjajlaaGreatDoor
open Go.RowKit

/-! A graph that may be. -/
theorem form_iff {N : List Txt} {E : List Ed} (h : formB N E = true) : Rises ltT N ∧ Rises ltE E ∧ ∀ x ∈ E, x.fr ∈ N ∧ x.to ∈ N := by
  unfold formB at h
  rw [Bool.and_eq_true, Bool.and_eq_true, List.all_eq_true] at h
  refine ⟨rises_of_up stoT h.1, rises_of_up stoE h.2.1, fun x hx => ?_⟩
  have := h.2.2 x hx
  unfold endsIn at this
  rw [Bool.and_eq_true, inB_iff, inB_iff] at this
  exact this
theorem gN_form {N M : List Txt} {E : List Ed} (h : Rises ltT N) (_he : ∀ x ∈ E, x.fr ∈ N ∧ x.to ∈ N) (hm : ∀ s, s ∈ N ↔ s ∈ M ∨ ∃ x ∈ E, s = x.fr ∨ s = x.to) : gN M E = N :=
  setOf_eq stoT (up_of_rises h) (fun s => (hm s).trans mem_all.symm)
theorem gE_form {E : List Ed} (h : Rises ltE E) : gE E = E := setOf_eq stoE (up_of_rises h) (fun _ => Iff.rfl)
theorem ofI_form {N M : List Txt} {E : List Ed} (h : checkI N E = 0) (hM : ∀ s, s ∈ N ↔ s ∈ M ∨ ∃ x ∈ E, s = x.fr ∨ s = x.to) : ofI M E = 0 ∧ gN M E = N ∧ gE E = E := by
  obtain ⟨h1, h2, h3⟩ := check_caps h
  obtain ⟨f1, f2, f3⟩ := form_iff h1
  have e1 := gN_form f1 f3 hM
  have e2 := gE_form f2
  refine ⟨?_, e1, e2⟩
  have hn := named_iff.1 h2
  have hn' : namedB M E = true := named_iff.2 ⟨fun s hs => hn.1 s ((hM s).2 (.inl hs)), hn.2⟩
  rw [ofI, if_neg (by rw [hn']; simp), e1, e2, h3]
/-- What is read may be. -/
theorem check_made {N : List Txt} {E : List Ed} (h : ofI N E = 0) : checkI (gN N E) (gE E) = 0 := by
  have hn := named_iff.1 (ofI_named h)
  have u1 := (setOf_is stoT (allT N E)).up
  have u2 := (setOf_is stoE E).up
  have hf : formB (gN N E) (gE E) = true := by
    unfold formB
    rw [Bool.and_eq_true, Bool.and_eq_true, List.all_eq_true]
    refine ⟨up_of_rises u1, up_of_rises u2, fun x hx => ?_⟩
    unfold endsIn
    rw [Bool.and_eq_true, inB_iff, inB_iff]
    have := gE_mem.1 hx
    exact ⟨gN_mem.2 (.inr ⟨x, this, .inl rfl⟩), gN_mem.2 (.inr ⟨x, this, .inr rfl⟩)⟩
  have hm : namedB (gN N E) (gE E) = true := by
    refine named_iff.2 ⟨fun s hs => ?_, fun x hx => hn.2 x (gE_mem.1 hx)⟩
    rcases gN_mem.1 hs with h1 | ⟨x, hx, rfl | rfl⟩
    · exact hn.1 s h1
    · exact (hn.2 x hx).1
    · exact (hn.2 x hx).2.2
  rw [checkI, if_neg (by rw [hf]; simp), if_neg (by rw [hm]; simp), ofI_caps h]
end Go.Proofs.YtnmkieiehjajlaaGreatDoor
