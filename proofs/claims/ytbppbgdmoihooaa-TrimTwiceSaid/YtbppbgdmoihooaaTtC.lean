/- Forests: how far a spot reaches: the plain law for trim.Count (no program in sight). -/
import Derived.Test.YtbppbgdmoihooaaTtB
namespace Go.Proofs.Ytbppbgdmoihooaa
theorem ex_reach (P : List Pk) (X : Int → Prop) (n : Nat) : ∃ L, RchB P X n L := by
  classical
  refine ⟨(List.range n).map fun i : Nat => decide (Rch P X (i : Int)), by simp, fun s hs => ?_⟩
  unfold atB
  simp [hs]
theorem count_le : ∀ (L L' : List Bool), L.length = L'.length → (∀ i : Nat, L'[i]? = some true → L[i]? = some true) → L'.count true ≤ L.count true
  | [], [], _, _ => Nat.le_refl _
  | a :: L, b :: L', hl, h => by
    have ih := count_le L L' (by simpa using hl) (fun i hi => by have := h (i + 1) (by simpa using hi); simpa using this)
    have h0 := h 0
    cases a <;> cases b <;> simp_all <;> omega
theorem count_less : ∀ (L L' : List Bool), L.length = L'.length → (∀ i : Nat, L'[i]? = some true → L[i]? = some true) → (∃ i : Nat, L[i]? = some true ∧ L'[i]? = some false) → L'.count true < L.count true
  | [], [], _, _, h => by obtain ⟨i, hi, -⟩ := h; simp at hi
  | a :: L, b :: L', hl, h, hx => by
    have hr : ∀ i : Nat, L'[i]? = some true → L[i]? = some true := fun i hi => by have := h (i + 1) (by simpa using hi); simpa using this
    have h0 := h 0
    obtain ⟨i, h1, h2⟩ := hx
    cases i with
    | zero =>
      have := count_le L L' (by simpa using hl) hr
      simp only [List.getElem?_cons_zero, Option.some.injEq] at h1 h2
      subst h1
      subst h2
      simp
      omega
    | succ i =>
      have ih := count_less L L' (by simpa using hl) hr ⟨i, by simpa using h1, by simpa using h2⟩
      cases a <;> cases b <;> simp_all <;> omega
theorem rch_part {P : List Pk} {X : Int → Prop} {x y : Int} (hx : Rch P X x) (h : Rch P (partX P x) y) : Rch P X y := by
  induction h with
  | base y hy =>
    obtain ⟨q, hq, e, hl, rfl | rfl⟩ := hy
    · exact Rch.left q hq hl (by rw [e]; exact hx)
    · exact Rch.right q hq hl (by rw [e]; exact hx)
  | left p hp hl _ ih => exact Rch.left p hp hl ih
  | right p hp hl _ ih => exact Rch.right p hp hl ih
theorem reach_less {P : List Pk} {n : Nat} {s : Int} {x : Nat} {L L' : List Bool} (hL : RchB P (partX P s) n L) (hL' : RchB P (partX P (x : Int)) n L') (hx : partX P s (x : Int)) (hn : x < n) (hno : ¬ Rch P (partX P (x : Int)) (x : Int)) : L'.count true < L.count true := by
  have get : ∀ {K : List Bool} {i : Nat} {b : Bool}, K.length = n → i < n → atB K (i : Int) = b → K[i]? = some b := fun {K i b} hK hi e => by rw [atB_get (by omega), e]
  refine count_less L L' (by rw [hL.len, hL'.len]) (fun i hi => ?_) ⟨x, get hL.len hn ((hL.is x hn).2 (Rch.base _ hx)), get hL'.len hn ?_⟩
  · have hin : i < n := by have := (List.getElem?_eq_some_iff.1 hi).1; rw [hL'.len] at this; exact this
    have e : atB L' (i : Int) = true := by rw [atB_get (by rw [hL'.len]; exact hin)] at hi; exact Option.some.inj hi
    exact get hL.len hin ((hL.is i hin).2 (rch_part (Rch.base _ hx) ((hL'.is i hin).1 e)))
  · cases e : atB L' (x : Int)
    · rfl
    · exact (hno ((hL'.is x hn).1 e)).elim
/-- No spot that is reached from here runs in a ring. -/
def Calm (P : List Pk) (s : Int) : Prop := ∀ y, (y = s ∨ Rch P (partX P s) y) → ¬ Rch P (partX P y) y
theorem Calm.part {P : List Pk} {s x : Int} (h : Calm P s) (hx : partX P s x) : Calm P x := by
  rintro y (rfl | hy)
  · exact h _ (.inr (Rch.base _ hx))
  · exact h _ (.inr (rch_part (Rch.base _ hx) hy))
theorem Calm.of {P : List Pk} {n s : Nat} {I R : List Bool} (hP : ∀ p ∈ P, PkIn n p) (hs : s < n) (hI : RchB P (fun x => x = (s : Int)) n I) (hR : RingB P n R) (h : ∀ i : Nat, i < n → ¬ (atB I (i : Int) = true ∧ atB R (i : Int) = true)) : Calm P (s : Int) := by
  have h1 : ∀ y, Rch P (fun x => x = (s : Int)) y → ∃ i : Nat, y = i ∧ i < n := by
    intro y hy
    induction hy with
    | base y hy => exact ⟨s, hy, hs⟩
    | left p hp hl _ _ =>
      rcases (hP p hp).2 with h2 | ⟨l, r, el, er, hl2, hr2⟩
      · exact (hl h2).elim
      · exact ⟨l, el, hl2⟩
    | right p hp hl _ _ =>
      rcases (hP p hp).2 with h2 | ⟨l, r, el, er, hl2, hr2⟩
      · exact (hl h2).elim
      · exact ⟨r, er, hr2⟩
  intro y hy hr
  have hry : Rch P (fun x => x = (s : Int)) y := by
    rcases hy with rfl | hy
    · exact Rch.base _ rfl
    · exact rch_part (Rch.base _ rfl) hy
  obtain ⟨i, rfl, hi⟩ := h1 y hry
  exact h i hi ⟨(hI.is i hi).2 hry, (hR.is i hi).2 hr⟩
end Go.Proofs.Ytbppbgdmoihooaa
