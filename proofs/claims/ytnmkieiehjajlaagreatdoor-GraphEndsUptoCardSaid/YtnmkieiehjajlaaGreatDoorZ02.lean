/- Texts and edges in order: the plain law (no program in sight). -/
import Derived.Test.YtnmkieiehjajlaaGreatDoorZ01
import Derived.Lib.Bytealg
set_option linter.unusedVariables false
set_option linter.unusedSimpArgs false
namespace Go.Proofs.YtnmkieiehjajlaaGreatDoor
open Go.RowKit

/-- A strict order in which any two that are not one stand one behind the other. -/
structure Sto {α : Type} (lt : α → α → Bool) : Prop where
  irr : ∀ a, lt a a = false
  tr : ∀ a b c, lt a b = true → lt b c = true → lt a c = true
  tri : ∀ a b, lt a b = false → lt b a = false → a = b
theorem Sto.asym {α : Type} {lt : α → α → Bool} (h : Sto lt) {a b : α} (k : lt a b = true) : lt b a = false := by
  cases e : lt b a
  · rfl
  · have := h.tr a b a k e
    rw [h.irr] at this
    cases this
theorem Sto.ne {α : Type} {lt : α → α → Bool} (h : Sto lt) {a b : α} (k : lt a b = true) : a ≠ b := by
  rintro rfl
  rw [h.irr] at k
  cases k

/-! Texts. -/
abbrev Txt := ByteArray
def cmpT (a b : Txt) : Int := Lib.compareBytes a.data.toList b.data.toList
def ltT (a b : Txt) : Bool := Op.bytesLess a.toList b.toList
theorem txt_ext {a b : Txt} (h : a.data.toList = b.data.toList) : a = b := by
  obtain ⟨⟨a⟩⟩ := a
  obtain ⟨⟨b⟩⟩ := b
  simp at h
  rw [h]
def toTxt (l : List UInt8) : Txt := ⟨l.toArray⟩
theorem toTxt_list (s : Txt) : toTxt s.data.toList = s := by
  obtain ⟨a⟩ := s
  rfl
theorem txt_list (a : Txt) : a.toList = a.data.toList := ByteArray.toList_eq a
theorem compare_cases : ∀ (a b : List UInt8), (Lib.compareBytes a b = -1 ∧ Op.bytesLess a b = true) ∨ (Lib.compareBytes a b = 0 ∧ a = b) ∨ (Lib.compareBytes a b = 1 ∧ Op.bytesLess b a = true)
  | [], [] => .inr (.inl ⟨rfl, rfl⟩)
  | [], _ :: _ => .inl ⟨rfl, rfl⟩
  | _ :: _, [] => .inr (.inr ⟨rfl, rfl⟩)
  | x :: a, y :: b => by
    unfold Lib.compareBytes Op.bytesLess
    by_cases h1 : x < y
    · simp [h1]
    · by_cases h2 : y < x
      · simp [h1, h2]
      · have e : x = y := UInt8.le_antisymm (UInt8.not_lt.1 h2) (UInt8.not_lt.1 h1)
        subst e
        rcases compare_cases a b with ⟨c, d⟩ | ⟨c, d⟩ | ⟨c, d⟩
        · exact .inl (by simp [h1, c, d])
        · exact .inr (.inl (by simp [h1, c]; exact d))
        · exact .inr (.inr (by simp [h1, c, d]))
theorem less_irr : ∀ (a : List UInt8), Op.bytesLess a a = false
  | [] => rfl
  | x :: a => by simp [Op.bytesLess, less_irr a]
theorem less_tr : ∀ (a b c : List UInt8), Op.bytesLess a b = true → Op.bytesLess b c = true → Op.bytesLess a c = true
  | _, b, [], _, k => by cases b <;> simp [Op.bytesLess] at k
  | a, [], _ :: _, h, _ => by cases a <;> simp [Op.bytesLess] at h
  | [], _ :: _, _ :: _, _, _ => rfl
  | x :: a, y :: b, z :: c, h, k => by
    simp only [Op.bytesLess, Bool.or_eq_true, decide_eq_true_eq, Bool.and_eq_true, beq_iff_eq] at h k ⊢
    rcases h with h | ⟨rfl, h⟩
    · rcases k with k | ⟨rfl, k⟩
      · exact .inl (UInt8.lt_trans h k)
      · exact .inl h
    · rcases k with k | ⟨rfl, k⟩
      · exact .inl k
      · exact .inr ⟨rfl, less_tr a b c h k⟩
theorem stoT : Sto ltT := by
  refine ⟨fun a => less_irr _, fun a b c => less_tr _ _ _, fun a b h k => ?_⟩
  unfold ltT at h k
  rw [txt_list, txt_list] at h k
  rcases compare_cases a.data.toList b.data.toList with ⟨_, d⟩ | ⟨_, d⟩ | ⟨_, d⟩
  · rw [h] at d; cases d
  · exact txt_ext d
  · rw [k] at d; cases d
theorem cmpT_cases (a b : Txt) : (cmpT a b = -1 ∧ ltT a b = true ∧ a ≠ b) ∨ (cmpT a b = 0 ∧ a = b) ∨ (cmpT a b = 1 ∧ ltT b a = true ∧ a ≠ b) := by
  unfold cmpT ltT
  rw [txt_list, txt_list]
  rcases compare_cases a.data.toList b.data.toList with ⟨c, d⟩ | ⟨c, d⟩ | ⟨c, d⟩
  · refine .inl ⟨c, d, ?_⟩
    rintro rfl
    rw [less_irr] at d
    cases d
  · exact .inr (.inl ⟨c, txt_ext d⟩)
  · refine .inr (.inr ⟨c, d, ?_⟩)
    rintro rfl
    rw [less_irr] at d
    cases d
theorem cmpT_lt (a b : Txt) : decide (cmpT a b < 0) = ltT a b := by
  rcases cmpT_cases a b with ⟨c, d, _⟩ | ⟨c, rfl⟩ | ⟨c, d, _⟩
  · rw [c, d]; rfl
  · rw [c, stoT.irr]; rfl
  · rw [c, stoT.asym d]; rfl

/-! Edges. -/
structure Ed where
  fr : Txt
  lb : Txt
  to : Txt
deriving DecidableEq
def Ed.cells (x : Ed) : List Value := [.string x.fr, .string x.lb, .string x.to]
def Ed.agg (x : Ed) : Value := .agg #[.string x.fr, .string x.lb, .string x.to]
def cmpE (a b : Ed) : Int := if cmpT a.fr b.fr ≠ 0 then cmpT a.fr b.fr else if cmpT a.lb b.lb ≠ 0 then cmpT a.lb b.lb else cmpT a.to b.to
def ltE (a b : Ed) : Bool := if a.fr = b.fr then (if a.lb = b.lb then ltT a.to b.to else ltT a.lb b.lb) else ltT a.fr b.fr
theorem cmpT_zero {a b : Txt} : cmpT a b = 0 ↔ a = b := by
  rcases cmpT_cases a b with ⟨c, _, d⟩ | ⟨c, d⟩ | ⟨c, _, d⟩
  · simp [c, d]
  · exact ⟨fun _ => d, fun _ => c⟩
  · simp [c, d]
theorem cmpE_lt (a b : Ed) : decide (cmpE a b < 0) = ltE a b := by
  unfold cmpE ltE
  by_cases h1 : a.fr = b.fr
  · rw [if_neg (by rw [cmpT_zero.2 h1]; simp), if_pos h1]
    by_cases h2 : a.lb = b.lb
    · rw [if_neg (by rw [cmpT_zero.2 h2]; simp), if_pos h2, cmpT_lt]
    · rw [if_pos (fun e => h2 (cmpT_zero.1 e)), if_neg h2, cmpT_lt]
  · rw [if_pos (fun e => h1 (cmpT_zero.1 e)), if_neg h1, cmpT_lt]
theorem cmpE_zero {a b : Ed} : cmpE a b = 0 ↔ a = b := by
  obtain ⟨a1, a2, a3⟩ := a
  obtain ⟨b1, b2, b3⟩ := b
  unfold cmpE
  constructor
  · intro h
    split at h
    · rename_i h1; exact (h1 h).elim
    · rename_i h1
      split at h
      · rename_i h2; exact (h2 h).elim
      · rename_i h2
        simp only [ne_eq, Decidable.not_not] at h1 h2
        have e1 := cmpT_zero.1 h1
        have e2 := cmpT_zero.1 h2
        have e3 := cmpT_zero.1 h
        simp only at e1 e2 e3
        rw [e1, e2, e3]
  · intro h
    injection h with h1 h2 h3
    subst h1 h2 h3
    simp [cmpT_zero.2]
theorem stoE : Sto ltE := by
  have tr := stoT.tr
  refine ⟨fun a => by simp [ltE, stoT.irr], fun a b c h k => ?_, fun a b h k => ?_⟩
  · unfold ltE at *
    by_cases h1 : a.fr = b.fr
    · rw [if_pos h1] at h
      by_cases k1 : b.fr = c.fr
      · rw [if_pos k1] at k
        rw [if_pos (h1.trans k1)]
        by_cases h2 : a.lb = b.lb
        · rw [if_pos h2] at h
          by_cases k2 : b.lb = c.lb
          · rw [if_pos k2] at k
            rw [if_pos (h2.trans k2)]
            exact tr _ _ _ h k
          · rw [if_neg k2] at k
            rw [if_neg (fun e => k2 (h2.symm.trans e)), h2]
            exact k
        · rw [if_neg h2] at h
          by_cases k2 : b.lb = c.lb
          · rw [if_neg (fun e => h2 (e.trans k2.symm)), ← k2]
            exact h
          · rw [if_neg k2] at k
            have := tr _ _ _ h k
            rw [if_neg (stoT.ne this)]
            exact this
      · rw [if_neg k1] at k
        rw [if_neg (fun e => k1 (h1.symm.trans e)), h1]
        exact k
    · rw [if_neg h1] at h
      by_cases k1 : b.fr = c.fr
      · rw [if_neg (fun e => h1 (e.trans k1.symm)), ← k1]
        exact h
      · rw [if_neg k1] at k
        have := tr _ _ _ h k
        rw [if_neg (stoT.ne this)]
        exact this
  · obtain ⟨a1, a2, a3⟩ := a
    obtain ⟨b1, b2, b3⟩ := b
    unfold ltE at *
    simp only at *
    by_cases h1 : a1 = b1
    · subst h1
      simp only [if_true] at h k
      by_cases h2 : a2 = b2
      · subst h2
        simp only [if_true] at h k
        rw [stoT.tri _ _ h k]
      · rw [if_neg h2] at h
        rw [if_neg (fun e => h2 e.symm)] at k
        exact (h2 (stoT.tri _ _ h k)).elim
    · rw [if_neg h1] at h
      rw [if_neg (fun e => h1 e.symm)] at k
      exact (h1 (stoT.tri _ _ h k)).elim

/-! Rising lists. -/
def Rises {α : Type} (lt : α → α → Bool) (l : List α) : Prop := l.Pairwise fun a b => lt a b = true
theorem Rises.uniq {α : Type} {lt : α → α → Bool} (hs : Sto lt) : ∀ {l m : List α}, Rises lt l → Rises lt m → (∀ x, x ∈ l ↔ x ∈ m) → l = m
  | [], [], _, _, _ => rfl
  | [], y :: m, _, _, h => absurd ((h y).2 (by simp)) (by simp)
  | x :: l, [], _, _, h => absurd ((h x).1 (by simp)) (by simp)
  | x :: l, y :: m, hl, hm, h => by
    have l1 := List.pairwise_cons.1 hl
    have m1 := List.pairwise_cons.1 hm
    have e : x = y := by
      rcases List.mem_cons.1 ((h x).1 (by simp)) with e | hx
      · exact e
      · rcases List.mem_cons.1 ((h y).2 (by simp)) with e | hy
        · exact e.symm
        · have a := m1.1 x hx
          have b := l1.1 y hy
          rw [hs.asym a] at b
          cases b
    subst e
    congr 1
    refine Rises.uniq hs l1.2 m1.2 (fun z => ?_)
    have hz := h z
    simp only [List.mem_cons] at hz
    constructor
    · intro k
      rcases hz.1 (.inr k) with rfl | k2
      · have := l1.1 _ k
        rw [hs.irr] at this
        cases this
      · exact k2
    · intro k
      rcases hz.2 (.inr k) with rfl | k2
      · have := m1.1 _ k
        rw [hs.irr] at this
        cases this
      · exact k2
/-- m is l in order, each once. -/
structure SetOf {α : Type} (lt : α → α → Bool) (l m : List α) : Prop where
  up : Rises lt m
  mem : ∀ x, x ∈ m ↔ x ∈ l
theorem SetOf.uniq {α : Type} {lt : α → α → Bool} (hs : Sto lt) {l l' m m' : List α} (h : SetOf lt l m) (k : SetOf lt l' m') (e : ∀ x, x ∈ l ↔ x ∈ l') : m = m' :=
  Rises.uniq hs h.up k.up (fun x => (h.mem x).trans ((e x).trans (k.mem x).symm))
theorem SetOf.self {α : Type} {lt : α → α → Bool} {l : List α} (h : Rises lt l) : SetOf lt l l := ⟨h, fun _ => Iff.rfl⟩
/-- In a list in which equals stand together: each once. -/
def cpt {α : Type} [DecidableEq α] : List α → List α
  | [] => []
  | [x] => [x]
  | x :: y :: l => if x = y then cpt (y :: l) else x :: cpt (y :: l)
theorem cpt_mem {α : Type} [DecidableEq α] : ∀ (l : List α) (x : α), x ∈ cpt l ↔ x ∈ l
  | [], x => Iff.rfl
  | [y], x => Iff.rfl
  | a :: b :: l, x => by
    have ih := cpt_mem (b :: l) x
    unfold cpt
    split
    · rename_i e
      subst e
      rw [ih]
      simp
    · rw [List.mem_cons, ih, List.mem_cons (a := x) (b := a)]
theorem cpt_rises {α : Type} [DecidableEq α] {lt : α → α → Bool} (hs : Sto lt) : ∀ (l : List α), l.Pairwise (fun a b => lt b a = false) → Rises lt (cpt l)
  | [], _ => .nil
  | [y], _ => List.pairwise_singleton _ _
  | a :: b :: l, h => by
    obtain ⟨h1, h2⟩ := List.pairwise_cons.1 h
    have ih := cpt_rises hs (b :: l) h2
    unfold cpt
    split
    · exact ih
    · rename_i hne
      refine List.pairwise_cons.2 ⟨fun x hx => ?_, ih⟩
      have hb : lt a b = true := by
        cases e : lt a b
        · exact (hne (hs.tri _ _ e (h1 b (by simp)))).elim
        · rfl
      rcases List.mem_cons.1 ((cpt_mem _ x).1 hx) with rfl | hx
      · exact hb
      · have hbx := (List.pairwise_cons.1 h2).1 x hx
        cases e : lt b x
        · rw [hs.tri _ _ e hbx] at hb; exact hb
        · exact hs.tr _ _ _ hb e
theorem cpt_set {α : Type} [DecidableEq α] {lt : α → α → Bool} (hs : Sto lt) {l : List α} (h : l.Pairwise (fun a b => lt b a = false)) : SetOf lt l (cpt l) := ⟨cpt_rises hs l h, cpt_mem l⟩
end Go.Proofs.YtnmkieiehjajlaaGreatDoor
