/- A region that draws its order, walked in one order: a guarded operation that comes up alone. Nothing here names the program; A region that draws its order: every order is walked, stable operations taken as they come up; behind the late ones (for which all that is taken waits not) nothing stable need hold. Nothing here names the program. -/
import Derived.Test.YtnmkieiehjajlaaGreatDoorZ05
set_option linter.unusedVariables false
set_option linter.unusedSimpArgs false
namespace Go.Proofs.YtnmkieiehjajlaaGreatDoor
open Go
section
variable {P : Program} {ops : Array Oper} {Q : Exit → Act → World → Prop} {md : Region.Mode} {S : World → Prop} {n : Nat}
theorem ord_dog {i : Nat} {r : List (Nat × Bool)} {a : Act} {w : World} {oi : Oper} (hi : ops[i]? = some oi) (hw : Region.wanted oi (yielded ops a.tmps) = true)
    (h : ∀ K : Act → World → Prop, (∀ a w, (i ≠ n → S w) → wpOrd P ops Q S n r a w → K a w) → oi.wp P a w K Q) : wpOrd P ops Q S n ((i, false) :: r) a w := by
  show wpOp P ops Q i _ a w
  unfold wpOp
  simp only [hi]
  rw [if_pos hw]
  exact .inl (h _ fun a w h1 h2 => ⟨h1, h2⟩)
theorem ord_skipf {i : Nat} {r : List (Nat × Bool)} {a : Act} {w : World} {oi : Oper} (hi : ops[i]? = some oi) (hw : Region.wanted oi (yielded ops a.tmps) = false) (hS : S w)
    (h : wpOrd P ops Q S n r (a.put oi.dst undef) w) : wpOrd P ops Q S n ((i, false) :: r) a w := by
  show wpOp P ops Q i _ a w
  unfold wpOp
  simp only [hi, hw]
  exact ⟨fun _ => hS, h⟩
end
end Go.Proofs.YtnmkieiehjajlaaGreatDoor
namespace Go.Proofs.YtnmkieiehjajlaaGreatDoor
open Go
section
variable {P : Program} {ops : Array Oper} {Q : Exit → Act → World → Prop} {md : Region.Mode} {S : World → Prop} {late : Nat → Bool}

def lateFrom (n i : Nat) : Bool := decide (n ≤ i)
/-- Whatever order is picked; S holds behind every operation that is not late. -/
def wpAnyL (P : Program) (md : Region.Mode) (ops : Array Oper) (Q : Exit → Act → World → Prop) (S : World → Prop) (late : Nat → Bool) : Nat → Array Bool → Act → World → Prop
  | 0, listed, a, w => Region.ready md ops listed = [] ∧ Q .normal a w
  | fuel + 1, listed, a, w =>
    (Region.ready md ops listed = [] → Q .normal a w) ∧
    ∀ i ∈ Region.ready md ops listed, wpOp P ops Q i (fun a' w' => (late i = false → S w → S w') ∧ wpAnyL P md ops Q S late fuel (listed.setIfInBounds i true) a' w') a w
theorem wpAny_of_L : ∀ (fuel : Nat) (listed : Array Bool) (a : Act) (w : World), wpAnyL P md ops Q S late fuel listed a w → wpAny P md ops Q fuel listed a w
  | 0, _, _, _, h => h
  | fuel + 1, _, _, _, h => ⟨h.1, fun i hi => wpOp_mono (fun a' w' h' => wpAny_of_L fuel _ a' w' h'.2) (h.2 i hi)⟩
theorem wpAnyL_first {i f : Nat} {oi : Oper} {v : Value} (hi : ops[i]? = some oi) (hsel : ∀ (j : Nat) (o : Oper) cs b, ops[j]? = some o → o.op ≠ .select cs b)
    (hQ : ∀ c a w, Q (.panic c) (a.put oi.dst v) w → Q (.panic c) a w) (hpn : ∀ j, j < ops.size → late j = true → i ∈ preds md ops f [j]) :
    ∀ (fuel : Nat) (listed : Array Bool) (a : Act) (w : World),
      (∀ j oj, ops[j]? = some oj → j ≠ i → listed.getD j true = false → (∀ e ∈ oj.after, Region.binds md e = true → e.on ≠ i) → oi.apart ops oj = true) →
      Down md ops listed → i ∈ Region.ready md ops listed → YieldsIf P ops S oi v a → S w →
      wpAnyL P md ops Q S late fuel (listed.setIfInBounds i true) (a.put oi.dst v) w → wpAnyL P md ops Q S late (fuel + 1) listed a w := by
  intro fuel
  induction fuel with
  | zero =>
    intro listed a w _ _ hr hy hS H
    refine ⟨fun h => (by rw [h] at hr; cases hr), fun j hj => ?_⟩
    by_cases hji : j = i
    · subst hji; exact hy.wpOp hi hS ⟨fun _ h => h, H⟩
    · have := ready_mono hj hji
      rw [H.1] at this
      cases this
  | succ fuel ih =>
    intro listed a w hfree hd hr hy hS H
    refine ⟨fun h => (by rw [h] at hr; cases hr), fun j hj => ?_⟩
    by_cases hji : j = i
    · subst hji; exact hy.wpOp hi hS ⟨fun _ h => h, H⟩
    · have h1 := H.2 j (ready_mono hj hji)
      obtain ⟨hjun, oj, hoj, hall⟩ := mem_ready.1 hj
      have hiun : listed.getD i false = false := by
        have h0 := (mem_ready.1 hr).1
        rcases Nat.lt_or_ge i listed.size with h' | h'
        · simp [h'] at h0 ⊢; exact h0
        · simp [Array.getElem?_eq_none h']
      have hnot : ∀ e ∈ oj.after, Region.binds md e = true → e.on ≠ i := fun e he hb heq => by
        have h1 := hall e he hb
        rw [heq, hiun] at h1
        cases h1
      have hjn : late j = false := by
        cases hp : late j with
        | false => rfl
        | true =>
          exfalso
          have hp := hpn j (Array.getElem?_eq_some_iff.1 hoj).1 hp
          have hd' := hd.set hj
          have hl : ∀ k ∈ [j], (listed.setIfInBounds j true).getD k false = true := by
            intro k hk
            obtain rfl := List.mem_singleton.1 hk
            have hks : k < listed.size := by
              rcases Nat.lt_or_ge k listed.size with h' | h'
              · exact h'
              · simp [Array.getElem?_eq_none h'] at hjun
            simp [hks]
          have := preds_listed hd' f [j] hl i hp
          rw [getD_set_ne false hji, hiun] at this
          cases this
      have h2 := wpOp_putIf hoj (hfree j oj hoj hji hjun hnot) (fun cs b => hsel i oi cs b hi) (fun cs b => hsel j oj cs b hoj) hQ hy h1
      have hfree' : ∀ k ok, ops[k]? = some ok → k ≠ i → (listed.setIfInBounds j true).getD k true = false →
          (∀ e ∈ ok.after, Region.binds md e = true → e.on ≠ i) → oi.apart ops ok = true := fun k ok hk hki hun hno => by
        refine hfree k ok hk hki ?_ hno
        by_cases hjk : j = k
        · subst hjk; exact hjun
        · rw [getD_set_ne true hjk] at hun; exact hun
      refine wpOp_mono (fun a' w' h3 => ⟨h3.2.1, ih (listed.setIfInBounds j true) a' w' hfree' (hd.set hj) (ready_mono hr (Ne.symm hji)) h3.1 (h3.2.1 hjn hS) ?_⟩) h2
      rw [Array.setIfInBounds_comm _ _ hji]
      exact h3.2.2
theorem wpAnyL_first0 {i : Nat} {oi : Oper} {v : Value} (hi : ops[i]? = some oi) (hsel : ∀ (j : Nat) (o : Oper) cs b, ops[j]? = some o → o.op ≠ .select cs b)
    (hQ : ∀ c a w, Q (.panic c) (a.put oi.dst v) w → Q (.panic c) a w) :
    ∀ (fuel : Nat) (listed : Array Bool) (a : Act) (w : World),
      (∀ j oj, ops[j]? = some oj → j ≠ i → listed.getD j true = false → (∀ e ∈ oj.after, Region.binds md e = true → e.on ≠ i) → oi.apart ops oj = true) →
      Down md ops listed → i ∈ Region.ready md ops listed → YieldsIf P ops (fun _ => True) oi v a →
      wpAnyL P md ops Q S late fuel (listed.setIfInBounds i true) (a.put oi.dst v) w → wpAnyL P md ops Q S late (fuel + 1) listed a w := by
  intro fuel
  induction fuel with
  | zero =>
    intro listed a w _ _ hr hy H
    refine ⟨fun h => (by rw [h] at hr; cases hr), fun j hj => ?_⟩
    by_cases hji : j = i
    · subst hji; exact hy.wpOp hi trivial ⟨fun _ h => h, H⟩
    · have := ready_mono hj hji
      rw [H.1] at this
      cases this
  | succ fuel ih =>
    intro listed a w hfree hd hr hy H
    refine ⟨fun h => (by rw [h] at hr; cases hr), fun j hj => ?_⟩
    by_cases hji : j = i
    · subst hji; exact hy.wpOp hi trivial ⟨fun _ h => h, H⟩
    · have h1 := H.2 j (ready_mono hj hji)
      obtain ⟨hjun, oj, hoj, hall⟩ := mem_ready.1 hj
      have hiun : listed.getD i false = false := by
        have h0 := (mem_ready.1 hr).1
        rcases Nat.lt_or_ge i listed.size with h' | h'
        · simp [h'] at h0 ⊢; exact h0
        · simp [Array.getElem?_eq_none h']
      have hnot : ∀ e ∈ oj.after, Region.binds md e = true → e.on ≠ i := fun e he hb heq => by
        have h1 := hall e he hb
        rw [heq, hiun] at h1
        cases h1
      have h2 := wpOp_putIf hoj (hfree j oj hoj hji hjun hnot) (fun cs b => hsel i oi cs b hi) (fun cs b => hsel j oj cs b hoj) hQ hy h1
      have hfree' : ∀ k ok, ops[k]? = some ok → k ≠ i → (listed.setIfInBounds j true).getD k true = false →
          (∀ e ∈ ok.after, Region.binds md e = true → e.on ≠ i) → oi.apart ops ok = true := fun k ok hk hki hun hno => by
        refine hfree k ok hk hki ?_ hno
        by_cases hjk : j = k
        · subst hjk; exact hjun
        · rw [getD_set_ne true hjk] at hun; exact hun
      refine wpOp_mono (fun a' w' h3 => ⟨h3.2.1, ih (listed.setIfInBounds j true) a' w' hfree' (hd.set hj) (ready_mono hr (Ne.symm hji)) h3.1 ?_⟩) h2
      rw [Array.setIfInBounds_comm _ _ hji]
      exact h3.2.2
theorem wp_region_late {rid : Nat} {a : Act} {w : World} {l : List Oper} (S : World → Prop) (late : Nat → Bool) (hm : P.follows .mixedOrders = true)
    (h : Down .any l.toArray (Array.replicate l.toArray.size false) → wpAnyL P .any l.toArray Q S late l.length (Array.replicate l.toArray.size false) a w.drew) : (Code.region rid l.toArray true).wp P Q a w := by
  refine wp_region_any hm (wpAny_of_L (S := S) (late := late) _ _ _ _ ?_)
  simpa using h (down_start _)
/-- A stable one that has come up is taken. -/
theorem late_take {i f : Nat} {listed : Array Bool} {a : Act} {w : World} {oi : Oper} {v : Value} (hi : ops[i]? = some oi)
    (hB : (Region.noSelect ops && Region.free md ops listed i && (Region.ready md ops listed).contains i && (List.range ops.size).all fun j => !late j || (preds md ops ops.size [j]).contains i) = true)
    (hd : Down md ops listed) (hQ : ∀ c a d v w, Q (.panic c) (Act.put a d v) w → Q (.panic c) a w) (hS : S w)
    (hw : Region.wanted oi (yielded ops a.tmps) = true) (hy : ∀ w, S w → (execOp a.eval oi).run P w = .ok (.value v) w)
    (h : Down md ops (listed.setIfInBounds i true) → wpAnyL P md ops Q S late f (listed.setIfInBounds i true) (a.put oi.dst v) w) : wpAnyL P md ops Q S late (f + 1) listed a w := by
  simp only [Bool.and_eq_true] at hB
  obtain ⟨⟨⟨h1, h2⟩, h3⟩, h4⟩ := hB
  have hr : i ∈ Region.ready md ops listed := by simpa using h3
  refine wpAnyL_first (f := ops.size) hi (Region.noSelect_spec h1) (fun c a w => hQ c a _ _ w) (fun j hj hl => ?_) f listed a w (Region.free_spec hi h2) hd hr (.inl ⟨hw, hy⟩) hS (h (hd.set hr))
  have := List.all_eq_true.1 h4 j (List.mem_range.2 hj)
  rw [hl] at this
  simpa using this
/-- A late one that yields the same everywhere is taken. -/
theorem late_take0 {i f : Nat} {listed : Array Bool} {a : Act} {w : World} {oi : Oper} {v : Value} (hi : ops[i]? = some oi)
    (hB : (Region.noSelect ops && Region.free md ops listed i && (Region.ready md ops listed).contains i) = true)
    (hd : Down md ops listed) (hQ : ∀ c a d v w, Q (.panic c) (Act.put a d v) w → Q (.panic c) a w)
    (hw : Region.wanted oi (yielded ops a.tmps) = true) (hy : ∀ w, (execOp a.eval oi).run P w = .ok (.value v) w)
    (h : Down md ops (listed.setIfInBounds i true) → wpAnyL P md ops Q S late f (listed.setIfInBounds i true) (a.put oi.dst v) w) : wpAnyL P md ops Q S late (f + 1) listed a w := by
  simp only [Bool.and_eq_true] at hB
  obtain ⟨⟨h1, h2⟩, h3⟩ := hB
  have hr : i ∈ Region.ready md ops listed := by simpa using h3
  exact wpAnyL_first0 hi (Region.noSelect_spec h1) (fun c a w => hQ c a _ _ w) f listed a w (Region.free_spec hi h2) hd hr (.inl ⟨hw, fun w _ => hy w⟩) (h (hd.set hr))
/-- One that has come up is run. -/
theorem late_run {f : Nat} {listed : Array Bool} {a : Act} {w : World} {L : List Nat} (hd : Down md ops listed) (hL : Region.ready md ops listed = L) (hne : L ≠ [])
    (h : ∀ i ∈ L, (Down md ops (listed.setIfInBounds i true)) → wpOp P ops Q i (fun a' w' => (late i = false → S w → S w') ∧ wpAnyL P md ops Q S late f (listed.setIfInBounds i true) a' w') a w) : wpAnyL P md ops Q S late (f + 1) listed a w := by
  subst hL
  exact ⟨fun e => absurd e hne, fun i hi => h i hi (hd.set hi)⟩
theorem late_do {i f : Nat} {listed : Array Bool} {a : Act} {w : World} {oi : Oper} (hi : ops[i]? = some oi) (hg : oi.guard = none)
    (h : ∀ K : Act → World → Prop, (∀ a w', (late i = false → S w → S w') → wpAnyL P md ops Q S late f (listed.setIfInBounds i true) a w' → K a w') → oi.wp P a w K Q) :
    wpOp P ops Q i (fun a' w' => (late i = false → S w → S w') ∧ wpAnyL P md ops Q S late f (listed.setIfInBounds i true) a' w') a w := by
  unfold wpOp
  simp only [hi]
  rw [if_pos (by simp [Region.wanted, hg])]
  exact .inl (h _ fun a w h1 h2 => ⟨h1, h2⟩)
theorem late_done {listed : Array Bool} {a : Act} {w : World} (hL : Region.ready md ops listed = []) (h : Q .normal a w) : wpAnyL P md ops Q S late 0 listed a w := ⟨hL, h⟩
end
end Go.Proofs.YtnmkieiehjajlaaGreatDoor
