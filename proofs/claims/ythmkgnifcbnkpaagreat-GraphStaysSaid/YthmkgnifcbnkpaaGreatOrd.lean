/- A region that draws its order, walked in one order of the prover's choice: operations that yield the same value in every world of a class S are taken first; the others come up alone; S holds behind each of those but the last. Nothing here names the program. -/
import Derived.OrdersHeld
import Derived.Tactics
import Derived.KernelRfl
import Derived.Deep.MidRow
namespace Go.Proofs.YthmkgnifcbnkpaaGreat

section
variable {P : Program} {ops : Array Oper} {Q : Exit → Act → World → Prop} {md : Region.Mode} {S : World → Prop} {n : Nat}

/-- What n waits for, some steps back. -/
def preds (md : Region.Mode) (ops : Array Oper) : Nat → List Nat → List Nat
  | 0, acc => acc
  | f + 1, acc => preds md ops f (acc ++ acc.flatMap fun j => match ops[j]? with
      | some o => (o.after.toList.filter (Region.binds md)).map (·.on)
      | none => []).eraseDups

def Down (md : Region.Mode) (ops : Array Oper) (listed : Array Bool) : Prop :=
  ∀ (j : Nat) (oj : Oper), ops[j]? = some oj → listed.getD j false = true → ∀ e ∈ oj.after, Region.binds md e = true → listed.getD e.on false = true

theorem preds_listed {listed : Array Bool} (hd : Down md ops listed) : ∀ (f : Nat) (acc : List Nat), (∀ j ∈ acc, listed.getD j false = true) → ∀ j ∈ preds md ops f acc, listed.getD j false = true
  | 0, _, h, j, hj => h j hj
  | f + 1, acc, h, j, hj => by
    refine preds_listed hd f _ (fun k hk => ?_) j hj
    rw [List.mem_eraseDups, List.mem_append] at hk
    rcases hk with hk | hk
    · exact h k hk
    · obtain ⟨m, hm, hk⟩ := List.mem_flatMap.1 hk
      cases ho : ops[m]? with
      | none => rw [ho] at hk; cases hk
      | some o =>
        rw [ho] at hk
        obtain ⟨e, he, rfl⟩ := List.mem_map.1 hk
        obtain ⟨he1, he2⟩ := List.mem_filter.1 he
        exact hd m o ho (h m hm) e (by simpa using he1) he2

theorem Down.set {listed : Array Bool} {i : Nat} (hd : Down md ops listed) (hi : i ∈ Region.ready md ops listed) : Down md ops (listed.setIfInBounds i true) := by
  intro j oj hj hl e he hb
  by_cases hij : i = j
  · subst hij
    obtain ⟨_, o, ho, hall⟩ := mem_ready.1 hi
    rw [hj] at ho
    injection ho with ho
    subst ho
    exact getD_set_true (hall e he hb)
  · rw [getD_set_ne false hij] at hl
    exact getD_set_true (hd j oj hj hl e he hb)

theorem down_start (m : Nat) : Down md ops (Array.replicate m false) := by
  intro j oj _ hl
  exfalso
  simp only [Array.getD_eq_getD_getElem?, Array.getElem?_replicate] at hl
  split at hl <;> simp at hl

/-- Whatever order is picked; S holds behind every operation but number n. -/
def wpAnyC (P : Program) (md : Region.Mode) (ops : Array Oper) (Q : Exit → Act → World → Prop) (S : World → Prop) (n : Nat) : Nat → Array Bool → Act → World → Prop
  | 0, listed, a, w => Region.ready md ops listed = [] ∧ Q .normal a w
  | fuel + 1, listed, a, w =>
    (Region.ready md ops listed = [] → Q .normal a w) ∧
    ∀ i ∈ Region.ready md ops listed, wpOp P ops Q i (fun a' w' => (i ≠ n → S w') ∧ wpAnyC P md ops Q S n fuel (listed.setIfInBounds i true) a' w') a w

theorem wpAny_of_C : ∀ (fuel : Nat) (listed : Array Bool) (a : Act) (w : World), wpAnyC P md ops Q S n fuel listed a w → wpAny P md ops Q fuel listed a w
  | 0, _, _, _, h => h
  | fuel + 1, _, _, _, h => ⟨h.1, fun i hi => wpOp_mono (fun a' w' h' => wpAny_of_C fuel _ a' w' h'.2) (h.2 i hi)⟩

theorem wpAnyC_first {i f : Nat} {oi : Oper} {v : Value} (hi : ops[i]? = some oi) (hsel : ∀ (j : Nat) (o : Oper) cs b, ops[j]? = some o → o.op ≠ .select cs b)
    (hQ : ∀ c a w, Q (.panic c) (a.put oi.dst v) w → Q (.panic c) a w) (hpn : ops.size ≤ n ∨ i ∈ preds md ops f [n]) :
    ∀ (fuel : Nat) (listed : Array Bool) (a : Act) (w : World),
      (∀ j oj, ops[j]? = some oj → j ≠ i → listed.getD j true = false → (∀ e ∈ oj.after, Region.binds md e = true → e.on ≠ i) → oi.apart ops oj = true) →
      Down md ops listed → i ∈ Region.ready md ops listed → YieldsIf P ops S oi v a → S w →
      wpAnyC P md ops Q S n fuel (listed.setIfInBounds i true) (a.put oi.dst v) w → wpAnyC P md ops Q S n (fuel + 1) listed a w := by
  intro fuel
  induction fuel with
  | zero =>
    intro listed a w _ _ hr hy hS H
    refine ⟨fun h => (by rw [h] at hr; cases hr), fun j hj => ?_⟩
    by_cases hji : j = i
    · subst hji; exact hy.wpOp hi hS ⟨fun _ => hS, H⟩
    · have := ready_mono hj hji
      rw [H.1] at this
      cases this
  | succ fuel ih =>
    intro listed a w hfree hd hr hy hS H
    refine ⟨fun h => (by rw [h] at hr; cases hr), fun j hj => ?_⟩
    by_cases hji : j = i
    · subst hji; exact hy.wpOp hi hS ⟨fun _ => hS, H⟩
    · have h1 := H.2 j (ready_mono hj hji)
      obtain ⟨hjun, oj, hoj, hall⟩ := mem_ready.1 hj
      have hiun : listed.getD i false = false := by
        have h0 := (mem_ready.1 hr).1
        rcases Nat.lt_or_ge i listed.size with h' | h'
        · simp [h'] at h0 ⊢; exact h0
        · simp [Array.getElem?_eq_none h']
      have hnot : ∀ e ∈ oj.after, Region.binds md e = true → e.on ≠ i := fun e he hb heq => by
        have h1 := hall e he hb
        rw [heq, hiun] at h1
        cases h1
      have hjn : j ≠ n := by
        rintro rfl
        rcases hpn with hp | hp
        · have := (Array.getElem?_eq_some_iff.1 hoj).1
          omega
        · have hd' := hd.set hj
          have hl : ∀ k ∈ [j], (listed.setIfInBounds j true).getD k false = true := by
            intro k hk
            obtain rfl := List.mem_singleton.1 hk
            have hks : k < listed.size := by
              rcases Nat.lt_or_ge k listed.size with h' | h'
              · exact h'
              · simp [Array.getElem?_eq_none h'] at hjun
            simp [hks]
          have := preds_listed hd' f [j] hl i hp
          rw [getD_set_ne false hji, hiun] at this
          cases this
      have h2 := wpOp_putIf hoj (hfree j oj hoj hji hjun hnot) (fun cs b => hsel i oi cs b hi) (fun cs b => hsel j oj cs b hoj) hQ hy h1
      have hfree' : ∀ k ok, ops[k]? = some ok → k ≠ i → (listed.setIfInBounds j true).getD k true = false →
          (∀ e ∈ ok.after, Region.binds md e = true → e.on ≠ i) → oi.apart ops ok = true := fun k ok hk hki hun hno => by
        refine hfree k ok hk hki ?_ hno
        by_cases hjk : j = k
        · subst hjk; exact hjun
        · rw [getD_set_ne true hjk] at hun; exact hun
      refine wpOp_mono (fun a' w' h3 => ⟨h3.2.1, ih (listed.setIfInBounds j true) a' w' hfree' (hd.set hj) (ready_mono hr (Ne.symm hji)) h3.1 (h3.2.1 hjn) ?_⟩) h2
      rw [Array.setIfInBounds_comm _ _ hji]
      exact h3.2.2

/-- The order in which a region is walked: (i, true): number i is taken first, for it yields the same in every world of S; (i, false): it alone may come up. Number n, if there is such, comes last. -/
def ordFrom (md : Region.Mode) (ops : Array Oper) (n : Nat) : List (Nat × Bool) → Array Bool → Bool
  | [], listed => (Region.ready md ops listed).isEmpty
  | (i, true) :: r, listed => Region.free md ops listed i && (Region.ready md ops listed).contains i && ordFrom md ops n r (listed.setIfInBounds i true)
  | (i, false) :: r, listed => (Region.ready md ops listed == [i]) && (i != n || r.isEmpty) && ordFrom md ops n r (listed.setIfInBounds i true)

/-- .. and it waits for all that is taken first. -/
def ordB (md : Region.Mode) (ops : Array Oper) (n : Nat) (σ : List (Nat × Bool)) : Bool :=
  Region.noSelect ops && decide (σ.length = ops.size) && (decide (ops.size ≤ n) || σ.all fun p => !p.2 || (preds md ops ops.size [n]).contains p.1) && ordFrom md ops n σ (Array.replicate ops.size false)

def wpOrd (P : Program) (ops : Array Oper) (Q : Exit → Act → World → Prop) (S : World → Prop) (n : Nat) : List (Nat × Bool) → Act → World → Prop
  | [], a, w => Q .normal a w
  | (i, true) :: r, a, w => ∃ v oi, ops[i]? = some oi ∧ YieldsIf P ops S oi v a ∧ wpOrd P ops Q S n r (a.put oi.dst v) w
  | (i, false) :: r, a, w => wpOp P ops Q i (fun a' w' => (i ≠ n → S w') ∧ wpOrd P ops Q S n r a' w') a w

theorem wpAnyC_ord (hsel : Region.noSelect ops = true) (hQ : ∀ c a d v w, Q (.panic c) (Act.put a d v) w → Q (.panic c) a w) (f : Nat) :
    ∀ (σ : List (Nat × Bool)) (listed : Array Bool) (a : Act) (w : World), (ops.size ≤ n ∨ ∀ p ∈ σ, p.2 = true → p.1 ∈ preds md ops f [n]) → Down md ops listed → ordFrom md ops n σ listed = true →
      (σ ≠ [] → S w) → wpOrd P ops Q S n σ a w → wpAnyC P md ops Q S n σ.length listed a w
  | [], listed, a, w, _, _, hB, _, h => ⟨by simpa [ordFrom] using hB, h⟩
  | (i, true) :: r, listed, a, w, hp, hd, hB, hS, h => by
    simp only [ordFrom, Bool.and_eq_true] at hB
    obtain ⟨⟨hf, hr⟩, hB'⟩ := hB
    obtain ⟨v, oi, ho, hy, h'⟩ := h
    have hi : i ∈ Region.ready md ops listed := by simpa using hr
    have hSw : S w := hS (by simp)
    exact wpAnyC_first (f := f) ho (Region.noSelect_spec hsel) (fun c a w => hQ c a _ _ w) (hp.imp id fun h => h (i, true) (by simp) rfl) r.length listed a w (Region.free_spec ho hf) hd hi hy hSw
      (wpAnyC_ord hsel hQ f r _ _ w (hp.imp id fun h p hpr => h p (by simp [hpr])) (hd.set hi) hB' (fun _ => hSw) h')
  | (i, false) :: r, listed, a, w, hp, hd, hB, hS, h => by
    simp only [ordFrom, Bool.and_eq_true] at hB
    obtain ⟨⟨hr, hl⟩, hB'⟩ := hB
    have hr' : Region.ready md ops listed = [i] := by simpa using hr
    have hi : i ∈ Region.ready md ops listed := by rw [hr']; simp
    refine ⟨fun h0 => (by rw [h0] at hr'; cases hr'), fun j hj => ?_⟩
    rw [hr'] at hj
    obtain rfl := List.mem_singleton.1 hj
    refine wpOp_mono (fun a' w' h3 => ⟨h3.1, wpAnyC_ord hsel hQ f r _ a' w' (hp.imp id fun h p hpr => h p (by simp [hpr])) (hd.set hi) hB' (fun hne => h3.1 ?_) h3.2⟩) h
    rintro rfl
    simp at hl
    exact hne hl

theorem wp_region_ord {rid : Nat} {a : Act} {w : World} {l : List Oper} (S : World → Prop) (n : Nat) (σ : List (Nat × Bool)) (hm : P.follows .mixedOrders = true) (hB : ordB .any l.toArray n σ = true)
    (hQ : ∀ c a d v w, Q (.panic c) (Act.put a d v) w → Q (.panic c) a w) (hS : S w.drew) (h : wpOrd P l.toArray Q S n σ a w.drew) : (Code.region rid l.toArray true).wp P Q a w := by
  simp only [ordB, Bool.and_eq_true, Bool.or_eq_true, decide_eq_true_eq] at hB
  obtain ⟨⟨⟨hsel, hlen⟩, hp⟩, hB'⟩ := hB
  refine wp_region_any hm (wpAny_of_C (S := S) (n := n) _ _ _ _ ?_)
  rw [← hlen]
  refine wpAnyC_ord hsel hQ l.toArray.size σ _ a w.drew (hp.imp id fun h p hpr hp2 => ?_) (down_start _) (by rw [hlen]; exact hB') (fun _ => hS) h
  have := List.all_eq_true.1 h p hpr
  simpa [hp2] using this

/-! The moves. -/
theorem ord_take {i : Nat} {r : List (Nat × Bool)} {a : Act} {w : World} {oi : Oper} {v : Value} (hi : ops[i]? = some oi) (hw : Region.wanted oi (yielded ops a.tmps) = true)
    (hy : ∀ w, S w → (execOp a.eval oi).run P w = .ok (.value v) w) (h : wpOrd P ops Q S n r (a.put oi.dst v) w) : wpOrd P ops Q S n ((i, true) :: r) a w :=
  ⟨v, oi, hi, .inl ⟨hw, hy⟩, h⟩
theorem ord_skip {i : Nat} {r : List (Nat × Bool)} {a : Act} {w : World} {oi : Oper} (hi : ops[i]? = some oi) (hw : Region.wanted oi (yielded ops a.tmps) = false)
    (h : wpOrd P ops Q S n r (a.put oi.dst undef) w) : wpOrd P ops Q S n ((i, true) :: r) a w :=
  ⟨undef, oi, hi, .inr ⟨hw, rfl⟩, h⟩
/-- The one that comes up alone: it is run, S is shown anew (but for the last), and on. -/
theorem ord_do {i : Nat} {r : List (Nat × Bool)} {a : Act} {w : World} {oi : Oper} (hi : ops[i]? = some oi) (hg : oi.guard = none)
    (h : ∀ K : Act → World → Prop, (∀ a w, (i ≠ n → S w) → wpOrd P ops Q S n r a w → K a w) → oi.wp P a w K Q) : wpOrd P ops Q S n ((i, false) :: r) a w := by
  show wpOp P ops Q i _ a w
  unfold wpOp
  simp only [hi]
  rw [if_pos (by simp [Region.wanted, hg])]
  exact .inl (h _ fun a w h1 h2 => ⟨h1, h2⟩)
theorem ord_done {a : Act} {w : World} (h : Q .normal a w) : wpOrd P ops Q S n [] a w := h
end

/-! At the one that comes up alone. -/
theorem wp_append_run {P : Program} {o : Oper} {a : Act} {K : Act → World → Prop} {Q : Exit → Act → World → Prop} {w w' : World} {v v2 v' : Value} (s x : Operand) (t : TypeId)
    (ho : o.op = .call { callee := .builtin .append, args := #[s, x], argTypes := #[t, t] }) (hs : a.eval s = v) (hx : a.eval x = v2)
    (hrun : (Builtin.append_ #[t, t] o.type #[v, v2]).run P w = .ok v' w') (h : K (a.put o.dst v') w') : o.wp P a w K Q := by
  unfold Oper.wp execOp
  simp only [ho, resolve, invoke, builtin, Sem.run_bind, Sem.run_pure, Result.andThen_ok, List.map_toArray, List.map_cons, List.map_nil, hs, hx, hrun]
  exact h
end Go.Proofs.YthmkgnifcbnkpaaGreat
