/- A region that draws its order, walked in one order of the prover's choice: operations that yield the same value in every world of a class S are taken first; the others come up alone; S holds behind each of those but the last. Nothing here names the program; A region that draws its order, in a round of a loop over a function (at the wide fence): the walk of Ord serves there as well. Nothing here names the program; A region that draws its order: some stable operations are taken first; of the rest every order is walked. Nothing here names the program; A region that draws its order: some stable operations are taken first; of the rest every order is walked, stable ones taken as they come up. Nothing here names the program. -/
import Derived.OrdersHeld
import Derived.Tactics
import Derived.KernelRfl
import Derived.Deep.MidRow
import Derived.OrdersIn
import Derived.RangeFuncNested
set_option linter.unusedVariables false
set_option linter.unusedSimpArgs false
namespace Go.Proofs.YtnmkieiehjajlaaGreatDoor

section
variable {P : Program} {ops : Array Oper} {Q : Exit → Act → World → Prop} {md : Region.Mode} {S : World → Prop} {n : Nat}

/-- What n waits for, some steps back. -/
def preds (md : Region.Mode) (ops : Array Oper) : Nat → List Nat → List Nat
  | 0, acc => acc
  | f + 1, acc => preds md ops f (acc ++ acc.flatMap fun j => match ops[j]? with
      | some o => (o.after.toList.filter (Region.binds md)).map (·.on)
      | none => []).eraseDups

def Down (md : Region.Mode) (ops : Array Oper) (listed : Array Bool) : Prop :=
  ∀ (j : Nat) (oj : Oper), ops[j]? = some oj → listed.getD j false = true → ∀ e ∈ oj.after, Region.binds md e = true → listed.getD e.on false = true

theorem preds_listed {listed : Array Bool} (hd : Down md ops listed) : ∀ (f : Nat) (acc : List Nat), (∀ j ∈ acc, listed.getD j false = true) → ∀ j ∈ preds md ops f acc, listed.getD j false = true
  | 0, _, h, j, hj => h j hj
  | f + 1, acc, h, j, hj => by
    refine preds_listed hd f _ (fun k hk => ?_) j hj
    rw [List.mem_eraseDups, List.mem_append] at hk
    rcases hk with hk | hk
    · exact h k hk
    · obtain ⟨m, hm, hk⟩ := List.mem_flatMap.1 hk
      cases ho : ops[m]? with
      | none => rw [ho] at hk; cases hk
      | some o =>
        rw [ho] at hk
        obtain ⟨e, he, rfl⟩ := List.mem_map.1 hk
        obtain ⟨he1, he2⟩ := List.mem_filter.1 he
        exact hd m o ho (h m hm) e (by simpa using he1) he2

theorem Down.set {listed : Array Bool} {i : Nat} (hd : Down md ops listed) (hi : i ∈ Region.ready md ops listed) : Down md ops (listed.setIfInBounds i true) := by
  intro j oj hj hl e he hb
  by_cases hij : i = j
  · subst hij
    obtain ⟨_, o, ho, hall⟩ := mem_ready.1 hi
    rw [hj] at ho
    injection ho with ho
    subst ho
    exact getD_set_true (hall e he hb)
  · rw [getD_set_ne false hij] at hl
    exact getD_set_true (hd j oj hj hl e he hb)

theorem down_start (m : Nat) : Down md ops (Array.replicate m false) := by
  intro j oj _ hl
  exfalso
  simp only [Array.getD_eq_getD_getElem?, Array.getElem?_replicate] at hl
  split at hl <;> simp at hl

/-- Whatever order is picked; S holds behind every operation but number n. -/
def wpAnyC (P : Program) (md : Region.Mode) (ops : Array Oper) (Q : Exit → Act → World → Prop) (S : World → Prop) (n : Nat) : Nat → Array Bool → Act → World → Prop
  | 0, listed, a, w => Region.ready md ops listed = [] ∧ Q .normal a w
  | fuel + 1, listed, a, w =>
    (Region.ready md ops listed = [] → Q .normal a w) ∧
    ∀ i ∈ Region.ready md ops listed, wpOp P ops Q i (fun a' w' => (i ≠ n → S w') ∧ wpAnyC P md ops Q S n fuel (listed.setIfInBounds i true) a' w') a w

theorem wpAny_of_C : ∀ (fuel : Nat) (listed : Array Bool) (a : Act) (w : World), wpAnyC P md ops Q S n fuel listed a w → wpAny P md ops Q fuel listed a w
  | 0, _, _, _, h => h
  | fuel + 1, _, _, _, h => ⟨h.1, fun i hi => wpOp_mono (fun a' w' h' => wpAny_of_C fuel _ a' w' h'.2) (h.2 i hi)⟩

theorem wpAnyC_first {i f : Nat} {oi : Oper} {v : Value} (hi : ops[i]? = some oi) (hsel : ∀ (j : Nat) (o : Oper) cs b, ops[j]? = some o → o.op ≠ .select cs b)
    (hQ : ∀ c a w, Q (.panic c) (a.put oi.dst v) w → Q (.panic c) a w) (hpn : ops.size ≤ n ∨ i ∈ preds md ops f [n]) :
    ∀ (fuel : Nat) (listed : Array Bool) (a : Act) (w : World),
      (∀ j oj, ops[j]? = some oj → j ≠ i → listed.getD j true = false → (∀ e ∈ oj.after, Region.binds md e = true → e.on ≠ i) → oi.apart ops oj = true) →
      Down md ops listed → i ∈ Region.ready md ops listed → YieldsIf P ops S oi v a → S w →
      wpAnyC P md ops Q S n fuel (listed.setIfInBounds i true) (a.put oi.dst v) w → wpAnyC P md ops Q S n (fuel + 1) listed a w := by
  intro fuel
  induction fuel with
  | zero =>
    intro listed a w _ _ hr hy hS H
    refine ⟨fun h => (by rw [h] at hr; cases hr), fun j hj => ?_⟩
    by_cases hji : j = i
    · subst hji; exact hy.wpOp hi hS ⟨fun _ => hS, H⟩
    · have := ready_mono hj hji
      rw [H.1] at this
      cases this
  | succ fuel ih =>
    intro listed a w hfree hd hr hy hS H
    refine ⟨fun h => (by rw [h] at hr; cases hr), fun j hj => ?_⟩
    by_cases hji : j = i
    · subst hji; exact hy.wpOp hi hS ⟨fun _ => hS, H⟩
    · have h1 := H.2 j (ready_mono hj hji)
      obtain ⟨hjun, oj, hoj, hall⟩ := mem_ready.1 hj
      have hiun : listed.getD i false = false := by
        have h0 := (mem_ready.1 hr).1
        rcases Nat.lt_or_ge i listed.size with h' | h'
        · simp [h'] at h0 ⊢; exact h0
        · simp [Array.getElem?_eq_none h']
      have hnot : ∀ e ∈ oj.after, Region.binds md e = true → e.on ≠ i := fun e he hb heq => by
        have h1 := hall e he hb
        rw [heq, hiun] at h1
        cases h1
      have hjn : j ≠ n := by
        rintro rfl
        rcases hpn with hp | hp
        · have := (Array.getElem?_eq_some_iff.1 hoj).1
          omega
        · have hd' := hd.set hj
          have hl : ∀ k ∈ [j], (listed.setIfInBounds j true).getD k false = true := by
            intro k hk
            obtain rfl := List.mem_singleton.1 hk
            have hks : k < listed.size := by
              rcases Nat.lt_or_ge k listed.size with h' | h'
              · exact h'
              · simp [Array.getElem?_eq_none h'] at hjun
            simp [hks]
          have := preds_listed hd' f [j] hl i hp
          rw [getD_set_ne false hji, hiun] at this
          cases this
      have h2 := wpOp_putIf hoj (hfree j oj hoj hji hjun hnot) (fun cs b => hsel i oi cs b hi) (fun cs b => hsel j oj cs b hoj) hQ hy h1
      have hfree' : ∀ k ok, ops[k]? = some ok → k ≠ i → (listed.setIfInBounds j true).getD k true = false →
          (∀ e ∈ ok.after, Region.binds md e = true → e.on ≠ i) → oi.apart ops ok = true := fun k ok hk hki hun hno => by
        refine hfree k ok hk hki ?_ hno
        by_cases hjk : j = k
        · subst hjk; exact hjun
        · rw [getD_set_ne true hjk] at hun; exact hun
      refine wpOp_mono (fun a' w' h3 => ⟨h3.2.1, ih (listed.setIfInBounds j true) a' w' hfree' (hd.set hj) (ready_mono hr (Ne.symm hji)) h3.1 (h3.2.1 hjn) ?_⟩) h2
      rw [Array.setIfInBounds_comm _ _ hji]
      exact h3.2.2

/-- The order in which a region is walked: (i, true): number i is taken first, for it yields the same in every world of S; (i, false): it alone may come up. Number n, if there is such, comes last. -/
def ordFrom (md : Region.Mode) (ops : Array Oper) (n : Nat) : List (Nat × Bool) → Array Bool → Bool
  | [], listed => (Region.ready md ops listed).isEmpty
  | (i, true) :: r, listed => Region.free md ops listed i && (Region.ready md ops listed).contains i && ordFrom md ops n r (listed.setIfInBounds i true)
  | (i, false) :: r, listed => (Region.ready md ops listed == [i]) && (i != n || r.isEmpty) && ordFrom md ops n r (listed.setIfInBounds i true)

/-- .. and it waits for all that is taken first. -/
def ordB (md : Region.Mode) (ops : Array Oper) (n : Nat) (σ : List (Nat × Bool)) : Bool :=
  Region.noSelect ops && decide (σ.length = ops.size) && (decide (ops.size ≤ n) || σ.all fun p => !p.2 || (preds md ops ops.size [n]).contains p.1) && ordFrom md ops n σ (Array.replicate ops.size false)

def wpOrd (P : Program) (ops : Array Oper) (Q : Exit → Act → World → Prop) (S : World → Prop) (n : Nat) : List (Nat × Bool) → Act → World → Prop
  | [], a, w => Q .normal a w
  | (i, true) :: r, a, w => ∃ v oi, ops[i]? = some oi ∧ YieldsIf P ops S oi v a ∧ wpOrd P ops Q S n r (a.put oi.dst v) w
  | (i, false) :: r, a, w => wpOp P ops Q i (fun a' w' => (i ≠ n → S w') ∧ wpOrd P ops Q S n r a' w') a w

theorem wpAnyC_ord (hsel : Region.noSelect ops = true) (hQ : ∀ c a d v w, Q (.panic c) (Act.put a d v) w → Q (.panic c) a w) (f : Nat) :
    ∀ (σ : List (Nat × Bool)) (listed : Array Bool) (a : Act) (w : World), (ops.size ≤ n ∨ ∀ p ∈ σ, p.2 = true → p.1 ∈ preds md ops f [n]) → Down md ops listed → ordFrom md ops n σ listed = true →
      (σ ≠ [] → S w) → wpOrd P ops Q S n σ a w → wpAnyC P md ops Q S n σ.length listed a w
  | [], listed, a, w, _, _, hB, _, h => ⟨by simpa [ordFrom] using hB, h⟩
  | (i, true) :: r, listed, a, w, hp, hd, hB, hS, h => by
    simp only [ordFrom, Bool.and_eq_true] at hB
    obtain ⟨⟨hf, hr⟩, hB'⟩ := hB
    obtain ⟨v, oi, ho, hy, h'⟩ := h
    have hi : i ∈ Region.ready md ops listed := by simpa using hr
    have hSw : S w := hS (by simp)
    exact wpAnyC_first (f := f) ho (Region.noSelect_spec hsel) (fun c a w => hQ c a _ _ w) (hp.imp id fun h => h (i, true) (by simp) rfl) r.length listed a w (Region.free_spec ho hf) hd hi hy hSw
      (wpAnyC_ord hsel hQ f r _ _ w (hp.imp id fun h p hpr => h p (by simp [hpr])) (hd.set hi) hB' (fun _ => hSw) h')
  | (i, false) :: r, listed, a, w, hp, hd, hB, hS, h => by
    simp only [ordFrom, Bool.and_eq_true] at hB
    obtain ⟨⟨hr, hl⟩, hB'⟩ := hB
    have hr' : Region.ready md ops listed = [i] := by simpa using hr
    have hi : i ∈ Region.ready md ops listed := by rw [hr']; simp
    refine ⟨fun h0 => (by rw [h0] at hr'; cases hr'), fun j hj => ?_⟩
    rw [hr'] at hj
    obtain rfl := List.mem_singleton.1 hj
    refine wpOp_mono (fun a' w' h3 => ⟨h3.1, wpAnyC_ord hsel hQ f r _ a' w' (hp.imp id fun h p hpr => h p (by simp [hpr])) (hd.set hi) hB' (fun hne => h3.1 ?_) h3.2⟩) h
    rintro rfl
    simp at hl
    exact hne hl

theorem wp_region_ord {rid : Nat} {a : Act} {w : World} {l : List Oper} (S : World → Prop) (n : Nat) (σ : List (Nat × Bool)) (hm : P.follows .mixedOrders = true) (hB : ordB .any l.toArray n σ = true)
    (hQ : ∀ c a d v w, Q (.panic c) (Act.put a d v) w → Q (.panic c) a w) (hS : S w.drew) (h : wpOrd P l.toArray Q S n σ a w.drew) : (Code.region rid l.toArray true).wp P Q a w := by
  simp only [ordB, Bool.and_eq_true, Bool.or_eq_true, decide_eq_true_eq] at hB
  obtain ⟨⟨⟨hsel, hlen⟩, hp⟩, hB'⟩ := hB
  refine wp_region_any hm (wpAny_of_C (S := S) (n := n) _ _ _ _ ?_)
  rw [← hlen]
  refine wpAnyC_ord hsel hQ l.toArray.size σ _ a w.drew (hp.imp id fun h p hpr hp2 => ?_) (down_start _) (by rw [hlen]; exact hB') (fun _ => hS) h
  have := List.all_eq_true.1 h p hpr
  simpa [hp2] using this

/-! The moves. -/
theorem ord_take {i : Nat} {r : List (Nat × Bool)} {a : Act} {w : World} {oi : Oper} {v : Value} (hi : ops[i]? = some oi) (hw : Region.wanted oi (yielded ops a.tmps) = true)
    (hy : ∀ w, S w → (execOp a.eval oi).run P w = .ok (.value v) w) (h : wpOrd P ops Q S n r (a.put oi.dst v) w) : wpOrd P ops Q S n ((i, true) :: r) a w :=
  ⟨v, oi, hi, .inl ⟨hw, hy⟩, h⟩
theorem ord_skip {i : Nat} {r : List (Nat × Bool)} {a : Act} {w : World} {oi : Oper} (hi : ops[i]? = some oi) (hw : Region.wanted oi (yielded ops a.tmps) = false)
    (h : wpOrd P ops Q S n r (a.put oi.dst undef) w) : wpOrd P ops Q S n ((i, true) :: r) a w :=
  ⟨undef, oi, hi, .inr ⟨hw, rfl⟩, h⟩
/-- The one that comes up alone: it is run, S is shown anew (but for the last), and on. -/
theorem ord_do {i : Nat} {r : List (Nat × Bool)} {a : Act} {w : World} {oi : Oper} (hi : ops[i]? = some oi) (hg : oi.guard = none)
    (h : ∀ K : Act → World → Prop, (∀ a w, (i ≠ n → S w) → wpOrd P ops Q S n r a w → K a w) → oi.wp P a w K Q) : wpOrd P ops Q S n ((i, false) :: r) a w := by
  show wpOp P ops Q i _ a w
  unfold wpOp
  simp only [hi]
  rw [if_pos (by simp [Region.wanted, hg])]
  exact .inl (h _ fun a w h1 h2 => ⟨h1, h2⟩)
theorem ord_done {a : Act} {w : World} (h : Q .normal a w) : wpOrd P ops Q S n [] a w := h
end

/-! At the one that comes up alone. -/
theorem wp_append_run {P : Program} {o : Oper} {a : Act} {K : Act → World → Prop} {Q : Exit → Act → World → Prop} {w w' : World} {v v2 v' : Value} (s x : Operand) (t : TypeId)
    (ho : o.op = .call { callee := .builtin .append, args := #[s, x], argTypes := #[t, t] }) (hs : a.eval s = v) (hx : a.eval x = v2)
    (hrun : (Builtin.append_ #[t, t] o.type #[v, v2]).run P w = .ok v' w') (h : K (a.put o.dst v') w') : o.wp P a w K Q := by
  unfold Oper.wp execOp
  simp only [ho, resolve, invoke, builtin, Sem.run_bind, Sem.run_pure, Result.andThen_ok, List.map_toArray, List.map_cons, List.map_nil, hs, hx, hrun]
  exact h
end Go.Proofs.YtnmkieiehjajlaaGreatDoor
namespace Go.Proofs.YtnmkieiehjajlaaGreatDoor
open Go

section
variable {P : Program} {ops : Array Oper} {Q : Exit → Act → World → Prop} {md : Region.Mode} {S : World → Prop} {n m l : Nat}

theorem callsIn_round {f : FuncId} {args : Array Value} {w : World} {R : Ending → World → Prop} (h : Calls P f args w R) : CallsIn (Fence.wide.inRound l) m P f args w R :=
  (callsIn_wide (n := m)).2 h
theorem rowsIn_wide {row : String} {args : Array Value} {w : World} {R : Value → World → Prop} (h : Rows P row args w R) : RowsIn Fence.wide m P row args w R := by
  intro c cs _
  obtain ⟨v, w', hr, hs⟩ := h c cs
  exact ⟨v, w', hr, stepsIn_wide.2 hs⟩
theorem rowsIn_round {row : String} {args : Array Value} {w : World} {R : Value → World → Prop} (h : Rows P row args w R) : RowsIn (Fence.wide.inRound l) m P row args w R :=
  rowsIn_wide h

theorem wpIn_of_wp_round {o : Oper} {a : Act} {w : World} {K : Act → World → Prop} (hnd : ∀ c, o.op ≠ .defer c) (h : o.wp P a w K Q) : o.wpIn (Fence.wide.inRound l) m P a w K Q := by
  unfold Oper.wp at h
  refine ⟨fun _ _ => trivial, ?_⟩
  rw [Oper.semAt_eq _ _ _ hnd]
  generalize (execOp a.eval o).run P w = r at *
  cases r with
  | ok x w' =>
    cases x <;> simp only [Oper.upon, Oper.uponIn] at h ⊢ <;>
      first
        | exact h
        | exact h.elim
        | exact ⟨fun h => by simp [Fence.wide] at h, callsIn_round h⟩
        | exact ⟨fun h => by simp [Fence.wide] at h, rowsIn_round h⟩
  | halt x w' => cases x <;> simp only [Oper.upon, Oper.uponIn] at h ⊢ <;> exact h

theorem wpOpIn_of_wpOp {i : Nat} {a : Act} {w : World} {K : Act → World → Prop} (hnd : ∀ o ∈ ops, ∀ c, o.op ≠ .defer c) (hQ : ¬ LetsOut Q) (h : wpOp P ops Q i K a w) : wpOpIn (Fence.wide.inRound l) m P ops Q i K a w := by
  unfold wpOp at h
  unfold wpOpIn
  split
  · rename_i ho; simpa only [ho] using h
  · rename_i o ho
    simp only [ho] at h
    split
    · rename_i hw
      simp only [hw, if_true] at h
      rcases h with h | h
      · exact wpIn_of_wp_round (hnd o (Array.mem_of_getElem? ho)) h
      · exact absurd h.2 hQ
    · rename_i hw
      simp only [hw] at h
      exact ⟨fun _ _ => trivial, h⟩

theorem wpAnyIn_of_wpAny (hnd : ∀ o ∈ ops, ∀ c, o.op ≠ .defer c) (hQ : ¬ LetsOut Q) : ∀ (fuel : Nat) (listed : Array Bool) (a : Act) (w : World),
    wpAny P md ops Q fuel listed a w → wpAnyIn (Fence.wide.inRound l) m P md ops Q fuel listed a w
  | 0, _, _, _, h => h
  | fuel + 1, _, _, _, h => ⟨h.1, fun i hi => wpOpIn_mono (fun a' w' h' => wpAnyIn_of_wpAny hnd hQ fuel _ a' w' h') (wpOpIn_of_wpOp hnd hQ (h.2 i hi))⟩

/-- No operation of the list is a defer statement. -/
def noDefer (l : List Oper) : Bool := l.all fun o => match o.op with | .defer _ => false | _ => true
theorem noDefer_spec {l : List Oper} (h : noDefer l = true) : ∀ o ∈ l.toArray, ∀ c, o.op ≠ .defer c := by
  intro o ho c hc
  have := List.all_eq_true.1 h o (by simpa using ho)
  simp [hc] at this

theorem wpIn_region_ord {rid : Nat} {a : Act} {w : World} {ol : List Oper} (S : World → Prop) (n : Nat) (σ : List (Nat × Bool)) (hm : P.follows .mixedOrders = true) (hB : ordB .any ol.toArray n σ = true) (hnd : noDefer ol = true)
    (hLQ : ¬ LetsOut Q) (hQ : ∀ c a d v w, Q (.panic c) (Act.put a d v) w → Q (.panic c) a w) (hS : S w.drew) (h : wpOrd P ol.toArray Q S n σ a w.drew) : (Code.region rid ol.toArray true).wpIn (Fence.wide.inRound l) m P Q a w := by
  simp only [ordB, Bool.and_eq_true, Bool.or_eq_true, decide_eq_true_eq] at hB
  obtain ⟨⟨⟨hsel, hlen⟩, hp⟩, hB'⟩ := hB
  refine wpIn_region_any hm (wpAnyIn_of_wpAny (noDefer_spec hnd) hLQ _ _ _ _ (wpAny_of_C (S := S) (n := n) _ _ _ _ ?_))
  rw [← hlen]
  refine wpAnyC_ord hsel hQ ol.toArray.size σ _ a w.drew (hp.imp id fun h p hpr hp2 => ?_) (down_start _) (by rw [hlen]; exact hB') (fun _ => hS) h
  have := List.all_eq_true.1 h p hpr
  simpa [hp2] using this
end
end Go.Proofs.YtnmkieiehjajlaaGreatDoor
namespace Go.Proofs.YtnmkieiehjajlaaGreatDoor
open Go

section
variable {P : Program} {ops : Array Oper} {Q : Exit → Act → World → Prop} {md : Region.Mode} {S : World → Prop} {n : Nat}

def wpPre (P : Program) (ops : Array Oper) (S : World → Prop) (R : Array Bool → Act → Prop) : List Nat → Array Bool → Act → Prop
  | [], listed, a => R listed a
  | i :: r, listed, a => ∃ v oi, ops[i]? = some oi ∧ YieldsIf P ops S oi v a ∧ wpPre P ops S R r (listed.setIfInBounds i true) (a.put oi.dst v)
def preFrom (md : Region.Mode) (ops : Array Oper) : List Nat → Array Bool → Bool
  | [], _ => true
  | i :: r, listed => Region.free md ops listed i && (Region.ready md ops listed).contains i && preFrom md ops r (listed.setIfInBounds i true)

theorem wpAnyC_pre (hsel : Region.noSelect ops = true) (hQ : ∀ c a d v w, Q (.panic c) (Act.put a d v) w → Q (.panic c) a w) (hn : ops.size ≤ n) {w : World} (hS : S w) (f : Nat) :
    ∀ (τ : List Nat) (listed : Array Bool) (a : Act), Down md ops listed → preFrom md ops τ listed = true →
      wpPre P ops S (fun l a => Down md ops l → wpAnyC P md ops Q S n f l a w) τ listed a → wpAnyC P md ops Q S n (f + τ.length) listed a w
  | [], _, _, hd, _, h => h hd
  | i :: r, listed, a, hd, hB, h => by
    simp only [preFrom, Bool.and_eq_true] at hB
    obtain ⟨⟨hf, hr⟩, hB'⟩ := hB
    obtain ⟨v, oi, ho, hy, h'⟩ := h
    have hi : i ∈ Region.ready md ops listed := by simpa using hr
    exact wpAnyC_first (f := ops.size) ho (Region.noSelect_spec hsel) (fun c a w => hQ c a _ _ w) (.inl hn) (f + r.length) listed a w (Region.free_spec ho hf) hd hi hy hS
      (wpAnyC_pre hsel hQ hn hS f r _ _ (hd.set hi) hB' h')

def preB (md : Region.Mode) (ops : Array Oper) (f : Nat) (τ : List Nat) : Bool := Region.noSelect ops && decide (f + τ.length = ops.size) && preFrom md ops τ (Array.replicate ops.size false)

theorem wp_region_pre {rid : Nat} {a : Act} {w : World} {l : List Oper} (S : World → Prop) (f : Nat) (τ : List Nat) (hm : P.follows .mixedOrders = true) (hB : preB .any l.toArray f τ = true)
    (hQ : ∀ c a d v w, Q (.panic c) (Act.put a d v) w → Q (.panic c) a w) (hS : S w.drew)
    (h : wpPre P l.toArray S (fun li a => wpAnyC P .any l.toArray Q S l.toArray.size f li a w.drew) τ (Array.replicate l.toArray.size false) a) : (Code.region rid l.toArray true).wp P Q a w := by
  simp only [preB, Bool.and_eq_true, decide_eq_true_eq] at hB
  obtain ⟨⟨hsel, hlen⟩, hB'⟩ := hB
  refine wp_region_any hm (wpAny_of_C (S := S) (n := l.toArray.size) _ _ _ _ ?_)
  have key := wpAnyC_pre (P := P) (Q := Q) (md := .any) hsel hQ (Nat.le_refl _) hS f τ (Array.replicate l.toArray.size false) a (down_start _) hB' ?_
  · rw [hlen] at key
    exact key
  · have mono : ∀ (τ : List Nat) (li : Array Bool) (a : Act) (R R' : Array Bool → Act → Prop), (∀ l a, R l a → R' l a) → wpPre P l.toArray S R τ li a → wpPre P l.toArray S R' τ li a := by
      intro τ
      induction τ with
      | nil => intro li a R R' hR h; exact hR _ _ h
      | cons i r ih => intro li a R R' hR h; obtain ⟨v, oi, h1, h2, h3⟩ := h; exact ⟨v, oi, h1, h2, ih _ _ _ _ hR h3⟩
    exact mono _ _ _ _ _ (fun l a h _ => h) h

theorem pre_take {i : Nat} {r : List Nat} {R : Array Bool → Act → Prop} {listed : Array Bool} {a : Act} {oi : Oper} {v : Value} (hi : ops[i]? = some oi) (hw : Region.wanted oi (yielded ops a.tmps) = true)
    (hy : ∀ w, S w → (execOp a.eval oi).run P w = .ok (.value v) w) (h : wpPre P ops S R r (listed.setIfInBounds i true) (a.put oi.dst v)) : wpPre P ops S R (i :: r) listed a :=
  ⟨v, oi, hi, .inl ⟨hw, hy⟩, h⟩
theorem pre_done {R : Array Bool → Act → Prop} {listed : Array Bool} {a : Act} (h : R listed a) : wpPre P ops S R [] listed a := h
theorem any_step {f : Nat} {listed : Array Bool} {a : Act} {w : World} {L : List Nat} (hL : Region.ready md ops listed = L) (hne : L ≠ [])
    (h : ∀ i ∈ L, wpOp P ops Q i (fun a' w' => (i ≠ n → S w') ∧ wpAnyC P md ops Q S n f (listed.setIfInBounds i true) a' w') a w) : wpAnyC P md ops Q S n (f + 1) listed a w := by
  subst hL
  exact ⟨fun e => absurd e hne, h⟩
theorem any_do {i f : Nat} {listed : Array Bool} {a : Act} {w : World} {oi : Oper} (hi : ops[i]? = some oi) (hg : oi.guard = none)
    (h : ∀ K : Act → World → Prop, (∀ a w, S w → wpAnyC P md ops Q S n f (listed.setIfInBounds i true) a w → K a w) → oi.wp P a w K Q) :
    wpOp P ops Q i (fun a' w' => (i ≠ n → S w') ∧ wpAnyC P md ops Q S n f (listed.setIfInBounds i true) a' w') a w := by
  unfold wpOp
  simp only [hi]
  rw [if_pos (by simp [Region.wanted, hg])]
  exact .inl (h _ fun a w h1 h2 => ⟨fun _ => h1, h2⟩)
theorem any_done {listed : Array Bool} {a : Act} {w : World} (hL : Region.ready md ops listed = []) (h : Q .normal a w) : wpAnyC P md ops Q S n 0 listed a w := ⟨hL, h⟩
end
end Go.Proofs.YtnmkieiehjajlaaGreatDoor
namespace Go.Proofs.YtnmkieiehjajlaaGreatDoor
open Go
section
variable {P : Program} {ops : Array Oper} {Q : Exit → Act → World → Prop} {md : Region.Mode} {S : World → Prop} {n : Nat}
theorem wp_region_any2 {rid : Nat} {a : Act} {w : World} {l : List Oper} (S : World → Prop) (hm : P.follows .mixedOrders = true) (_hsel : Region.noSelect l.toArray = true)
    (_hS : S w.drew) (h : wpAnyC P .any l.toArray Q S l.toArray.size l.length (Array.replicate l.toArray.size false) a w.drew) : (Code.region rid l.toArray true).wp P Q a w := by
  refine wp_region_any hm (wpAny_of_C (S := S) (n := l.toArray.size) _ _ _ _ ?_)
  simpa using h
theorem any_start {f m : Nat} {a : Act} {w : World} (h : Down md ops (Array.replicate m false) → wpAnyC P md ops Q S n f (Array.replicate m false) a w) : wpAnyC P md ops Q S n f (Array.replicate m false) a w := h (down_start m)
/-- A stable one that has come up is taken. -/
theorem any_take {i f : Nat} {listed : Array Bool} {a : Act} {w : World} {oi : Oper} {v : Value} (hi : ops[i]? = some oi) (hB : (Region.noSelect ops && Region.free md ops listed i && (Region.ready md ops listed).contains i) = true)
    (hd : Down md ops listed) (hn : ops.size ≤ n) (hQ : ∀ c a d v w, Q (.panic c) (Act.put a d v) w → Q (.panic c) a w) (hS : S w)
    (hw : Region.wanted oi (yielded ops a.tmps) = true) (hy : ∀ w, S w → (execOp a.eval oi).run P w = .ok (.value v) w)
    (h : Down md ops (listed.setIfInBounds i true) → wpAnyC P md ops Q S n f (listed.setIfInBounds i true) (a.put oi.dst v) w) : wpAnyC P md ops Q S n (f + 1) listed a w := by
  simp only [Bool.and_eq_true] at hB
  obtain ⟨⟨h1, h2⟩, h3⟩ := hB
  have hr : i ∈ Region.ready md ops listed := by simpa using h3
  exact wpAnyC_first (f := ops.size) hi (Region.noSelect_spec h1) (fun c a w => hQ c a _ _ w) (.inl hn) f listed a w (Region.free_spec hi h2) hd hr (.inl ⟨hw, hy⟩) hS (h (hd.set hr))
/-- One that has come up is run. -/
theorem any_run {f : Nat} {listed : Array Bool} {a : Act} {w : World} {L : List Nat} (hd : Down md ops listed) (hL : Region.ready md ops listed = L) (hne : L ≠ [])
    (h : ∀ i ∈ L, (Down md ops (listed.setIfInBounds i true)) → wpOp P ops Q i (fun a' w' => (i ≠ n → S w') ∧ wpAnyC P md ops Q S n f (listed.setIfInBounds i true) a' w') a w) : wpAnyC P md ops Q S n (f + 1) listed a w :=
  any_step hL hne (fun i hi => h i hi (hd.set (by rw [hL]; exact hi)))
end
end Go.Proofs.YtnmkieiehjajlaaGreatDoor
