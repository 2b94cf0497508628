/- GssMeets: the plain law: what has met, and how often. -/
import Derived.Test.YtbppbgdmoihooaaMeetA
namespace Go.Proofs.Ytbppbgdmoihooaa

def expect (N : List GNode) (i : Nat) (p : Int) (f : Int × Int) : Nat := match N[i]? with
  | some x => if f ∈ x.frames ∧ p ∈ x.pops then 1 else 0
  | none => 0
def total (N : List GNode) : Nat := (N.map fun x => x.frames.length * x.pops.length).sum
structure Good (N : List GNode) (out : List (Nat × Int × Int × Int)) : Prop where
  nd : ∀ (i : Nat) (x : GNode), N[i]? = some x → x.frames.Nodup ∧ x.pops.Nodup
  cnt : ∀ i p f, out.count (i, p, f) = expect N i p f
  len : out.length = total N

theorem sum_set (w : GNode → Nat) : ∀ (N : List GNode) (i : Nat) (x y : GNode), N[i]? = some x → ((N.set i y).map w).sum + w x = (N.map w).sum + w y
  | [], i, x, y, h => by simp at h
  | z :: N, 0, x, y, h => by simp at h; subst h; simp; omega
  | z :: N, i + 1, x, y, h => by
    have := sum_set w N i x y (by simpa using h)
    simp only [List.set_cons_succ, List.map_cons, List.sum_cons]
    omega
theorem count_mapF (sp : Nat) (a : Int) (i : Nat) (p : Int) (f : Int × Int) : ∀ (l : List (Int × Int)), (l.map fun g => (sp, a, g)).count (i, p, f) = if i = sp ∧ p = a then l.count f else 0
  | [] => by simp
  | g :: l => by
    rw [List.map_cons, List.count_cons, count_mapF sp a i p f l, List.count_cons]
    by_cases h : i = sp ∧ p = a
    · obtain ⟨rfl, rfl⟩ := h
      simp
    · rw [if_neg h, if_neg h]
      have : ((sp, a, g) == (i, p, f)) = false := by
        rw [beq_eq_false_iff_ne]
        intro e
        simp only [Prod.mk.injEq] at e
        exact h ⟨e.1.symm, e.2.1.symm⟩
      simp [this]
theorem count_mapP (sp : Nat) (g : Int × Int) (i : Nat) (p : Int) (f : Int × Int) : ∀ (l : List Int), (l.map fun a => (sp, a, g)).count (i, p, f) = if i = sp ∧ f = g then l.count p else 0
  | [] => by simp
  | a :: l => by
    rw [List.map_cons, List.count_cons, count_mapP sp g i p f l, List.count_cons]
    by_cases h : i = sp ∧ f = g
    · obtain ⟨rfl, rfl⟩ := h
      simp
    · rw [if_neg h, if_neg h]
      have : ((sp, a, g) == (i, p, f)) = false := by
        rw [beq_eq_false_iff_ne]
        intro e
        simp only [Prod.mk.injEq] at e
        exact h ⟨e.1.symm, e.2.2.symm⟩
      simp [this]
theorem count_nd {α : Type} [DecidableEq α] {l : List α} (h : l.Nodup) (a : α) : l.count a = if a ∈ l then 1 else 0 := by
  exact List.Nodup.count h

theorem expect_set (N : List GNode) (sp : Nat) (x y : GNode) (hx : N[sp]? = some x) (i : Nat) (p : Int) (f : Int × Int) :
    expect (N.set sp y) i p f = if i = sp then (if f ∈ y.frames ∧ p ∈ y.pops then 1 else 0) else expect N i p f := by
  have hlt := (List.getElem?_eq_some_iff.1 hx).1
  unfold expect
  rw [List.getElem?_set]
  by_cases h : sp = i
  · subst h
    rw [if_pos rfl, if_pos hlt, if_pos rfl]
  · rw [if_neg h, if_neg (fun e => h e.symm)]

theorem Good.step {n : Nat} {N : List GNode} {out : List (Nat × Int × Int × Int)} (h : Good N out) (e : Ev) : Good (stepP n (N, out) e).1 (stepP n (N, out) e).2 := by
  simp only [stepP, stepN, stepM]
  generalize hsp : spotOf n e.n = sp
  cases hx : N[sp]? with
  | none => simpa using h
  | some x =>
    simp only
    obtain ⟨ndf, ndp⟩ := h.nd sp x hx
    have hget : ∀ (y : GNode) (i : Nat) (z : GNode), (N.set sp y)[i]? = some z → z = y ∨ N[i]? = some z := by
      intro y i z hz
      rw [List.getElem?_set] at hz
      split at hz
      · split at hz
        · injection hz with hz
          exact .inl hz.symm
        · cases hz
      · exact .inr hz
    cases hpop : e.pop
    · simp only [Bool.false_eq_true, if_false]
      by_cases hold : frameOf n e ∈ x.frames
      · simpa [hold] using h
      · simp only [hold, if_false]
        unfold addFrame
        rw [hx]
        simp only
        refine ⟨fun i z hz => ?_, fun i p f => ?_, ?_⟩
        · rcases hget _ i z hz with rfl | hz'
          · refine ⟨?_, ndp⟩
            rw [List.nodup_append]
            exact ⟨ndf, by simp, fun a ha b hb => by obtain rfl := List.mem_singleton.1 hb; rintro rfl; exact hold ha⟩
          · exact h.nd i z hz'
        · rw [List.count_append, h.cnt, count_mapP, expect_set N sp x _ hx]
          by_cases hi : i = sp
          · subst hi
            simp only [true_and, if_true, expect, hx, count_nd ndp, List.mem_append, List.mem_singleton]
            by_cases hf : f = frameOf n e
            · subst hf
              simp [hold]
            · simp [hf]
          · simp [hi]
        · rw [List.length_append, h.len, List.length_map]
          have := sum_set (fun x => x.frames.length * x.pops.length) N sp x { x with frames := x.frames ++ [frameOf n e] } hx
          simp only [List.length_append, List.length_singleton, Nat.add_mul, Nat.one_mul] at this
          unfold total
          omega
    · simp only [if_true]
      by_cases hold : e.a ∈ x.pops
      · simpa [hold] using h
      · simp only [hold, if_false]
        unfold addPop
        rw [hx]
        simp only
        refine ⟨fun i z hz => ?_, fun i p f => ?_, ?_⟩
        · rcases hget _ i z hz with rfl | hz'
          · refine ⟨ndf, ?_⟩
            rw [List.nodup_append]
            exact ⟨ndp, by simp, fun a ha b hb => by obtain rfl := List.mem_singleton.1 hb; rintro rfl; exact hold ha⟩
          · exact h.nd i z hz'
        · rw [List.count_append, h.cnt, count_mapF, expect_set N sp x _ hx]
          by_cases hi : i = sp
          · subst hi
            simp only [true_and, if_true, expect, hx, List.mem_append, List.mem_singleton]
            by_cases hf : p = e.a
            · subst hf
              simp [hold]
              rw [List.Nodup.count ndf]
            · simp [hf]
          · simp [hi]
        · rw [List.length_append, h.len, List.length_map]
          have := sum_set (fun x => x.frames.length * x.pops.length) N sp x { x with pops := x.pops ++ [e.a] } hx
          simp only [List.length_append, List.length_singleton, Nat.mul_add, Nat.mul_one] at this
          unfold total
          omega

/-- What a node's frames and pops are, by what came. -/
def Came (n : Nat) (l : List Ev) (N : List GNode) : Prop := ∀ (i : Nat) (x : GNode), N[i]? = some x →
  (∀ f, f ∈ x.frames ↔ ∃ e ∈ l, e.pop = false ∧ spotOf n e.n = i ∧ f = frameOf n e) ∧ ∀ a, a ∈ x.pops ↔ ∃ e ∈ l, e.pop = true ∧ spotOf n e.n = i ∧ a = e.a

theorem Came.step {n : Nat} {l : List Ev} {N : List GNode} (h : Came n l N) (e : Ev) : Came n (l ++ [e]) (stepN n N e) := by
  intro i y hy
  unfold stepN at hy
  generalize hsp : spotOf n e.n = sp at hy
  -- what is as it was
  have keepF : ∀ x, N[i]? = some x → (e.pop = false → sp = i → frameOf n e ∈ x.frames) → ∀ f, f ∈ x.frames ↔ ∃ e' ∈ l ++ [e], e'.pop = false ∧ spotOf n e'.n = i ∧ f = frameOf n e' := by
    intro x hx hc f
    rw [(h i x hx).1 f]
    constructor
    · rintro ⟨e', he', r⟩
      exact ⟨e', List.mem_append.2 (.inl he'), r⟩
    · rintro ⟨e', he', h1, h2, h3⟩
      rcases List.mem_append.1 he' with he' | he'
      · exact ⟨e', he', h1, h2, h3⟩
      · obtain rfl := List.mem_singleton.1 he'
        have := hc h1 (hsp.symm.trans h2)
        rw [← h3] at this
        exact ((h i x hx).1 f).1 this
  have keepP : ∀ x, N[i]? = some x → (e.pop = true → sp = i → e.a ∈ x.pops) → ∀ a, a ∈ x.pops ↔ ∃ e' ∈ l ++ [e], e'.pop = true ∧ spotOf n e'.n = i ∧ a = e'.a := by
    intro x hx hc a
    rw [(h i x hx).2 a]
    constructor
    · rintro ⟨e', he', r⟩
      exact ⟨e', List.mem_append.2 (.inl he'), r⟩
    · rintro ⟨e', he', h1, h2, h3⟩
      rcases List.mem_append.1 he' with he' | he'
      · exact ⟨e', he', h1, h2, h3⟩
      · obtain rfl := List.mem_singleton.1 he'
        have := hc h1 (hsp.symm.trans h2)
        rw [← h3] at this
        exact ((h i x hx).2 a).1 this
  cases hx : N[sp]? with
  | none =>
    rw [hx] at hy
    exact ⟨keepF y hy (fun _ e' => by rw [← e', hx] at hy; cases hy), keepP y hy (fun _ e' => by rw [← e', hx] at hy; cases hy)⟩
  | some x =>
    rw [hx] at hy
    simp only at hy
    have hlt := (List.getElem?_eq_some_iff.1 hx).1
    cases hpop : e.pop
    · rw [hpop] at hy
      simp only [Bool.false_eq_true, if_false] at hy
      split at hy
      · rename_i hold
        exact ⟨keepF y hy (fun _ e' => by subst e'; rw [hx] at hy; injection hy with hy; subst hy; exact hold), keepP y hy (fun e' => by rw [hpop] at e'; cases e')⟩
      · unfold addFrame at hy
        rw [hx] at hy
        simp only [List.getElem?_set] at hy
        split at hy
        · rename_i hsi
          subst hsi
          try rw [if_pos hlt] at hy
          injection hy with hy
          subst hy
          refine ⟨fun f => ?_, keepP x hx (fun e' => by rw [hpop] at e'; cases e')⟩
          rw [List.mem_append, List.mem_singleton, (h sp x hx).1 f]
          constructor
          · rintro (⟨e', he', r⟩ | rfl)
            · exact ⟨e', List.mem_append.2 (.inl he'), r⟩
            · exact ⟨e, by simp, hpop, hsp, rfl⟩
          · rintro ⟨e', he', h1, h2, h3⟩
            rcases List.mem_append.1 he' with he' | he'
            · exact .inl ⟨e', he', h1, h2, h3⟩
            · obtain rfl := List.mem_singleton.1 he'
              exact .inr h3
        · rename_i hsi
          exact ⟨keepF y hy (fun _ e' => absurd e' hsi), keepP y hy (fun _ e' => absurd e' hsi)⟩
    · rw [hpop] at hy
      simp only [if_true] at hy
      split at hy
      · rename_i hold
        exact ⟨keepF y hy (fun e' => by rw [hpop] at e'; cases e'), keepP y hy (fun _ e' => by subst e'; rw [hx] at hy; injection hy with hy; subst hy; exact hold)⟩
      · unfold addPop at hy
        rw [hx] at hy
        simp only [List.getElem?_set] at hy
        split at hy
        · rename_i hsi
          subst hsi
          try rw [if_pos hlt] at hy
          injection hy with hy
          subst hy
          refine ⟨keepF x hx (fun e' => by rw [hpop] at e'; cases e'), fun a => ?_⟩
          rw [List.mem_append, List.mem_singleton, (h sp x hx).2 a]
          constructor
          · rintro (⟨e', he', r⟩ | rfl)
            · exact ⟨e', List.mem_append.2 (.inl he'), r⟩
            · exact ⟨e, by simp, hpop, hsp, rfl⟩
          · rintro ⟨e', he', h1, h2, h3⟩
            rcases List.mem_append.1 he' with he' | he'
            · exact .inl ⟨e', he', h1, h2, h3⟩
            · obtain rfl := List.mem_singleton.1 he'
              exact .inr h3
        · rename_i hsi
          exact ⟨keepF y hy (fun _ e' => absurd e' hsi), keepP y hy (fun _ e' => absurd e' hsi)⟩

theorem run_facts {n : Nat} {N : List GNode} (h0 : ∀ x ∈ N, x.frames = [] ∧ x.pops = []) (l : List Ev) : Good (runP n N l).1 (runP n N l).2 ∧ Came n l (runP n N l).1 := by
  have key : ∀ k, k ≤ l.length → Good (runP n N (l.take k)).1 (runP n N (l.take k)).2 ∧ Came n (l.take k) (runP n N (l.take k)).1 := by
    intro k
    induction k with
    | zero =>
      intro _
      refine ⟨⟨fun i x hx => ?_, fun i p f => ?_, ?_⟩, fun i x hx => ?_⟩
      · have := h0 x (List.mem_of_getElem? hx)
        simp [this.1, this.2]
      · unfold expect
        show List.count (i, p, f) [] = match N[i]? with | some x => _ | none => _
        cases hx : N[i]? with
        | none => simp
        | some x =>
          have := h0 x (List.mem_of_getElem? hx)
          simp [this.1]
      · show 0 = total N
        unfold total
        symm
        have : (N.map fun x => x.frames.length * x.pops.length) = N.map fun _ => 0 := List.map_congr_left fun x hx => by rw [(h0 x hx).1]; simp
        rw [this]
        clear this h0
        induction N with
        | nil => rfl
        | cons y N ih => simpa using ih
      · have := h0 x (List.mem_of_getElem? hx)
        simp [this.1, this.2]
    | succ k ih =>
      intro hk
      have hkl : k < l.length := by omega
      rw [runP_snoc (List.getElem?_eq_getElem hkl)]
      obtain ⟨g, c⟩ := ih (by omega)
      refine ⟨g.step _, ?_⟩
      rw [List.take_succ_eq_append_getElem hkl]
      exact c.step _
  have := key l.length (Nat.le_refl _)
  rwa [List.take_length] at this

theorem same_len {α : Type} [DecidableEq α] {l l' : List α} (h : l.Nodup) (h' : l'.Nodup) (he : ∀ a, a ∈ l ↔ a ∈ l') : l.length = l'.length :=
  ((List.perm_ext_iff_of_nodup h h').2 he).length_eq

/-- Forwards and backwards: node by node the same frames and pops, though in another order. -/
theorem both_ways {n : Nat} {N : List GNode} (h0 : ∀ x ∈ N, x.frames = [] ∧ x.pops = []) (l : List Ev) {i : Nat} {x y : GNode} (hx : (runP n N l).1[i]? = some x) (hy : (runP n N l.reverse).1[i]? = some y) :
    (∀ f, f ∈ x.frames ↔ f ∈ y.frames) ∧ (∀ p, p ∈ x.pops ↔ p ∈ y.pops) ∧ x.frames.length = y.frames.length ∧ x.pops.length = y.pops.length := by
  obtain ⟨g, c⟩ := run_facts h0 l (n := n)
  obtain ⟨g', c'⟩ := run_facts h0 l.reverse (n := n)
  have hf : ∀ f, f ∈ x.frames ↔ f ∈ y.frames := fun f => by
    rw [(c i x hx).1 f, (c' i y hy).1 f]
    simp only [List.mem_reverse]
  have hp : ∀ p, p ∈ x.pops ↔ p ∈ y.pops := fun p => by
    rw [(c i x hx).2 p, (c' i y hy).2 p]
    simp only [List.mem_reverse]
  exact ⟨hf, hp, same_len (g.nd i x hx).1 (g'.nd i y hy).1 hf, same_len (g.nd i x hx).2 (g'.nd i y hy).2 hp⟩
theorem total_both {n : Nat} {N : List GNode} (h0 : ∀ x ∈ N, x.frames = [] ∧ x.pops = []) (l : List Ev) : (runP n N l).2.length = (runP n N l.reverse).2.length := by
  rw [(run_facts h0 l (n := n)).1.len, (run_facts h0 l.reverse (n := n)).1.len]
  unfold total
  congr 1
  have h1 := runP_len n N l l.length
  have h2 := runP_len n N l.reverse l.reverse.length
  rw [List.take_length] at h1 h2
  apply List.ext_getElem?
  intro i
  rw [List.getElem?_map, List.getElem?_map]
  by_cases hi : i < N.length
  · have hx := List.getElem?_eq_getElem (l := (runP n N l).1) (i := i) (by omega)
    have hy := List.getElem?_eq_getElem (l := (runP n N l.reverse).1) (i := i) (by omega)
    obtain ⟨_, _, e1, e2⟩ := both_ways h0 l hx hy
    rw [hx, hy]
    simp only [Option.map_some, e1, e2]
  · rw [List.getElem?_eq_none (by omega), List.getElem?_eq_none (by omega)]
end Go.Proofs.Ytbppbgdmoihooaa
