/- Forests: how many packs the shortest derivations have: the plain law (no program in sight). -/
import Derived.Test.YtbppbgdmoihooaaTrA
namespace Go.Proofs.Ytbppbgdmoihooaa

/-- What is known of a spot. -/
def at0 (v : List Int) (i : Int) : Int := v[i.toNat]?.getD 0
def steps (p : Pk) (v : List Int) : Int :=
  if p.left < 0 then 1 else if at0 v p.left = 0 ∨ at0 v p.right = 0 then 0 else if 1 + at0 v p.left + at0 v p.right > 4096 then 4097 else 1 + at0 v p.left + at0 v p.right
def rk (x : Int) : Nat := if x = 0 then 4098 else x.toNat
/-- All values may be. -/
def Val (v : List Int) : Prop := ∀ x ∈ v, 0 ≤ x ∧ x ≤ 4097
theorem Val.at {v : List Int} (h : Val v) (i : Int) : 0 ≤ at0 v i ∧ at0 v i ≤ 4097 := by
  unfold at0
  cases hx : v[i.toNat]? with
  | none => simp
  | some x => simpa using h x (List.mem_of_getElem? hx)
theorem Val.set {v : List Int} (h : Val v) (i : Nat) {x : Int} (hx : 0 ≤ x ∧ x ≤ 4097) : Val (v.set i x) := by
  intro y hy
  rcases List.mem_or_eq_of_mem_set hy with hy | rfl
  · exact h y hy
  · exact hx
theorem Val.zeros (n : Nat) : Val (List.replicate n 0) := by
  intro x hx
  obtain ⟨_, rfl⟩ := List.mem_replicate.1 hx
  omega
theorem steps_val {p : Pk} {v : List Int} (h : Val v) : 0 ≤ steps p v ∧ steps p v ≤ 4097 := by
  have h1 := h.at p.left
  have h2 := h.at p.right
  unfold steps
  repeat' split
  all_goals omega
theorem rk_le {x : Int} (h : 0 ≤ x ∧ x ≤ 4097) : rk x ≤ 4098 := by unfold rk; split <;> omega
theorem rk_inj {x y : Int} (hx : 0 ≤ x ∧ x ≤ 4097) (hy : 0 ≤ y ∧ y ≤ 4097) (h : rk x = rk y) : x = y := by unfold rk at h; split at h <;> split at h <;> omega
theorem steps_mono {p : Pk} {u v : List Int} (hu : Val u) (hv : Val v) (h : ∀ i, rk (at0 u i) ≤ rk (at0 v i)) : rk (steps p u) ≤ rk (steps p v) := by
  have a1 := hu.at p.left
  have a2 := hu.at p.right
  have b1 := hv.at p.left
  have b2 := hv.at p.right
  have h1 := h p.left
  have h2 := h p.right
  unfold steps
  generalize at0 u p.left = x1 at *
  generalize at0 u p.right = x2 at *
  generalize at0 v p.left = y1 at *
  generalize at0 v p.right = y2 at *
  clear hu hv h
  have c1 : y1 = 0 ∨ (x1 ≠ 0 ∧ x1 ≤ y1) := by unfold rk at h1; split at h1 <;> split at h1 <;> omega
  have c2 : y2 = 0 ∨ (x2 ≠ 0 ∧ x2 ≤ y2) := by unfold rk at h2; split at h2 <;> split at h2 <;> omega
  clear h1 h2
  unfold rk
  by_cases hl : p.left < 0
  · simp [hl]
  · simp only [if_neg hl]
    by_cases hy : y1 = 0 ∨ y2 = 0
    · simp only [if_pos hy]
      simp
      repeat' split
      all_goals omega
    · have hx : ¬ (x1 = 0 ∨ x2 = 0) := by omega
      simp only [if_neg hy, if_neg hx]
      repeat' split
      all_goals omega

theorem at0_set {v : List Int} {i : Nat} {x : Int} (hi : i < v.length) (j : Int) : at0 (v.set i x) j = if j.toNat = i then x else at0 v j := by
  unfold at0
  rw [List.getElem?_set]
  by_cases e : i = j.toNat
  · subst e
    simp [hi]
  · rw [if_neg e, if_neg (fun h => e h.symm)]

/-! A round of the document. -/
def nextB (next : List Int) (p : Pk) (n : Int) : Bool := decide (n > 0) && (decide (at0 next p.spot = 0) || decide (n < at0 next p.spot))
def roundStep (old : List Int) (next : List Int) (p : Pk) : List Int := if nextB next p (steps p old) then next.set p.spot.toNat (steps p old) else next
def roundF (P : List Pk) (old : List Int) (n : Nat) : List Int := P.foldl (roundStep old) (List.replicate n 0)
theorem roundStep_len (old next : List Int) (p : Pk) : (roundStep old next p).length = next.length := by unfold roundStep; split <;> simp
theorem fold_len (old : List Int) : ∀ (P : List Pk) (next : List Int), (P.foldl (roundStep old) next).length = next.length
  | [], _ => rfl
  | p :: P, next => by rw [List.foldl_cons, fold_len old P, roundStep_len]
theorem roundF_len (P : List Pk) (old : List Int) (n : Nat) : (roundF P old n).length = n := by unfold roundF; rw [fold_len]; simp

/-- What a round has made of the packs so far. -/
structure Rnd (old : List Int) (P : List Pk) (next : List Int) : Prop where
  val : Val next
  low : ∀ p ∈ P, rk (at0 next p.spot) ≤ rk (steps p old)
  made : ∀ s : Nat, at0 next s = 0 ∨ ∃ p ∈ P, p.spot = s ∧ steps p old = at0 next s
theorem Rnd.start (old : List Int) (n : Nat) : Rnd old [] (List.replicate n 0) := by
  refine ⟨Val.zeros n, by simp, fun s => .inl ?_⟩
  unfold at0
  cases hx : (List.replicate n (0 : Int))[(s : Int).toNat]? with
  | none => rfl
  | some x => obtain ⟨_, rfl⟩ := List.mem_replicate.1 (List.mem_of_getElem? hx); rfl
theorem Rnd.step {old : List Int} {P : List Pk} {next : List Int} (h : Rnd old P next) (ho : Val old) {p : Pk} (hp : 0 ≤ p.spot ∧ p.spot < (next.length : Int)) : Rnd old (P ++ [p]) (roundStep old next p) := by
  have hs := steps_val (p := p) ho
  have hn := h.val.at p.spot
  have hi : p.spot.toNat < next.length := by omega
  unfold roundStep
  by_cases hb : nextB next p (steps p old) = true
  · rw [if_pos hb]
    have hlt : rk (steps p old) ≤ rk (at0 next p.spot) ∧ steps p old > 0 := by
      unfold nextB at hb
      unfold rk
      simp at hb
      grind
    have hat := fun j => at0_set (x := steps p old) hi j
    have hself : at0 (next.set p.spot.toNat (steps p old)) p.spot = steps p old := by rw [hat]; simp
    have hle : ∀ j, rk (at0 (next.set p.spot.toNat (steps p old)) j) ≤ rk (at0 next j) := by
      intro j
      rw [hat]
      split
      · rename_i e
        have : at0 next j = at0 next p.spot := by unfold at0; rw [e]
        rw [this]
        exact hlt.1
      · exact Nat.le_refl _
    refine ⟨h.val.set _ hs, ?_, ?_⟩
    · intro q hq
      rcases List.mem_append.1 hq with hq | hq
      · exact Nat.le_trans (hle _) (h.low q hq)
      · obtain rfl := List.mem_singleton.1 hq
        rw [hself]
        exact Nat.le_refl _
    · intro s
      rw [hat]
      split
      · rename_i e
        exact .inr ⟨p, by simp, by omega, rfl⟩
      · rcases h.made s with h1 | ⟨q, hq, e, h1⟩
        · exact .inl h1
        · exact .inr ⟨q, by simp [hq], e, h1⟩
  · rw [if_neg hb]
    refine ⟨h.val, ?_, ?_⟩
    · intro q hq
      rcases List.mem_append.1 hq with hq | hq
      · exact h.low q hq
      · obtain rfl := List.mem_singleton.1 hq
        unfold nextB at hb
        unfold rk
        simp at hb
        grind
    · intro s
      rcases h.made s with h1 | ⟨q, hq, e, h1⟩
      · exact .inl h1
      · exact .inr ⟨q, by simp [hq], e, h1⟩
theorem Rnd.fold {old : List Int} (ho : Val old) {n : Nat} : ∀ (Q P : List Pk) (next : List Int), next.length = n → (∀ p ∈ Q, 0 ≤ p.spot ∧ p.spot < (n : Int)) → Rnd old P next → Rnd old (P ++ Q) (Q.foldl (roundStep old) next)
  | [], P, next, _, _, h => by simpa using h
  | p :: Q, P, next, hn, hp, h => by
    have h1 := h.step ho (p := p) (by rw [hn]; exact hp p (by simp))
    have := Rnd.fold ho (n := n) Q (P ++ [p]) (roundStep old next p) (by rw [roundStep_len]; exact hn) (fun q hq => hp q (by simp [hq])) h1
    simpa using this

/-- The packs' spots are there. -/
def SpotsIn (n : Nat) (P : List Pk) : Prop := ∀ p ∈ P, 0 ≤ p.spot ∧ p.spot < (n : Int)
theorem roundF_rnd {P : List Pk} {old : List Int} {n : Nat} (ho : Val old) (hp : SpotsIn n P) : Rnd old P (roundF P old n) := by
  have := Rnd.fold ho (n := n) P [] _ (by simp) hp (Rnd.start old n)
  simpa [roundF] using this

/-- A round is monotone. -/
theorem roundF_mono {P : List Pk} {u v : List Int} {n : Nat} (hu : Val u) (hv : Val v) (hp : SpotsIn n P) (h : ∀ i, rk (at0 u i) ≤ rk (at0 v i)) (s : Nat) : rk (at0 (roundF P u n) s) ≤ rk (at0 (roundF P v n) s) := by
  have ru := roundF_rnd (n := n) hu hp
  have rv := roundF_rnd (n := n) hv hp
  rcases rv.made s with h1 | ⟨p, hpm, e, h1⟩
  · rw [h1]
    exact Nat.le_trans (rk_le (ru.val.at _)) (by simp [rk])
  · rw [← h1]
    have := ru.low p hpm
    rw [e] at this
    exact Nat.le_trans this (steps_mono hu hv h)

/-- What the program ends with. -/
structure Settled (P : List Pk) (n : Nat) (T : List Int) : Prop where
  len : T.length = n
  val : Val T
  pre : ∀ p ∈ P, rk (at0 T p.spot) ≤ rk (steps p T)
  above : ∀ v : List Int, Val v → v.length = n → roundF P v n = v → ∀ s : Nat, rk (at0 v s) ≤ rk (at0 T s)

/-- The document's rounds. -/
def rounds (P : List Pk) (n : Nat) : Nat → List Int
  | 0 => List.replicate n 0
  | k + 1 => roundF P (rounds P n k) n
theorem rounds_len (P : List Pk) (n : Nat) : ∀ k, (rounds P n k).length = n
  | 0 => by simp [rounds]
  | k + 1 => roundF_len _ _ _
theorem rounds_val {P : List Pk} {n : Nat} (hp : SpotsIn n P) : ∀ k, Val (rounds P n k)
  | 0 => Val.zeros n
  | k + 1 => (roundF_rnd (rounds_val hp k) hp).val
theorem at0_nat {v : List Int} {i : Int} (h : i < 0) : at0 v i = at0 v (0 : Nat) := by
  unfold at0
  rw [show i.toNat = 0 by omega]
  rfl
theorem at0_all {u v : List Int} (h : ∀ s : Nat, rk (at0 u s) ≤ rk (at0 v s)) (i : Int) : rk (at0 u i) ≤ rk (at0 v i) := by
  rcases Int.lt_or_le i 0 with hi | hi
  · rw [at0_nat hi, at0_nat hi]
    exact h 0
  · obtain ⟨s, rfl⟩ : ∃ s : Nat, i = s := ⟨i.toNat, by omega⟩
    exact h s
theorem zeros_top (n : Nat) (s : Nat) : at0 (List.replicate n 0) s = 0 := by
  unfold at0
  cases hx : (List.replicate n (0 : Int))[(s : Int).toNat]? with
  | none => rfl
  | some x => obtain ⟨_, rfl⟩ := List.mem_replicate.1 (List.mem_of_getElem? hx); rfl
theorem rounds_down {P : List Pk} {n : Nat} (hp : SpotsIn n P) : ∀ k (s : Nat), rk (at0 (rounds P n (k + 1)) s) ≤ rk (at0 (rounds P n k) s)
  | 0, s => by
    show _ ≤ rk (at0 (List.replicate n 0) s)
    rw [zeros_top]
    exact Nat.le_trans (rk_le ((rounds_val hp 1).at _)) (by simp [rk])
  | k + 1, s => roundF_mono (rounds_val hp (k + 1)) (rounds_val hp k) hp (at0_all (rounds_down hp k)) s
theorem Settled.under {P : List Pk} {n : Nat} {T : List Int} (h : Settled P n T) (hp : SpotsIn n P) : ∀ k (s : Nat), rk (at0 T s) ≤ rk (at0 (rounds P n k) s)
  | 0, s => by
    show _ ≤ rk (at0 (List.replicate n 0) s)
    rw [zeros_top]
    exact Nat.le_trans (rk_le (h.val.at _)) (by simp [rk])
  | k + 1, s => by
    have ih := h.under hp k
    have r := roundF_rnd (n := n) (rounds_val hp k) hp
    rcases r.made s with h1 | ⟨p, hpm, e, h1⟩
    · show _ ≤ rk (at0 (roundF P (rounds P n k) n) s)
      rw [h1]
      exact Nat.le_trans (rk_le (h.val.at _)) (by simp [rk])
    · show _ ≤ rk (at0 (roundF P (rounds P n k) n) s)
      rw [← h1]
      have := h.pre p hpm
      rw [e] at this
      exact Nat.le_trans this (steps_mono h.val (rounds_val hp k) (at0_all ih))
theorem ext_at0 {u v : List Int} (hl : u.length = v.length) (h : ∀ s : Nat, at0 u s = at0 v s) : u = v := by
  apply List.ext_getElem? 
  intro i
  by_cases hi : i < u.length
  · have := h i
    unfold at0 at this
    rw [List.getElem?_eq_getElem (by simpa using hi), List.getElem?_eq_getElem (by simpa [← hl] using hi)] at this
    simp at this
    rw [List.getElem?_eq_getElem hi, List.getElem?_eq_getElem (hl ▸ hi), this]
  · rw [List.getElem?_eq_none (by omega), List.getElem?_eq_none (by omega)]
/-- The program's answer is the document's. -/
theorem Settled.same {P : List Pk} {n : Nat} {T : List Int} (h : Settled P n T) (hp : SpotsIn n P) {k : Nat} (hk : rounds P n (k + 1) = rounds P n k) : T = rounds P n k := by
  have h1 := h.under hp k
  have h2 := h.above (rounds P n k) (rounds_val hp k) (rounds_len P n k) hk
  refine ext_at0 (by rw [h.len, rounds_len]) (fun s => ?_)
  exact rk_inj (h.val.at _) ((rounds_val hp k).at _) (Nat.le_antisymm (h1 s) (h2 s))

/-! The program's moves. -/
def betterB (p : Pk) (T : List Int) : Bool := decide (steps p T ≠ 0) && !(decide (at0 T p.spot > 0) && decide (at0 T p.spot ≤ steps p T))
/-- In the midst of it. -/
structure Mid (P : List Pk) (n : Nat) (T : List Int) : Prop where
  len : T.length = n
  val : Val T
  above : ∀ v : List Int, Val v → v.length = n → roundF P v n = v → ∀ s : Nat, rk (at0 v s) ≤ rk (at0 T s)
theorem Mid.start (P : List Pk) (n : Nat) : Mid P n (List.replicate n 0) := ⟨by simp, Val.zeros n, fun v hv _ _ s => by rw [zeros_top]; exact Nat.le_trans (rk_le (hv.at _)) (by simp [rk])⟩
def weight (T : List Int) : Nat := (T.map rk).sum
theorem weight_set {T : List Int} {i : Nat} {x : Int} (hi : i < T.length) (h : rk x < rk T[i]) : weight (T.set i x) < weight T := by
  induction T generalizing i with
  | nil => simp at hi
  | cons a T ih =>
    cases i with
    | zero => simp [weight] at h ⊢; omega
    | succ i =>
      have := ih (i := i) (by simpa using hi) (by simpa using h)
      simp [weight] at this ⊢
      omega
theorem Mid.step {P : List Pk} {n : Nat} {T : List Int} (h : Mid P n T) (hp : SpotsIn n P) {p : Pk} (hm : p ∈ P) (hb : betterB p T = true) : Mid P n (T.set p.spot.toNat (steps p T)) ∧ weight (T.set p.spot.toNat (steps p T)) < weight T := by
  have hs := hp p hm
  have hi : p.spot.toNat < T.length := by rw [h.len]; omega
  have hst := steps_val (p := p) h.val
  have hat := fun j => at0_set (x := steps p T) hi j
  have hv := h.val.at p.spot
  have e0 : at0 T p.spot = T[p.spot.toNat] := by unfold at0; rw [List.getElem?_eq_getElem hi]; rfl
  have hlt : rk (steps p T) < rk (at0 T p.spot) := by
    unfold betterB at hb
    unfold rk
    simp at hb
    grind
  refine ⟨⟨by rw [List.length_set]; exact h.len, h.val.set _ hst, fun v hv hl hf s => ?_⟩, weight_set hi (by rw [← e0]; exact hlt)⟩
  rw [hat]
  split
  · rename_i e
    have r := roundF_rnd (n := n) hv hp
    have h1 := r.low p hm
    rw [hf] at h1
    have e2 : at0 v s = at0 v p.spot := by unfold at0; rw [e]
    rw [e2]
    exact Nat.le_trans h1 (steps_mono hv h.val (at0_all (h.above v hv hl hf)))
  · exact h.above v hv hl hf s
theorem Mid.settled {P : List Pk} {n : Nat} {T : List Int} (h : Mid P n T) (hall : ∀ p ∈ P, betterB p T = false) : Settled P n T := by
  refine ⟨h.len, h.val, fun p hp => ?_, h.above⟩
  have hb := hall p hp
  have hv := h.val.at p.spot
  have hst := steps_val (p := p) h.val
  unfold betterB at hb
  unfold rk
  simp at hb
  grind
end Go.Proofs.Ytbppbgdmoihooaa
