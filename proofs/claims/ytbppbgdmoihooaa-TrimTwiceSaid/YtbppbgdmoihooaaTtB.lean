/- Forests: cut again, a cut forest is the same: the plain law (no program in sight). -/
import Derived.Test.YtbppbgdmoihooaaTtA
namespace Go.Proofs.Ytbppbgdmoihooaa

theorem Settled.fix {P : List Pk} {n : Nat} {T : List Int} (h : Settled P n T) (hp : SpotsIn n P) : ∃ k, T = rounds P n k ∧ roundF P T n = T := by
  obtain ⟨k, hk⟩ := rounds_fix (n := n) hp
  have e := h.same hp hk
  exact ⟨k, e, by rw [e]; exact hk⟩
theorem Settled.via {P : List Pk} {n : Nat} {T : List Int} (h : Settled P n T) (hp : SpotsIn n P) {s : Nat} (h0 : at0 T (s : Int) ≠ 0) : ∃ p ∈ P, p.spot = (s : Int) ∧ steps p T ≠ 0 := by
  obtain ⟨k, -, hf⟩ := h.fix hp
  have r := roundF_rnd (n := n) h.val hp
  rw [hf] at r
  rcases r.made s with h1 | ⟨p, hpm, e, h1⟩
  · exact (h0 h1).elim
  · exact ⟨p, hpm, e, by rw [h1]; exact h0⟩
theorem steps_ne {p : Pk} {T : List Int} (hl : ¬ p.left < 0) (h : steps p T ≠ 0) : at0 T p.left ≠ 0 ∧ at0 T p.right ≠ 0 := by
  unfold steps at h
  rw [if_neg hl] at h
  split at h
  · exact (h rfl).elim
  · rename_i h1
    omega
theorem endsB_pos {T : List Int} (hv : Val T) {i : Nat} (h : i < T.length) : atB (endsB T) (i : Int) = true ↔ at0 T (i : Int) ≠ 0 := by
  rw [endsB_at h]
  have := hv.at (i : Int)
  simp
  omega
theorem held_ends {S : List Fct} {P : List Pk} {T : List Int} (h : OkFor S P) (hT : Settled P S.length T) : Held S P (endsB T) := by
  intro i hi hb
  have hne := (endsB_pos hT.val (by rw [hT.len]; exact hi)).1 hb
  obtain ⟨p, hp, e, hs⟩ := hT.via h.spots hne
  refine ⟨p, hp, e, keep_iff.2 ?_⟩
  rw [e]
  rcases leaf_pack (h.goes p hp) with ⟨h1, h2⟩ | ⟨h1, h2⟩
  · exact ⟨hb, by simp [stay, h1], by simp [stay, h2]⟩
  · have hne2 := steps_ne (by omega) hs
    rcases (h.pks p hp).2 with h3 | ⟨l, r, el, er, hl, hr⟩
    · omega
    · rw [el, er] at hne2
      refine ⟨hb, ?_, ?_⟩
      · simp [stay, el, (endsB_pos hT.val (by rw [hT.len]; exact hl)).2 hne2.1]
      · simp [stay, er, (endsB_pos hT.val (by rw [hT.len]; exact hr)).2 hne2.2]
theorem held_reach {S : List Fct} {P : List Pk} {X : Int → Prop} {R : List Bool} (h : OkFor S P) (hR : RchB P X S.length R) : Held S P R := by
  intro i hi hb
  obtain ⟨p, hp, e⟩ := h.all i hi
  refine ⟨p, hp, e, keep_iff.2 ?_⟩
  rw [e]
  have hri := (hR.is i hi).1 hb
  rw [← e] at hri
  rcases leaf_pack (h.goes p hp) with ⟨h1, h2⟩ | ⟨h1, h2⟩
  · exact ⟨hb, by simp [stay, h1], by simp [stay, h2]⟩
  · rcases (h.pks p hp).2 with h3 | ⟨l, r, el, er, hl, hr⟩
    · omega
    · have rl := Rch.left p hp (by omega) hri
      have rr := Rch.right p hp (by omega) hri
      rw [el] at rl
      rw [er] at rr
      refine ⟨hb, ?_, ?_⟩
      · simp [stay, el, (hR.is l hl).2 rl]
      · simp [stay, er, (hR.is r hr).2 rr]

/-- All stays. -/
theorem cnt_all {I : List Bool} {n : Nat} (h : ∀ i : Nat, i < n → atB I (i : Int) = true) : ∀ k, k ≤ n → cnt I k = k
  | 0, _ => rfl
  | k + 1, hk => by rw [cnt_hit (h k (by omega)), cnt_all h k (by omega)]
theorem cutS_all {S : List Fct} {I : List Bool} (h : ∀ i : Nat, i < S.length → atB I (i : Int) = true) : cutS S I = S := by
  have hc := cnt_all h
  apply List.ext_getElem?
  intro i
  by_cases hi : i < S.length
  · have := cutS_at (S := S) (I := I) (i := i) (List.getElem?_eq_getElem hi) (h i hi)
    rw [hc i (by omega)] at this
    rw [this, List.getElem?_eq_getElem hi]
  · have hl : (cutS S I).length = S.length := (spotsTo_len S I _ (Nat.le_refl _)).trans (hc _ (Nat.le_refl _))
    rw [List.getElem?_eq_none (by omega), List.getElem?_eq_none (by omega)]
theorem cutP_all {S : List Fct} {P : List Pk} {I : List Bool} (ho : OkFor S P) (h : ∀ i : Nat, i < S.length → atB I (i : Int) = true) : cutP P I = P := by
  have hc := cnt_all h
  have hm : ∀ p ∈ P, keep I p = true ∧ moved I p = p := by
    intro p hp
    obtain ⟨⟨s, es, hs⟩, h3⟩ := ho.pks p hp
    rcases leaf_pack (ho.goes p hp) with ⟨h1, h2⟩ | ⟨h1, h2⟩
    · refine ⟨keep_iff.2 ⟨by rw [es]; exact h s hs, by simp [stay, h1], by simp [stay, h2]⟩, ?_⟩
      obtain ⟨a, b, c, d, e⟩ := p
      simp only at es h1 h2
      simp [moved, num, es, h1, h2, hc s (by omega)]
    · rcases h3 with h3 | ⟨l, r, el, er, hl, hr⟩
      · omega
      · refine ⟨keep_iff.2 ⟨by rw [es]; exact h s hs, by simp [stay, el, h l hl], by simp [stay, er, h r hr]⟩, ?_⟩
        obtain ⟨a, b, c, d, e⟩ := p
        simp only at es el er
        have n1 : ¬ ((l : Int) < 0) := by omega
        have n2 : ¬ ((r : Int) < 0) := by omega
        simp only [moved, num, es, el, er, Int.toNat_natCast, if_neg n1, if_neg n2, hc s (by omega), hc l (by omega), hc r (by omega)]
  rw [cutP_is, List.filter_eq_self.2 (fun p hp => (hm p hp).1)]
  exact (List.map_congr_left fun p hp => (hm p hp).2).trans (List.map_id _)

/-- In the forest cut to what ends, all ends. -/
theorem ends_cut {S : List Fct} {P : List Pk} {T T' : List Int} (h : OkFor S P) (hT : Settled P S.length T) (hT' : Settled (cutP P (endsB T)) (cutS S (endsB T)).length T') :
    ∀ j : Nat, j < (cutS S (endsB T)).length → atB (endsB T') (j : Int) = true := by
  have key : ∀ k (i : Nat), i < S.length → at0 (rounds P S.length k) (i : Int) ≠ 0 → at0 T' (cnt (endsB T) i : Int) ≠ 0 := by
    intro k
    induction k with
    | zero => intro i _ h0; exact (h0 (zeros_top _ _)).elim
    | succ k ih =>
      intro i hi h0
      have r := roundF_rnd (n := S.length) (rounds_val h.spots k) h.spots
      have nz : ∀ (k s : Nat), at0 (rounds P S.length k) (s : Int) ≠ 0 → at0 T (s : Int) ≠ 0 := by
        intro k s hn e
        have h1 := hT.under h.spots k s
        rw [e] at h1
        have h2 := (rounds_val h.spots k).at (s : Int)
        unfold rk at h1
        rw [if_pos rfl, if_neg hn] at h1
        omega
      rcases r.made i with h1 | ⟨p, hp, e, h1⟩
      · exact (h0 h1).elim
      · have hst : steps p (rounds P S.length k) ≠ 0 := by rw [h1]; exact h0
        have hTi := nz (k + 1) i h0
        have bi := (endsB_pos hT.val (by rw [hT.len]; exact hi)).2 hTi
        have pos : ∀ {q : Pk}, q ∈ cutP P (endsB T) → steps q T' ≠ 0 → at0 T' q.spot ≠ 0 := by
          intro q hq hs e0
          have h2 := hT'.pre q hq
          have h3 := steps_val (p := q) hT'.val
          rw [e0] at h2
          unfold rk at h2
          rw [if_pos rfl, if_neg hs] at h2
          omega
        rcases leaf_pack (h.goes p hp) with ⟨l1, l2⟩ | ⟨l1, l2⟩
        · have hk : keep (endsB T) p = true := keep_iff.2 ⟨by rw [e]; exact bi, by simp [stay, l1], by simp [stay, l2]⟩
          have hm : moved (endsB T) p ∈ cutP P (endsB T) := by rw [cutP_is]; exact List.mem_map.2 ⟨p, List.mem_filter.2 ⟨hp, hk⟩, rfl⟩
          have := pos hm (by simp [steps, moved, num, l1])
          simpa [moved, e] using this
        · have hne := steps_ne (by omega) hst
          rcases (h.pks p hp).2 with l3 | ⟨l, r, el, er, hl, hr⟩
          · omega
          · rw [el, er] at hne
            have bl := (endsB_pos hT.val (by rw [hT.len]; exact hl)).2 (nz k l hne.1)
            have br := (endsB_pos hT.val (by rw [hT.len]; exact hr)).2 (nz k r hne.2)
            have il := ih l hl hne.1
            have ir := ih r hr hne.2
            have hk : keep (endsB T) p = true := keep_iff.2 ⟨by rw [e]; exact bi, by simp [stay, el, bl], by simp [stay, er, br]⟩
            have hm : moved (endsB T) p ∈ cutP P (endsB T) := by rw [cutP_is]; exact List.mem_map.2 ⟨p, List.mem_filter.2 ⟨hp, hk⟩, rfl⟩
            have vl := hT'.val.at (cnt (endsB T) l : Int)
            have vr := hT'.val.at (cnt (endsB T) r : Int)
            have n1 : ¬ ((l : Int) < 0) := by omega
            have n2 : ¬ ((r : Int) < 0) := by omega
            have n3 : ¬ ((cnt (endsB T) l : Int) < 0) := by omega
            have := pos hm (by
              simp only [steps, moved, num, el, er, if_neg n1, if_neg n2, Int.toNat_natCast, if_neg n3]
              rw [if_neg (by omega)]
              split <;> omega)
            simpa [moved, e] using this
  intro j hj
  have hjl := hj
  rw [cutS, spotsTo_len S _ _ (Nat.le_refl _)] at hj
  obtain ⟨i, h1, h2, h3⟩ := cnt_from (endsB T) S.length j hj
  obtain ⟨k, hk, -⟩ := hT.fix h.spots
  have hne := (endsB_pos hT.val (by rw [hT.len]; exact h1)).1 h2
  rw [hk] at hne
  have := key k i h1 hne
  rw [h3] at this
  exact (endsB_pos hT'.val (by rw [hT'.len]; exact hjl)).2 this

/-- In the forest cut to what is reached, all is reached. -/
theorem reach_cut {S : List Fct} {P : List Pk} {s : Nat} {R R' : List Bool} (h : OkFor S P) (hs : s < S.length) (hR : RchB P (fun x => x = (s : Int)) S.length R) (hR' : RchB (cutP P R) (fun x => x = (cnt R s : Int)) (cutS S R).length R') :
    ∀ j : Nat, j < (cutS S R).length → atB R' (j : Int) = true := by
  have key : ∀ x, Rch P (fun x => x = (s : Int)) x → 0 ≤ x ∧ x < (S.length : Int) ∧ Rch (cutP P R) (fun x => x = (cnt R s : Int)) (cnt R x.toNat : Int) := by
    intro x hx
    induction hx with
    | base x hx => subst hx; exact ⟨by omega, by omega, Rch.base _ (by simp)⟩
    | left p hp hl hr ih =>
      obtain ⟨h1, h2, h3⟩ := ih
      rcases (h.pks p hp).2 with l3 | ⟨l, r, el, er, hl2, hr2⟩
      · omega
      · have a1 : atB R p.spot = true := by
          have := (hR.is p.spot.toNat (by omega)).2 (by rw [Int.toNat_of_nonneg h1]; exact hr)
          rwa [Int.toNat_of_nonneg h1] at this
        have a2 := (hR.is l hl2).2 (by rw [← el]; exact Rch.left p hp hl hr)
        have a3 := (hR.is r hr2).2 (by rw [← er]; exact Rch.right p hp hl hr)
        have hk : keep R p = true := keep_iff.2 ⟨a1, by simp [stay, el, a2], by simp [stay, er, a3]⟩
        have hm : moved R p ∈ cutP P R := by rw [cutP_is]; exact List.mem_map.2 ⟨p, List.mem_filter.2 ⟨hp, hk⟩, rfl⟩
        have n1 : ¬ ((l : Int) < 0) := by omega
        have := Rch.left _ hm (by simp only [moved, num, el, if_neg n1]; omega) h3
        simp only [moved, num, el, if_neg n1, Int.toNat_natCast] at this
        rw [el]
        exact ⟨by omega, by omega, by simpa using this⟩
    | right p hp hl hr ih =>
      obtain ⟨h1, h2, h3⟩ := ih
      rcases (h.pks p hp).2 with l3 | ⟨l, r, el, er, hl2, hr2⟩
      · omega
      · have a1 : atB R p.spot = true := by
          have := (hR.is p.spot.toNat (by omega)).2 (by rw [Int.toNat_of_nonneg h1]; exact hr)
          rwa [Int.toNat_of_nonneg h1] at this
        have a2 := (hR.is l hl2).2 (by rw [← el]; exact Rch.left p hp hl hr)
        have a3 := (hR.is r hr2).2 (by rw [← er]; exact Rch.right p hp hl hr)
        have hk : keep R p = true := keep_iff.2 ⟨a1, by simp [stay, el, a2], by simp [stay, er, a3]⟩
        have hm : moved R p ∈ cutP P R := by rw [cutP_is]; exact List.mem_map.2 ⟨p, List.mem_filter.2 ⟨hp, hk⟩, rfl⟩
        have n1 : ¬ ((l : Int) < 0) := by omega
        have n2 : ¬ ((r : Int) < 0) := by omega
        have := Rch.right _ hm (by simp only [moved, num, el, if_neg n1]; omega) h3
        simp only [moved, num, er, if_neg n2, Int.toNat_natCast] at this
        rw [er]
        exact ⟨by omega, by omega, by simpa using this⟩
  intro j hj
  have hjl := hj
  rw [cutS, spotsTo_len S _ _ (Nat.le_refl _)] at hj
  obtain ⟨i, h1, h2, h3⟩ := cnt_from R S.length j hj
  have := (key _ ((hR.is i h1).1 h2)).2.2
  rw [Int.toNat_natCast, h3] at this
  exact (hR'.is j hjl).2 this

/-- A spot's place in a cut forest. -/
theorem idx_cut {S : List Fct} {P : List Pk} {I : List Bool} {s : Nat} {f : Fct} (h : OkFor S P) (hf : S[s]? = some f) (hb : atB I (s : Int) = true) : idxI (cutS S I) f = (cnt I s : Int) := by
  refine idxI_hit (cutS_at hf hb) (fun j hj e => ?_)
  obtain ⟨i, h1, h2, h3, h4⟩ := cutS_from e
  have := h.once hf h4
  subst this
  omega
theorem wf_nat {x : Int} (h : -1 ≤ x) (h' : x ≤ 140737488355328) : Wf x := by
  have e1 : IntKind.i64.min = -9223372036854775808 := by decide
  have e2 : IntKind.i64.max = 9223372036854775807 := by decide
  unfold Wf Lit.wf
  simp
  omega
theorem fits_cut {S : List Fct} {P : List Pk} {I : List Bool} (h : Fits S P) (ho : OkFor S P) : Fits (cutS S I) (cutP P I) := by
  have hS := h.s
  refine ⟨by have := cutS_len S I; omega, by have := cutP_len P I; have := h.p; omega, fun q hq => ?_⟩
  rw [cutP_is] at hq
  obtain ⟨p, hp, rfl⟩ := List.mem_map.1 hq
  obtain ⟨h1, -⟩ := List.mem_filter.1 hp
  obtain ⟨-, w1, w2, -, -⟩ := h.wf p h1
  obtain ⟨⟨s, es, hs⟩, h3⟩ := ho.pks p h1
  have c1 : ∀ x : Nat, x < S.length → Wf (cnt I x : Int) := fun x hx => wf_nat (by omega) (by have := cnt_le I x; omega)
  refine ⟨by simp only [moved, es, Int.toNat_natCast]; exact c1 s hs, w1, w2, ?_, ?_⟩
  · unfold moved num
    dsimp only
    split
    · exact wf_nat (by omega) (by omega)
    · rcases h3 with h3 | ⟨l, r, el, er, hl, hr⟩
      · omega
      · rw [el, Int.toNat_natCast]; exact c1 l hl
  · rcases leaf_pack (ho.goes p h1) with ⟨l1, l2⟩ | ⟨l1, l2⟩
    · simp only [moved, num, l2]
      rw [if_pos (by decide)]
      exact wf_nat (by decide) (by decide)
    · rcases h3 with h3 | ⟨l, r, el, er, hl, hr⟩
      · omega
      · have n2 : ¬ ((r : Int) < 0) := by omega
        simp only [moved, num, er, if_neg n2, Int.toNat_natCast]
        exact c1 r hr
end Go.Proofs.Ytbppbgdmoihooaa
