/- Forests: what is cut is a forest again: the plain law (no program in sight). -/
import Derived.Test.YtbppbgdmoihooaaTsI
import Derived.Test.YtbppbgdmoihooaaFnd
namespace Go.Proofs.Ytbppbgdmoihooaa

theorem lt3_trans {a b c a' b' c' a'' b'' c'' : Int} (h : lt3 a b c a' b' c' = true) (k : lt3 a' b' c' a'' b'' c'' = true) : lt3 a b c a'' b'' c'' = true := by
  unfold lt3 at *
  grind
theorem lt3_irrefl (a b c : Int) : lt3 a b c a b c = false := by simp [lt3]
theorem adj_lt {α : Type} {lt : α → α → Bool} (ht : ∀ a b c, lt a b = true → lt b c = true → lt a c = true) {l : List α} (h : ∀ i f g, l[i]? = some f → l[i + 1]? = some g → lt f g = true) : ∀ (d i : Nat) (f g : α), l[i]? = some f → l[i + d + 1]? = some g → lt f g = true
  | 0, i, f, g, hf, hg => h i f g hf hg
  | d + 1, i, f, g, hf, hg => by
    have hlt : i + (d + 1) + 1 < l.length := (List.getElem?_eq_some_iff.1 hg).1
    have hm : l[i + d + 1]? = some (l[i + d + 1]'(by omega)) := List.getElem?_eq_getElem _
    exact ht _ _ _ (adj_lt ht h d i _ _ hf hm) (h (i + d + 1) _ _ hm (by rw [show i + d + 1 + 1 = i + (d + 1) + 1 by omega]; exact hg))
theorem OkFor.less {S : List Fct} {P : List Pk} (h : OkFor S P) {i j : Nat} {f g : Fct} (hij : i < j) (hf : S[i]? = some f) (hg : S[j]? = some g) : f.lt g = true :=
  adj_lt (lt := Fct.lt) (fun _ _ _ h k => lt3_trans h k) (fun i f g hf hg => h.s i f g (List.getElem?_eq_some_iff.1 hg).1 hf hg) (j - i - 1) i f g hf (by rw [show i + (j - i - 1) + 1 = j by omega]; exact hg)
theorem OkFor.once {S : List Fct} {P : List Pk} (h : OkFor S P) {i j : Nat} {f : Fct} (hf : S[i]? = some f) (hg : S[j]? = some f) : i = j := by
  rcases Nat.lt_trichotomy i j with hlt | e | hlt
  · have := h.less hlt hf hg
    rw [Fct.lt, lt3_irrefl] at this
    cases this
  · exact e
  · have := h.less hlt hg hf
    rw [Fct.lt, lt3_irrefl] at this
    cases this
theorem OkFor.pair {S : List Fct} {P : List Pk} (h : OkFor S P) : P.Pairwise fun p q => p.lt q = true := by
  rw [List.pairwise_iff_getElem]
  intro i j hi hj hij
  refine adj_lt (lt := Pk.lt) (l := P) (fun _ _ _ h k => lt3_trans h k) (fun i f g hf hg => h.p.2 i f g (List.getElem?_eq_some_iff.1 hg).1 hf hg) (j - i - 1) i _ _ (List.getElem?_eq_getElem hi) ?_
  rw [show i + (j - i - 1) + 1 = j by omega]
  exact List.getElem?_eq_getElem hj

/-! Places. -/
theorem cnt_hit {I : List Bool} {k : Nat} (h : atB I k = true) : cnt I (k + 1) = cnt I k + 1 := by rw [cnt, if_pos h]
theorem cnt_step (I : List Bool) (k : Nat) : cnt I k ≤ cnt I (k + 1) := by rw [cnt]; split <;> omega
theorem cnt_mono (I : List Bool) {i j : Nat} (h : i ≤ j) : cnt I i ≤ cnt I j := by
  obtain ⟨d, rfl⟩ : ∃ d, j = i + d := ⟨j - i, by omega⟩
  clear h
  induction d with
  | zero => exact Nat.le_refl _
  | succ d ih => exact Nat.le_trans ih (cnt_step I (i + d))
theorem cnt_lt {I : List Bool} {i j : Nat} (hb : atB I i = true) (h : i < j) : cnt I i < cnt I j := by
  have := cnt_mono I (show i + 1 ≤ j from h)
  rw [cnt_hit hb] at this
  omega
theorem cnt_inj {I : List Bool} {i j : Nat} (hi : atB I i = true) (hj : atB I j = true) (h : cnt I i = cnt I j) : i = j := by
  rcases Nat.lt_trichotomy i j with h1 | h1 | h1
  · have := cnt_lt hi h1; omega
  · exact h1
  · have := cnt_lt hj h1; omega
theorem cnt_from (I : List Bool) : ∀ (k j : Nat), j < cnt I k → ∃ i, i < k ∧ atB I (i : Int) = true ∧ cnt I i = j
  | 0, j, h => by simp [cnt] at h
  | k + 1, j, h => by
    by_cases hb : atB I k = true
    · rw [cnt_hit hb] at h
      by_cases e : j = cnt I k
      · exact ⟨k, by omega, hb, e.symm⟩
      · obtain ⟨i, h1, h2, h3⟩ := cnt_from I k j (by omega)
        exact ⟨i, by omega, h2, h3⟩
    · rw [cnt, if_neg hb] at h
      obtain ⟨i, h1, h2, h3⟩ := cnt_from I k j h
      exact ⟨i, by omega, h2, h3⟩
theorem spotsTo_pre (S : List Fct) (I : List Bool) (k : Nat) : ∀ d, ∃ r, spotsTo S I (k + d) = spotsTo S I k ++ r
  | 0 => ⟨[], by simp⟩
  | d + 1 => by
    obtain ⟨r, h⟩ := spotsTo_pre S I k d
    show ∃ r, spotsTo S I (k + d + 1) = _
    rw [spotsTo]
    split
    · exact ⟨r ++ S[k + d]?.toList, by rw [h, List.append_assoc]⟩
    · exact ⟨r, h⟩
theorem cutS_at {S : List Fct} {I : List Bool} {i : Nat} {f : Fct} (hf : S[i]? = some f) (hb : atB I (i : Int) = true) : (cutS S I)[cnt I i]? = some f := by
  have hi := (List.getElem?_eq_some_iff.1 hf).1
  obtain ⟨r, hr⟩ := spotsTo_pre S I (i + 1) (S.length - (i + 1))
  rw [show i + 1 + (S.length - (i + 1)) = S.length by omega, spotsTo_hit hf hb] at hr
  unfold cutS
  rw [hr, List.append_assoc, List.getElem?_append_right (by rw [spotsTo_len S I i (by omega)]; exact Nat.le_refl _), spotsTo_len S I i (by omega)]
  simp
theorem cutS_from {S : List Fct} {I : List Bool} {j : Nat} {f : Fct} (hf : (cutS S I)[j]? = some f) : ∃ i, i < S.length ∧ atB I (i : Int) = true ∧ cnt I i = j ∧ S[i]? = some f := by
  have hj := (List.getElem?_eq_some_iff.1 hf).1
  rw [cutS, spotsTo_len S I _ (Nat.le_refl _)] at hj
  obtain ⟨i, h1, h2, h3⟩ := cnt_from I S.length j hj
  refine ⟨i, h1, h2, h3, ?_⟩
  have := cutS_at (S := S) (I := I) (i := i) (List.getElem?_eq_getElem h1) h2
  rw [h3, hf] at this
  rw [List.getElem?_eq_getElem h1, this]
theorem packsTo_is (P : List Pk) (I : List Bool) : ∀ k, packsTo P I k = ((P.take k).filter (keep I)).map (moved I)
  | 0 => by simp [packsTo]
  | k + 1 => by
    cases hp : P[k]? with
    | none =>
      rw [packsTo, hp]
      show packsTo P I k = _
      rw [packsTo_is P I k, List.take_of_length_le (by have := List.getElem?_eq_none_iff.1 hp; omega), List.take_of_length_le (by have := List.getElem?_eq_none_iff.1 hp; omega)]
    | some p =>
      rw [tk_snoc hp, List.filter_append, List.map_append]
      by_cases hk : keep I p = true
      · rw [packsTo_hit hp hk, packsTo_is P I k]
        simp [hk]
      · rw [packsTo_miss hp (by simpa using hk), packsTo_is P I k]
        simp [hk]
theorem cutP_is (P : List Pk) (I : List Bool) : cutP P I = (P.filter (keep I)).map (moved I) := by
  rw [cutP, packsTo_is, List.take_length]

theorem keep_iff {I : List Bool} {p : Pk} : keep I p = true ↔ atB I p.spot = true ∧ stay I p.left = true ∧ stay I p.right = true := by simp [keep]
theorem moved_lt {I : List Bool} {p q : Pk} (h : p.lt q = true) (hp : keep I p = true) (h0 : 0 ≤ p.spot ∧ 0 ≤ q.spot) : (moved I p).lt (moved I q) = true := by
  obtain ⟨a, -, -⟩ := keep_iff.1 hp
  obtain ⟨i, hi⟩ : ∃ i : Nat, p.spot = i := ⟨p.spot.toNat, by omega⟩
  obtain ⟨j, hj⟩ : ∃ j : Nat, q.spot = j := ⟨q.spot.toNat, by omega⟩
  rw [hi] at a
  simp only [Pk.lt, lt3, moved, hi, hj, Int.toNat_natCast] at h ⊢
  by_cases e : i = j
  · subst e
    simpa using h
  · have hij : i < j := by
      rw [if_pos (by omega)] at h
      simpa using h
    have := cnt_lt a hij
    rw [if_pos (by omega)]
    simpa using this
theorem num_stay {n : Nat} {I : List Bool} {x : Int} (hs : stay I x = true) (h0 : 0 ≤ x) (hx : x.toNat < n) : atB I x = true ∧ num I x = (cnt I x.toNat : Int) ∧ cnt I x.toNat < cnt I n := by
  have hb : atB I x = true := by unfold stay at hs; simpa [show ¬ x < 0 by omega] using hs
  refine ⟨hb, by rw [num, if_neg (by omega)], ?_⟩
  refine cnt_lt ?_ hx
  rw [Int.toNat_of_nonneg h0]
  exact hb
theorem moved_goes {S : List Fct} {I : List Bool} {p : Pk} (h : p.goes S = true) (hk : keep I p = true) : (moved I p).goes (cutS S I) = true := by
  obtain ⟨a, b, c⟩ := keep_iff.1 hk
  have hlen : (cutS S I).length = cnt I S.length := by rw [cutS, spotsTo_len S I _ (Nat.le_refl _)]
  unfold Pk.goes at h ⊢
  split at h
  · rename_i h1
    obtain ⟨s, es, hs⟩ := inB_get h1.1
    rw [es] at a
    have hcs : cnt I s < cnt I S.length := cnt_lt a hs
    have c1 : inB (cutS S I).length (moved I p).spot = true ∧ ¬ (moved I p).prod < 0 ∧ ¬ (moved I p).mid < 0 := ⟨by rw [inB_iff, hlen]; simp only [moved, es, Int.toNat_natCast]; omega, h1.2⟩
    rw [if_pos c1]
    split at h
    · rename_i h2
      have c2 : (moved I p).left = -1 ∧ (moved I p).right = -1 := by simp [moved, num, h2.1, h2.2]
      rw [if_pos c2]
      exact h
    · split at h
      · rename_i h2 h3
        obtain ⟨l, el, hl⟩ := inB_get h3.1
        obtain ⟨r, er, hr⟩ := inB_get h3.2
        have nl := num_stay (n := S.length) b (by omega) (by omega)
        have nr := num_stay (n := S.length) c (by omega) (by omega)
        rw [el] at nl
        rw [er] at nr
        simp only [Int.toNat_natCast] at nl nr
        have c2 : ¬ ((moved I p).left = -1 ∧ (moved I p).right = -1) := by simp only [moved, el, nl.2.1]; omega
        have c3 : inB (cutS S I).length (moved I p).left = true ∧ inB (cutS S I).length (moved I p).right = true := by
          simp only [moved, el, er, nl.2.1, nr.2.1, inB_iff, hlen]
          omega
        rw [if_neg c2, if_pos c3]
        simp only [moved, es, el, er, nl.2.1, nr.2.1, Int.toNat_natCast] at h ⊢
        rw [cutS_at (List.getElem?_eq_getElem hs) a, cutS_at (List.getElem?_eq_getElem hl) nl.1, cutS_at (List.getElem?_eq_getElem hr) nr.1]
        rw [List.getElem?_eq_getElem hs, List.getElem?_eq_getElem hl, List.getElem?_eq_getElem hr] at h
        exact h
      · cases h
  · cases h

/-- What stays has a pack that stays. -/
def Held (S : List Fct) (P : List Pk) (I : List Bool) : Prop := ∀ i : Nat, i < S.length → atB I (i : Int) = true → ∃ p ∈ P, p.spot = (i : Int) ∧ keep I p = true
theorem okfor_cut {S : List Fct} {P : List Pk} {I : List Bool} (h : OkFor S P) (hh : Held S P I) : OkFor (cutS S I) (cutP P I) := by
  have hgo : ∀ q ∈ cutP P I, q.goes (cutS S I) = true := fun q hq => by
    rw [cutP_is] at hq
    obtain ⟨p, hp, rfl⟩ := List.mem_map.1 hq
    obtain ⟨h1, h2⟩ := List.mem_filter.1 hp
    exact moved_goes (h.goes p h1) h2
  have hpw : (cutP P I).Pairwise fun p q => p.lt q = true := by
    rw [cutP_is, List.pairwise_map]
    have h1 := (h.pair.filter (keep I))
    refine List.Pairwise.imp_of_mem (fun {p q} hp hq hlt => ?_) h1
    obtain ⟨p1, p2⟩ := List.mem_filter.1 hp
    obtain ⟨q1, q2⟩ := List.mem_filter.1 hq
    obtain ⟨⟨s, es, -⟩, -⟩ := h.pks p p1
    obtain ⟨⟨t, et, -⟩, -⟩ := h.pks q q1
    exact moved_lt hlt p2 (by omega)
  refine ⟨fun i f g _ hf hg => ?_, ⟨fun i p _ hp => hgo p (List.mem_of_getElem? hp), fun i p q _ hp hq => ?_⟩, fun s hs => ?_⟩
  · obtain ⟨i1, h1, h2, h3, h4⟩ := cutS_from hf
    obtain ⟨j1, k1, k2, k3, k4⟩ := cutS_from hg
    have : i1 < j1 := by
      rcases Nat.lt_or_ge i1 j1 with hlt | hge
      · exact hlt
      · have := cnt_mono I hge; omega
    exact h.less this h4 k4
  · rw [List.pairwise_iff_getElem] at hpw
    obtain ⟨hi, ei⟩ := List.getElem?_eq_some_iff.1 hp
    obtain ⟨hj, ej⟩ := List.getElem?_eq_some_iff.1 hq
    have := hpw i (i + 1) hi hj (by omega)
    rw [ei, ej] at this
    exact this
  · rw [cutS, spotsTo_len S I _ (Nat.le_refl _)] at hs
    obtain ⟨i, h1, h2, h3⟩ := cnt_from I S.length s hs
    obtain ⟨p, hp, e, hk⟩ := hh i h1 h2
    refine ⟨moved I p, by rw [cutP_is]; exact List.mem_map.2 ⟨p, List.mem_filter.2 ⟨hp, hk⟩, rfl⟩, ?_⟩
    simp [moved, e, h3]
end Go.Proofs.Ytbppbgdmoihooaa
