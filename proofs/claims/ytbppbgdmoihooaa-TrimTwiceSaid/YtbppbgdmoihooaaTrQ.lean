/- Forests: derivations as lists of packs: the plain law of Pick and Left (no program in sight). -/
import Derived.Test.YtbppbgdmoihooaaTrL
namespace Go.Proofs.Ytbppbgdmoihooaa

/-- A list is a derivation of a spot. -/
inductive Der (P : List Pk) : Int → List Pk → Prop
  | leaf (p : Pk) (hp : p ∈ P) (hl : p.left < 0) : Der P p.spot [p]
  | node (p : Pk) (hp : p ∈ P) (hl : ¬ p.left < 0) (a b : List Pk) (ha : Der P p.left a) (hb : Der P p.right b) : Der P p.spot (p :: (a ++ b))

/-- The pack by which a spot comes. -/
structure Via (P : List Pk) (n : Nat) (T Y : List Int) (s : Int) (i : Nat) (p : Pk) : Prop where
  y : at0 Y s = i
  hi : P[i]? = some p
  e : p.spot = s
  leaf : p.left < 0 → at0 T s = 1
  node : ¬ p.left < 0 → at0 T p.left ≠ 0 ∧ at0 T p.right ≠ 0 ∧ at0 T s = 1 + at0 T p.left + at0 T p.right

theorem via_of {P : List Pk} {n : Nat} {T Y : List Int} (h : Settled P n T) (hb : ByAt P n T Y) {s : Nat} (hs : s < n) (h0 : at0 T (s : Int) ≠ 0) (h1 : at0 T (s : Int) ≤ 4096) : ∃ i p, Via P n T Y s i p := by
  obtain ⟨i, p, hy, hi, he, hk⟩ := hb s hs h0
  have h2 := h.pre p (List.mem_of_getElem? hi)
  rw [he] at h2
  have hst := rk_inj (steps_val (p := p) h.val) (h.val.at (s : Int)) (Nat.le_antisymm hk h2)
  refine ⟨i, p, hy, hi, he, fun hl => ?_, fun hl => ?_⟩
  · rw [← hst]; simp [steps, hl]
  · have a1 := h.val.at p.left
    have a2 := h.val.at p.right
    unfold steps at hst
    rw [if_neg hl] at hst
    by_cases hz : at0 T p.left = 0 ∨ at0 T p.right = 0
    · rw [if_pos hz] at hst; omega
    · rw [if_neg hz] at hst
      split at hst
      · omega
      · omega

/-- The derivation that the packs by which spots come make. -/
def derAt (P : List Pk) (Y : List Int) : Nat → Int → List Pk
  | 0, _ => []
  | k + 1, s => match P[(at0 Y s).toNat]? with
    | some p => p :: (if p.left < 0 then [] else derAt P Y k p.left ++ derAt P Y k p.right)
    | none => []

theorem at0_in {T : List Int} {n : Nat} (hl : T.length = n) {i : Int} (h : at0 T i ≠ 0) : i.toNat < n := by
  rw [← hl]
  rcases Nat.lt_or_ge i.toNat T.length with h1 | h1
  · exact h1
  · unfold at0 at h
    rw [List.getElem?_eq_none h1] at h
    exact (h rfl).elim

theorem derAt_spec {P : List Pk} {n : Nat} {T Y : List Int} (h : Settled P n T) (hb : ByAt P n T Y) (hin : ∀ p ∈ P, ¬ p.left < 0 → 0 ≤ p.right) :
    ∀ (k : Nat) (s : Nat), at0 T (s : Int) ≠ 0 → at0 T (s : Int) ≤ 4096 → at0 T (s : Int) ≤ (k : Int) → Der P s (derAt P Y k s) ∧ ((derAt P Y k s).length : Int) = at0 T (s : Int) ∧ ∀ j : Nat, at0 T (s : Int) ≤ (j : Int) → derAt P Y j s = derAt P Y k s
  | 0, s, h0, _, hk => by have := h.val.at (s : Int); omega
  | k + 1, s, h0, h1, hk => by
    have hv := h.val.at (s : Int)
    obtain ⟨i, p, v⟩ := via_of h hb (by have := at0_in h.len h0; omega) h0 h1
    have hPi : P[(at0 Y (s : Int)).toNat]? = some p := by rw [v.y]; exact v.hi
    have hmem := List.mem_of_getElem? v.hi
    have e1 : derAt P Y (k + 1) s = p :: (if p.left < 0 then [] else derAt P Y k p.left ++ derAt P Y k p.right) := by
      show (match P[(at0 Y (s : Int)).toNat]? with | some p => _ | none => _) = _
      rw [hPi]
    by_cases hl : p.left < 0
    · rw [if_pos hl] at e1
      rw [e1, v.leaf hl]
      refine ⟨by rw [← v.e]; exact Der.leaf p hmem hl, rfl, fun j hj => ?_⟩
      obtain ⟨j, rfl⟩ : ∃ j', j = j' + 1 := ⟨j - 1, by omega⟩
      show (match P[(at0 Y (s : Int)).toNat]? with | some p => _ | none => _) = _
      rw [hPi]
      simp [hl]
    · obtain ⟨z1, z2, hsum⟩ := v.node hl
      have b1 := h.val.at p.left
      have b2 := h.val.at p.right
      obtain ⟨l, el⟩ : ∃ l : Nat, p.left = l := ⟨p.left.toNat, by omega⟩
      obtain ⟨r, er⟩ : ∃ r : Nat, p.right = r := ⟨p.right.toNat, by have := hin p hmem hl; omega⟩
      rw [el] at z1 b1 hsum
      rw [er] at z2 b2 hsum
      obtain ⟨d1, n1, f1⟩ := derAt_spec h hb hin k l z1 (by omega) (by omega)
      obtain ⟨d2, n2, f2⟩ := derAt_spec h hb hin k r z2 (by omega) (by omega)
      rw [if_neg hl, el, er] at e1
      rw [e1]
      refine ⟨?_, ?_, fun j hj => ?_⟩
      · rw [← v.e]
        exact Der.node p hmem hl _ _ (by rw [el]; exact d1) (by rw [er]; exact d2)
      · simp
        omega
      · obtain ⟨j, rfl⟩ : ∃ j', j = j' + 1 := ⟨j - 1, by omega⟩
        show (match P[(at0 Y (s : Int)).toNat]? with | some p => _ | none => _) = _
        rw [hPi]
        dsimp only
        rw [if_neg hl, el, er, f1 j (by omega), f2 j (by omega)]
end Go.Proofs.Ytbppbgdmoihooaa
