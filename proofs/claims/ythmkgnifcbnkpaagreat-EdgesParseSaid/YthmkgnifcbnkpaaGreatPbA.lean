/- Edges: a printed graph is read back (the plain law). -/
import Derived.Test.YthmkgnifcbnkpaaGreatPaC
namespace Go.Proofs.YthmkgnifcbnkpaaGreat
open Go.RowKit

/-! The marks of a text, piece by piece. -/
theorem scan_blank {p : Nat} {b : UInt8} {l : List UInt8} (h : blankN b.toNat = true) : scan p (b :: l) = scan (p + 1) l := by
  have e : nextL p (b :: l) = nextL (p + 1) l := by rw [nextL, if_pos h]
  have hf := nextL_fit (p + 1) l
  by_cases hk : (nextL (p + 1) l).kind = 0
  · rw [scan_zero (by rw [e]; exact hk), scan_zero hk, e]
  · rw [scan_more (by rw [e]; exact hk), scan_more hk, e]
    have hd : (b :: l).drop ((nextL (p + 1) l).pl + (nextL (p + 1) l).tx.length - p) = l.drop ((nextL (p + 1) l).pl + (nextL (p + 1) l).tx.length - (p + 1)) := by
      rw [show (nextL (p + 1) l).pl + (nextL (p + 1) l).tx.length - p = ((nextL (p + 1) l).pl + (nextL (p + 1) l).tx.length - (p + 1)) + 1 by omega, List.drop_succ_cons]
    rw [hd]
theorem blank_kind {b : UInt8} (h : kindN b.toNat ≠ 0) : blankN b.toNat = false := by
  cases e : blankN b.toNat
  · rfl
  · exfalso
    have : b.toNat = 32 ∨ b.toNat = 9 ∨ b.toNat = 10 ∨ b.toNat = 13 := of_decide_eq_true e
    rcases this with h1 | h1 | h1 | h1 <;> (rw [h1] at h; exact h (by decide))
theorem let_kind {n : Nat} (h : letN n = true) : 1 ≤ kindN n ∧ kindN n ≤ 3 := by
  have h1 : (97 ≤ n ∧ n ≤ 122) ∨ (65 ≤ n ∧ n ≤ 90) ∨ (48 ≤ n ∧ n ≤ 57) ∨ n = 95 := of_decide_eq_true h
  unfold kindN
  rw [if_neg (by omega), if_neg (by omega), if_neg (by omega), if_neg (by omega), if_neg (by omega), if_neg (by omega), if_neg (by omega), if_neg (by omega), if_neg (by omega)]
  split
  · omega
  split
  · omega
  first
    | omega
    | (rw [if_pos h]; omega)
/-- Where no word goes on. -/
def Stop (r : List UInt8) : Prop := ∀ b ∈ r.head?, letN b.toNat = false
theorem wordL_app {l r : List UInt8} (h : ∀ b ∈ l, letN b.toNat = true) (hr : Stop r) : wordL (l ++ r) = l := by
  induction l with
  | nil =>
    cases r with
    | nil => rfl
    | cons b r => exact word_stop (hr b (by simp))
  | cons b l ih => rw [List.cons_append, word_step (h b (by simp)), ih (fun c hc => h c (by simp [hc]))]
theorem scan_word {p : Nat} {b : UInt8} {l r : List UInt8} (h : ∀ c ∈ b :: l, letN c.toNat = true) (hr : Stop r) :
    scan p (b :: l ++ r) = (⟨kindN b.toNat, p, b :: l⟩ :: (scan (p + (b :: l).length) r).1, (scan (p + (b :: l).length) r).2) := by
  have hb := h b (by simp)
  have hk := let_kind hb
  have e : nextL p (b :: l ++ r) = ⟨kindN b.toNat, p, b :: l⟩ := by
    rw [List.cons_append, nextL, if_neg (by rw [blank_kind (by omega)]; simp), if_neg (by omega), if_pos hk.2, wordL_app (fun c hc => h c (by simp [hc])) hr]
  rw [scan_more (by rw [e]; show kindN b.toNat ≠ 0; omega), e]
  dsimp only
  rw [show p + (b :: l).length - p = (b :: l).length by omega, List.drop_left]
theorem scan_sign {p : Nat} {b : UInt8} {r : List UInt8} (h : 3 < kindN b.toNat) :
    scan p (b :: r) = (⟨kindN b.toNat, p, [b]⟩ :: (scan (p + 1) r).1, (scan (p + 1) r).2) := by
  have e : nextL p (b :: r) = ⟨kindN b.toNat, p, [b]⟩ := by
    rw [nextL, if_neg (by rw [blank_kind (by omega)]; simp), if_neg (by omega), if_neg (by omega)]
  rw [scan_more (by rw [e]; show kindN b.toNat ≠ 0; omega), e]
  dsimp only
  rw [show p + [b].length - p = 1 by simp]
  rfl
theorem scan_nil (p : Nat) : scan p [] = ([], p) := scan_zero (by rfl)

/-! Reading along the list. -/
theorem drop_cons {α : Type} {L l : List α} {i : Nat} {m : α} (h : L.drop i = m :: l) : L[i]? = some m ∧ L.drop (i + 1) = l := by
  constructor
  · have := congrArg List.head? h
    simpa using this
  · rw [← List.tail_drop, h]
    rfl
theorem drop_none {α : Type} {L : List α} {i : Nat} (h : L.drop i = []) : L.length ≤ i ∧ ∀ j, i ≤ j → L[j]? = none := by
  have h1 : L.length ≤ i := List.drop_eq_nil_iff.1 h
  exact ⟨h1, fun j hj => List.getElem?_eq_none (by omega)⟩
theorem here_some {L : List Mk} {e i : Nat} {m : Mk} (h : L[i]? = some m) : hereM L e i = m := by rw [hereM, h]; rfl
theorem here_none {L : List Mk} {e i : Nat} (h : L[i]? = none) : hereM L e i = ⟨0, e, []⟩ := by rw [hereM, h]; rfl
theorem word_none (e : Nat) : wordK ⟨0, e, []⟩ = false := rfl
theorem readI_M (L : List Mk) (e : Nat) : ∀ (n i : Nat) (N : List Txt) (E : List Ed), L.length - i ≤ n → readI L e i N E = readM e (L.drop i) N E
  | n, i, N, E, hn => by
    rw [readI]
    match hd : L.drop i with
    | [] => rw [dif_pos (drop_none hd).1]; rfl
    | [m] =>
      obtain ⟨h0, hd1⟩ := drop_cons hd
      have n1 := (drop_none hd1).2
      have hlt := (List.getElem?_eq_some_iff.1 h0).1
      rw [dif_neg (by omega), here_some h0, here_none (n1 (i + 1) (by omega))]
      rw [readM]
      cases hw : wordK m <;> simp
    | [m, m2] =>
      obtain ⟨h0, hd1⟩ := drop_cons hd
      obtain ⟨h1, hd2⟩ := drop_cons hd1
      have n1 := (drop_none hd2)
      have hlt := (List.getElem?_eq_some_iff.1 h1).1
      rw [dif_neg (by omega), here_some h0, here_some h1, here_none (n1.2 (i + 1 + 1) (by omega)), word_none]
      rw [readM]
      have hr : readI L e (i + 2) (N ++ [m.txt]) E = .good (N ++ [m.txt]) E := by rw [readI, dif_pos n1.1]
      rw [hr]
      clear hr hd h0 hd1 h1 hd2 n1 hlt hn
      cases hw : wordK m <;> by_cases h5 : m2.kind = 5 <;> by_cases h2k : m2.kind = 2 <;> simp [h5, h2k]
    | [m, m2, m3] =>
      obtain ⟨h0, hd1⟩ := drop_cons hd
      obtain ⟨h1, hd2⟩ := drop_cons hd1
      obtain ⟨h2, hd3⟩ := drop_cons hd2
      have n1 := (drop_none hd3)
      have hlt := (List.getElem?_eq_some_iff.1 h2).1
      rw [dif_neg (by omega), here_some h0, here_some h1, here_some (i := i + 2) h2, here_none (n1.2 (i + 1 + 1 + 1) (by omega))]
      rw [readM]
      cases n with
      | zero => omega
      | succ n =>
        have hr : readI L e (i + 2) (N ++ [m.txt]) E = readM e [m3] (N ++ [m.txt]) E := by rw [readI_M L e n (i + 2) _ _ (by omega), hd2]
        rw [hr]
        clear hr hd h0 hd1 h1 hd2 h2 hd3 n1 hlt hn
        cases hw : wordK m <;> by_cases h5 : m2.kind = 5 <;> by_cases h2k : m2.kind = 2 <;> cases hw3 : wordK m3 <;> simp [h5, h2k]
    | m :: m2 :: m3 :: m4 :: l =>
      obtain ⟨h0, hd1⟩ := drop_cons hd
      obtain ⟨h1, hd2⟩ := drop_cons hd1
      obtain ⟨h2, hd3⟩ := drop_cons hd2
      obtain ⟨h3, hd4⟩ := drop_cons hd3
      have hlt := (List.getElem?_eq_some_iff.1 h3).1
      rw [dif_neg (by omega), here_some h0, here_some h1, here_some (i := i + 2) h2, here_some (i := i + 3) h3]
      rw [readM]
      cases n with
      | zero => omega
      | succ n =>
        have hr : readI L e (i + 2) (N ++ [m.txt]) E = readM e (m3 :: m4 :: l) (N ++ [m.txt]) E := by rw [readI_M L e n (i + 2) _ _ (by omega), hd2]
        have hr2 : readI L e (i + 4) N (E ++ [⟨m.txt, m2.txt, m3.txt⟩]) = readM e l N (E ++ [⟨m.txt, m2.txt, m3.txt⟩]) := by rw [readI_M L e n (i + 4) _ _ (by omega), hd4]
        rw [hr, hr2]
        clear hr hr2 hd h0 hd1 h1 hd2 h2 hd3 h3 hd4 hlt hn
        cases hw : wordK m <;> by_cases h5 : m2.kind = 5 <;> by_cases h2k : m2.kind = 2 <;> cases hw3 : wordK m3 <;> by_cases h45 : m4.kind = 5 <;> simp [h5, h2k, h45]
theorem readM_node {e : Nat} {m m2 : Mk} {l : List Mk} {N : List Txt} {E : List Ed} (h : wordK m = true) (h2 : m2.kind = 5) : readM e (m :: m2 :: l) N E = readM e l (N ++ [m.txt]) E := by
  match l with
  | [] => simp [readM, h, h2]
  | [m3] => simp [readM, h, h2]
  | m3 :: m4 :: l => rw [readM.eq_5, if_pos h, if_pos h2]
theorem readM_edge {e : Nat} {m m2 m3 m4 : Mk} {l : List Mk} {N : List Txt} {E : List Ed} (h : wordK m = true) (h2 : m2.kind = 2) (h3 : wordK m3 = true) (h4 : m4.kind = 5) :
    readM e (m :: m2 :: m3 :: m4 :: l) N E = readM e l N (E ++ [⟨m.txt, m2.txt, m3.txt⟩]) := by
  rw [readM.eq_5, if_pos h, if_neg (by omega), if_pos h2, if_pos h3, if_pos h4]
end Go.Proofs.YthmkgnifcbnkpaaGreat
