/- Marks: a text cut into marks (plain law, no program in sight). -/
import Derived.Test.YthmkgnifcbnkpaaGreatEdB

namespace Go.Proofs.YthmkgnifcbnkpaaGreat
open Go.RowKit

def blankN (n : Nat) : Bool := decide (n = 32 ∨ n = 9 ∨ n = 10 ∨ n = 13)
def kindN (n : Nat) : Nat :=
  if n = 61 then 4 else if n = 59 then 5 else if n = 124 then 6 else if n = 42 then 7 else if n = 43 then 8 else if n = 63 then 9 else if n = 40 then 10 else if n = 41 then 11 else if n = 37 then 12
  else if 65 ≤ n ∧ n ≤ 90 then 1 else if 97 ≤ n ∧ n ≤ 122 then 2 else if letN n then 3 else 0
structure Mk where
  kind : Nat
  pl : Nat
  tx : List UInt8
deriving DecidableEq
def wordL (l : List UInt8) : List UInt8 := l.takeWhile fun b => letN b.toNat
def nextL : Nat → List UInt8 → Mk
  | p, [] => ⟨0, p, []⟩
  | p, b :: l => if blankN b.toNat then nextL (p + 1) l else if kindN b.toNat = 0 then ⟨0, p, []⟩ else ⟨kindN b.toNat, p, b :: (if kindN b.toNat ≤ 3 then wordL l else [])⟩
theorem kindN_le (n : Nat) : kindN n ≤ 12 := by
  unfold kindN
  repeat' split
  all_goals omega
theorem wordL_le (l : List UInt8) : (wordL l).length ≤ l.length := (List.takeWhile_sublist _).length_le
theorem wordL_pre (l : List UInt8) : ∃ r, l = wordL l ++ r ∧ ∀ b ∈ r.head?, letN b.toNat = false := by
  refine ⟨l.dropWhile fun b => letN b.toNat, (List.takeWhile_append_dropWhile).symm, fun b hb => ?_⟩
  have := List.head?_dropWhile_not (fun b : UInt8 => letN b.toNat) l
  rw [hb] at this
  simpa using this
/-- Where the next mark stands, and that it lies in the text. -/
theorem nextL_fit : ∀ (p : Nat) (l : List UInt8), p ≤ (nextL p l).pl ∧ (nextL p l).pl + (nextL p l).tx.length ≤ p + l.length ∧ ((nextL p l).kind ≠ 0 → 1 ≤ (nextL p l).tx.length) ∧ (nextL p l).kind ≤ 12 ∧ ((nextL p l).kind = 0 → (nextL p l).tx = [])
  | p, [] => by simp [nextL]
  | p, b :: l => by
    unfold nextL
    split
    · obtain ⟨h1, h2, h3, h4, h5⟩ := nextL_fit (p + 1) l
      simp only [List.length_cons]
      exact ⟨by omega, by omega, h3, h4, h5⟩
    · split
      · simp
      · have h1 := kindN_le b.toNat
        have h2 := wordL_le l
        rename_i h0
        refine ⟨Nat.le_refl _, ?_, fun _ => by simp, h1, fun h => (h0 h).elim⟩
        simp only [List.length_cons]
        split <;> simp <;> omega

/-- All marks, and the place of the first byte that begins none, or the end. -/
def scan (p : Nat) (l : List UInt8) : List Mk × Nat :=
  if _h : (nextL p l).kind = 0 then ([], (nextL p l).pl) else
    let q := (nextL p l).pl + (nextL p l).tx.length
    let r := scan q (l.drop (q - p))
    (nextL p l :: r.1, r.2)
termination_by l.length
decreasing_by
  have := nextL_fit p l
  rw [List.length_drop]
  omega
theorem scan_zero {p : Nat} {l : List UInt8} (h : (nextL p l).kind = 0) : scan p l = ([], (nextL p l).pl) := by
  rw [scan, dif_pos h]
theorem scan_more {p : Nat} {l : List UInt8} (h : (nextL p l).kind ≠ 0) :
    scan p l = (nextL p l :: (scan ((nextL p l).pl + (nextL p l).tx.length) (l.drop ((nextL p l).pl + (nextL p l).tx.length - p))).1, (scan ((nextL p l).pl + (nextL p l).tx.length) (l.drop ((nextL p l).pl + (nextL p l).tx.length - p))).2) := by
  rw [scan, dif_neg h]

/-- A mark of a text of so many bytes. -/
structure MkOk (S : Nat) (m : Mk) : Prop where
  lo : 1 ≤ m.kind
  hi : m.kind ≤ 12
  fit : m.pl + m.tx.length ≤ S
/-- Behind the first k marks the place p is reached. -/
structure Led (L : List UInt8) (k p : Nat) : Prop where
  rest : (scan 0 L).1.drop k = (scan p (L.drop p)).1
  fin : (scan 0 L).2 = (scan p (L.drop p)).2
  le : p ≤ L.length
  lek : k ≤ (scan 0 L).1.length
theorem Led.start (L : List UInt8) : Led L 0 0 := ⟨by simp, by simp, by omega, by omega⟩
theorem Led.more {L : List UInt8} {k p : Nat} (h : Led L k p) (hk : (nextL p (L.drop p)).kind ≠ 0) :
    (scan 0 L).1[k]? = some (nextL p (L.drop p)) ∧ Led L (k + 1) ((nextL p (L.drop p)).pl + (nextL p (L.drop p)).tx.length) := by
  have hf := nextL_fit p (L.drop p)
  have hs := scan_more hk
  generalize nextL p (L.drop p) = m at *
  have hle := h.le
  rw [List.length_drop] at hf
  have hd : (L.drop p).drop (m.pl + m.tx.length - p) = L.drop (m.pl + m.tx.length) := by
    rw [List.drop_drop]
    congr 1
    omega
  rw [hd] at hs
  have hr := h.rest
  rw [hs] at hr
  have h0 : (scan 0 L).1[k]? = some m := by
    have : ((scan 0 L).1.drop k)[0]? = some m := by rw [hr]; rfl
    rwa [List.getElem?_drop, Nat.add_zero] at this
  refine ⟨h0, ?_, ?_, by omega, ?_⟩
  · have := congrArg (List.drop 1) hr
    rw [List.drop_drop] at this
    simpa using this
  · rw [h.fin, hs]
  · have := (List.getElem?_eq_some_iff.1 h0).1
    omega
theorem Led.done {L : List UInt8} {k p : Nat} (h : Led L k p) (hk : (nextL p (L.drop p)).kind = 0) : k = (scan 0 L).1.length ∧ (scan 0 L).2 = (nextL p (L.drop p)).pl := by
  have hs := scan_zero hk
  have hr := h.rest
  rw [hs] at hr
  have h1 := congrArg List.length hr
  rw [List.length_drop] at h1
  have := h.lek
  refine ⟨by simp at h1; omega, ?_⟩
  rw [h.fin, hs]
theorem scan_ok : ∀ (n p : Nat) (l : List UInt8), l.length ≤ n → (∀ m ∈ (scan p l).1, MkOk (p + l.length) m) ∧ (scan p l).2 ≤ p + l.length ∧ p ≤ (scan p l).2
  | n, p, l, hn => by
    have hf := nextL_fit p l
    by_cases hk : (nextL p l).kind = 0
    · rw [scan_zero hk]
      exact ⟨by simp, by omega, by omega⟩
    · rw [scan_more hk]
      generalize nextL p l = m at *
      cases n with
      | zero => omega
      | succ n =>
        have ih := scan_ok n (m.pl + m.tx.length) (l.drop (m.pl + m.tx.length - p)) (by rw [List.length_drop]; omega)
        rw [List.length_drop] at ih
        refine ⟨fun x hx => ?_, by omega, by omega⟩
        rcases List.mem_cons.1 hx with rfl | hx
        · exact ⟨by omega, by omega, by omega⟩
        · obtain ⟨a, b, c⟩ := ih.1 x hx
          exact ⟨a, b, by omega⟩

/-! What the marks of a text tell. -/
inductive Rd where
  | bad (pl : Nat)
  | good (N : List Txt) (E : List Ed)
def wordK (m : Mk) : Bool := decide (1 ≤ m.kind ∧ m.kind ≤ 3)
def Mk.txt (m : Mk) : Txt := toTxt m.tx
def readM (e : Nat) : List Mk → List Txt → List Ed → Rd
  | [], N, E => .good N E
  | [m], _, _ => if wordK m then .bad e else .bad m.pl
  | [m, m2], N, E => if wordK m then (if m2.kind = 5 then .good (N ++ [m.txt]) E else if m2.kind = 2 then .bad e else .bad m2.pl) else .bad m.pl
  | [m, m2, m3], N, E => if wordK m then (if m2.kind = 5 then readM e [m3] (N ++ [m.txt]) E else if m2.kind = 2 then (if wordK m3 then .bad e else .bad m3.pl) else .bad m2.pl) else .bad m.pl
  | m :: m2 :: m3 :: m4 :: l, N, E =>
    if wordK m then (if m2.kind = 5 then readM e (m3 :: m4 :: l) (N ++ [m.txt]) E else if m2.kind = 2 then
      (if wordK m3 then (if m4.kind = 5 then readM e l N (E ++ [⟨m.txt, m2.txt, m3.txt⟩]) else .bad m4.pl) else .bad m3.pl) else .bad m2.pl) else .bad m.pl
end Go.Proofs.YthmkgnifcbnkpaaGreat
