/- Edges: the first wrong place of a text (the plain law). -/
import Derived.Test.YthmkgnifcbnkpaaPbB
namespace Go.Proofs.Ythmkgnifcbnkpaa
open Go.RowKit

/-! A text that is cut where a mark begins. -/
def Blanks (l : List UInt8) : Prop := ∀ b ∈ l, blankN b.toNat = true
theorem scan_blanks {p : Nat} : ∀ {l r : List UInt8}, Blanks l → scan p (l ++ r) = scan (p + l.length) r
  | [], r, _ => by simp
  | b :: l, r, h => by
    rw [List.cons_append, scan_blank (h b (by simp)), scan_blanks (p := p + 1) (l := l) (fun c hc => h c (by simp [hc])), List.length_cons]
    congr 1
    omega
theorem kind_let {n : Nat} (h : kindN n ≤ 3) (h0 : kindN n ≠ 0) : letN n = true := by
  by_cases c0 : n = 61
  · subst c0; exact absurd h (by decide)
  by_cases c1 : n = 59
  · subst c1; exact absurd h (by decide)
  by_cases c2 : n = 124
  · subst c2; exact absurd h (by decide)
  by_cases c3 : n = 42
  · subst c3; exact absurd h (by decide)
  by_cases c4 : n = 43
  · subst c4; exact absurd h (by decide)
  by_cases c5 : n = 63
  · subst c5; exact absurd h (by decide)
  by_cases c6 : n = 40
  · subst c6; exact absurd h (by decide)
  by_cases c7 : n = 41
  · subst c7; exact absurd h (by decide)
  by_cases c8 : n = 37
  · subst c8; exact absurd h (by decide)
  cases hL : letN n with
  | true => rfl
  | false =>
    exfalso
    have hn : ¬ ((97 ≤ n ∧ n ≤ 122) ∨ (65 ≤ n ∧ n ≤ 90) ∨ (48 ≤ n ∧ n ≤ 57) ∨ n = 95) := of_decide_eq_false hL
    refine h0 ?_
    unfold kindN
    rw [if_neg c0, if_neg c1, if_neg c2, if_neg c3, if_neg c4, if_neg c5, if_neg c6, if_neg c7, if_neg c8, if_neg (by omega), if_neg (by omega), if_neg (by rw [hL]; simp)]
theorem wordL_all : ∀ (l : List UInt8), ∀ c ∈ wordL l, letN c.toNat = true
  | [], c, hc => by simp [wordL] at hc
  | b :: l, c, hc => by
    cases hb : letN b.toNat with
    | true =>
      rw [word_step hb] at hc
      rcases List.mem_cons.1 hc with rfl | hc
      · exact hb
      · exact wordL_all l c hc
    | false =>
      rw [word_stop hb] at hc
      simp at hc
/-- The first mark, and what stands ahead of it and behind it. -/
theorem next_split : ∀ (p : Nat) (l : List UInt8), ∃ bl rest, Blanks bl ∧ (nextL p l).pl = p + bl.length ∧ l = bl ++ ((nextL p l).tx ++ rest) ∧
    (((nextL p l).kind = 0 ∧ (nextL p l).tx = [] ∧ (∀ b ∈ rest.head?, kindN b.toNat = 0 ∧ blankN b.toNat = false)) ∨
     (∃ b t, (nextL p l).tx = b :: t ∧ (nextL p l).kind = kindN b.toNat ∧ kindN b.toNat ≠ 0 ∧ ((kindN b.toNat ≤ 3 ∧ (∀ c ∈ b :: t, letN c.toNat = true) ∧ Stop rest) ∨ (3 < kindN b.toNat ∧ t = []))))
  | p, [] => ⟨[], [], by intro b hb; simp at hb, by simp [nextL], by simp [nextL], .inl ⟨rfl, rfl, by simp⟩⟩
  | p, b :: l => by
    by_cases hb : blankN b.toNat = true
    · obtain ⟨bl, rest, h1, h2, h3, h4⟩ := next_split (p + 1) l
      have e : nextL p (b :: l) = nextL (p + 1) l := by rw [nextL, if_pos hb]
      refine ⟨b :: bl, rest, ?_, ?_, ?_, ?_⟩
      · intro c hc
        rcases List.mem_cons.1 hc with rfl | hc
        · exact hb
        · exact h1 c hc
      · rw [e, h2, List.length_cons]; omega
      · rw [e, List.cons_append, ← h3]
      · rw [e]; exact h4
    · have hb0 : blankN b.toNat = false := by simpa using hb
      by_cases hk : kindN b.toNat = 0
      · have e : nextL p (b :: l) = ⟨0, p, []⟩ := by rw [nextL, if_neg hb, if_pos hk]
        rw [e]
        refine ⟨[], b :: l, by intro c hc; simp at hc, by simp, by simp, .inl ⟨rfl, rfl, fun c hc => ?_⟩⟩
        obtain rfl : b = c := by simpa using hc
        exact ⟨hk, hb0⟩
      · have e : nextL p (b :: l) = ⟨kindN b.toNat, p, b :: (if kindN b.toNat ≤ 3 then wordL l else [])⟩ := by rw [nextL, if_neg hb, if_neg hk]
        rw [e]
        by_cases h3 : kindN b.toNat ≤ 3
        · obtain ⟨r, hr, hs⟩ := wordL_pre l
          refine ⟨[], r, by intro c hc; simp at hc, by simp, ?_, .inr ⟨b, _, rfl, rfl, hk, .inl ⟨h3, fun c hc => ?_, hs⟩⟩⟩
          · rw [if_pos h3]
            simp only [List.nil_append, List.cons_append]
            rw [← hr]
          · rw [if_pos h3] at hc
            rcases List.mem_cons.1 hc with rfl | hc
            · exact kind_let h3 hk
            · exact wordL_all l c hc
        · refine ⟨[], l, by intro c hc; simp at hc, by simp, ?_, .inr ⟨b, _, rfl, rfl, hk, .inr ⟨by omega, by rw [if_neg h3]⟩⟩⟩
          rw [if_neg h3]
          simp
/-- What may stand where something stood: nothing that a word goes on with, or what begins alike. -/
def Like (r o : List UInt8) : Prop := Stop r ∨ r.head? = o.head?
/-- Behind the first k marks, at the place p: the text up to there gives these marks whatever comes that may stand there. -/
def CutAt (L : List UInt8) (k p : Nat) : Prop := ∀ r, Like r (L.drop p) → scan 0 (L.take p ++ r) = ((scan 0 L).1.take k ++ (scan p r).1, (scan p r).2)
theorem CutAt.start (L : List UInt8) : CutAt L 0 0 := fun r _ => by simp
theorem take_of {α : Type} {L a b : List α} {p : Nat} (h : L.drop p = a ++ b) (_hp : p ≤ L.length) : L.take (p + a.length) = L.take p ++ a ∧ L.drop (p + a.length) = b := by
  constructor
  · rw [List.take_add, h, List.take_left]
  · rw [← List.drop_drop, h, List.drop_left]
theorem CutAt.pre {L : List UInt8} {k p : Nat} (h : CutAt L k p) (hp : p ≤ L.length) : CutAt L k (nextL p (L.drop p)).pl := by
  obtain ⟨bl, rest, hb, hpl, hl, -⟩ := next_split p (L.drop p)
  obtain ⟨ht, hd⟩ := take_of hl hp
  intro r hr
  rw [hpl] at hr ⊢
  rw [ht, List.append_assoc, h (bl ++ r) ?_, scan_blanks hb]
  rw [hl]
  cases bl with
  | nil =>
    have hd' : L.drop p = (nextL p (L.drop p)).tx ++ rest := by simpa using hd
    rw [hd] at hr
    simpa using hr
  | cons b bl => exact .inr (by simp)
theorem CutAt.more {L : List UInt8} {k p : Nat} (h : CutAt L k p) (hl : Led L k p) (hk : (nextL p (L.drop p)).kind ≠ 0) : CutAt L (k + 1) ((nextL p (L.drop p)).pl + (nextL p (L.drop p)).tx.length) := by
  have hpre := h.pre hl.le
  obtain ⟨hm, -⟩ := hl.more hk
  obtain ⟨bl, rest, hb, hpl, hs, hc⟩ := next_split p (L.drop p)
  obtain ⟨ht, hd⟩ := take_of hs hl.le
  rcases hc with ⟨h0, -⟩ | ⟨b, t, htx, hkd, hkn, hc⟩
  · exact (hk h0).elim
  generalize hmm : nextL p (L.drop p) = m at *
  rw [← hpl] at ht hd
  have hlen : m.pl ≤ L.length := by
    have := (nextL_fit p (L.drop p)).2.1
    rw [hmm, List.length_drop] at this
    have := hl.le
    omega
  obtain ⟨ht2, hd2⟩ := take_of hd hlen
  intro r hr
  rw [hd2] at hr
  rw [ht2, List.append_assoc, hpre (m.tx ++ r) (.inr (by rw [hd, htx]; simp)), take_snoc' hm, List.append_assoc]
  have hmk : m = ⟨kindN b.toNat, m.pl, b :: t⟩ := by
    obtain ⟨k1, p1, t1⟩ := m
    simp only at hkd htx
    subst hkd
    subst htx
    rfl
  have hsc : scan m.pl (m.tx ++ r) = (m :: (scan (m.pl + m.tx.length) r).1, (scan (m.pl + m.tx.length) r).2) := by
    rw [htx]
    rcases hc with ⟨h3, hlet, hst⟩ | ⟨h3, ht0⟩
    · have hstr : Stop r := by
        rcases hr with hr | hr
        · exact hr
        · intro c hcr
          rw [hr] at hcr
          exact hst c hcr
      rw [scan_word hlet hstr]
      rw [← hmk]
    · subst ht0
      rw [List.cons_append, List.nil_append, scan_sign h3, ← hmk]
      rfl
  rw [hsc]
  simp
/-- Where the mark number j begins; behind all of them: where reading ends. -/
theorem cut_here (L : List UInt8) : ∀ j, j ≤ (scan 0 L).1.length → CutAt L j (endPl ((scan 0 L).1.take j))
  | 0, _ => by simpa [endPl] using CutAt.start L
  | j + 1, hj => by
    have ih := cut_here L j (by omega)
    have hl := Led.all L j (by omega)
    have hne : (nextL (endPl ((scan 0 L).1.take j)) (L.drop (endPl ((scan 0 L).1.take j)))).kind ≠ 0 := by
      intro h
      have := (hl.done h).1
      omega
    have h1 := (hl.more hne).1
    rw [take_snoc' h1, endPl_snoc]
    exact ih.more hl hne
theorem cut_place (L : List UInt8) (j : Nat) (hj : j ≤ (scan 0 L).1.length) : CutAt L j (hereM (scan 0 L).1 (scan 0 L).2 j).pl ∧ (hereM (scan 0 L).1 (scan 0 L).2 j).pl ≤ L.length ∧
    (j = (scan 0 L).1.length → ∀ b ∈ (L.drop (scan 0 L).2).head?, kindN b.toNat = 0 ∧ blankN b.toNat = false) ∧
    (j < (scan 0 L).1.length → ∃ b t rest, L.drop (hereM (scan 0 L).1 (scan 0 L).2 j).pl = b :: t ++ rest ∧ (hereM (scan 0 L).1 (scan 0 L).2 j).tx = b :: t ∧ (hereM (scan 0 L).1 (scan 0 L).2 j).kind = kindN b.toNat ∧ kindN b.toNat ≠ 0 ∧ ((kindN b.toNat ≤ 3 ∧ (∀ c ∈ b :: t, letN c.toNat = true) ∧ Stop rest) ∨ (3 < kindN b.toNat ∧ t = []))) := by
  have hc := cut_here L j hj
  have hl := Led.all L j hj
  have hp := hc.pre hl.le
  obtain ⟨bl, rest, hb, hpl, hs, hcs⟩ := next_split (endPl ((scan 0 L).1.take j)) (L.drop (endPl ((scan 0 L).1.take j)))
  obtain ⟨ht, hd⟩ := take_of hs hl.le
  have hf := nextL_fit (endPl ((scan 0 L).1.take j)) (L.drop (endPl ((scan 0 L).1.take j)))
  rw [List.length_drop] at hf
  have hle := hl.le
  by_cases hk : (nextL (endPl ((scan 0 L).1.take j)) (L.drop (endPl ((scan 0 L).1.take j)))).kind = 0
  · obtain ⟨e1, e2⟩ := hl.done hk
    have hh : (hereM (scan 0 L).1 (scan 0 L).2 j).pl = (scan 0 L).2 := by rw [hereM, List.getElem?_eq_none (by omega)]; rfl
    rw [hh, e2]
    refine ⟨hp, by omega, fun _ => ?_, fun h => by omega⟩
    rcases hcs with ⟨-, htx, hz⟩ | ⟨b, t, -, hkd, hkn, -⟩
    · rw [hpl, hd, htx]
      simpa using hz
    · exact (hkn (hkd.symm.trans hk)).elim
  · obtain ⟨e1, -⟩ := hl.more hk
    have hh : hereM (scan 0 L).1 (scan 0 L).2 j = nextL (endPl ((scan 0 L).1.take j)) (L.drop (endPl ((scan 0 L).1.take j))) := by rw [hereM, e1]; rfl
    rw [hh]
    have hlt := (List.getElem?_eq_some_iff.1 e1).1
    refine ⟨hp, by omega, fun h => by omega, fun _ => ?_⟩
    rcases hcs with ⟨h0, -⟩ | ⟨b, t, htx, hkd, hkn, hcc⟩
    · exact (hk h0).elim
    · exact ⟨b, t, rest, by rw [hpl, hd, htx], htx, hkd, hkn, hcc⟩

/-! How reading goes on, mark by mark: the place in a statement. -/
def goB (st : Nat) (m : Mk) : Bool := if st = 1 then (decide (m.kind = 5) || decide (m.kind = 2)) else if st = 3 then decide (m.kind = 5) else wordK m
def nx (st : Nat) (m : Mk) : Nat := if st = 3 then 0 else if st = 1 ∧ m.kind = 5 then 0 else st + 1
def runS : Nat → List Mk → Option Nat
  | st, [] => some st
  | st, m :: l => if goB st m then runS (nx st m) l else none
theorem runS_app : ∀ (st : Nat) (l l' : List Mk), runS st (l ++ l') = (runS st l).bind fun s => runS s l'
  | st, [], l' => rfl
  | st, m :: l, l' => by
    rw [List.cons_append, runS, runS]
    split
    · exact runS_app _ l l'
    · rfl
theorem runS_snoc {L : List Mk} {i st : Nat} {m : Mk} (h : runS 0 (L.take i) = some st) (hm : L[i]? = some m) (hg : goB st m = true) : runS 0 (L.take (i + 1)) = some (nx st m) := by
  rw [take_snoc' hm, runS_app, h]
  simp [runS, hg]
theorem here_at {L : List Mk} {e i : Nat} (h : i < L.length) : L[i]? = some (hereM L e i) := by
  rw [hereM, List.getElem?_eq_getElem h]
  rfl
/-- Reading stops at the mark number j, in the place st of a statement. -/
def StopsAt (L : List Mk) (e p : Nat) : Prop := ∃ j st, j ≤ L.length ∧ runS 0 (L.take j) = some st ∧ p = (hereM L e j).pl ∧ (j < L.length → goB st (hereM L e j) = false) ∧ (j = L.length → st ≠ 0) ∧ st ≤ 3
theorem here_word {L : List Mk} {e i : Nat} (h : wordK (hereM L e i) = true) : i < L.length := by
  rcases Nat.lt_or_ge i L.length with h1 | h1
  · exact h1
  · rw [hereM, List.getElem?_eq_none h1] at h
    cases h
theorem here_kind {L : List Mk} {e i : Nat} (h : (hereM L e i).kind ≠ 0) : i < L.length := by
  rcases Nat.lt_or_ge i L.length with h1 | h1
  · exact h1
  · rw [hereM, List.getElem?_eq_none h1] at h
    exact (h rfl).elim
theorem readI_run (L : List Mk) (e : Nat) : ∀ (n i : Nat) (N : List Txt) (E : List Ed), L.length - i ≤ n → i ≤ L.length → runS 0 (L.take i) = some 0 →
    (∀ p, readI L e i N E = .bad p → StopsAt L e p) ∧ (∀ N' E', readI L e i N E = .good N' E' → runS 0 L = some 0)
  | n, i, N, E, hn, hi, hr => by
    rw [readI]
    by_cases h0 : L.length ≤ i
    · rw [dif_pos h0]
      refine ⟨fun p h => (by cases h), fun _ _ _ => ?_⟩
      rwa [List.take_of_length_le h0] at hr
    rw [dif_neg h0]
    by_cases hw : wordK (hereM L e i) = false
    · rw [if_pos hw]
      refine ⟨fun p h => ?_, fun _ _ h => by cases h⟩
      injection h with h
      exact ⟨i, 0, hi, hr, h.symm, fun _ => by simpa [goB] using hw, fun h => by omega, by omega⟩
    rw [if_neg hw]
    have hw' : wordK (hereM L e i) = true := by simpa using hw
    have r1 := runS_snoc hr (here_at (e := e) (by omega)) (by simpa [goB] using hw')
    rw [show nx 0 (hereM L e i) = 1 by simp [nx]] at r1
    cases n with
    | zero => omega
    | succ n =>
    by_cases h5 : (hereM L e (i + 1)).kind = 5
    · rw [if_pos h5]
      have hlt := here_kind (L := L) (e := e) (i := i + 1) (by omega)
      have r2 := runS_snoc r1 (here_at (e := e) hlt) (by simp [goB, h5])
      rw [show nx 1 (hereM L e (i + 1)) = 0 by simp [nx, h5]] at r2
      exact readI_run L e n (i + 2) _ E (by omega) (by omega) r2
    rw [if_neg h5]
    by_cases h2 : (hereM L e (i + 1)).kind = 2
    · rw [if_neg (by omega)]
      have hlt := here_kind (L := L) (e := e) (i := i + 1) (by omega)
      have r2 := runS_snoc r1 (here_at (e := e) hlt) (by simp [goB, h2])
      rw [show nx 1 (hereM L e (i + 1)) = 2 by simp [nx, h2]] at r2
      by_cases hw2 : wordK (hereM L e (i + 2)) = false
      · rw [if_pos hw2]
        refine ⟨fun p h => ?_, fun _ _ h => by cases h⟩
        injection h with h
        exact ⟨i + 2, 2, by omega, r2, h.symm, fun _ => by simpa [goB] using hw2, fun _ => by omega, by omega⟩
      rw [if_neg hw2]
      have hw2' : wordK (hereM L e (i + 2)) = true := by simpa using hw2
      have hlt2 := here_word hw2'
      have r3 := runS_snoc r2 (here_at (e := e) hlt2) (by simpa [goB] using hw2')
      rw [show nx 2 (hereM L e (i + 2)) = 3 by simp [nx]] at r3
      by_cases h53 : (hereM L e (i + 3)).kind = 5
      · rw [if_neg (by omega)]
        have hlt3 := here_kind (L := L) (e := e) (i := i + 3) (by omega)
        have r4 := runS_snoc r3 (here_at (e := e) hlt3) (by simp [goB, h53])
        rw [show nx 3 (hereM L e (i + 3)) = 0 by simp [nx]] at r4
        exact readI_run L e n (i + 4) N _ (by omega) (by omega) r4
      · rw [if_pos h53]
        refine ⟨fun p h => ?_, fun _ _ h => by cases h⟩
        injection h with h
        exact ⟨i + 3, 3, by omega, r3, h.symm, fun _ => by simp [goB, h53], fun _ => by omega, by omega⟩
    · rw [if_pos h2]
      refine ⟨fun p h => ?_, fun _ _ h => by cases h⟩
      injection h with h
      exact ⟨i + 1, 1, by omega, r1, h.symm, fun _ => by simp [goB, h5, h2], fun _ => by omega, by omega⟩
/-- What runs to the end of a statement is read. -/
theorem read_good {L : List Mk} (e : Nat) (h : runS 0 L = some 0) : ∃ N E, readI L e 0 [] [] = .good N E := by
  cases hr : readI L e 0 [] [] with
  | good N E => exact ⟨N, E, rfl⟩
  | bad p =>
    obtain ⟨j, st, hj, h1, -, h2, h3, -⟩ := (readI_run L e _ 0 [] [] (Nat.le_refl _) (Nat.zero_le _) rfl).1 p hr
    exfalso
    rcases Nat.lt_or_ge j L.length with hlt | hge
    · have hs := here_at (e := e) hlt
      have : runS 0 L = none := by
        rw [← List.take_append_drop j L, runS_app, h1, List.drop_eq_getElem_cons hlt]
        have : L[j] = hereM L e j := by rw [List.getElem?_eq_getElem hlt] at hs; injection hs
        rw [this]
        simp [runS, h2 hlt]
      rw [h] at this
      cases this
    · have hje : j = L.length := by omega
      rw [hje, List.take_length, h] at h1
      injection h1 with h1
      exact h3 hje h1.symm
theorem run_take {L : List Mk} {j j' st st' : Nat} {m : Mk} (h : runS 0 (L.take j) = some st) (h' : runS 0 (L.take j') = some st') (hm : L[j]? = some m) (hg : goB st m = false) : j' ≤ j := by
  rcases Nat.lt_or_ge j j' with hlt | hge
  · exfalso
    have e : L.take j' = L.take j ++ (m :: (L.take j').drop (j + 1)) := by
      have h1 : (L.take j').take j = L.take j := by rw [List.take_take, Nat.min_eq_left (by omega)]
      have h2 : (L.take j')[j]? = some m := by rw [List.getElem?_take, if_pos hlt, hm]
      have h3 := (List.getElem?_eq_some_iff.1 h2)
      rw [← h1, ← h3.2, ← List.drop_eq_getElem_cons h3.1, List.take_append_drop]
    rw [e, runS_app, h] at h'
    simp [runS, hg] at h'
  · exact hge
/-- What does not go on there is told there. -/
theorem read_bad {L : List Mk} {e j st : Nat} (hj : j ≤ L.length) (h : runS 0 (L.take j) = some st) (hg : j < L.length → goB st (hereM L e j) = false) (h0 : j = L.length → st ≠ 0) : readI L e 0 [] [] = .bad (hereM L e j).pl := by
  have hr := readI_run L e _ 0 [] [] (Nat.le_refl _) (Nat.zero_le _) rfl
  cases hc : readI L e 0 [] [] with
  | good N E =>
    exfalso
    have hL := hr.2 N E hc
    rcases Nat.lt_or_ge j L.length with hlt | hge
    · have := run_take h (j' := L.length) (st' := 0) (by rw [List.take_length]; exact hL) (here_at (e := e) hlt) (hg hlt)
      omega
    · have hje : j = L.length := by omega
      rw [hje, List.take_length, hL] at h
      injection h with h
      exact h0 hje h.symm
  | bad p =>
    obtain ⟨j', st', hj', h1, hp, h2, h3, -⟩ := hr.1 p hc
    have e1 : j' ≤ j := by
      rcases Nat.lt_or_ge j L.length with hlt | hge
      · exact run_take h h1 (here_at (e := e) hlt) (hg hlt)
      · omega
    have e2 : j ≤ j' := by
      rcases Nat.lt_or_ge j' L.length with hlt | hge
      · exact run_take h1 h (here_at (e := e) hlt) (h2 hlt)
      · omega
    obtain rfl : j = j' := by omega
    rw [hp]
end Go.Proofs.Ythmkgnifcbnkpaa
