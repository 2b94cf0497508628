/- Graphs: the plain law of growth. -/
import Derived.Test.YthmkgnifcbnkpaaGreatPaC
import Derived.Test.YthmkgnifcbnkpaaGreatJnA
namespace Go.Proofs.YthmkgnifcbnkpaaGreat
open Go.RowKit

/-! The marks of a text, piece by piece. -/
theorem scan_blank {p : Nat} {b : UInt8} {l : List UInt8} (h : blankN b.toNat = true) : scan p (b :: l) = scan (p + 1) l := by
  have e : nextL p (b :: l) = nextL (p + 1) l := by rw [nextL, if_pos h]
  have hf := nextL_fit (p + 1) l
  by_cases hk : (nextL (p + 1) l).kind = 0
  · rw [scan_zero (by rw [e]; exact hk), scan_zero hk, e]
  · rw [scan_more (by rw [e]; exact hk), scan_more hk, e]
    have hd : (b :: l).drop ((nextL (p + 1) l).pl + (nextL (p + 1) l).tx.length - p) = l.drop ((nextL (p + 1) l).pl + (nextL (p + 1) l).tx.length - (p + 1)) := by
      rw [show (nextL (p + 1) l).pl + (nextL (p + 1) l).tx.length - p = ((nextL (p + 1) l).pl + (nextL (p + 1) l).tx.length - (p + 1)) + 1 by omega, List.drop_succ_cons]
    rw [hd]
theorem blank_kind {b : UInt8} (h : kindN b.toNat ≠ 0) : blankN b.toNat = false := by
  cases e : blankN b.toNat
  · rfl
  · exfalso
    have : b.toNat = 32 ∨ b.toNat = 9 ∨ b.toNat = 10 ∨ b.toNat = 13 := of_decide_eq_true e
    rcases this with h1 | h1 | h1 | h1 <;> (rw [h1] at h; exact h (by decide))
theorem let_kind {n : Nat} (h : letN n = true) : 1 ≤ kindN n ∧ kindN n ≤ 3 := by
  have h1 : (97 ≤ n ∧ n ≤ 122) ∨ (65 ≤ n ∧ n ≤ 90) ∨ (48 ≤ n ∧ n ≤ 57) ∨ n = 95 := of_decide_eq_true h
  unfold kindN
  rw [if_neg (by omega), if_neg (by omega), if_neg (by omega), if_neg (by omega), if_neg (by omega), if_neg (by omega), if_neg (by omega), if_neg (by omega), if_neg (by omega)]
  split
  · omega
  split
  · omega
  first
    | omega
    | (rw [if_pos h]; omega)
/-- Where no word goes on. -/
def Stop (r : List UInt8) : Prop := ∀ b ∈ r.head?, letN b.toNat = false
theorem wordL_app {l r : List UInt8} (h : ∀ b ∈ l, letN b.toNat = true) (hr : Stop r) : wordL (l ++ r) = l := by
  induction l with
  | nil =>
    cases r with
    | nil => rfl
    | cons b r => exact word_stop (hr b (by simp))
  | cons b l ih => rw [List.cons_append, word_step (h b (by simp)), ih (fun c hc => h c (by simp [hc]))]
theorem scan_word {p : Nat} {b : UInt8} {l r : List UInt8} (h : ∀ c ∈ b :: l, letN c.toNat = true) (hr : Stop r) :
    scan p (b :: l ++ r) = (⟨kindN b.toNat, p, b :: l⟩ :: (scan (p + (b :: l).length) r).1, (scan (p + (b :: l).length) r).2) := by
  have hb := h b (by simp)
  have hk := let_kind hb
  have e : nextL p (b :: l ++ r) = ⟨kindN b.toNat, p, b :: l⟩ := by
    rw [List.cons_append, nextL, if_neg (by rw [blank_kind (by omega)]; simp), if_neg (by omega), if_pos hk.2, wordL_app (fun c hc => h c (by simp [hc])) hr]
  rw [scan_more (by rw [e]; show kindN b.toNat ≠ 0; omega), e]
  dsimp only
  rw [show p + (b :: l).length - p = (b :: l).length by omega, List.drop_left]
theorem scan_sign {p : Nat} {b : UInt8} {r : List UInt8} (h : 3 < kindN b.toNat) :
    scan p (b :: r) = (⟨kindN b.toNat, p, [b]⟩ :: (scan (p + 1) r).1, (scan (p + 1) r).2) := by
  have e : nextL p (b :: r) = ⟨kindN b.toNat, p, [b]⟩ := by
    rw [nextL, if_neg (by rw [blank_kind (by omega)]; simp), if_neg (by omega), if_neg (by omega)]
  rw [scan_more (by rw [e]; show kindN b.toNat ≠ 0; omega), e]
  dsimp only
  rw [show p + [b].length - p = 1 by simp]
  rfl
theorem scan_nil (p : Nat) : scan p [] = ([], p) := scan_zero (by rfl)

/-! Reading along the list. -/
theorem drop_cons {α : Type} {L l : List α} {i : Nat} {m : α} (h : L.drop i = m :: l) : L[i]? = some m ∧ L.drop (i + 1) = l := by
  constructor
  · have := congrArg List.head? h
    simpa using this
  · rw [← List.tail_drop, h]
    rfl
theorem drop_none {α : Type} {L : List α} {i : Nat} (h : L.drop i = []) : L.length ≤ i ∧ ∀ j, i ≤ j → L[j]? = none := by
  have h1 : L.length ≤ i := List.drop_eq_nil_iff.1 h
  exact ⟨h1, fun j hj => List.getElem?_eq_none (by omega)⟩
theorem here_some {L : List Mk} {e i : Nat} {m : Mk} (h : L[i]? = some m) : hereM L e i = m := by rw [hereM, h]; rfl
theorem here_none {L : List Mk} {e i : Nat} (h : L[i]? = none) : hereM L e i = ⟨0, e, []⟩ := by rw [hereM, h]; rfl
theorem word_none (e : Nat) : wordK ⟨0, e, []⟩ = false := rfl
theorem readI_M (L : List Mk) (e : Nat) : ∀ (n i : Nat) (N : List Txt) (E : List Ed), L.length - i ≤ n → readI L e i N E = readM e (L.drop i) N E
  | n, i, N, E, hn => by
    rw [readI]
    match hd : L.drop i with
    | [] => rw [dif_pos (drop_none hd).1]; rfl
    | [m] =>
      obtain ⟨h0, hd1⟩ := drop_cons hd
      have n1 := (drop_none hd1).2
      have hlt := (List.getElem?_eq_some_iff.1 h0).1
      rw [dif_neg (by omega), here_some h0, here_none (n1 (i + 1) (by omega))]
      rw [readM]
      cases hw : wordK m <;> simp
    | [m, m2] =>
      obtain ⟨h0, hd1⟩ := drop_cons hd
      obtain ⟨h1, hd2⟩ := drop_cons hd1
      have n1 := (drop_none hd2)
      have hlt := (List.getElem?_eq_some_iff.1 h1).1
      rw [dif_neg (by omega), here_some h0, here_some h1, here_none (n1.2 (i + 1 + 1) (by omega)), word_none]
      rw [readM]
      have hr : readI L e (i + 2) (N ++ [m.txt]) E = .good (N ++ [m.txt]) E := by rw [readI, dif_pos n1.1]
      rw [hr]
      clear hr hd h0 hd1 h1 hd2 n1 hlt hn
      cases hw : wordK m <;> by_cases h5 : m2.kind = 5 <;> by_cases h2k : m2.kind = 2 <;> simp [h5, h2k]
    | [m, m2, m3] =>
      obtain ⟨h0, hd1⟩ := drop_cons hd
      obtain ⟨h1, hd2⟩ := drop_cons hd1
      obtain ⟨h2, hd3⟩ := drop_cons hd2
      have n1 := (drop_none hd3)
      have hlt := (List.getElem?_eq_some_iff.1 h2).1
      rw [dif_neg (by omega), here_some h0, here_some h1, here_some (i := i + 2) h2, here_none (n1.2 (i + 1 + 1 + 1) (by omega))]
      rw [readM]
      cases n with
      | zero => omega
      | succ n =>
        have hr : readI L e (i + 2) (N ++ [m.txt]) E = readM e [m3] (N ++ [m.txt]) E := by rw [readI_M L e n (i + 2) _ _ (by omega), hd2]
        rw [hr]
        clear hr hd h0 hd1 h1 hd2 h2 hd3 n1 hlt hn
        cases hw : wordK m <;> by_cases h5 : m2.kind = 5 <;> by_cases h2k : m2.kind = 2 <;> cases hw3 : wordK m3 <;> simp [h5, h2k]
    | m :: m2 :: m3 :: m4 :: l =>
      obtain ⟨h0, hd1⟩ := drop_cons hd
      obtain ⟨h1, hd2⟩ := drop_cons hd1
      obtain ⟨h2, hd3⟩ := drop_cons hd2
      obtain ⟨h3, hd4⟩ := drop_cons hd3
      have hlt := (List.getElem?_eq_some_iff.1 h3).1
      rw [dif_neg (by omega), here_some h0, here_some h1, here_some (i := i + 2) h2, here_some (i := i + 3) h3]
      rw [readM]
      cases n with
      | zero => omega
      | succ n =>
        have hr : readI L e (i + 2) (N ++ [m.txt]) E = readM e (m3 :: m4 :: l) (N ++ [m.txt]) E := by rw [readI_M L e n (i + 2) _ _ (by omega), hd2]
        have hr2 : readI L e (i + 4) N (E ++ [⟨m.txt, m2.txt, m3.txt⟩]) = readM e l N (E ++ [⟨m.txt, m2.txt, m3.txt⟩]) := by rw [readI_M L e n (i + 4) _ _ (by omega), hd4]
        rw [hr, hr2]
        clear hr hr2 hd h0 hd1 h1 hd2 h2 hd3 h3 hd4 hlt hn
        cases hw : wordK m <;> by_cases h5 : m2.kind = 5 <;> by_cases h2k : m2.kind = 2 <;> cases hw3 : wordK m3 <;> by_cases h45 : m4.kind = 5 <;> simp [h5, h2k, h45]
theorem readM_node {e : Nat} {m m2 : Mk} {l : List Mk} {N : List Txt} {E : List Ed} (h : wordK m = true) (h2 : m2.kind = 5) : readM e (m :: m2 :: l) N E = readM e l (N ++ [m.txt]) E := by
  match l with
  | [] => simp [readM, h, h2]
  | [m3] => simp [readM, h, h2]
  | m3 :: m4 :: l => rw [readM.eq_5, if_pos h, if_pos h2]
theorem readM_edge {e : Nat} {m m2 m3 m4 : Mk} {l : List Mk} {N : List Txt} {E : List Ed} (h : wordK m = true) (h2 : m2.kind = 2) (h3 : wordK m3 = true) (h4 : m4.kind = 5) :
    readM e (m :: m2 :: m3 :: m4 :: l) N E = readM e l N (E ++ [⟨m.txt, m2.txt, m3.txt⟩]) := by
  rw [readM.eq_5, if_pos h, if_neg (by omega), if_pos h2, if_pos h3, if_pos h4]
end Go.Proofs.YthmkgnifcbnkpaaGreat
namespace Go.Proofs.YthmkgnifcbnkpaaGreat
open Go.RowKit

theorem name_let {s : Txt} (h : nameB s = true) : ∃ b l, s.data.toList = b :: l ∧ ∀ c ∈ b :: l, letN c.toNat = true := by
  have h1 := nameB_short h
  rw [← size_data] at h1
  unfold nameB at h
  rw [Bool.and_eq_true, List.all_eq_true] at h
  match hd : s.data.toList with
  | [] => rw [hd] at h1; simp at h1
  | b :: l => exact ⟨b, l, rfl, fun c hc => h.2 c (by rw [hd]; exact hc)⟩
theorem label_low {s : Txt} (h : labelB s = true) : ∃ b l, s.data.toList = b :: l ∧ (∀ c ∈ b :: l, letN c.toNat = true) ∧ kindN b.toNat = 2 := by
  obtain ⟨b, l, hd, hl⟩ := name_let (labelB_name h)
  refine ⟨b, l, hd, hl, ?_⟩
  unfold labelB at h
  rw [Bool.and_eq_true, hd] at h
  have h2 : 97 ≤ b.toNat ∧ b.toNat ≤ 122 := of_decide_eq_true h.2
  unfold kindN
  rw [if_neg (by omega), if_neg (by omega), if_neg (by omega), if_neg (by omega), if_neg (by omega), if_neg (by omega), if_neg (by omega), if_neg (by omega), if_neg (by omega), if_neg (by omega), if_pos h2]
/-- The mark of a name, at a place. -/
def mkW (p : Nat) (s : Txt) : Mk := ⟨kindN (s.data.toList.headD 0).toNat, p, s.data.toList⟩
theorem mkW_word {p : Nat} {s : Txt} (h : nameB s = true) : wordK (mkW p s) = true := by
  obtain ⟨b, l, hd, hl⟩ := name_let h
  have := let_kind (hl b (by simp))
  simp [wordK, mkW, hd]
  omega
theorem mkW_low {p : Nat} {s : Txt} (h : labelB s = true) : (mkW p s).kind = 2 := by
  obtain ⟨b, l, hd, _, hk⟩ := label_low h
  simp [mkW, hd, hk]
theorem mkW_txt (p : Nat) (s : Txt) : (mkW p s).txt = s := by
  unfold Mk.txt mkW
  rw [toTxt_list]
theorem scan_name {p : Nat} {s : Txt} {r : List UInt8} (h : nameB s = true) (hr : Stop r) : scan p (s.data.toList ++ r) = (mkW p s :: (scan (p + s.size) r).1, (scan (p + s.size) r).2) := by
  obtain ⟨b, l, hd, hl⟩ := name_let h
  have hz : s.size = (b :: l).length := by rw [← hd, size_data]
  unfold mkW
  rw [hd, hz, scan_word hl hr]
  rfl
def semi (p : Nat) : Mk := ⟨5, p, [59]⟩
theorem scan_semi {p : Nat} {r : List UInt8} : scan p (59 :: r) = (semi p :: (scan (p + 1) r).1, (scan (p + 1) r).2) := scan_sign (by decide)
theorem stop_of {c : UInt8} (h : letN c.toNat = false) (r : List UInt8) : Stop (c :: r) := fun b hb => by
  obtain rfl : c = b := by simpa using hb
  exact h
theorem stop_32 (r : List UInt8) : Stop (32 :: r) := stop_of (by decide) r
theorem stop_9 (r : List UInt8) : Stop (9 :: r) := stop_of (by decide) r
theorem stop_59 (r : List UInt8) : Stop (59 :: r) := stop_of (by decide) r

/-- What a list of bytes tells from a place on: nodes, edges; and it is read to its end. -/
def Tells (l : List UInt8) (N : List Txt) (E : List Ed) : Prop := ∀ (p : Nat) (r : List UInt8) (e : Nat) (N0 : List Txt) (E0 : List Ed),
  readM e (scan p (l ++ r)).1 N0 E0 = readM e (scan (p + l.length) r).1 (N0 ++ N) (E0 ++ E) ∧ (scan p (l ++ r)).2 = (scan (p + l.length) r).2
theorem Tells.nil : Tells [] [] [] := fun p r e N0 E0 => by simp
theorem Tells.app {l l' : List UInt8} {N N' : List Txt} {E E' : List Ed} (h : Tells l N E) (k : Tells l' N' E') : Tells (l ++ l') (N ++ N') (E ++ E') := fun p r e N0 E0 => by
  obtain ⟨a, b⟩ := h p (l' ++ r) e N0 E0
  obtain ⟨c, d⟩ := k (p + l.length) r e (N0 ++ N) (E0 ++ E)
  rw [List.append_assoc, List.length_append, ← Nat.add_assoc, a, b, c, d]
  simp
theorem Tells.flatN {f : Txt → List UInt8} : ∀ {N : List Txt}, (∀ s ∈ N, Tells (f s) [s] []) → Tells (N.flatMap f) N []
  | [], _ => Tells.nil
  | s :: N, h => by
    have := (h s (by simp)).app (Tells.flatN (f := f) (N := N) (fun t ht => h t (by simp [ht])))
    simpa using this
theorem Tells.flatE {f : Ed → List UInt8} : ∀ {E : List Ed}, (∀ x ∈ E, Tells (f x) [] [x]) → Tells (E.flatMap f) [] E
  | [], _ => Tells.nil
  | s :: E, h => by
    have := (h s (by simp)).app (Tells.flatE (f := f) (E := E) (fun t ht => h t (by simp [ht])))
    simpa using this
theorem tells_node {s : Txt} (h : nameB s = true) : Tells (lineN s) [s] [] := fun p r e N0 E0 => by
  have hs : lineN s ++ r = s.data.toList ++ (32 :: 59 :: 10 :: r) := by simp [lineN, sepL]
  have hl : (lineN s).length = s.size + 3 := lineN_len s
  rw [hs, hl, scan_name h (stop_32 _), scan_blank (by decide), scan_semi, scan_blank (by decide)]
  dsimp only
  rw [readM_node (mkW_word h) rfl, mkW_txt, List.append_nil]
  exact ⟨by simp only [Nat.add_assoc], by simp only [Nat.add_assoc]⟩
theorem tells_edge {x : Ed} (h1 : nameB x.fr = true) (h2 : labelB x.lb = true) (h3 : nameB x.to = true) : Tells (lineE x) [] [x] := fun p r e N0 E0 => by
  have hs : lineE x ++ r = x.fr.data.toList ++ (32 :: (x.lb.data.toList ++ (32 :: (x.to.data.toList ++ (32 :: 59 :: 10 :: r))))) := by simp [lineE, sepL]
  have hl : (lineE x).length = x.fr.size + 1 + x.lb.size + 1 + x.to.size + 3 := by rw [lineE_len]; omega
  rw [hs, hl, scan_name h1 (stop_32 _), scan_blank (by decide), scan_name (labelB_name h2) (stop_32 _), scan_blank (by decide), scan_name h3 (stop_32 _), scan_blank (by decide), scan_semi, scan_blank (by decide)]
  dsimp only
  rw [readM_edge (mkW_word h1) (mkW_low h2) (mkW_word h3) rfl, mkW_txt, mkW_txt, mkW_txt, List.append_nil]
  exact ⟨by simp only [Nat.add_assoc], by simp only [Nat.add_assoc]⟩
theorem tells_text {N : List Txt} {E : List Ed} (h : namedB N E = true) : Tells (textL N E) (loneL N E) E := by
  have hn := named_iff.1 h
  have a := Tells.flatN (f := lineN) (N := loneL N E) (fun s hs => tells_node (hn.1 s (loneL_sub hs)))
  have b := Tells.flatE (f := lineE) (E := E) (fun x hx => tells_edge (hn.2 x hx).1 (hn.2 x hx).2.1 (hn.2 x hx).2.2)
  have := a.app b
  simpa [textL] using this
/-- A whole text that tells nodes and edges is read so. -/
theorem Tells.parse {s : Txt} {N : List Txt} {E : List Ed} (h : Tells s.data.toList N E) (hs : s.size ≤ 2048) : parseO s = if ofI N E = 0 then ⟨gN N E, gE E, 0, 0⟩ else ⟨[], [], 0, ofI N E⟩ := by
  obtain ⟨a, b⟩ := h 0 [] (enOf s) [] []
  rw [List.append_nil, scan_nil] at a b
  have hr : readI (msOf s) (enOf s) 0 [] [] = .good N E := by
    rw [readI_M _ _ _ _ _ _ (Nat.le_refl _), List.drop_zero]
    unfold msOf
    rw [a]
    simp [readM]
  have he : enOf s = s.size := by
    unfold enOf
    rw [b, Nat.zero_add, size_data]
  rw [parseO, if_neg (by omega), hr]
  dsimp only
  rw [if_neg (by omega)]

/-! A graph that may be. -/
theorem form_iff {N : List Txt} {E : List Ed} (h : formB N E = true) : Rises ltT N ∧ Rises ltE E ∧ ∀ x ∈ E, x.fr ∈ N ∧ x.to ∈ N := by
  unfold formB at h
  rw [Bool.and_eq_true, Bool.and_eq_true, List.all_eq_true] at h
  refine ⟨rises_of_up stoT h.1, rises_of_up stoE h.2.1, fun x hx => ?_⟩
  have := h.2.2 x hx
  unfold endsIn at this
  rw [Bool.and_eq_true, inB_iff, inB_iff] at this
  exact this
theorem gN_form {N M : List Txt} {E : List Ed} (h : Rises ltT N) (_he : ∀ x ∈ E, x.fr ∈ N ∧ x.to ∈ N) (hm : ∀ s, s ∈ N ↔ s ∈ M ∨ ∃ x ∈ E, s = x.fr ∨ s = x.to) : gN M E = N :=
  setOf_eq stoT (up_of_rises h) (fun s => (hm s).trans mem_all.symm)
theorem gE_form {E : List Ed} (h : Rises ltE E) : gE E = E := setOf_eq stoE (up_of_rises h) (fun _ => Iff.rfl)
theorem ofI_form {N M : List Txt} {E : List Ed} (h : checkI N E = 0) (hM : ∀ s, s ∈ N ↔ s ∈ M ∨ ∃ x ∈ E, s = x.fr ∨ s = x.to) : ofI M E = 0 ∧ gN M E = N ∧ gE E = E := by
  obtain ⟨h1, h2, h3⟩ := check_caps h
  obtain ⟨f1, f2, f3⟩ := form_iff h1
  have e1 := gN_form f1 f3 hM
  have e2 := gE_form f2
  refine ⟨?_, e1, e2⟩
  have hn := named_iff.1 h2
  have hn' : namedB M E = true := named_iff.2 ⟨fun s hs => hn.1 s ((hM s).2 (.inl hs)), hn.2⟩
  rw [ofI, if_neg (by rw [hn']; simp), e1, e2, h3]
theorem lone_all {N : List Txt} {E : List Ed} (he : ∀ x ∈ E, x.fr ∈ N ∧ x.to ∈ N) (s : Txt) : s ∈ N ↔ s ∈ loneL N E ∨ ∃ x ∈ E, s = x.fr ∨ s = x.to := by
  constructor
  · intro hs
    by_cases h : ∃ x ∈ E, s = x.fr ∨ s = x.to
    · exact .inr h
    · exact .inl (mem_lone.2 ⟨hs, h⟩)
  · rintro (h | ⟨x, hx, rfl | rfl⟩)
    · exact (mem_lone.1 h).1
    · exact (he x hx).1
    · exact (he x hx).2
/-- What may be, and is printed, is read back. -/
theorem back_text {N : List Txt} {E : List Ed} (h : checkI N E = 0) : parseO ⟨(textL N E).toArray⟩ = ⟨N, E, 0, 0⟩ := by
  obtain ⟨h1, h2, h3⟩ := check_caps h
  obtain ⟨f1, f2, f3⟩ := form_iff h1
  obtain ⟨a, b, c⟩ := ofI_form h (M := loneL N E) (lone_all f3)
  have ht := tells_text h2
  have hz : (⟨(textL N E).toArray⟩ : Txt).size ≤ 2048 := by
    rw [← size_data]
    simpa using (caps_le h3).2.2.2
  rw [Tells.parse (s := ⟨(textL N E).toArray⟩) (N := loneL N E) (E := E) (by simpa using ht) hz, if_pos a, b, c]
/-- What is read may be. -/
theorem check_made {N : List Txt} {E : List Ed} (h : ofI N E = 0) : checkI (gN N E) (gE E) = 0 := by
  have hn := named_iff.1 (ofI_named h)
  have u1 := (setOf_is stoT (allT N E)).up
  have u2 := (setOf_is stoE E).up
  have hf : formB (gN N E) (gE E) = true := by
    unfold formB
    rw [Bool.and_eq_true, Bool.and_eq_true, List.all_eq_true]
    refine ⟨up_of_rises u1, up_of_rises u2, fun x hx => ?_⟩
    unfold endsIn
    rw [Bool.and_eq_true, inB_iff, inB_iff]
    have := gE_mem.1 hx
    exact ⟨gN_mem.2 (.inr ⟨x, this, .inl rfl⟩), gN_mem.2 (.inr ⟨x, this, .inr rfl⟩)⟩
  have hm : namedB (gN N E) (gE E) = true := by
    refine named_iff.2 ⟨fun s hs => ?_, fun x hx => hn.2 x (gE_mem.1 hx)⟩
    rcases gN_mem.1 hs with h1 | ⟨x, hx, rfl | rfl⟩
    · exact hn.1 s h1
    · exact (hn.2 x hx).1
    · exact (hn.2 x hx).2.2
  rw [checkI, if_neg (by rw [hf]; simp), if_neg (by rw [hm]; simp), ofI_caps h]
theorem check_read {s : Txt} (h : (parseO s).err = 0) : checkI (parseO s).N (parseO s).E = 0 := by
  unfold parseO at h ⊢
  split
  · rename_i h1
    rw [if_pos h1] at h
    cases h
  rename_i h1
  rw [if_neg h1] at h
  split
  · rename_i p hp
    rw [hp] at h
    cases h
  · rename_i N E hp
    rw [hp] at h
    dsimp only at h ⊢
    split
    · rename_i h2
      rw [if_pos h2] at h
      cases h
    rename_i h2
    rw [if_neg h2] at h
    split
    · rename_i h3
      exact check_made h3
    · rename_i h3
      rw [if_neg h3] at h
      exact (h3 h).elim
end Go.Proofs.YthmkgnifcbnkpaaGreat
namespace Go.Proofs.YthmkgnifcbnkpaaGreat
open Go.RowKit

theorem i64_and1023 (n : Int) : bits .and .i64 n 1023 = n % 1024 := by
  have h127 : (BitVec.ofInt 64 1023).toNat = 2 ^ 10 - 1 := by decide
  have key : (BitVec.ofInt 64 n &&& BitVec.ofInt 64 1023).toNat = (n % ((2 ^ 64 : Nat) : Int)).toNat % 2 ^ 10 := by
    rw [BitVec.toNat_and, BitVec.toNat_ofInt, h127, Nat.and_two_pow_sub_one_eq_mod]
  show IntKind.i64.wrap ((BitVec.ofInt 64 n &&& BitVec.ofInt 64 1023).toNat : Nat) = n % 1024
  rw [key, IntKind.wrap_i64]
  omega
/-- By how much the nodes are turned. -/
theorem turn_is (turn : Int) {n : Nat} (hn : 0 < n) : ∃ q : Nat, q < n ∧ (bits .and .i64 turn 1023).tmod (n : Int) = (q : Int) := by
  rw [i64_and1023]
  have h0 : 0 ≤ turn % 1024 := Int.emod_nonneg _ (by decide)
  rw [Int.tmod_eq_emod_of_nonneg h0]
  have h1 := Int.emod_nonneg (turn % 1024) (show (n : Int) ≠ 0 by omega)
  have h2 := Int.emod_lt_of_pos (turn % 1024) (show (0 : Int) < (n : Int) by omega)
  exact ⟨((turn % 1024) % (n : Int)).toNat, by omega, by omega⟩
def tellN (s : Txt) : List UInt8 := s.data.toList ++ [59]
def tellE (x : Ed) : List UInt8 := x.fr.data.toList ++ [32] ++ x.lb.data.toList ++ [9] ++ x.to.data.toList ++ [59]
theorem tells_tellN {s : Txt} (h : nameB s = true) : Tells (tellN s) [s] [] := fun p r e N0 E0 => by
  have hs : tellN s ++ r = s.data.toList ++ (59 :: r) := by simp [tellN]
  have hl : (tellN s).length = s.size + 1 := by simp [tellN]
  rw [hs, hl, scan_name h (stop_59 _), scan_semi]
  dsimp only
  rw [readM_node (mkW_word h) rfl, mkW_txt, List.append_nil]
  exact ⟨by simp only [Nat.add_assoc], by simp only [Nat.add_assoc]⟩
theorem tells_tellE {x : Ed} (h1 : nameB x.fr = true) (h2 : labelB x.lb = true) (h3 : nameB x.to = true) : Tells (tellE x) [] [x] := fun p r e N0 E0 => by
  have hs : tellE x ++ r = x.fr.data.toList ++ (32 :: (x.lb.data.toList ++ (9 :: (x.to.data.toList ++ (59 :: r))))) := by simp [tellE]
  have hl : (tellE x).length = x.fr.size + 1 + x.lb.size + 1 + x.to.size + 1 := by simp [tellE]; omega
  rw [hs, hl, scan_name h1 (stop_32 _), scan_blank (by decide), scan_name (labelB_name h2) (stop_9 _), scan_blank (by decide), scan_name h3 (stop_59 _), scan_semi]
  dsimp only
  rw [readM_edge (mkW_word h1) (mkW_low h2) (mkW_word h3) rfl, mkW_txt, mkW_txt, mkW_txt, List.append_nil]
  exact ⟨by simp only [Nat.add_assoc], by simp only [Nat.add_assoc]⟩
/-- What tells the same nodes and edges makes the same graph. -/
theorem same_of {N M : List Txt} {E F : List Ed} (h : checkI N E = 0) (hN : ∀ s, s ∈ M ↔ s ∈ N) (hE : ∀ x, x ∈ F ↔ x ∈ E) : ofI M F = 0 ∧ gN M F = N ∧ gE F = E := by
  obtain ⟨f1, f2, f3⟩ := form_iff (check_caps h).1
  obtain ⟨a, b, c⟩ := ofI_form h (M := N) (fun s => ⟨.inl, fun hs => by
    rcases hs with hs | ⟨x, hx, rfl | rfl⟩
    · exact hs
    · exact (f3 x hx).1
    · exact (f3 x hx).2⟩)
  have hends : ∀ s, (s ∈ M ∨ ∃ x ∈ F, s = x.fr ∨ s = x.to) ↔ (s ∈ N ∨ ∃ x ∈ E, s = x.fr ∨ s = x.to) := fun s => by
    constructor
    · rintro (hs | ⟨x, hx, hs⟩)
      · exact .inl ((hN s).1 hs)
      · exact .inr ⟨x, (hE x).1 hx, hs⟩
    · rintro (hs | ⟨x, hx, hs⟩)
      · exact .inl ((hN s).2 hs)
      · exact .inr ⟨x, (hE x).2 hx, hs⟩
  refine ⟨?_, by rw [gN_same hends, b], by rw [gE_same hE, c]⟩
  rw [ofI_same hends hE (fun s hs => .inl ((hN s).1 hs)) (fun s hs => .inl ((hN s).2 hs)), a]
/-- The text that tells them so, if it is none too long. -/
theorem told_text {N M : List Txt} {E F : List Ed} (h : checkI N E = 0) (hN : ∀ s, s ∈ M ↔ s ∈ N) (hE : ∀ x, x ∈ F ↔ x ∈ E) {T : Txt} (hT : T.data.toList = M.flatMap tellN ++ F.flatMap tellE) (hs : T.size ≤ 2048) : parseO T = ⟨N, E, 0, 0⟩ := by
  have hn := named_iff.1 (check_caps h).2.1
  obtain ⟨a, b, c⟩ := same_of h hN hE
  have t1 := Tells.flatN (f := tellN) (N := M) (fun s hs => tells_tellN (hn.1 s ((hN s).1 hs)))
  have t2 := Tells.flatE (f := tellE) (E := F) (fun x hx => tells_tellE (hn.2 x ((hE x).1 hx)).1 (hn.2 x ((hE x).1 hx)).2.1 (hn.2 x ((hE x).1 hx)).2.2)
  have t := t1.app t2
  rw [List.append_nil, List.nil_append, ← hT] at t
  rw [Tells.parse t hs, if_pos a, b, c]
/-- Join gives the same in either order. -/
theorem join_comm {N : List Txt} {E : List Ed} {M : List Txt} {F : List Ed} (h : checkI N E = 0) : joinI N E M F = joinI M F N E ∧ joinN N E M F = joinN M F N E ∧ joinE N E M F = joinE M F N E := by
  have hm : ∀ s : Txt, s ∈ N ++ M ↔ s ∈ M ++ N := fun s => by simp [or_comm]
  have he : ∀ x : Ed, x ∈ E ++ F ↔ x ∈ F ++ E := fun s => by simp [or_comm]
  have hends : ∀ s, (s ∈ N ++ M ∨ ∃ x ∈ E ++ F, s = x.fr ∨ s = x.to) ↔ (s ∈ M ++ N ∨ ∃ x ∈ F ++ E, s = x.fr ∨ s = x.to) := fun s => by
    constructor
    · rintro (hs | ⟨x, hx, hs⟩)
      · exact .inl ((hm s).1 hs)
      · exact .inr ⟨x, (he x).1 hx, hs⟩
    · rintro (hs | ⟨x, hx, hs⟩)
      · exact .inl ((hm s).2 hs)
      · exact .inr ⟨x, (he x).2 hx, hs⟩
  have e1 : ofI (N ++ M) (E ++ F) = ofI (M ++ N) (F ++ E) := ofI_same hends he (fun s hs => .inl ((hm s).1 hs)) (fun s hs => .inl ((hm s).2 hs))
  have e2 : joinI N E M F = joinI M F N E := by
    unfold joinI
    rw [if_neg (by rw [h]; simp)]
    by_cases hc : checkI M F ≠ 0
    · rw [if_pos hc, if_pos hc]
    · rw [if_neg hc, if_neg hc, if_neg (by rw [h]; simp), e1]
  refine ⟨e2, ?_, ?_⟩
  · unfold joinN
    rw [e2, gN_same hends]
  · unfold joinE
    rw [e2, gE_same he]
theorem join_self {N : List Txt} {E : List Ed} (h : checkI N E = 0) : joinI N E N E = 0 ∧ joinN N E N E = N ∧ joinE N E N E = E := by
  obtain ⟨a, b, c⟩ := same_of h (M := N ++ N) (F := E ++ E) (fun s => by simp) (fun x => by simp)
  have e : joinI N E N E = 0 := by rw [joinI, if_neg (by rw [h]; simp), if_neg (by rw [h]; simp), a]
  exact ⟨e, by rw [joinN, if_pos e, b], by rw [joinE, if_pos e, c]⟩
end Go.Proofs.YthmkgnifcbnkpaaGreat
namespace Go.Proofs.YthmkgnifcbnkpaaGreat
open Go.RowKit

def stepC (s : Gr × Nat) (x : Ed) : Gr × Nat := ((addEdge s.1 x).1, s.2 + if (addEdge s.1 x).2.1 = true then 1 else 0)
def grwE (L : List Ed) : Gr × Nat := L.foldl stepC (⟨[], []⟩, 0)
def grwN (G : Gr) (M : List Txt) : Gr := M.foldl (fun G s => (addNode G s).1) G
theorem grwE_take {L : List Ed} {i : Nat} {x : Ed} (h : L[i]? = some x) : grwE (L.take (i + 1)) = stepC (grwE (L.take i)) x := by
  unfold grwE
  rw [List.take_add_one, h, List.foldl_append]
  rfl
theorem grwN_take {G : Gr} {M : List Txt} {i : Nat} {s : Txt} (h : M[i]? = some s) : grwN G (M.take (i + 1)) = (addNode (grwN G (M.take i)) s).1 := by
  unfold grwN
  rw [List.take_add_one, h, List.foldl_append]
  rfl
theorem grwE_okk : ∀ (L : List Ed) (s : Gr × Nat), GOk s.1 → GOk (L.foldl stepC s).1
  | [], _, h => h
  | x :: L, s, h => grwE_okk L (stepC s x) (h.edge x)
theorem grwE_ok (L : List Ed) : GOk (grwE L).1 := grwE_okk L _ GOk.new
theorem grwN_ok : ∀ (M : List Txt) (G : Gr), GOk G → GOk (grwN G M)
  | [], _, h => h
  | s :: M, G, h => grwN_ok M (addNode G s).1 (h.node s)
theorem grwE_cnt : ∀ (L : List Ed) (s : Gr × Nat), (L.foldl stepC s).2 ≤ s.2 + L.length
  | [], s => by simp
  | x :: L, s => by
    have := grwE_cnt L (stepC s x)
    rw [List.foldl_cons, List.length_cons]
    refine Nat.le_trans this ?_
    unfold stepC
    dsimp only
    split <;> omega
theorem addEdge_yes {G : Gr} {x : Ed} (hx : x ∉ G.X) (h : ofI G.N (G.X ++ [x]) = 0) : addEdge G x = (⟨addN (addN G.N x.fr) x.to, G.X ++ [x]⟩, true, 0) := by
  unfold addEdge
  rw [if_neg hx, if_pos h]
theorem addNode_in {G : Gr} {s : Txt} (h : s ∈ G.N) : addNode G s = (G, false, 0) := by
  unfold addNode
  rw [if_pos (inB_iff.2 h)]
theorem grow_whole {N : List Txt} {E : List Ed} (hc : checkI N E = 0) : ∀ (L : List Ed) (G : Gr) (k : Nat), (G.X ++ L).Nodup → (∀ x ∈ G.X ++ L, x ∈ E) → (∀ s ∈ G.N, s ∈ N) →
    (L.foldl stepC (G, k)).1.X = G.X ++ L ∧ (L.foldl stepC (G, k)).2 = k + L.length ∧ ∀ s ∈ (L.foldl stepC (G, k)).1.N, s ∈ N
  | [], G, k, _, _, hN => ⟨by simp, by simp, hN⟩
  | x :: L, G, k, hd, hE, hN => by
    have hx : x ∉ G.X := fun h => by
      rw [List.nodup_append] at hd
      exact hd.2.2 x h x (by simp) rfl
    have hofi : ofI G.N (G.X ++ [x]) = 0 := ofI_sub (N := N) (E := E) (fun s hs => .inl (hN s hs)) (fun y hy => hE y (by
      rcases List.mem_append.1 hy with hy | hy
      · exact List.mem_append.2 (.inl hy)
      · rw [List.mem_singleton] at hy
        subst hy
        simp)) (same_of hc (fun _ => Iff.rfl) (fun _ => Iff.rfl)).1
    have hs : stepC (G, k) x = (⟨addN (addN G.N x.fr) x.to, G.X ++ [x]⟩, k + 1) := by
      unfold stepC
      rw [addEdge_yes hx hofi]
      rfl
    obtain ⟨-, -, f3⟩ := form_iff (check_caps hc).1
    have hxE := f3 x (hE x (by simp))
    obtain ⟨a, b, c⟩ := grow_whole hc L ⟨addN (addN G.N x.fr) x.to, G.X ++ [x]⟩ (k + 1) (by simpa using hd) (by simpa using hE) (fun s hs => by
      simp only [mem_addN] at hs
      rcases hs with (hs | rfl) | rfl
      · exact hN s hs
      · exact hxE.1
      · exact hxE.2)
    rw [List.foldl_cons, hs]
    exact ⟨by rw [a]; simp, by rw [b, List.length_cons]; omega, c⟩
theorem grwN_whole {N : List Txt} {E : List Ed} (hc : checkI N E = 0) : ∀ (M : List Txt) (G : Gr), (∀ x ∈ G.X, x ∈ E) → (∀ s ∈ G.N, s ∈ N) → (∀ s ∈ M, s ∈ N) →
    (grwN G M).X = G.X ∧ (∀ s ∈ (grwN G M).N, s ∈ N) ∧ (∀ s ∈ G.N, s ∈ (grwN G M).N) ∧ ∀ s ∈ M, s ∈ (grwN G M).N
  | [], G, _, hN, _ => ⟨rfl, hN, fun _ h => h, fun _ h => (by cases h)⟩
  | s :: M, G, hE, hN, hM => by
    have key : (addNode G s).1.X = G.X ∧ (∀ t, t ∈ (addNode G s).1.N ↔ t ∈ G.N ∨ t = s) := by
      by_cases hs : s ∈ G.N
      · rw [addNode_in hs]
        refine ⟨rfl, fun t => ⟨.inl, ?_⟩⟩
        rintro (h | rfl)
        · exact h
        · exact hs
      · have hofi : ofI (G.N ++ [s]) G.X = 0 := ofI_sub (N := N) (E := E) (fun t ht => .inl (by
          rcases List.mem_append.1 ht with ht | ht
          · exact hN t ht
          · rw [List.mem_singleton] at ht
            subst ht
            exact hM _ (by simp))) hE (same_of hc (fun _ => Iff.rfl) (fun _ => Iff.rfl)).1
        unfold addNode
        rw [if_neg (fun e => hs (inB_iff.1 e)), if_pos hofi]
        exact ⟨rfl, fun t => by simp⟩
    obtain ⟨a, b, c, d⟩ := grwN_whole hc M (addNode G s).1 (fun x hx => hE x (by rw [← key.1]; exact hx)) (fun t ht => by
      rcases (key.2 t).1 ht with h | rfl
      · exact hN t h
      · exact hM _ (by simp)) (fun t ht => hM t (by simp [ht]))
    show (grwN (addNode G s).1 M).X = G.X ∧ (∀ t ∈ (grwN (addNode G s).1 M).N, t ∈ N) ∧ (∀ t ∈ G.N, t ∈ (grwN (addNode G s).1 M).N) ∧ ∀ t ∈ s :: M, t ∈ (grwN (addNode G s).1 M).N
    refine ⟨a.trans key.1, b, fun t ht => c t ((key.2 t).2 (.inl ht)), fun t ht => ?_⟩
    rcases List.mem_cons.1 ht with rfl | ht
    · exact c _ ((key.2 _).2 (.inr rfl))
    · exact d t ht
/-- Edge by edge, in any order, and the nodes behind: the same graph. -/
theorem grown_same {N : List Txt} {E L : List Ed} (hc : checkI N E = 0) (hL : L.Nodup) (hm : ∀ x, x ∈ L ↔ x ∈ E) :
    (grwE L).2 = L.length ∧ GOk (grwN (grwE L).1 N) ∧ datN (grwN (grwE L).1 N) = N ∧ datE (grwN (grwE L).1 N) = E ∧ (grwN (grwE L).1 N).N.length = N.length := by
  obtain ⟨f1, -, -⟩ := form_iff (check_caps hc).1
  obtain ⟨a, b, c⟩ := grow_whole hc L ⟨[], []⟩ 0 (by simpa using hL) (fun x hx => (hm x).1 (by simpa using hx)) (fun s hs => (by cases hs))
  have ha : (grwE L).1.X = L := by
    rw [List.nil_append] at a
    exact a
  obtain ⟨a', b', -, d'⟩ := grwN_whole hc N (grwE L).1 (fun x hx => (hm x).1 (by rw [← ha]; exact hx)) c (fun _ h => h)
  have hok := grwN_ok N _ (grwE_ok L)
  have hN : ∀ s, s ∈ (grwN (grwE L).1 N).N ↔ s ∈ N := fun s => ⟨b' s, d' s⟩
  have hX : ∀ x, x ∈ (grwN (grwE L).1 N).X ↔ x ∈ E := fun x => by rw [a', ha]; exact hm x
  obtain ⟨-, e1, e2⟩ := same_of hc hN hX
  exact ⟨by show (L.foldl stepC (⟨[], []⟩, 0)).2 = _; rw [b, Nat.zero_add], hok, e1, e2, Nat.le_antisymm (len_sub hok.nd b') (len_sub (f1.nodup stoT) d')⟩
/-! What is refused, or comes again. -/
theorem addEdge_said (G : Gr) (x : Ed) : ((addEdge G x).2.1 = true → (addEdge G x).2.2 = 0) ∧ ((addEdge G x).2.1 = false → (addEdge G x).1 = G) ∧ ((addEdge G x).2.2 = 0 → x ∈ (addEdge G x).1.X) ∧ (∃ M, (addEdge G x).1.N = G.N ++ M) ∧ (∀ y ∈ G.X, y ∈ (addEdge G x).1.X) ∧ ((addEdge G x).2.2 ≠ 0 → ofI G.N (G.X ++ [x]) ≠ 0) ∧ ((addEdge G x).2.1 = true → x ∉ G.X) := by
  unfold addEdge
  split
  · rename_i h
    exact ⟨fun e => (by cases e), fun _ => rfl, fun _ => h, ⟨[], by simp⟩, fun _ h => h, fun e => absurd rfl e, fun e => by cases e⟩
  split
  · rename_i h h2
    refine ⟨fun _ => rfl, fun e => (by cases e), fun _ => by simp, ?_, fun y hy => List.mem_append.2 (.inl hy), fun e => absurd rfl e, fun _ => h⟩
    have key : ∀ (N : List Txt) s, ∃ M, addN N s = N ++ M := fun N s => by
      unfold addN
      split
      · exact ⟨[], by simp⟩
      · exact ⟨[s], rfl⟩
    obtain ⟨M, e1⟩ := key G.N x.fr
    obtain ⟨M', e2⟩ := key (addN G.N x.fr) x.to
    exact ⟨M ++ M', by dsimp only; rw [e2, e1, List.append_assoc]⟩
  · rename_i h h2
    exact ⟨fun e => (by cases e), fun _ => rfl, fun e => absurd e h2, ⟨[], by simp⟩, fun _ h => h, fun e => e, fun e => by cases e⟩
theorem addNode_said (G : Gr) (s : Txt) : ((addNode G s).2.1 = true → (addNode G s).2.2 = 0) ∧ ((addNode G s).2.1 = false → (addNode G s).1 = G) ∧ ((addNode G s).2.2 = 0 → s ∈ (addNode G s).1.N) ∧ (∃ M, (addNode G s).1.N = G.N ++ M) ∧ (addNode G s).1.X = G.X ∧ ((addNode G s).2.1 = true → s ∉ G.N) := by
  unfold addNode
  split
  · rename_i h
    exact ⟨fun e => (by cases e), fun _ => rfl, fun _ => inB_iff.1 h, ⟨[], by simp⟩, rfl, fun e => by cases e⟩
  split
  · rename_i h h2
    exact ⟨fun _ => rfl, fun e => (by cases e), fun _ => by simp, ⟨[s], rfl⟩, rfl, fun _ hs => h (inB_iff.2 hs)⟩
  · rename_i h h2
    exact ⟨fun e => (by cases e), fun _ => rfl, fun e => absurd e h2, ⟨[], by simp⟩, rfl, fun e => by cases e⟩
structure Stays (G G1 G2 : Gr) (m1 m2 : Bool) (e1 e2 : Int) (x : Ed) (s : Txt) : Prop where
  same : sameB (datN G2) (datE G2) (datN G) (datE G) = !(m1 || m2)
  fair : (m1 = true → e1 = 0) ∧ (m2 = true → e2 = 0)
  has : e1 = 0 → x ∈ G2.X
  again : ∃ e, addEdge G2 x = (G2, false, e) ∧ (e1 = 0 → e = 0)
  twice : ∃ e, addNode G2 s = (G2, false, e) ∧ (e2 = 0 → e = 0)
  more : ∃ M, G2.N = G.N ++ M
  may : checkI (datN G2) (datE G2) = 0
theorem stays {G : Gr} (ok : GOk G) (x : Ed) (s : Txt) : Stays G (addEdge G x).1 (addNode (addEdge G x).1 s).1 (addEdge G x).2.1 (addNode (addEdge G x).1 s).2.1 (addEdge G x).2.2 (addNode (addEdge G x).1 s).2.2 x s := by
  obtain ⟨a1, a2, a3, ⟨M1, a4⟩, a5, a6, a7⟩ := addEdge_said G x
  have ok1 := ok.edge x
  obtain ⟨b1, b2, b3, ⟨M2, b4⟩, b5, b6⟩ := addNode_said (addEdge G x).1 s
  have ok2 := ok1.node s
  generalize hG1 : (addEdge G x).1 = G1 at *
  generalize hm1 : (addEdge G x).2.1 = m1 at *
  generalize he1 : (addEdge G x).2.2 = e1 at *
  generalize hG2 : (addNode G1 s).1 = G2 at *
  generalize hm2 : (addNode G1 s).2.1 = m2 at *
  generalize he2 : (addNode G1 s).2.2 = e2 at *
  have hin : m1 = false → m2 = false → G2 = G := fun h1 h2 => (b2 h2).trans (a2 h1)
  refine ⟨?_, ⟨a1, b1⟩, fun h => by rw [b5]; exact a3 h, ?_, ?_, ⟨M1 ++ M2, by rw [b4, a4, List.append_assoc]⟩, check_made ok2.may⟩
  · cases h1 : m1 with
    | true =>
      have hx := a7 h1
      have hx2 : x ∈ G2.X := by rw [b5]; exact a3 (a1 h1)
      have : datE G2 ≠ datE G := fun e => hx (gE_mem.1 (by show x ∈ datE G; rw [← e]; exact gE_mem.2 hx2))
      simp [sameB, this]
    | false =>
      cases h2 : m2 with
      | true =>
        have hs := b6 h2
        rw [a2 h1] at hs
        have : datN G2 ≠ datN G := fun e => hs ((datN_mem ok).1 (by rw [← e]; exact (datN_mem ok2).2 (b3 (b1 h2))))
        simp [sameB, this]
      | false =>
        rw [hin h1 h2]
        simp [sameB]
  · by_cases h : e1 = 0
    · exact ⟨0, by unfold addEdge; rw [if_pos (by rw [b5]; exact a3 h)], fun _ => rfl⟩
    · have h1 : m1 = false := by
        cases h1 : m1 with
        | true => exact absurd (a1 h1) h
        | false => rfl
      have hx : x ∉ G2.X := by
        rw [b5, a2 h1]
        intro hx
        apply h
        rw [← he1]
        unfold addEdge
        rw [if_pos hx]
      have ho : ofI G2.N (G2.X ++ [x]) ≠ 0 := fun e => a6 h (ofI_sub (fun t ht => .inl (by rw [b4, a4]; simp [ht])) (fun y hy => by rw [b5, a2 h1]; exact hy) e)
      exact ⟨_, by unfold addEdge; rw [if_neg hx, if_neg ho], fun e => absurd e h⟩
  · by_cases h : e2 = 0
    · exact ⟨0, addNode_in (b3 h), fun _ => rfl⟩
    · have h2 : m2 = false := by
        cases h2 : m2 with
        | true => exact absurd (b1 h2) h
        | false => rfl
      have := b2 h2
      rw [this]
      refine ⟨e2, ?_, fun e => absurd e h⟩
      rw [← hm2, ← he2] at *
      exact Prod.ext (by rw [hG2]; exact this) (Prod.ext h2 rfl)
/-! Some answers that the document fixes. -/
def edW : Ed := ⟨tB, tX, tA⟩
def grW : Gr := ⟨[tB, tA], [edW]⟩
theorem gE_w : gE [edW] = [edW] := setOf_eq stoE rfl (fun _ => Iff.rfl)
theorem gN_w : gN [] [edW] = [tA, tB] := by
  refine setOf_eq stoT (by simp only [upB, ltT, txt_list]; decide) (fun x => ?_)
  simp only [allT, edW, endsL, List.flatMap_cons, List.flatMap_nil, List.mem_append, List.mem_cons, List.not_mem_nil, or_false]
  constructor
  · rintro (rfl | rfl) <;> simp
  · rintro (h | (rfl | rfl)) <;> simp_all
theorem lbs_w : setOf ltT (lbs [edW]) = [tX] := by
  refine setOf_eq stoT rfl (fun x => ?_)
  simp [lbs, edW]
theorem text_w : (textL [tA, tB] [edW]).length ≤ 2048 := by
  unfold textL loneL
  decide +kernel
theorem ofI_w : ofI [] [edW] = 0 := by
  rw [ofI, if_neg (by decide +kernel), gN_w, gE_w, capsI, lbs_w]
  rw [if_neg (by decide), if_neg (by decide), if_neg (by decide), if_neg (Nat.not_lt.2 text_w)]
theorem aw_e1 : addEdge ⟨[], []⟩ edW = (grW, true, 0) := by
  rw [addEdge_yes (by simp) ofI_w]
  have h : addN (addN [] edW.fr) edW.to = [tB, tA] := by
    have h1 : addN [] edW.fr = [tB] := rfl
    have h2 : inB tA [tB] = false := by decide +kernel
    rw [h1]
    show addN [tB] tA = _
    rw [addN, h2]
    rfl
  dsimp only
  rw [h]
  rfl
theorem aw_e2 : addEdge grW edW = (grW, false, 0) := by
  unfold addEdge
  rw [if_pos (by simp [grW])]
theorem aw_n : addNode grW ⟨#[]⟩ = (grW, false, 173) := by
  have h1 : inB ⟨#[]⟩ grW.N = false := by decide +kernel
  have h2 : namedB (grW.N ++ [⟨#[]⟩]) grW.X = false := by decide +kernel
  have h3 : ofI (grW.N ++ [⟨#[]⟩]) grW.X = 173 := by rw [ofI, if_pos h2]
  unfold addNode
  rw [h1, h3]
  rfl
end Go.Proofs.YthmkgnifcbnkpaaGreat
