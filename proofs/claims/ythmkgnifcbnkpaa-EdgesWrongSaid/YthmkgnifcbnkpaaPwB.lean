/- Edges: the first wrong place of a text: what stands ahead of it can be completed, with what stands there it cannot (the plain law). -/
import Derived.Test.YthmkgnifcbnkpaaPwA
namespace Go.Proofs.Ythmkgnifcbnkpaa
open Go.RowKit

theorem ofI_ne {N : List Txt} {E : List Ed} : ofI N E ≠ 172 := by
  unfold ofI capsI
  repeat' split
  all_goals decide
structure WrongAt (s : Txt) (j st : Nat) : Prop where
  hj : j ≤ (msOf s).length
  run : runS 0 ((msOf s).take j) = some st
  hst : st ≤ 3
  pl : (parseO s).pl = (hereM (msOf s) (enOf s) j).pl
  stop : j < (msOf s).length → goB st (hereM (msOf s) (enOf s) j) = false
  fin : j = (msOf s).length → st ≠ 0 ∨ enOf s < s.size
theorem wrong_at {s : Txt} (h : (parseO s).err = 172) : ∃ j st, WrongAt s j st := by
  unfold parseO at h
  split at h
  · cases h
  rename_i hs
  split at h
  · rename_i p hp
    obtain ⟨j, st, h1, h2, h3, h4, h5, h6⟩ := (readI_run _ _ _ 0 [] [] (Nat.le_refl _) (Nat.zero_le _) rfl).1 p hp
    exact ⟨j, st, h1, h2, h6, by rw [parseO, if_neg hs, hp]; exact h3, h4, fun e => .inl (h5 e)⟩
  · rename_i N E hp
    split at h
    · rename_i he
      have h2 := (readI_run _ _ _ 0 [] [] (Nat.le_refl _) (Nat.zero_le _) rfl).2 N E hp
      refine ⟨(msOf s).length, 0, Nat.le_refl _, by rw [List.take_length]; exact h2, by omega, ?_, fun h => by omega, fun _ => .inr he⟩
      rw [parseO, if_neg hs, hp, hereM, List.getElem?_eq_none (Nat.le_refl _)]
      dsimp only
      rw [if_pos he]
      rfl
    split at h
    · cases h
    · exact (ofI_ne h).elim
theorem parse_ok {T : Txt} (h : runS 0 (msOf T) = some 0) (he : enOf T = T.size) : (parseO T).err ≠ 172 := by
  obtain ⟨N, E, hr⟩ := read_good (enOf T) h
  unfold parseO
  split
  · show (3 : Int) ≠ 172
    decide
  rw [hr]
  dsimp only
  rw [if_neg (by omega)]
  split
  · show (0 : Int) ≠ 172
    decide
  · exact ofI_ne
theorem toTxt_data (l : List UInt8) : (toTxt l).data.toList = l := by simp [toTxt]
/-- The marks of the text up to a mark's place, and something more. -/
theorem cut_marks (s : Txt) {j : Nat} (hj : j ≤ (msOf s).length) {x : List UInt8} (hx : Like x (s.data.toList.drop (hereM (msOf s) (enOf s) j).pl)) :
    msOf (toTxt (s.data.toList.take (hereM (msOf s) (enOf s) j).pl ++ x)) = (msOf s).take j ++ (scan (hereM (msOf s) (enOf s) j).pl x).1 ∧
    enOf (toTxt (s.data.toList.take (hereM (msOf s) (enOf s) j).pl ++ x)) = (scan (hereM (msOf s) (enOf s) j).pl x).2 := by
  have h := (cut_place s.data.toList j hj).1 x hx
  unfold msOf enOf
  rw [toTxt_data]
  exact ⟨by rw [h], by rw [h]⟩
theorem place_le (s : Txt) {j : Nat} (hj : j ≤ (msOf s).length) : (hereM (msOf s) (enOf s) j).pl ≤ s.size := by
  have := (cut_place s.data.toList j hj).2.1
  rwa [size_data] at this
def e0 : List UInt8 := []
def e1 : List UInt8 := [59]
def e2 : List UInt8 := [32, 97, 59]
theorem size_cut (s : Txt) (p : Nat) (x : List UInt8) (hp : p ≤ s.size) : (toTxt (s.data.toList.take p ++ x)).size = p + x.length := by
  rw [toTxt_size, List.length_append, List.length_take, size_data]
  omega
/-- It can be completed. -/
theorem wrong_goes {s : Txt} {j st : Nat} (h : WrongAt s j st) : (parseO (toTxt (s.data.toList.take (parseO s).pl ++ e0))).err ≠ 172 ∨ (parseO (toTxt (s.data.toList.take (parseO s).pl ++ e1))).err ≠ 172 ∨ (parseO (toTxt (s.data.toList.take (parseO s).pl ++ e2))).err ≠ 172 := by
  have hst := h.hst
  have hp := place_le s h.hj
  rw [h.pl]
  have hrun := h.run
  have c : st = 0 ∨ st = 1 ∨ st = 2 ∨ st = 3 := by omega
  have k1 : ∀ p, scan p e1 = ([semi p], p + 1) := fun p => by unfold e1; rw [scan_semi, scan_nil]
  have k2 : ∀ p, scan p e2 = ([⟨2, p + 1, [97]⟩, semi (p + 2)], p + 3) := fun p => by
    unfold e2
    rw [scan_blank (by decide)]
    have hw := scan_word (p := p + 1) (b := 97) (l := []) (r := [59]) (by intro c hc; simp at hc; subst hc; decide) (stop_59 _)
    rw [List.cons_append, List.nil_append] at hw
    rw [hw]
    have h2 : (p + 1 + [(97 : UInt8)].length) = p + 2 := rfl
    rw [h2]
    have h3 := scan_semi (p := p + 2) (r := [])
    rw [h3, scan_nil]
    rfl
  rcases c with rfl | rfl | rfl | rfl
  · refine .inl (parse_ok ?_ ?_)
    · rw [(cut_marks s h.hj (x := e0) (.inl (by intro b hb; simp [e0] at hb))).1, runS_app, hrun, e0, scan_nil]
      rfl
    · rw [(cut_marks s h.hj (x := e0) (.inl (by intro b hb; simp [e0] at hb))).2, size_cut s _ _ hp, e0, scan_nil]
      rfl
  · refine .inr (.inl (parse_ok ?_ ?_))
    · rw [(cut_marks s h.hj (x := e1) (.inl (stop_59 _))).1, runS_app, hrun, k1]
      rfl
    · rw [(cut_marks s h.hj (x := e1) (.inl (stop_59 _))).2, size_cut s _ _ hp, k1]
      rfl
  · refine .inr (.inr (parse_ok ?_ ?_))
    · rw [(cut_marks s h.hj (x := e2) (.inl (stop_32 _))).1, runS_app, hrun, k2]
      rfl
    · rw [(cut_marks s h.hj (x := e2) (.inl (stop_32 _))).2, size_cut s _ _ hp, k2]
      rfl
  · refine .inr (.inl (parse_ok ?_ ?_))
    · rw [(cut_marks s h.hj (x := e1) (.inl (stop_59 _))).1, runS_app, hrun, k1]
      rfl
    · rw [(cut_marks s h.hj (x := e1) (.inl (stop_59 _))).2, size_cut s _ _ hp, k1]
      rfl

/-- How far what stands at a place goes. -/
def goesTo (L : List UInt8) (p : Nat) : Nat := match L.drop p with
  | [] => p
  | b :: r => if letN b.toNat then p + 1 + (wordL r).length else p + 1
theorem parse_stops {T : Txt} {j st : Nat} (hT : T.size ≤ 2048) (hj : j ≤ (msOf T).length) (h : runS 0 ((msOf T).take j) = some st) (hg : j < (msOf T).length → goB st (hereM (msOf T) (enOf T) j) = false) (h0 : j = (msOf T).length → st ≠ 0) :
    (parseO T).err = 172 ∧ (parseO T).pl = (hereM (msOf T) (enOf T) j).pl := by
  rw [parseO, if_neg (by omega), read_bad hj h hg h0]
  exact ⟨rfl, rfl⟩
/-- It cannot be completed with what stands there. -/
theorem wrong_stays {s : Txt} {j st : Nat} (h : WrongAt s j st) (hs : s.size ≤ 2000) (hlt : (parseO s).pl < s.size) (x : List UInt8) (hx : x.length ≤ 3) :
    (parseO (toTxt (s.data.toList.take (goesTo s.data.toList (parseO s).pl) ++ (32 :: x)))).err = 172 ∧ (parseO (toTxt (s.data.toList.take (goesTo s.data.toList (parseO s).pl) ++ (32 :: x)))).pl = (parseO s).pl := by
  have hp := place_le s h.hj
  obtain ⟨-, -, hz, hm⟩ := cut_place s.data.toList j h.hj
  rw [h.pl] at hlt ⊢
  generalize hpl : (hereM (msOf s) (enOf s) j).pl = p at *
  have hzL : s.data.toList.length = s.size := size_data s
  rcases Nat.lt_or_ge j (msOf s).length with hj | hj
  · obtain ⟨b, t, rest, h1, h2, h3, h4, h5⟩ := hm hj
    have h1' : s.data.toList.drop p = b :: t ++ rest := by rw [← hpl]; exact h1
    have hgo : goesTo s.data.toList p = p + (b :: t).length := by
      unfold goesTo
      rw [h1']
      dsimp only [List.cons_append]
      rcases h5 with ⟨-, hl, hst⟩ | ⟨h6, rfl⟩
      · rw [if_pos (hl b (by simp)), wordL_app (fun c hc => hl c (by simp [hc])) hst, List.length_cons]
        omega
      · rw [if_neg (fun hb => by have := let_kind hb; omega)]
        rfl
    obtain ⟨ht, -⟩ := take_of h1' (by omega)
    rw [hgo, ht, List.append_assoc]
    have hlike : Like (b :: t ++ 32 :: x) (s.data.toList.drop (hereM (msOf s) (enOf s) j).pl) := .inr (by rw [hpl, h1']; rfl)
    have hcut := cut_marks s h.hj hlike
    rw [hpl] at hcut
    have hsc : scan p (b :: t ++ 32 :: x) = (hereM (msOf s) (enOf s) j :: (scan (p + (b :: t).length) (32 :: x)).1, (scan (p + (b :: t).length) (32 :: x)).2) := by
      have hmk : hereM (msOf s) (enOf s) j = ⟨kindN b.toNat, p, b :: t⟩ := by
        have e1 : (hereM (msOf s) (enOf s) j).tx = b :: t := h2
        have e2 : (hereM (msOf s) (enOf s) j).kind = kindN b.toNat := h3
        generalize hereM (msOf s) (enOf s) j = m at *
        obtain ⟨k1, p1, t1⟩ := m
        simp only at e1 e2 hpl
        rw [e1, e2, hpl]
      rw [hmk]
      rcases h5 with ⟨-, hl, -⟩ | ⟨h6, rfl⟩
      · exact scan_word hl (stop_32 _)
      · rw [List.cons_append, List.nil_append, scan_sign h6]
        rfl
    rw [hsc] at hcut
    obtain ⟨hms, hen⟩ := hcut
    have hgj : (msOf (toTxt (List.take p s.data.toList ++ (b :: t ++ 32 :: x))))[j]? = some (hereM (msOf s) (enOf s) j) := by
      rw [hms, List.getElem?_append_right (by rw [List.length_take]; omega), List.length_take, Nat.min_eq_left h.hj, Nat.sub_self]
      rfl
    have hjl := (List.getElem?_eq_some_iff.1 hgj).1
    have htk : (msOf (toTxt (List.take p s.data.toList ++ (b :: t ++ 32 :: x)))).take j = (msOf s).take j := by
      rw [hms, List.take_append_of_le_length (by rw [List.length_take]; omega), List.take_take, Nat.min_self]
    have hbt : p + (b :: t).length ≤ s.size := by
      have := congrArg List.length h1'
      rw [List.length_drop, List.length_append] at this
      omega
    have hh : hereM (msOf (toTxt (List.take p s.data.toList ++ (b :: t ++ 32 :: x)))) (enOf (toTxt (List.take p s.data.toList ++ (b :: t ++ 32 :: x)))) j = hereM (msOf s) (enOf s) j := here_some hgj
    have hr := parse_stops (T := toTxt (List.take p s.data.toList ++ (b :: t ++ 32 :: x))) (j := j) (st := st) (by rw [size_cut s p _ (by omega)]; simp only [List.length_append, List.length_cons] at hbt ⊢; omega) (by omega) (by rw [htk]; exact h.run) (fun _ => by rw [hh]; exact h.stop hj) (fun e => by omega)
    rw [hh, hpl] at hr
    exact hr
  · have hje : j = (msOf s).length := by have := h.hj; omega
    have hpe : p = enOf s := by
      rw [← hpl, hereM, List.getElem?_eq_none (by omega)]
      rfl
    have hnb := hz hje
    rw [show (scan 0 s.data.toList).2 = p from hpe.symm] at hnb
    obtain ⟨b, rest, h1'⟩ : ∃ b rest, s.data.toList.drop p = b :: rest := by
      cases hd : s.data.toList.drop p with
      | nil =>
        have := congrArg List.length hd
        rw [List.length_drop] at this
        simp at this
        omega
      | cons b rest => exact ⟨b, rest, rfl⟩
    rw [h1'] at hnb
    obtain ⟨hk0, hb0⟩ := hnb b rfl
    have hgo : goesTo s.data.toList p = p + [b].length := by
      unfold goesTo
      rw [h1']
      dsimp only
      rw [if_neg (fun hb => by have := let_kind hb; omega)]
      rfl
    have h1'' : s.data.toList.drop p = [b] ++ rest := h1'
    obtain ⟨ht, -⟩ := take_of h1'' (by omega)
    rw [hgo, ht, List.append_assoc]
    have hlike : Like ([b] ++ 32 :: x) (s.data.toList.drop (hereM (msOf s) (enOf s) j).pl) := .inr (by rw [hpl, h1']; rfl)
    have hcut := cut_marks s h.hj hlike
    rw [hpl] at hcut
    have hsc : scan p ([b] ++ 32 :: x) = ([], p) := by
      have e : nextL p ([b] ++ 32 :: x) = ⟨0, p, []⟩ := by
        rw [List.cons_append, nextL, if_neg (by rw [hb0]; simp), if_pos hk0]
      rw [scan_zero (by rw [e]), e]
    rw [hsc] at hcut
    obtain ⟨hms, hen⟩ := hcut
    rw [List.append_nil, hje, List.take_length] at hms
    have hrun := h.run
    rw [hje, List.take_length] at hrun
    have hsz : (toTxt (List.take p s.data.toList ++ ([b] ++ 32 :: x))).size ≤ 2048 := by
      rw [size_cut s p _ (by omega)]
      simp
      omega
    have hsz2 : p < (toTxt (List.take p s.data.toList ++ ([b] ++ 32 :: x))).size := by
      rw [size_cut s p _ (by omega)]
      simp
    by_cases hst : st = 0
    · subst hst
      obtain ⟨N, E, hg⟩ := read_good (enOf (toTxt (List.take p s.data.toList ++ ([b] ++ 32 :: x)))) hrun
      rw [parseO, if_neg (by omega), hms, hg]
      dsimp only
      rw [hen, if_pos hsz2]
      exact ⟨rfl, rfl⟩
    · have hr := parse_stops (T := toTxt (List.take p s.data.toList ++ ([b] ++ 32 :: x))) (j := j) (st := st) hsz (by rw [hms]; exact h.hj) (by rw [hms, hje, List.take_length]; exact hrun) (fun hl => by rw [hms] at hl; omega) (fun _ => hst)
      have hh : (hereM (msOf (toTxt (List.take p s.data.toList ++ ([b] ++ 32 :: x)))) (enOf (toTxt (List.take p s.data.toList ++ ([b] ++ 32 :: x)))) j).pl = p := by
        rw [hms, hereM, List.getElem?_eq_none (by omega), hen]
        rfl
      rw [hh] at hr
      exact hr
end Go.Proofs.Ythmkgnifcbnkpaa
