/- Edges: the text of a graph tells the graph (the plain law). -/
import Derived.Test.YthmkgnifcbnkpaaGreatPbA
namespace Go.Proofs.YthmkgnifcbnkpaaGreat
open Go.RowKit

theorem name_let {s : Txt} (h : nameB s = true) : ∃ b l, s.data.toList = b :: l ∧ ∀ c ∈ b :: l, letN c.toNat = true := by
  have h1 := nameB_short h
  rw [← size_data] at h1
  unfold nameB at h
  rw [Bool.and_eq_true, List.all_eq_true] at h
  match hd : s.data.toList with
  | [] => rw [hd] at h1; simp at h1
  | b :: l => exact ⟨b, l, rfl, fun c hc => h.2 c (by rw [hd]; exact hc)⟩
theorem label_low {s : Txt} (h : labelB s = true) : ∃ b l, s.data.toList = b :: l ∧ (∀ c ∈ b :: l, letN c.toNat = true) ∧ kindN b.toNat = 2 := by
  obtain ⟨b, l, hd, hl⟩ := name_let (labelB_name h)
  refine ⟨b, l, hd, hl, ?_⟩
  unfold labelB at h
  rw [Bool.and_eq_true, hd] at h
  have h2 : 97 ≤ b.toNat ∧ b.toNat ≤ 122 := of_decide_eq_true h.2
  unfold kindN
  rw [if_neg (by omega), if_neg (by omega), if_neg (by omega), if_neg (by omega), if_neg (by omega), if_neg (by omega), if_neg (by omega), if_neg (by omega), if_neg (by omega), if_neg (by omega), if_pos h2]
/-- The mark of a name, at a place. -/
def mkW (p : Nat) (s : Txt) : Mk := ⟨kindN (s.data.toList.headD 0).toNat, p, s.data.toList⟩
theorem mkW_word {p : Nat} {s : Txt} (h : nameB s = true) : wordK (mkW p s) = true := by
  obtain ⟨b, l, hd, hl⟩ := name_let h
  have := let_kind (hl b (by simp))
  simp [wordK, mkW, hd]
  omega
theorem mkW_low {p : Nat} {s : Txt} (h : labelB s = true) : (mkW p s).kind = 2 := by
  obtain ⟨b, l, hd, _, hk⟩ := label_low h
  simp [mkW, hd, hk]
theorem mkW_txt (p : Nat) (s : Txt) : (mkW p s).txt = s := by
  unfold Mk.txt mkW
  rw [toTxt_list]
theorem scan_name {p : Nat} {s : Txt} {r : List UInt8} (h : nameB s = true) (hr : Stop r) : scan p (s.data.toList ++ r) = (mkW p s :: (scan (p + s.size) r).1, (scan (p + s.size) r).2) := by
  obtain ⟨b, l, hd, hl⟩ := name_let h
  have hz : s.size = (b :: l).length := by rw [← hd, size_data]
  unfold mkW
  rw [hd, hz, scan_word hl hr]
  rfl
def semi (p : Nat) : Mk := ⟨5, p, [59]⟩
theorem scan_semi {p : Nat} {r : List UInt8} : scan p (59 :: r) = (semi p :: (scan (p + 1) r).1, (scan (p + 1) r).2) := scan_sign (by decide)
theorem stop_of {c : UInt8} (h : letN c.toNat = false) (r : List UInt8) : Stop (c :: r) := fun b hb => by
  obtain rfl : c = b := by simpa using hb
  exact h
theorem stop_32 (r : List UInt8) : Stop (32 :: r) := stop_of (by decide) r
theorem stop_9 (r : List UInt8) : Stop (9 :: r) := stop_of (by decide) r
theorem stop_59 (r : List UInt8) : Stop (59 :: r) := stop_of (by decide) r

/-- What a list of bytes tells from a place on: nodes, edges; and it is read to its end. -/
def Tells (l : List UInt8) (N : List Txt) (E : List Ed) : Prop := ∀ (p : Nat) (r : List UInt8) (e : Nat) (N0 : List Txt) (E0 : List Ed),
  readM e (scan p (l ++ r)).1 N0 E0 = readM e (scan (p + l.length) r).1 (N0 ++ N) (E0 ++ E) ∧ (scan p (l ++ r)).2 = (scan (p + l.length) r).2
theorem Tells.nil : Tells [] [] [] := fun p r e N0 E0 => by simp
theorem Tells.app {l l' : List UInt8} {N N' : List Txt} {E E' : List Ed} (h : Tells l N E) (k : Tells l' N' E') : Tells (l ++ l') (N ++ N') (E ++ E') := fun p r e N0 E0 => by
  obtain ⟨a, b⟩ := h p (l' ++ r) e N0 E0
  obtain ⟨c, d⟩ := k (p + l.length) r e (N0 ++ N) (E0 ++ E)
  rw [List.append_assoc, List.length_append, ← Nat.add_assoc, a, b, c, d]
  simp
theorem Tells.flatN {f : Txt → List UInt8} : ∀ {N : List Txt}, (∀ s ∈ N, Tells (f s) [s] []) → Tells (N.flatMap f) N []
  | [], _ => Tells.nil
  | s :: N, h => by
    have := (h s (by simp)).app (Tells.flatN (f := f) (N := N) (fun t ht => h t (by simp [ht])))
    simpa using this
theorem Tells.flatE {f : Ed → List UInt8} : ∀ {E : List Ed}, (∀ x ∈ E, Tells (f x) [] [x]) → Tells (E.flatMap f) [] E
  | [], _ => Tells.nil
  | s :: E, h => by
    have := (h s (by simp)).app (Tells.flatE (f := f) (E := E) (fun t ht => h t (by simp [ht])))
    simpa using this
theorem tells_node {s : Txt} (h : nameB s = true) : Tells (lineN s) [s] [] := fun p r e N0 E0 => by
  have hs : lineN s ++ r = s.data.toList ++ (32 :: 59 :: 10 :: r) := by simp [lineN, sepL]
  have hl : (lineN s).length = s.size + 3 := lineN_len s
  rw [hs, hl, scan_name h (stop_32 _), scan_blank (by decide), scan_semi, scan_blank (by decide)]
  dsimp only
  rw [readM_node (mkW_word h) rfl, mkW_txt, List.append_nil]
  exact ⟨by simp only [Nat.add_assoc], by simp only [Nat.add_assoc]⟩
theorem tells_edge {x : Ed} (h1 : nameB x.fr = true) (h2 : labelB x.lb = true) (h3 : nameB x.to = true) : Tells (lineE x) [] [x] := fun p r e N0 E0 => by
  have hs : lineE x ++ r = x.fr.data.toList ++ (32 :: (x.lb.data.toList ++ (32 :: (x.to.data.toList ++ (32 :: 59 :: 10 :: r))))) := by simp [lineE, sepL]
  have hl : (lineE x).length = x.fr.size + 1 + x.lb.size + 1 + x.to.size + 3 := by rw [lineE_len]; omega
  rw [hs, hl, scan_name h1 (stop_32 _), scan_blank (by decide), scan_name (labelB_name h2) (stop_32 _), scan_blank (by decide), scan_name h3 (stop_32 _), scan_blank (by decide), scan_semi, scan_blank (by decide)]
  dsimp only
  rw [readM_edge (mkW_word h1) (mkW_low h2) (mkW_word h3) rfl, mkW_txt, mkW_txt, mkW_txt, List.append_nil]
  exact ⟨by simp only [Nat.add_assoc], by simp only [Nat.add_assoc]⟩
theorem tells_text {N : List Txt} {E : List Ed} (h : namedB N E = true) : Tells (textL N E) (loneL N E) E := by
  have hn := named_iff.1 h
  have a := Tells.flatN (f := lineN) (N := loneL N E) (fun s hs => tells_node (hn.1 s (loneL_sub hs)))
  have b := Tells.flatE (f := lineE) (E := E) (fun x hx => tells_edge (hn.2 x hx).1 (hn.2 x hx).2.1 (hn.2 x hx).2.2)
  have := a.app b
  simpa [textL] using this
/-- A whole text that tells nodes and edges is read so. -/
theorem Tells.parse {s : Txt} {N : List Txt} {E : List Ed} (h : Tells s.data.toList N E) (hs : s.size ≤ 2048) : parseO s = if ofI N E = 0 then ⟨gN N E, gE E, 0, 0⟩ else ⟨[], [], 0, ofI N E⟩ := by
  obtain ⟨a, b⟩ := h 0 [] (enOf s) [] []
  rw [List.append_nil, scan_nil] at a b
  have hr : readI (msOf s) (enOf s) 0 [] [] = .good N E := by
    rw [readI_M _ _ _ _ _ _ (Nat.le_refl _), List.drop_zero]
    unfold msOf
    rw [a]
    simp [readM]
  have he : enOf s = s.size := by
    unfold enOf
    rw [b, Nat.zero_add, size_data]
  rw [parseO, if_neg (by omega), hr]
  dsimp only
  rw [if_neg (by omega)]

/-! A graph that may be. -/
theorem form_iff {N : List Txt} {E : List Ed} (h : formB N E = true) : Rises ltT N ∧ Rises ltE E ∧ ∀ x ∈ E, x.fr ∈ N ∧ x.to ∈ N := by
  unfold formB at h
  rw [Bool.and_eq_true, Bool.and_eq_true, List.all_eq_true] at h
  refine ⟨rises_of_up stoT h.1, rises_of_up stoE h.2.1, fun x hx => ?_⟩
  have := h.2.2 x hx
  unfold endsIn at this
  rw [Bool.and_eq_true, inB_iff, inB_iff] at this
  exact this
theorem gN_form {N M : List Txt} {E : List Ed} (h : Rises ltT N) (_he : ∀ x ∈ E, x.fr ∈ N ∧ x.to ∈ N) (hm : ∀ s, s ∈ N ↔ s ∈ M ∨ ∃ x ∈ E, s = x.fr ∨ s = x.to) : gN M E = N :=
  setOf_eq stoT (up_of_rises h) (fun s => (hm s).trans mem_all.symm)
theorem gE_form {E : List Ed} (h : Rises ltE E) : gE E = E := setOf_eq stoE (up_of_rises h) (fun _ => Iff.rfl)
theorem ofI_form {N M : List Txt} {E : List Ed} (h : checkI N E = 0) (hM : ∀ s, s ∈ N ↔ s ∈ M ∨ ∃ x ∈ E, s = x.fr ∨ s = x.to) : ofI M E = 0 ∧ gN M E = N ∧ gE E = E := by
  obtain ⟨h1, h2, h3⟩ := check_caps h
  obtain ⟨f1, f2, f3⟩ := form_iff h1
  have e1 := gN_form f1 f3 hM
  have e2 := gE_form f2
  refine ⟨?_, e1, e2⟩
  have hn := named_iff.1 h2
  have hn' : namedB M E = true := named_iff.2 ⟨fun s hs => hn.1 s ((hM s).2 (.inl hs)), hn.2⟩
  rw [ofI, if_neg (by rw [hn']; simp), e1, e2, h3]
theorem lone_all {N : List Txt} {E : List Ed} (he : ∀ x ∈ E, x.fr ∈ N ∧ x.to ∈ N) (s : Txt) : s ∈ N ↔ s ∈ loneL N E ∨ ∃ x ∈ E, s = x.fr ∨ s = x.to := by
  constructor
  · intro hs
    by_cases h : ∃ x ∈ E, s = x.fr ∨ s = x.to
    · exact .inr h
    · exact .inl (mem_lone.2 ⟨hs, h⟩)
  · rintro (h | ⟨x, hx, rfl | rfl⟩)
    · exact (mem_lone.1 h).1
    · exact (he x hx).1
    · exact (he x hx).2
/-- What may be, and is printed, is read back. -/
theorem back_text {N : List Txt} {E : List Ed} (h : checkI N E = 0) : parseO ⟨(textL N E).toArray⟩ = ⟨N, E, 0, 0⟩ := by
  obtain ⟨h1, h2, h3⟩ := check_caps h
  obtain ⟨f1, f2, f3⟩ := form_iff h1
  obtain ⟨a, b, c⟩ := ofI_form h (M := loneL N E) (lone_all f3)
  have ht := tells_text h2
  have hz : (⟨(textL N E).toArray⟩ : Txt).size ≤ 2048 := by
    rw [← size_data]
    simpa using (caps_le h3).2.2.2
  rw [Tells.parse (s := ⟨(textL N E).toArray⟩) (N := loneL N E) (E := E) (by simpa using ht) hz, if_pos a, b, c]
/-- What is read may be. -/
theorem check_made {N : List Txt} {E : List Ed} (h : ofI N E = 0) : checkI (gN N E) (gE E) = 0 := by
  have hn := named_iff.1 (ofI_named h)
  have u1 := (setOf_is stoT (allT N E)).up
  have u2 := (setOf_is stoE E).up
  have hf : formB (gN N E) (gE E) = true := by
    unfold formB
    rw [Bool.and_eq_true, Bool.and_eq_true, List.all_eq_true]
    refine ⟨up_of_rises u1, up_of_rises u2, fun x hx => ?_⟩
    unfold endsIn
    rw [Bool.and_eq_true, inB_iff, inB_iff]
    have := gE_mem.1 hx
    exact ⟨gN_mem.2 (.inr ⟨x, this, .inl rfl⟩), gN_mem.2 (.inr ⟨x, this, .inr rfl⟩)⟩
  have hm : namedB (gN N E) (gE E) = true := by
    refine named_iff.2 ⟨fun s hs => ?_, fun x hx => hn.2 x (gE_mem.1 hx)⟩
    rcases gN_mem.1 hs with h1 | ⟨x, hx, rfl | rfl⟩
    · exact hn.1 s h1
    · exact (hn.2 x hx).1
    · exact (hn.2 x hx).2.2
  rw [checkI, if_neg (by rw [hf]; simp), if_neg (by rw [hm]; simp), ofI_caps h]
theorem check_read {s : Txt} (h : (parseO s).err = 0) : checkI (parseO s).N (parseO s).E = 0 := by
  unfold parseO at h ⊢
  split
  · rename_i h1
    rw [if_pos h1] at h
    cases h
  rename_i h1
  rw [if_neg h1] at h
  split
  · rename_i p hp
    rw [hp] at h
    cases h
  · rename_i N E hp
    rw [hp] at h
    dsimp only at h ⊢
    split
    · rename_i h2
      rw [if_pos h2] at h
      cases h
    rename_i h2
    rw [if_neg h2] at h
    split
    · rename_i h3
      exact check_made h3
    · rename_i h3
      rw [if_neg h3] at h
      exact (h3 h).elim
end Go.Proofs.YthmkgnifcbnkpaaGreat
