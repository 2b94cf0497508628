/- Graphs that grow: the plain law (no program in sight). -/
import Derived.Test.YtnmkieiehjajlaaGreatDoorZ15
set_option linter.unusedVariables false
set_option linter.unusedSimpArgs false
namespace Go.Proofs.YtnmkieiehjajlaaGreatDoor
open Go.RowKit

/-! What a part of a graph is too. -/
theorem flat_sub {α β : Type} [DecidableEq α] (f : α → List β) : ∀ {L M : List α}, L.Nodup → (∀ x ∈ L, x ∈ M) → (L.flatMap f).length ≤ (M.flatMap f).length
  | [], M, _, _ => by simp
  | a :: L, M, hd, hs => by
    obtain ⟨h1, h2⟩ := List.nodup_cons.1 hd
    have hp := List.perm_cons_erase (hs a (by simp))
    have ih := flat_sub f (L := L) (M := M.erase a) h2 (fun x hx => by
      have hne : x ≠ a := by rintro rfl; exact h1 hx
      exact (List.mem_erase_of_ne hne).2 (hs x (by simp [hx])))
    have hl := (hp.flatMap_right f).length_eq
    rw [List.flatMap_cons, List.length_append] at hl ⊢
    omega
theorem len_sub {α : Type} [DecidableEq α] {L M : List α} (hd : L.Nodup) (hs : ∀ x ∈ L, x ∈ M) : L.length ≤ M.length := by
  have := flat_sub (fun x => [x]) hd hs
  simpa using this
theorem Rises.nodup {α : Type} {lt : α → α → Bool} (hs : Sto lt) {l : List α} (h : Rises lt l) : l.Nodup := List.Pairwise.imp (fun {_a _b} h => hs.ne h) h
theorem mem_ends {E : List Ed} {s : Txt} : s ∈ endsTo E E.length ↔ ∃ x ∈ E, s = x.fr ∨ s = x.to := by
  rw [endsTo_iff]
  constructor
  · rintro ⟨i, x, _, hx, h⟩
    exact ⟨x, List.mem_of_getElem? hx, h⟩
  · rintro ⟨x, hx, h⟩
    obtain ⟨i, hi, e⟩ := List.getElem_of_mem hx
    exact ⟨i, x, hi, by rw [List.getElem?_eq_getElem hi, e], h⟩
theorem mem_lone {N : List Txt} {E : List Ed} {s : Txt} : s ∈ loneL N E ↔ s ∈ N ∧ ¬ ∃ x ∈ E, s = x.fr ∨ s = x.to := by
  unfold loneL
  rw [List.mem_filter, ← mem_ends, ← inB_iff (s := s) (N := endsTo E E.length)]
  simp
theorem lineN_len (s : Txt) : (lineN s).length = s.size + 3 := by simp [lineN, sepL]
theorem lineE_len (x : Ed) : (lineE x).length = x.fr.size + x.lb.size + x.to.size + 5 := by simp [lineE, sepL]; omega
theorem ends_lines : ∀ (D : List Ed), (∀ x ∈ D, 1 ≤ x.lb.size) → ((D.flatMap endsL).flatMap lineN).length ≤ (D.flatMap lineE).length
  | [], _ => by simp
  | x :: D, h => by
    have ih := ends_lines D (fun y hy => h y (by simp [hy]))
    have h1 := h x (by simp)
    simp only [List.flatMap_cons, List.flatMap_append, List.length_append, lineE_len]
    simp only [endsL, List.flatMap_cons, List.flatMap_nil, List.append_nil, List.length_append, lineN_len]
    omega
theorem text_sub {N N' : List Txt} {E E' : List Ed} (hN : N'.Nodup) (hE : E.Nodup) (hE' : E'.Nodup) (sN : ∀ s ∈ N', s ∈ N) (sE : ∀ x ∈ E', x ∈ E) (hl : ∀ x ∈ E, 1 ≤ x.lb.size) :
    (textL N' E').length ≤ (textL N E).length := by
  have h1 : (loneL N' E').Nodup := List.Nodup.sublist List.filter_sublist hN
  have h2 : ((loneL N' E').flatMap lineN).length ≤ ((loneL N E ++ (E.filter fun x => !decide (x ∈ E')).flatMap endsL).flatMap lineN).length := by
    refine flat_sub lineN h1 (fun s hs => ?_)
    obtain ⟨m1, m2⟩ := mem_lone.1 hs
    rw [List.mem_append]
    by_cases h : ∃ x ∈ E, s = x.fr ∨ s = x.to
    · obtain ⟨x, hx, hsx⟩ := h
      refine .inr (List.mem_flatMap.2 ⟨x, List.mem_filter.2 ⟨hx, ?_⟩, ?_⟩)
      · simp only [Bool.not_eq_true', decide_eq_false_iff_not]
        intro hx'
        exact m2 ⟨x, hx', hsx⟩
      · simp [endsL]; exact hsx
    · exact .inl (mem_lone.2 ⟨sN s m1, h⟩)
  have h3 := ends_lines (E.filter fun x => !decide (x ∈ E')) (fun x hx => hl x (List.mem_filter.1 hx).1)
  have h4 : ((E' ++ E.filter fun x => !decide (x ∈ E')).flatMap lineE).length ≤ (E.flatMap lineE).length := by
    refine flat_sub lineE ?_ (fun x hx => ?_)
    · rw [List.nodup_append]
      refine ⟨hE', List.Nodup.sublist List.filter_sublist hE, fun a ha b hb => ?_⟩
      rintro rfl
      have := (List.mem_filter.1 hb).2
      simp [ha] at this
    · rcases List.mem_append.1 hx with hx | hx
      · exact sE x hx
      · exact (List.mem_filter.1 hx).1
  unfold textL
  simp only [List.flatMap_append, List.length_append] at h2 h4 ⊢
  omega
theorem lbs_mem {E : List Ed} {s : Txt} : s ∈ lbs E ↔ ∃ x ∈ E, x.lb = s := List.mem_map
theorem caps_sub {N N' : List Txt} {E E' : List Ed} (hN : N'.Nodup) (hE : E.Nodup) (hE' : E'.Nodup) (sN : ∀ s ∈ N', s ∈ N) (sE : ∀ x ∈ E', x ∈ E) (hl : ∀ x ∈ E, 1 ≤ x.lb.size) (h : capsI N E = 0) : capsI N' E' = 0 := by
  unfold capsI at h ⊢
  have h1 := len_sub hN sN
  have h2 : (setOf ltT (lbs E')).length ≤ (setOf ltT (lbs E)).length := len_sub ((setOf_is stoT _).up.nodup stoT) (fun s hs => by
    obtain ⟨x, hx, e⟩ := lbs_mem.1 (((setOf_is stoT _).mem s).1 hs)
    exact ((setOf_is stoT _).mem s).2 (lbs_mem.2 ⟨x, sE x hx, e⟩))
  have h3 := len_sub hE' sE
  have h4 := text_sub hN hE hE' sN sE hl
  split at h
  · omega
  split at h
  · omega
  split at h
  · omega
  split at h
  · omega
  rw [if_neg (by omega), if_neg (by omega), if_neg (by omega), if_neg (by omega)]

/-- May nodes and edges come to a graph? -/
def ofI (N : List Txt) (E : List Ed) : Int := if namedB N E = false then 173 else capsI (gN N E) (gE E)
theorem named_iff {N : List Txt} {E : List Ed} : namedB N E = true ↔ (∀ s ∈ N, nameB s = true) ∧ ∀ x ∈ E, nameB x.fr = true ∧ labelB x.lb = true ∧ nameB x.to = true := by
  unfold namedB edNamed
  simp [List.all_eq_true]
theorem gN_mem {N : List Txt} {E : List Ed} {s : Txt} : s ∈ gN N E ↔ s ∈ N ∨ ∃ x ∈ E, s = x.fr ∨ s = x.to := ((setOf_is stoT _).mem s).trans mem_all
theorem gE_mem {E : List Ed} {x : Ed} : x ∈ gE E ↔ x ∈ E := (setOf_is stoE E).mem x
theorem gN_nodup (N : List Txt) (E : List Ed) : (gN N E).Nodup := (setOf_is stoT _).up.nodup stoT
theorem gE_nodup (E : List Ed) : (gE E).Nodup := (setOf_is stoE _).up.nodup stoE
theorem ofI_named {N : List Txt} {E : List Ed} (h : ofI N E = 0) : namedB N E = true := by
  unfold ofI at h
  split at h
  · cases h
  · rename_i h1; simpa using h1
theorem ofI_caps {N : List Txt} {E : List Ed} (h : ofI N E = 0) : capsI (gN N E) (gE E) = 0 := by
  unfold ofI at h
  split at h
  · cases h
  · exact h
theorem lb_len {N : List Txt} {E : List Ed} (h : namedB N E = true) : ∀ x ∈ E, 1 ≤ x.lb.size := fun x hx => (nameB_short (labelB_name ((named_iff.1 h).2 x hx).2.1)).1
/-- What is told of a graph that may be, may be. -/
theorem ofI_sub {N N' : List Txt} {E E' : List Ed} (sN : ∀ s ∈ N', s ∈ N ∨ ∃ x ∈ E, s = x.fr ∨ s = x.to) (sE : ∀ x ∈ E', x ∈ E) (h : ofI N E = 0) : ofI N' E' = 0 := by
  have hn := ofI_named h
  have hn' : namedB N' E' = true := by
    rw [named_iff] at hn ⊢
    refine ⟨fun s hs => ?_, fun x hx => hn.2 x (sE x hx)⟩
    rcases sN s hs with h1 | ⟨x, hx, rfl | rfl⟩
    · exact hn.1 s h1
    · exact (hn.2 x hx).1
    · exact (hn.2 x hx).2.2
  unfold ofI
  rw [hn']
  simp only [Bool.true_eq_false, if_false]
  refine caps_sub (gN_nodup _ _) (gE_nodup _) (gE_nodup _) (fun s hs => ?_) (fun x hx => gE_mem.2 (sE x (gE_mem.1 hx))) (fun x hx => lb_len hn x (gE_mem.1 hx)) (ofI_caps h)
  rw [gN_mem] at hs ⊢
  rcases hs with h1 | ⟨x, hx, h1⟩
  · exact sN s h1
  · exact .inr ⟨x, sE x hx, h1⟩
theorem gN_same {N N' : List Txt} {E E' : List Ed} (h : ∀ s, (s ∈ N ∨ ∃ x ∈ E, s = x.fr ∨ s = x.to) ↔ (s ∈ N' ∨ ∃ x ∈ E', s = x.fr ∨ s = x.to)) : gN N E = gN N' E' :=
  (setOf_is stoT _).uniq stoT (setOf_is stoT _) (fun s => mem_all.trans ((h s).trans mem_all.symm))
theorem gE_same {E E' : List Ed} (h : ∀ x, x ∈ E ↔ x ∈ E') : gE E = gE E' := (setOf_is stoE _).uniq stoE (setOf_is stoE _) h
theorem ofI_same {N N' : List Txt} {E E' : List Ed} (h : ∀ s, (s ∈ N ∨ ∃ x ∈ E, s = x.fr ∨ s = x.to) ↔ (s ∈ N' ∨ ∃ x ∈ E', s = x.fr ∨ s = x.to)) (k : ∀ x, x ∈ E ↔ x ∈ E')
    (hm : ∀ s ∈ N, s ∈ N' ∨ ∃ x ∈ E', s = x.fr ∨ s = x.to) (hm' : ∀ s ∈ N', s ∈ N ∨ ∃ x ∈ E, s = x.fr ∨ s = x.to) : ofI N E = ofI N' E' := by
  have h1 : namedB N E = namedB N' E' := by
    rw [Bool.eq_iff_iff, named_iff, named_iff]
    constructor
    · rintro ⟨a, b⟩
      refine ⟨fun s hs => ?_, fun x hx => b x ((k x).2 hx)⟩
      rcases hm' s hs with h1 | ⟨x, hx, rfl | rfl⟩
      · exact a s h1
      · exact (b x hx).1
      · exact (b x hx).2.2
    · rintro ⟨a, b⟩
      refine ⟨fun s hs => ?_, fun x hx => b x ((k x).1 hx)⟩
      rcases hm s hs with h1 | ⟨x, hx, rfl | rfl⟩
      · exact a s h1
      · exact (b x hx).1
      · exact (b x hx).2.2
  unfold ofI
  rw [h1, gN_same h, gE_same k]

/-! A graph: its nodes in the order in which they came, its edges. -/
structure Gr where
  N : List Txt
  X : List Ed
structure GOk (G : Gr) : Prop where
  nd : G.N.Nodup
  xd : G.X.Nodup
  ends : ∀ x ∈ G.X, x.fr ∈ G.N ∧ x.to ∈ G.N
  may : ofI G.N G.X = 0
def addN (N : List Txt) (s : Txt) : List Txt := if inB s N = true then N else N ++ [s]
theorem mem_addN {N : List Txt} {s t : Txt} : t ∈ addN N s ↔ t ∈ N ∨ t = s := by
  unfold addN
  split
  · rename_i h
    constructor
    · exact .inl
    · rintro (h1 | rfl)
      · exact h1
      · exact inB_iff.1 h
  · simp
theorem addN_nodup {N : List Txt} (h : N.Nodup) (s : Txt) : (addN N s).Nodup := by
  unfold addN
  split
  · exact h
  · rename_i hs
    rw [List.nodup_append]
    refine ⟨h, by simp, fun a ha b hb => ?_⟩
    rw [List.mem_singleton] at hb
    subst hb
    rintro rfl
    exact hs (inB_iff.2 ha)
def addNode (G : Gr) (s : Txt) : Gr × Bool × Int :=
  if inB s G.N = true then (G, false, 0) else if ofI (G.N ++ [s]) G.X = 0 then (⟨G.N ++ [s], G.X⟩, true, 0) else (G, false, ofI (G.N ++ [s]) G.X)
def addEdge (G : Gr) (x : Ed) : Gr × Bool × Int :=
  if x ∈ G.X then (G, false, 0) else if ofI G.N (G.X ++ [x]) = 0 then (⟨addN (addN G.N x.fr) x.to, G.X ++ [x]⟩, true, 0) else (G, false, ofI G.N (G.X ++ [x]))
theorem GOk.new : GOk ⟨[], []⟩ := ⟨by simp, by simp, by simp, by
  have h1 : gE [] = [] := by
    have h : ∀ x : Ed, x ∉ gE [] := fun x hx => by simpa using gE_mem.1 hx
    exact List.eq_nil_iff_forall_not_mem.2 h
  have h2 : gN [] [] = [] := by
    have h : ∀ x : Txt, x ∉ gN [] [] := fun x hx => by simpa using gN_mem.1 hx
    exact List.eq_nil_iff_forall_not_mem.2 h
  have h3 : setOf ltT (lbs []) = [] := by
    have h : ∀ x : Txt, x ∉ setOf ltT (lbs []) := fun x hx => by simpa [lbs] using ((setOf_is stoT _).mem x).1 hx
    exact List.eq_nil_iff_forall_not_mem.2 h
  simp [ofI, namedB, h1, h2, capsI, h3, textL, loneL]⟩
theorem GOk.node {G : Gr} (h : GOk G) (s : Txt) : GOk (addNode G s).1 := by
  unfold addNode
  split
  · exact h
  split
  · rename_i h1 h2
    refine ⟨?_, h.xd, fun x hx => ⟨List.mem_append.2 (.inl (h.ends x hx).1), List.mem_append.2 (.inl (h.ends x hx).2)⟩, h2⟩
    have := addN_nodup h.nd s
    unfold addN at this
    rwa [if_neg h1] at this
  · exact h
theorem GOk.edge {G : Gr} (h : GOk G) (x : Ed) : GOk (addEdge G x).1 := by
  unfold addEdge
  split
  · exact h
  split
  · rename_i h1 h2
    refine ⟨addN_nodup (addN_nodup h.nd _) _, ?_, ?_, ?_⟩
    · rw [List.nodup_append]
      refine ⟨h.xd, by simp, fun a ha b hb => ?_⟩
      rw [List.mem_singleton] at hb
      subst hb
      rintro rfl
      exact h1 ha
    · intro y hy
      simp only [mem_addN]
      rcases List.mem_append.1 hy with hy | hy
      · exact ⟨.inl (.inl (h.ends y hy).1), .inl (.inl (h.ends y hy).2)⟩
      · rw [List.mem_singleton] at hy
        subst hy
        exact ⟨.inl (.inr rfl), .inr rfl⟩
    · refine ofI_sub (N := G.N) (E := G.X ++ [x]) (fun s hs => ?_) (fun _ hy => hy) h2
      simp only [mem_addN] at hs
      rcases hs with (hs | rfl) | rfl
      · exact .inl hs
      · exact .inr ⟨x, by simp, .inl rfl⟩
      · exact .inr ⟨x, by simp, .inr rfl⟩
  · exact h
/-- What Data tells. -/
def datN (G : Gr) : List Txt := gN G.N G.X
def datE (G : Gr) : List Ed := gE G.X
theorem datN_mem {G : Gr} (h : GOk G) {s : Txt} : s ∈ datN G ↔ s ∈ G.N := by
  unfold datN
  rw [gN_mem]
  constructor
  · rintro (h1 | ⟨x, hx, rfl | rfl⟩)
    · exact h1
    · exact (h.ends x hx).1
    · exact (h.ends x hx).2
  · exact .inl
/-- With what is more: as if it came to what Data tells. -/
theorem ofI_dat {G : Gr} (N : List Txt) (E : List Ed) : ofI (datN G ++ N) (datE G ++ E) = ofI (G.N ++ N) (G.X ++ E) := by
  have e : ∀ x, x ∈ datE G ++ E ↔ x ∈ G.X ++ E := fun x => by rw [List.mem_append, List.mem_append, datE, gE_mem]
  have m1 : ∀ s ∈ datN G ++ N, s ∈ G.N ++ N ∨ ∃ x ∈ G.X ++ E, s = x.fr ∨ s = x.to := fun s hs => by
    rcases List.mem_append.1 hs with hs | hs
    · rcases gN_mem.1 hs with h1 | ⟨x, hx, h1⟩
      · exact .inl (List.mem_append.2 (.inl h1))
      · exact .inr ⟨x, List.mem_append.2 (.inl hx), h1⟩
    · exact .inl (List.mem_append.2 (.inr hs))
  have m2 : ∀ s ∈ G.N ++ N, s ∈ datN G ++ N ∨ ∃ x ∈ datE G ++ E, s = x.fr ∨ s = x.to := fun s hs => by
    rcases List.mem_append.1 hs with hs | hs
    · exact .inl (List.mem_append.2 (.inl (gN_mem.2 (.inl hs))))
    · exact .inl (List.mem_append.2 (.inr hs))
  refine ofI_same (fun s => ?_) e m1 m2
  constructor
  · rintro (h | ⟨x, hx, h⟩)
    · exact m1 s h
    · exact .inr ⟨x, (e x).1 hx, h⟩
  · rintro (h | ⟨x, hx, h⟩)
    · exact m2 s h
    · exact .inr ⟨x, (e x).2 hx, h⟩
end Go.Proofs.YtnmkieiehjajlaaGreatDoor
