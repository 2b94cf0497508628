/- Graphs that grow: what comes edge by edge; what is refused or comes again (the plain law). -/
import Derived.Test.YtnmkieiehjajlaaGreatDoorZ24
set_option linter.unusedVariables false
set_option linter.unusedSimpArgs false
namespace Go.Proofs.YtnmkieiehjajlaaGreatDoor
open Go.RowKit

def stepC (s : Gr × Nat) (x : Ed) : Gr × Nat := ((addEdge s.1 x).1, s.2 + if (addEdge s.1 x).2.1 = true then 1 else 0)
def grwE (L : List Ed) : Gr × Nat := L.foldl stepC (⟨[], []⟩, 0)
def grwN (G : Gr) (M : List Txt) : Gr := M.foldl (fun G s => (addNode G s).1) G
theorem grwE_take {L : List Ed} {i : Nat} {x : Ed} (h : L[i]? = some x) : grwE (L.take (i + 1)) = stepC (grwE (L.take i)) x := by
  unfold grwE
  rw [List.take_add_one, h, List.foldl_append]
  rfl
theorem grwN_take {G : Gr} {M : List Txt} {i : Nat} {s : Txt} (h : M[i]? = some s) : grwN G (M.take (i + 1)) = (addNode (grwN G (M.take i)) s).1 := by
  unfold grwN
  rw [List.take_add_one, h, List.foldl_append]
  rfl
theorem grwE_okk : ∀ (L : List Ed) (s : Gr × Nat), GOk s.1 → GOk (L.foldl stepC s).1
  | [], _, h => h
  | x :: L, s, h => grwE_okk L (stepC s x) (h.edge x)
theorem grwE_ok (L : List Ed) : GOk (grwE L).1 := grwE_okk L _ GOk.new
theorem grwN_ok : ∀ (M : List Txt) (G : Gr), GOk G → GOk (grwN G M)
  | [], _, h => h
  | s :: M, G, h => grwN_ok M (addNode G s).1 (h.node s)
theorem grwE_cnt : ∀ (L : List Ed) (s : Gr × Nat), (L.foldl stepC s).2 ≤ s.2 + L.length
  | [], s => by simp
  | x :: L, s => by
    have := grwE_cnt L (stepC s x)
    rw [List.foldl_cons, List.length_cons]
    refine Nat.le_trans this ?_
    unfold stepC
    dsimp only
    split <;> omega
theorem addEdge_yes {G : Gr} {x : Ed} (hx : x ∉ G.X) (h : ofI G.N (G.X ++ [x]) = 0) : addEdge G x = (⟨addN (addN G.N x.fr) x.to, G.X ++ [x]⟩, true, 0) := by
  unfold addEdge
  rw [if_neg hx, if_pos h]
theorem addNode_in {G : Gr} {s : Txt} (h : s ∈ G.N) : addNode G s = (G, false, 0) := by
  unfold addNode
  rw [if_pos (inB_iff.2 h)]
theorem grow_whole {N : List Txt} {E : List Ed} (hc : checkI N E = 0) : ∀ (L : List Ed) (G : Gr) (k : Nat), (G.X ++ L).Nodup → (∀ x ∈ G.X ++ L, x ∈ E) → (∀ s ∈ G.N, s ∈ N) →
    (L.foldl stepC (G, k)).1.X = G.X ++ L ∧ (L.foldl stepC (G, k)).2 = k + L.length ∧ ∀ s ∈ (L.foldl stepC (G, k)).1.N, s ∈ N
  | [], G, k, _, _, hN => ⟨by simp, by simp, hN⟩
  | x :: L, G, k, hd, hE, hN => by
    have hx : x ∉ G.X := fun h => by
      rw [List.nodup_append] at hd
      exact hd.2.2 x h x (by simp) rfl
    have hofi : ofI G.N (G.X ++ [x]) = 0 := ofI_sub (N := N) (E := E) (fun s hs => .inl (hN s hs)) (fun y hy => hE y (by
      rcases List.mem_append.1 hy with hy | hy
      · exact List.mem_append.2 (.inl hy)
      · rw [List.mem_singleton] at hy
        subst hy
        simp)) (same_of hc (fun _ => Iff.rfl) (fun _ => Iff.rfl)).1
    have hs : stepC (G, k) x = (⟨addN (addN G.N x.fr) x.to, G.X ++ [x]⟩, k + 1) := by
      unfold stepC
      rw [addEdge_yes hx hofi]
      rfl
    obtain ⟨-, -, f3⟩ := form_iff (check_caps hc).1
    have hxE := f3 x (hE x (by simp))
    obtain ⟨a, b, c⟩ := grow_whole hc L ⟨addN (addN G.N x.fr) x.to, G.X ++ [x]⟩ (k + 1) (by simpa using hd) (by simpa using hE) (fun s hs => by
      simp only [mem_addN] at hs
      rcases hs with (hs | rfl) | rfl
      · exact hN s hs
      · exact hxE.1
      · exact hxE.2)
    rw [List.foldl_cons, hs]
    exact ⟨by rw [a]; simp, by rw [b, List.length_cons]; omega, c⟩
theorem grwN_whole {N : List Txt} {E : List Ed} (hc : checkI N E = 0) : ∀ (M : List Txt) (G : Gr), (∀ x ∈ G.X, x ∈ E) → (∀ s ∈ G.N, s ∈ N) → (∀ s ∈ M, s ∈ N) →
    (grwN G M).X = G.X ∧ (∀ s ∈ (grwN G M).N, s ∈ N) ∧ (∀ s ∈ G.N, s ∈ (grwN G M).N) ∧ ∀ s ∈ M, s ∈ (grwN G M).N
  | [], G, _, hN, _ => ⟨rfl, hN, fun _ h => h, fun _ h => (by cases h)⟩
  | s :: M, G, hE, hN, hM => by
    have key : (addNode G s).1.X = G.X ∧ (∀ t, t ∈ (addNode G s).1.N ↔ t ∈ G.N ∨ t = s) := by
      by_cases hs : s ∈ G.N
      · rw [addNode_in hs]
        refine ⟨rfl, fun t => ⟨.inl, ?_⟩⟩
        rintro (h | rfl)
        · exact h
        · exact hs
      · have hofi : ofI (G.N ++ [s]) G.X = 0 := ofI_sub (N := N) (E := E) (fun t ht => .inl (by
          rcases List.mem_append.1 ht with ht | ht
          · exact hN t ht
          · rw [List.mem_singleton] at ht
            subst ht
            exact hM _ (by simp))) hE (same_of hc (fun _ => Iff.rfl) (fun _ => Iff.rfl)).1
        unfold addNode
        rw [if_neg (fun e => hs (inB_iff.1 e)), if_pos hofi]
        exact ⟨rfl, fun t => by simp⟩
    obtain ⟨a, b, c, d⟩ := grwN_whole hc M (addNode G s).1 (fun x hx => hE x (by rw [← key.1]; exact hx)) (fun t ht => by
      rcases (key.2 t).1 ht with h | rfl
      · exact hN t h
      · exact hM _ (by simp)) (fun t ht => hM t (by simp [ht]))
    show (grwN (addNode G s).1 M).X = G.X ∧ (∀ t ∈ (grwN (addNode G s).1 M).N, t ∈ N) ∧ (∀ t ∈ G.N, t ∈ (grwN (addNode G s).1 M).N) ∧ ∀ t ∈ s :: M, t ∈ (grwN (addNode G s).1 M).N
    refine ⟨a.trans key.1, b, fun t ht => c t ((key.2 t).2 (.inl ht)), fun t ht => ?_⟩
    rcases List.mem_cons.1 ht with rfl | ht
    · exact c _ ((key.2 _).2 (.inr rfl))
    · exact d t ht
/-- Edge by edge, in any order, and the nodes behind: the same graph. -/
theorem grown_same {N : List Txt} {E L : List Ed} (hc : checkI N E = 0) (hL : L.Nodup) (hm : ∀ x, x ∈ L ↔ x ∈ E) :
    (grwE L).2 = L.length ∧ GOk (grwN (grwE L).1 N) ∧ datN (grwN (grwE L).1 N) = N ∧ datE (grwN (grwE L).1 N) = E ∧ (grwN (grwE L).1 N).N.length = N.length := by
  obtain ⟨f1, -, -⟩ := form_iff (check_caps hc).1
  obtain ⟨a, b, c⟩ := grow_whole hc L ⟨[], []⟩ 0 (by simpa using hL) (fun x hx => (hm x).1 (by simpa using hx)) (fun s hs => (by cases hs))
  have ha : (grwE L).1.X = L := by
    rw [List.nil_append] at a
    exact a
  obtain ⟨a', b', -, d'⟩ := grwN_whole hc N (grwE L).1 (fun x hx => (hm x).1 (by rw [← ha]; exact hx)) c (fun _ h => h)
  have hok := grwN_ok N _ (grwE_ok L)
  have hN : ∀ s, s ∈ (grwN (grwE L).1 N).N ↔ s ∈ N := fun s => ⟨b' s, d' s⟩
  have hX : ∀ x, x ∈ (grwN (grwE L).1 N).X ↔ x ∈ E := fun x => by rw [a', ha]; exact hm x
  obtain ⟨-, e1, e2⟩ := same_of hc hN hX
  exact ⟨by show (L.foldl stepC (⟨[], []⟩, 0)).2 = _; rw [b, Nat.zero_add], hok, e1, e2, Nat.le_antisymm (len_sub hok.nd b') (len_sub (f1.nodup stoT) d')⟩
/-! What is refused, or comes again. -/
theorem addEdge_said (G : Gr) (x : Ed) : ((addEdge G x).2.1 = true → (addEdge G x).2.2 = 0) ∧ ((addEdge G x).2.1 = false → (addEdge G x).1 = G) ∧ ((addEdge G x).2.2 = 0 → x ∈ (addEdge G x).1.X) ∧ (∃ M, (addEdge G x).1.N = G.N ++ M) ∧ (∀ y ∈ G.X, y ∈ (addEdge G x).1.X) ∧ ((addEdge G x).2.2 ≠ 0 → ofI G.N (G.X ++ [x]) ≠ 0) ∧ ((addEdge G x).2.1 = true → x ∉ G.X) := by
  unfold addEdge
  split
  · rename_i h
    exact ⟨fun e => (by cases e), fun _ => rfl, fun _ => h, ⟨[], by simp⟩, fun _ h => h, fun e => absurd rfl e, fun e => by cases e⟩
  split
  · rename_i h h2
    refine ⟨fun _ => rfl, fun e => (by cases e), fun _ => by simp, ?_, fun y hy => List.mem_append.2 (.inl hy), fun e => absurd rfl e, fun _ => h⟩
    have key : ∀ (N : List Txt) s, ∃ M, addN N s = N ++ M := fun N s => by
      unfold addN
      split
      · exact ⟨[], by simp⟩
      · exact ⟨[s], rfl⟩
    obtain ⟨M, e1⟩ := key G.N x.fr
    obtain ⟨M', e2⟩ := key (addN G.N x.fr) x.to
    exact ⟨M ++ M', by dsimp only; rw [e2, e1, List.append_assoc]⟩
  · rename_i h h2
    exact ⟨fun e => (by cases e), fun _ => rfl, fun e => absurd e h2, ⟨[], by simp⟩, fun _ h => h, fun e => e, fun e => by cases e⟩
theorem addNode_said (G : Gr) (s : Txt) : ((addNode G s).2.1 = true → (addNode G s).2.2 = 0) ∧ ((addNode G s).2.1 = false → (addNode G s).1 = G) ∧ ((addNode G s).2.2 = 0 → s ∈ (addNode G s).1.N) ∧ (∃ M, (addNode G s).1.N = G.N ++ M) ∧ (addNode G s).1.X = G.X ∧ ((addNode G s).2.1 = true → s ∉ G.N) := by
  unfold addNode
  split
  · rename_i h
    exact ⟨fun e => (by cases e), fun _ => rfl, fun _ => inB_iff.1 h, ⟨[], by simp⟩, rfl, fun e => by cases e⟩
  split
  · rename_i h h2
    exact ⟨fun _ => rfl, fun e => (by cases e), fun _ => by simp, ⟨[s], rfl⟩, rfl, fun _ hs => h (inB_iff.2 hs)⟩
  · rename_i h h2
    exact ⟨fun e => (by cases e), fun _ => rfl, fun e => absurd e h2, ⟨[], by simp⟩, rfl, fun e => by cases e⟩
structure Stays (G G1 G2 : Gr) (m1 m2 : Bool) (e1 e2 : Int) (x : Ed) (s : Txt) : Prop where
  same : sameB (datN G2) (datE G2) (datN G) (datE G) = !(m1 || m2)
  fair : (m1 = true → e1 = 0) ∧ (m2 = true → e2 = 0)
  has : e1 = 0 → x ∈ G2.X
  again : ∃ e, addEdge G2 x = (G2, false, e) ∧ (e1 = 0 → e = 0)
  twice : ∃ e, addNode G2 s = (G2, false, e) ∧ (e2 = 0 → e = 0)
  more : ∃ M, G2.N = G.N ++ M
  may : checkI (datN G2) (datE G2) = 0
theorem stays {G : Gr} (ok : GOk G) (x : Ed) (s : Txt) : Stays G (addEdge G x).1 (addNode (addEdge G x).1 s).1 (addEdge G x).2.1 (addNode (addEdge G x).1 s).2.1 (addEdge G x).2.2 (addNode (addEdge G x).1 s).2.2 x s := by
  obtain ⟨a1, a2, a3, ⟨M1, a4⟩, a5, a6, a7⟩ := addEdge_said G x
  have ok1 := ok.edge x
  obtain ⟨b1, b2, b3, ⟨M2, b4⟩, b5, b6⟩ := addNode_said (addEdge G x).1 s
  have ok2 := ok1.node s
  generalize hG1 : (addEdge G x).1 = G1 at *
  generalize hm1 : (addEdge G x).2.1 = m1 at *
  generalize he1 : (addEdge G x).2.2 = e1 at *
  generalize hG2 : (addNode G1 s).1 = G2 at *
  generalize hm2 : (addNode G1 s).2.1 = m2 at *
  generalize he2 : (addNode G1 s).2.2 = e2 at *
  have hin : m1 = false → m2 = false → G2 = G := fun h1 h2 => (b2 h2).trans (a2 h1)
  refine ⟨?_, ⟨a1, b1⟩, fun h => by rw [b5]; exact a3 h, ?_, ?_, ⟨M1 ++ M2, by rw [b4, a4, List.append_assoc]⟩, check_made ok2.may⟩
  · cases h1 : m1 with
    | true =>
      have hx := a7 h1
      have hx2 : x ∈ G2.X := by rw [b5]; exact a3 (a1 h1)
      have : datE G2 ≠ datE G := fun e => hx (gE_mem.1 (by show x ∈ datE G; rw [← e]; exact gE_mem.2 hx2))
      simp [sameB, this]
    | false =>
      cases h2 : m2 with
      | true =>
        have hs := b6 h2
        rw [a2 h1] at hs
        have : datN G2 ≠ datN G := fun e => hs ((datN_mem ok).1 (by rw [← e]; exact (datN_mem ok2).2 (b3 (b1 h2))))
        simp [sameB, this]
      | false =>
        rw [hin h1 h2]
        simp [sameB]
  · by_cases h : e1 = 0
    · exact ⟨0, by unfold addEdge; rw [if_pos (by rw [b5]; exact a3 h)], fun _ => rfl⟩
    · have h1 : m1 = false := by
        cases h1 : m1 with
        | true => exact absurd (a1 h1) h
        | false => rfl
      have hx : x ∉ G2.X := by
        rw [b5, a2 h1]
        intro hx
        apply h
        rw [← he1]
        unfold addEdge
        rw [if_pos hx]
      have ho : ofI G2.N (G2.X ++ [x]) ≠ 0 := fun e => a6 h (ofI_sub (fun t ht => .inl (by rw [b4, a4]; simp [ht])) (fun y hy => by rw [b5, a2 h1]; exact hy) e)
      exact ⟨_, by unfold addEdge; rw [if_neg hx, if_neg ho], fun e => absurd e h⟩
  · by_cases h : e2 = 0
    · exact ⟨0, addNode_in (b3 h), fun _ => rfl⟩
    · have h2 : m2 = false := by
        cases h2 : m2 with
        | true => exact absurd (b1 h2) h
        | false => rfl
      have := b2 h2
      rw [this]
      refine ⟨e2, ?_, fun e => absurd e h⟩
      rw [← hm2, ← he2] at *
      exact Prod.ext (by rw [hG2]; exact this) (Prod.ext h2 rfl)
/-! Some answers that the document fixes. -/
def edW : Ed := ⟨tB, tX, tA⟩
def grW : Gr := ⟨[tB, tA], [edW]⟩
theorem gE_w : gE [edW] = [edW] := setOf_eq stoE rfl (fun _ => Iff.rfl)
theorem gN_w : gN [] [edW] = [tA, tB] := by
  refine setOf_eq stoT (by simp only [upB, ltT, txt_list]; decide) (fun x => ?_)
  simp only [allT, edW, endsL, List.flatMap_cons, List.flatMap_nil, List.mem_append, List.mem_cons, List.not_mem_nil, or_false]
  constructor
  · rintro (rfl | rfl) <;> simp
  · rintro (h | (rfl | rfl)) <;> simp_all
theorem lbs_w : setOf ltT (lbs [edW]) = [tX] := by
  refine setOf_eq stoT rfl (fun x => ?_)
  simp [lbs, edW]
theorem text_w : (textL [tA, tB] [edW]).length ≤ 2048 := by
  unfold textL loneL
  decide +kernel
theorem ofI_w : ofI [] [edW] = 0 := by
  rw [ofI, if_neg (by decide +kernel), gN_w, gE_w, capsI, lbs_w]
  rw [if_neg (by decide), if_neg (by decide), if_neg (by decide), if_neg (Nat.not_lt.2 text_w)]
theorem aw_e1 : addEdge ⟨[], []⟩ edW = (grW, true, 0) := by
  rw [addEdge_yes (by simp) ofI_w]
  have h : addN (addN [] edW.fr) edW.to = [tB, tA] := by
    have h1 : addN [] edW.fr = [tB] := rfl
    have h2 : inB tA [tB] = false := by decide +kernel
    rw [h1]
    show addN [tB] tA = _
    rw [addN, h2]
    rfl
  dsimp only
  rw [h]
  rfl
theorem aw_e2 : addEdge grW edW = (grW, false, 0) := by
  unfold addEdge
  rw [if_pos (by simp [grW])]
theorem aw_n : addNode grW ⟨#[]⟩ = (grW, false, 173) := by
  have h1 : inB ⟨#[]⟩ grW.N = false := by decide +kernel
  have h2 : namedB (grW.N ++ [⟨#[]⟩]) grW.X = false := by decide +kernel
  have h3 : ofI (grW.N ++ [⟨#[]⟩]) grW.X = 173 := by rw [ofI, if_pos h2]
  unfold addNode
  rw [h1, h3]
  rfl
end Go.Proofs.YtnmkieiehjajlaaGreatDoor
