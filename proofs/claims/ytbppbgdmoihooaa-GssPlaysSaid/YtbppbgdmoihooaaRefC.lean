/- GssPlays: what a node, a frame, a pop more makes of the document's list in memory. -/
import Derived.Test.YtbppbgdmoihooaaRefB
namespace Go.Proofs.Ytbppbgdmoihooaa
open Go.RowKit

/-- Behind a call: v is the list of N', and nothing but its own blocks has turned. -/
def RefNext (w : World) (G : Nat → Prop) (v : Value) (N' : List GNode) (w' : World) : Prop := ∃ G', RefAt w' G' v N' ∧ Upd G w w' ∧ ∀ k, G' k → G k ∨ w.heap.size ≤ k

theorem ref_frame_state {w w8 : World} {O : Nat → Option Tag} {v : Value} {N : List GNode} {D : RefD} (hs : RefI w O v N D) {i : Nat} {x : GNode} (hi : N[i]? = some x) {f : Int × Int} {g : Nat} (hg : O g = some .nodes) {v' : Value}
    (T : Upd (fun k => k = g ∨ O k = some (.fr i)) w w8)
    (row : w8.ownsRow 0 59 4 v N.length (nodeCells N (fun k => if k = i then v' else D.fv k) D.pv))
    (rowf : w8.ownsRow 0 48 2 v' (x.frames.length + 1) (frameCells (x.frames ++ [f])))
    (pl : v'.ownBlock = (D.fv i).ownBlock ∨ ∀ k, v'.ownBlock = some k → w.heap.size ≤ k) :
    RefNext w (fun k => O k ≠ none) v (addFrame N i f) w8 := by
  have hlt := (List.getElem?_eq_some_iff.1 hi).1
  unfold addFrame
  rw [hi]
  simp only
  have dis : ∀ k t, O k = some t → t ≠ .nodes → t ≠ .fr i → ¬ (k = g ∨ O k = some (.fr i)) := by
    rintro k t e h2 h3 (rfl | e')
    · rw [hg] at e; injection e with e; exact h2 e.symm
    · rw [e'] at e; injection e with e; exact h3 e.symm
  have old : ∀ k t, O k = some t → t ≠ .fr i → v'.ownBlock ≠ some k := by
    intro k t e hne e'
    rcases pl with h5 | h5
    · rw [h5] at e'
      rw [hs.oF i hlt k e'] at e
      injection e with e
      exact hne e.symm
    · have h1 := h5 k e'
      have h2 := hs.lt k (by simp [e])
      omega
  have hO : ∀ k t, O k = some t → t ≠ .fr i → (if v'.ownBlock = some k then some (Tag.fr i) else O k) = some t := by
    intro k t e hne
    rw [if_neg (old k t e hne)]; exact e
  have hget : ∀ n y, (N.set i { x with frames := x.frames ++ [f] })[n]? = some y → (n = i ∧ y = { x with frames := x.frames ++ [f] }) ∨ (n ≠ i ∧ N[n]? = some y) := by
    intro n y hy
    rw [List.getElem?_set] at hy
    by_cases hn : i = n
    · subst hn
      rw [if_pos rfl, if_pos hlt] at hy
      injection hy with hy
      exact .inl ⟨rfl, hy.symm⟩
    · rw [if_neg hn] at hy
      exact .inr ⟨fun e => hn e.symm, hy⟩
  refine ⟨fun k => (if v'.ownBlock = some k then some (Tag.fr i) else O k) ≠ none, ⟨fun k => if v'.ownBlock = some k then some (Tag.fr i) else O k,
    { D with fv := fun k => if k = i then v' else D.fv k }, ?_, rfl⟩, T.mono ?_, ?_⟩
  · constructor
    case row =>
      rw [List.length_set]
      show World.ownsRow _ _ _ _ _ _ (nodeCells _ (fun k => if k = i then v' else D.fv k) D.pv)
      rw [nodeCells_same N _ _ i x { x with frames := x.frames ++ [f] } hi rfl rfl]
      exact row
    case rowF =>
      intro n y hy
      show World.ownsRow _ _ _ _ (if n = i then v' else D.fv n) _ _
      rcases hget n y hy with ⟨rfl, rfl⟩ | ⟨hn, hy'⟩
      · rw [if_pos rfl, List.length_append]
        exact rowf
      · rw [if_neg hn]
        exact ownsRow_upd (hs.rowF n y hy') T fun k hk => dis _ _ (hs.oF n (List.getElem?_eq_some_iff.1 hy').1 k hk) (by simp) (by simp [hn])
    case rowP =>
      intro n y hy
      show World.ownsRow _ _ _ _ (D.pv n) _ _
      rcases hget n y hy with ⟨rfl, rfl⟩ | ⟨hn, hy'⟩
      · exact ownsRow_upd (hs.rowP n x hi) T fun k hk => dis _ _ (hs.oP n hlt k hk) (by simp) (by simp)
      · exact ownsRow_upd (hs.rowP n y hy') T fun k hk => dis _ _ (hs.oP n (List.getElem?_eq_some_iff.1 hy').1 k hk) (by simp) (by simp)
    case oN =>
      intro k hk
      exact hO _ _ (hs.oN k hk) (by simp)
    case oF =>
      intro n hn k hk
      rw [List.length_set] at hn
      have hk' : (if n = i then v' else D.fv n).ownBlock = some k := hk
      by_cases e : n = i
      · subst e
        rw [if_pos rfl] at hk'
        exact if_pos hk'
      · rw [if_neg e] at hk'
        exact hO _ _ (hs.oF n hn k hk') (by simp [e])
    case oP =>
      intro n hn k hk
      rw [List.length_set] at hn
      exact hO _ _ (hs.oP n hn k hk) (by simp)
    case lt =>
      intro k hk
      by_cases e : v'.ownBlock = some k
      · exact (rowf.lt k e).2
      · simp only [if_neg e] at hk
        exact Nat.lt_of_lt_of_le (hs.lt k hk) T.size
    case out =>
      intro n hn
      rw [List.length_set] at hn
      show (if n = i then v' else D.fv n) = _ ∧ _
      rw [if_neg (by omega)]
      exact hs.out n hn
  · rintro k hk (rfl | e)
    · simp [hg]
    · simp [e]
  · intro k hk
    by_cases e : v'.ownBlock = some k
    · rcases pl with h5 | h5
      · rw [h5] at e
        exact .inl (by simp [hs.oF i hlt k e])
      · exact .inr (h5 k e)
    · simp only [if_neg e] at hk
      exact .inl hk

theorem ref_pop_state {w w8 : World} {O : Nat → Option Tag} {v : Value} {N : List GNode} {D : RefD} (hs : RefI w O v N D) {i : Nat} {x : GNode} (hi : N[i]? = some x) {f : Int} {g : Nat} (hg : O g = some .nodes) {v' : Value}
    (T : Upd (fun k => k = g ∨ O k = some (.po i)) w w8)
    (row : w8.ownsRow 0 59 4 v N.length (nodeCells N D.fv (fun k => if k = i then v' else D.pv k)))
    (rowf : w8.ownsRow 0 3 1 v' (x.pops.length + 1) (popCells (x.pops ++ [f])))
    (pl : v'.ownBlock = (D.pv i).ownBlock ∨ ∀ k, v'.ownBlock = some k → w.heap.size ≤ k) :
    RefNext w (fun k => O k ≠ none) v (addPop N i f) w8 := by
  have hlt := (List.getElem?_eq_some_iff.1 hi).1
  unfold addPop
  rw [hi]
  simp only
  have dis : ∀ k t, O k = some t → t ≠ .nodes → t ≠ .po i → ¬ (k = g ∨ O k = some (.po i)) := by
    rintro k t e h2 h3 (rfl | e')
    · rw [hg] at e; injection e with e; exact h2 e.symm
    · rw [e'] at e; injection e with e; exact h3 e.symm
  have old : ∀ k t, O k = some t → t ≠ .po i → v'.ownBlock ≠ some k := by
    intro k t e hne e'
    rcases pl with h5 | h5
    · rw [h5] at e'
      rw [hs.oP i hlt k e'] at e
      injection e with e
      exact hne e.symm
    · have h1 := h5 k e'
      have h2 := hs.lt k (by simp [e])
      omega
  have hO : ∀ k t, O k = some t → t ≠ .po i → (if v'.ownBlock = some k then some (Tag.po i) else O k) = some t := by
    intro k t e hne
    rw [if_neg (old k t e hne)]; exact e
  have hget : ∀ n y, (N.set i { x with pops := x.pops ++ [f] })[n]? = some y → (n = i ∧ y = { x with pops := x.pops ++ [f] }) ∨ (n ≠ i ∧ N[n]? = some y) := by
    intro n y hy
    rw [List.getElem?_set] at hy
    by_cases hn : i = n
    · subst hn
      rw [if_pos rfl, if_pos hlt] at hy
      injection hy with hy
      exact .inl ⟨rfl, hy.symm⟩
    · rw [if_neg hn] at hy
      exact .inr ⟨fun e => hn e.symm, hy⟩
  refine ⟨fun k => (if v'.ownBlock = some k then some (Tag.po i) else O k) ≠ none, ⟨fun k => if v'.ownBlock = some k then some (Tag.po i) else O k,
    { D with pv := fun k => if k = i then v' else D.pv k }, ?_, rfl⟩, T.mono ?_, ?_⟩
  · constructor
    case row =>
      rw [List.length_set]
      show World.ownsRow _ _ _ _ _ _ (nodeCells _ D.fv (fun k => if k = i then v' else D.pv k))
      rw [nodeCells_same N _ _ i x { x with pops := x.pops ++ [f] } hi rfl rfl]
      exact row
    case rowP =>
      intro n y hy
      show World.ownsRow _ _ _ _ (if n = i then v' else D.pv n) _ _
      rcases hget n y hy with ⟨rfl, rfl⟩ | ⟨hn, hy'⟩
      · rw [if_pos rfl, List.length_append]
        exact rowf
      · rw [if_neg hn]
        exact ownsRow_upd (hs.rowP n y hy') T fun k hk => dis _ _ (hs.oP n (List.getElem?_eq_some_iff.1 hy').1 k hk) (by simp) (by simp [hn])
    case rowF =>
      intro n y hy
      show World.ownsRow _ _ _ _ (D.fv n) _ _
      rcases hget n y hy with ⟨rfl, rfl⟩ | ⟨hn, hy'⟩
      · exact ownsRow_upd (hs.rowF n x hi) T fun k hk => dis _ _ (hs.oF n hlt k hk) (by simp) (by simp)
      · exact ownsRow_upd (hs.rowF n y hy') T fun k hk => dis _ _ (hs.oF n (List.getElem?_eq_some_iff.1 hy').1 k hk) (by simp) (by simp)
    case oN =>
      intro k hk
      exact hO _ _ (hs.oN k hk) (by simp)
    case oP =>
      intro n hn k hk
      rw [List.length_set] at hn
      have hk' : (if n = i then v' else D.pv n).ownBlock = some k := hk
      by_cases e : n = i
      · subst e
        rw [if_pos rfl] at hk'
        exact if_pos hk'
      · rw [if_neg e] at hk'
        exact hO _ _ (hs.oP n hn k hk') (by simp [e])
    case oF =>
      intro n hn k hk
      rw [List.length_set] at hn
      exact hO _ _ (hs.oF n hn k hk) (by simp)
    case lt =>
      intro k hk
      by_cases e : v'.ownBlock = some k
      · exact (rowf.lt k e).2
      · simp only [if_neg e] at hk
        exact Nat.lt_of_lt_of_le (hs.lt k hk) T.size
    case out =>
      intro n hn
      rw [List.length_set] at hn
      show _ ∧ (if n = i then v' else D.pv n) = _
      rw [if_neg (by omega)]
      exact hs.out n hn
  · rintro k hk (rfl | e)
    · simp [hg]
    · simp [e]
  · intro k hk
    by_cases e : v'.ownBlock = some k
    · rcases pl with h5 | h5
      · rw [h5] at e
        exact .inl (by simp [hs.oP i hlt k e])
      · exact .inr (h5 k e)
    · simp only [if_neg e] at hk
      exact .inl hk

theorem nodeCells_more (N : List GNode) (x : GNode) (fv pv : Nat → Value) : nodeCells (N ++ [x]) fv pv = nodeCells N fv pv ++ [.int .i64 x.mark, .int .i64 x.place, fv N.length, pv N.length] := by
  simp [nodeCells, List.zipIdx_append]

/-- A node more: the list may lie elsewhere now. -/
theorem ref_node_state {w w8 : World} {G : Nat → Prop} {v v' : Value} {N : List GNode} (h : RefAt w G v N) (m p : Int)
    (T : Upd (fun k => v.ownBlock = some k) w w8)
    (row : ∀ xs, w.ownsRow 0 59 4 v N.length xs → w8.ownsRow 0 59 4 v' (N.length + 1) (xs ++ [.int .i64 m, .int .i64 p, .slice none 0 0, .slice none 0 0]))
    (pl : v'.ownBlock = v.ownBlock ∨ ∀ k, v'.ownBlock = some k → w.heap.size ≤ k) :
    ∃ G', RefAt w8 G' v' (N ++ [⟨m, p, [], []⟩]) ∧ Upd G w w8 ∧ ∀ k, G' k → G k ∨ w.heap.size ≤ k := by
  obtain ⟨O, D, hs, rfl⟩ := h
  have hrow := row _ hs.row
  have dis : ∀ k t, O k = some t → t ≠ .nodes → v.ownBlock ≠ some k := by
    intro k t e h2 e'
    rw [hs.oN k e'] at e
    injection e with e
    exact h2 e.symm
  have old : ∀ k t, O k = some t → t ≠ .nodes → v'.ownBlock ≠ some k := by
    intro k t e hne e'
    rcases pl with h5 | h5
    · rw [h5] at e'
      exact dis k t e hne e'
    · have h1 := h5 k e'
      have h2 := hs.lt k (by simp [e])
      omega
  have hO : ∀ k t, O k = some t → t ≠ .nodes → (if v'.ownBlock = some k then some Tag.nodes else O k) = some t := by
    intro k t e hne
    rw [if_neg (old k t e hne)]; exact e
  have hget : ∀ n y, (N ++ [(⟨m, p, [], []⟩ : GNode)])[n]? = some y → (n = N.length ∧ y = ⟨m, p, [], []⟩) ∨ (n < N.length ∧ N[n]? = some y) := by
    intro n y hy
    rw [List.getElem?_append] at hy
    split at hy
    · exact .inr ⟨‹_›, hy⟩
    · have hn := (List.getElem?_eq_some_iff.1 hy).1
      simp at hn
      have : n = N.length := by omega
      subst this
      simp at hy
      exact .inl ⟨rfl, hy.symm⟩
  obtain ⟨o1, o2⟩ := hs.out N.length (Nat.le_refl _)
  refine ⟨fun k => (if v'.ownBlock = some k then some Tag.nodes else O k) ≠ none, ⟨fun k => if v'.ownBlock = some k then some Tag.nodes else O k, D, ?_, rfl⟩, T.mono ?_, ?_⟩
  · constructor
    case row =>
      rw [nodeCells_more, List.length_append, o1, o2]
      exact hrow
    case rowF =>
      intro n y hy
      rcases hget n y hy with ⟨rfl, rfl⟩ | ⟨hn, hy'⟩
      · rw [o1]
        exact World.ownsRow_nil _ _ _ _
      · exact ownsRow_upd (hs.rowF n y hy') T fun k hk => dis _ _ (hs.oF n hn k hk) (by simp)
    case rowP =>
      intro n y hy
      rcases hget n y hy with ⟨rfl, rfl⟩ | ⟨hn, hy'⟩
      · rw [o2]
        exact World.ownsRow_nil _ _ _ _
      · exact ownsRow_upd (hs.rowP n y hy') T fun k hk => dis _ _ (hs.oP n hn k hk) (by simp)
    case oN =>
      intro k hk
      rw [if_pos hk]
    case oF =>
      intro n hn k hk
      rw [List.length_append, List.length_singleton] at hn
      by_cases e : n < N.length
      · exact hO _ _ (hs.oF n e k hk) (by simp)
      · have : n = N.length := by omega
        subst this
        rw [o1] at hk
        simp [Value.ownBlock] at hk
    case oP =>
      intro n hn k hk
      rw [List.length_append, List.length_singleton] at hn
      by_cases e : n < N.length
      · exact hO _ _ (hs.oP n e k hk) (by simp)
      · have : n = N.length := by omega
        subst this
        rw [o2] at hk
        simp [Value.ownBlock] at hk
    case lt =>
      intro k hk
      by_cases e : v'.ownBlock = some k
      · exact (hrow.lt k e).2
      · simp only [if_neg e] at hk
        exact Nat.lt_of_lt_of_le (hs.lt k hk) T.size
    case out =>
      intro n hn
      rw [List.length_append, List.length_singleton] at hn
      exact hs.out n (by omega)
  · intro k _ e
    simp [hs.oN k e]
  · intro k hk
    by_cases e : v'.ownBlock = some k
    · rcases pl with h5 | h5
      · rw [h5] at e
        exact .inl (by simp [hs.oN k e])
      · exact .inr (h5 k e)
    · simp only [if_neg e] at hk
      exact .inl hk
end Go.Proofs.Ytbppbgdmoihooaa
