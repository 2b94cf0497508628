/- The shared stack (gss): what a frame more, a pop more makes of the stack's memory. -/
import Derived.Test.YtbppbgdmoihooaaGssC
import Derived.Test.YtbppbgdmoihooaaGssD
namespace Go.Proofs.Ytbppbgdmoihooaa
open Go.RowKit

theorem nodeCells_get (N : List GNode) (fv pv : Nat → Value) (q r : Nat) (hr : r < 4) : (nodeCells N fv pv)[q * 4 + r]? = (N[q]?).bind fun x => [Value.int .i64 x.mark, .int .i64 x.place, fv q, pv q][r]? := by
  cases h : N[q]? with
  | some x => exact flat_get (fun p : GNode × Nat => [Value.int .i64 p.1.mark, .int .i64 p.1.place, fv p.2, pv p.2]) 4 (fun _ => rfl) N.zipIdx q r (x, q) (by simp [h]) hr
  | none =>
    have hl : (nodeCells N fv pv).length = N.length * 4 := by
      have := flat_len (fun p : GNode × Nat => [Value.int .i64 p.1.mark, .int .i64 p.1.place, fv p.2, pv p.2]) 4 (fun _ => rfl) N.zipIdx
      simpa [nodeCells] using this
    have hq := List.getElem?_eq_none_iff.1 h
    simp only [Option.bind_none]
    exact List.getElem?_eq_none (by omega)
theorem nodeCells_len (N : List GNode) (fv pv : Nat → Value) : (nodeCells N fv pv).length = N.length * 4 := by
  have := flat_len (fun p : GNode × Nat => [Value.int .i64 p.1.mark, .int .i64 p.1.place, fv p.2, pv p.2]) 4 (fun _ => rfl) N.zipIdx
  simpa [nodeCells] using this
theorem ext4 {l l' : List Value} (h : ∀ q r, r < 4 → l[q * 4 + r]? = l'[q * 4 + r]?) : l = l' := by
  apply List.ext_getElem?
  intro m
  have := h (m / 4) (m % 4) (Nat.mod_lt _ (by omega))
  rwa [Nat.div_add_mod' m 4] at this
theorem nodeCells_setF (N : List GNode) (fv pv : Nat → Value) (i : Nat) (v : Value) (hi : i < N.length) : (nodeCells N fv pv).set (i * 4 + 2) v = nodeCells N (fun k => if k = i then v else fv k) pv := by
  apply ext4
  intro q r hr
  rw [List.getElem?_set, nodeCells_get _ _ _ _ _ hr, nodeCells_get _ _ _ _ _ hr, nodeCells_len]
  by_cases hq : q = i
  · subst hq
    rw [List.getElem?_eq_getElem hi]
    match r, hr with
    | 0, _ => simp
    | 1, _ => simp
    | 2, _ => simp; omega
    | 3, _ => simp
  · rw [if_neg (by omega)]
    simp [hq]
theorem nodeCells_setP (N : List GNode) (fv pv : Nat → Value) (i : Nat) (v : Value) (hi : i < N.length) : (nodeCells N fv pv).set (i * 4 + 3) v = nodeCells N fv (fun k => if k = i then v else pv k) := by
  apply ext4
  intro q r hr
  rw [List.getElem?_set, nodeCells_get _ _ _ _ _ hr, nodeCells_get _ _ _ _ _ hr, nodeCells_len]
  by_cases hq : q = i
  · subst hq
    rw [List.getElem?_eq_getElem hi]
    match r, hr with
    | 0, _ => simp
    | 1, _ => simp
    | 2, _ => simp
    | 3, _ => simp; omega
  · rw [if_neg (by omega)]
    simp [hq]
theorem nodeCells_same (N : List GNode) (fv pv : Nat → Value) (i : Nat) (x y : GNode) (hi : N[i]? = some x) (hm : y.mark = x.mark) (hp : y.place = x.place) : nodeCells (N.set i y) fv pv = nodeCells N fv pv := by
  apply ext4
  intro q r hr
  rw [nodeCells_get _ _ _ _ _ hr, nodeCells_get _ _ _ _ _ hr, List.getElem?_set]
  by_cases hq : i = q
  · subst hq
    rw [if_pos rfl, if_pos (List.getElem?_eq_some_iff.1 hi).1, hi]
    simp [hm, hp]
  · rw [if_neg hq]
theorem keys_same (N : List GNode) (i : Nat) (x y : GNode) (hi : N[i]? = some x) (hm : y.mark = x.mark) (hp : y.place = x.place) :
    (N.set i y).zipIdx.map (fun p => (key2 p.1.mark p.1.place, Value.int .i64 p.2)) = N.zipIdx.map fun p => (key2 p.1.mark p.1.place, .int .i64 p.2) := by
  apply List.ext_getElem?
  intro q
  simp only [List.getElem?_map, List.getElem?_zipIdx, List.getElem?_set]
  by_cases hq : i = q
  · subst hq
    rw [if_pos rfl, if_pos (List.getElem?_eq_some_iff.1 hi).1, hi]
    simp [hm, hp]
  · rw [if_neg hq]

theorem StkNext.below {w w' w2 : World} {F : Nat → Prop} {b : Nat} {N : List GNode} (h : StkNext w F b N w') (hb : Below w'.heap.size w' w2) : StkNext w F b N w2 := by
  obtain ⟨F', h1, h2, h3⟩ := h
  exact ⟨F', h1.upd (G := fun _ => False) (Upd.of_below hb _) (fun _ _ => id), h2.trans (F' := fun _ => False) (Upd.of_below hb _) (fun _ => False.elim), h3⟩

/-- A frame more. -/
def addFrame (N : List GNode) (i : Nat) (f : Int × Int) : List GNode := match N[i]? with
  | some x => N.set i { x with frames := x.frames ++ [f] }
  | none => N
def addPop (N : List GNode) (i : Nat) (a : Int) : List GNode := match N[i]? with
  | some x => N.set i { x with pops := x.pops ++ [a] }
  | none => N

theorem frame_state {w w8 : World} {O : Nat → Option Tag} {b : Nat} {N : List GNode} {D : StkD} (hs : StkI w O b N D) {i : Nat} {x : GNode} (hi : N[i]? = some x) {f : Int × Int} (hf1 : Wf f.1) (hf2 : Wf f.2)
    (hlen : x.frames.length + 1 ≤ 1000000) {g : Nat} (hg : O g = some .nodes) {v' : Value}
    (T : Upd (fun k => k = D.r2 ∨ k = g ∨ O k = some (.fr i)) w w8)
    (m2 : MapIs w8 Try.prog 119 D.r2 (D.k2 ++ [(key3 i f.1 f.2, .int .i64 1)]))
    (row : w8.ownsRow 0 110 4 D.nv N.length (nodeCells N (fun k => if k = i then v' else D.fv k) D.pv))
    (rowf : w8.ownsRow 0 48 2 v' (x.frames.length + 1) (frameCells (x.frames ++ [f])))
    (pl : v'.ownBlock = (D.fv i).ownBlock ∨ ∀ k, v'.ownBlock = some k → w.heap.size ≤ k) :
    StkNext w (fun k => O k ≠ none) b (addFrame N i f) w8 := by
  have hlt := (List.getElem?_eq_some_iff.1 hi).1
  unfold addFrame
  rw [hi]
  simp only
  have dis : ∀ k t, O k = some t → t ≠ .m2 → t ≠ .nodes → t ≠ .fr i → ¬ (k = D.r2 ∨ k = g ∨ O k = some (.fr i)) := by
    rintro k t e h1 h2 h3 (rfl | rfl | e')
    · rw [hs.o2] at e; injection e with e; exact h1 e.symm
    · rw [hg] at e; injection e with e; exact h2 e.symm
    · rw [e'] at e; injection e with e; exact h3 e.symm
  have old : ∀ k t, O k = some t → t ≠ .fr i → v'.ownBlock ≠ some k := by
    intro k t e hne e'
    rcases pl with h5 | h5
    · rw [h5] at e'
      rw [hs.oF i hlt k e'] at e
      injection e with e
      exact hne e.symm
    · have h1 := h5 k e'
      have h2 := hs.lt k (by simp [e])
      omega
  have hO : ∀ k t, O k = some t → t ≠ .fr i → (if v'.ownBlock = some k then some (Tag.fr i) else O k) = some t := by
    intro k t e hne
    rw [if_neg (old k t e hne)]; exact e
  have hget : ∀ n y, (N.set i { x with frames := x.frames ++ [f] })[n]? = some y → (n = i ∧ y = { x with frames := x.frames ++ [f] }) ∨ (n ≠ i ∧ N[n]? = some y) := by
    intro n y hy
    rw [List.getElem?_set] at hy
    by_cases hn : i = n
    · subst hn
      rw [if_pos rfl, if_pos hlt] at hy
      injection hy with hy
      exact .inl ⟨rfl, hy.symm⟩
    · rw [if_neg hn] at hy
      exact .inr ⟨fun e => hn e.symm, hy⟩
  have hgi : (N.set i { x with frames := x.frames ++ [f] })[i]? = some { x with frames := x.frames ++ [f] } := by
    rw [List.getElem?_set, if_pos rfl, if_pos hlt]
  have hgo : ∀ n, n ≠ i → (N.set i { x with frames := x.frames ++ [f] })[n]? = N[n]? := by
    intro n hn
    rw [List.getElem?_set, if_neg (fun e => hn e.symm)]
  refine ⟨fun k => (if v'.ownBlock = some k then some (Tag.fr i) else O k) ≠ none, ⟨fun k => if v'.ownBlock = some k then some (Tag.fr i) else O k,
    { D with fv := fun k => if k = i then v' else D.fv k, k2 := D.k2 ++ [(key3 i f.1 f.2, .int .i64 1)] }, ?_, rfl⟩, T.mono ?_, ?_⟩
  · constructor
    case blk =>
      exact hs.blk.upd T (dis _ _ hs.o0 (by simp) (by simp) (by simp))
    case map1 =>
      exact hs.map1.upd T (dis _ _ hs.o1 (by simp) (by simp) (by simp))
    case map2 =>
      exact m2
    case map3 =>
      exact hs.map3.upd T (dis _ _ hs.o3 (by simp) (by simp) (by simp))
    case e1 =>
      show D.k1 = _
      rw [keys_same N i x { x with frames := x.frames ++ [f] } hi rfl rfl, hs.e1]
    case e2 =>
      intro q
      show q ∈ D.k2 ++ _ ↔ _
      rw [List.mem_append, hs.e2 q, List.mem_singleton]
      constructor
      · rintro (⟨n, h, y, hy, hf, rfl⟩ | rfl)
        · by_cases hn : n = i
          · subst hn
            rw [hi] at hy
            injection hy with hy
            subst hy
            exact ⟨n, h, _, hgi, List.mem_append.2 (.inl hf), rfl⟩
          · exact ⟨n, h, y, by rw [hgo n hn]; exact hy, hf, rfl⟩
        · exact ⟨i, f, _, hgi, by simp, rfl⟩
      · rintro ⟨n, h, y, hy, hf, rfl⟩
        rcases hget n y hy with ⟨rfl, rfl⟩ | ⟨_, hy'⟩
        · rcases List.mem_append.1 hf with hf | hf
          · exact .inl ⟨n, h, x, hi, hf, rfl⟩
          · obtain rfl := List.mem_singleton.1 hf
            exact .inr rfl
        · exact .inl ⟨n, h, y, hy', hf, rfl⟩
    case e3 =>
      intro q
      show q ∈ D.k3 ↔ _
      rw [hs.e3 q]
      constructor
      · rintro ⟨n, h, y, hy, hf, rfl⟩
        by_cases hn : n = i
        · subst hn
          rw [hi] at hy
          injection hy with hy
          subst hy
          exact ⟨n, h, _, hgi, hf, rfl⟩
        · exact ⟨n, h, y, by rw [hgo n hn]; exact hy, hf, rfl⟩
      · rintro ⟨n, h, y, hy, hf, rfl⟩
        rcases hget n y hy with ⟨rfl, rfl⟩ | ⟨_, hy'⟩
        · exact ⟨n, h, x, hi, hf, rfl⟩
        · exact ⟨n, h, y, hy', hf, rfl⟩
    case row =>
      rw [List.length_set]
      show World.ownsRow _ _ _ _ _ _ (nodeCells _ (fun k => if k = i then v' else D.fv k) D.pv)
      rw [nodeCells_same N _ _ i x { x with frames := x.frames ++ [f] } hi rfl rfl]
      exact row
    case rowF =>
      intro n y hy
      show World.ownsRow _ _ _ _ (if n = i then v' else D.fv n) _ _
      rcases hget n y hy with ⟨rfl, rfl⟩ | ⟨hn, hy'⟩
      · rw [if_pos rfl, List.length_append]
        exact rowf
      · rw [if_neg hn]
        exact ownsRow_upd (hs.rowF n y hy') T fun k hk => dis _ _ (hs.oF n (List.getElem?_eq_some_iff.1 hy').1 k hk) (by simp) (by simp) (by simp [hn])
    case rowP =>
      intro n y hy
      show World.ownsRow _ _ _ _ (D.pv n) _ _
      rcases hget n y hy with ⟨rfl, rfl⟩ | ⟨hn, hy'⟩
      · exact ownsRow_upd (hs.rowP n x hi) T fun k hk => dis _ _ (hs.oP n hlt k hk) (by simp) (by simp) (by simp)
      · exact ownsRow_upd (hs.rowP n y hy') T fun k hk => dis _ _ (hs.oP n (List.getElem?_eq_some_iff.1 hy').1 k hk) (by simp) (by simp) (by simp)
    case o0 =>
      exact hO _ _ hs.o0 (by simp)
    case o1 =>
      exact hO _ _ hs.o1 (by simp)
    case o2 =>
      exact hO _ _ hs.o2 (by simp)
    case o3 =>
      exact hO _ _ hs.o3 (by simp)
    case oN =>
      intro k hk
      exact hO _ _ (hs.oN k hk) (by simp)
    case oF =>
      intro n hn k hk
      rw [List.length_set] at hn
      have hk' : (if n = i then v' else D.fv n).ownBlock = some k := hk
      by_cases e : n = i
      · subst e
        rw [if_pos rfl] at hk'
        exact if_pos hk'
      · rw [if_neg e] at hk'
        exact hO _ _ (hs.oF n hn k hk') (by simp [e])
    case oP =>
      intro n hn k hk
      rw [List.length_set] at hn
      exact hO _ _ (hs.oP n hn k hk) (by simp)
    case lt =>
      intro k hk
      by_cases e : v'.ownBlock = some k
      · exact (rowf.lt k e).2
      · simp only [if_neg e] at hk
        exact Nat.lt_of_lt_of_le (hs.lt k hk) T.size
    case wf =>
      intro y hy
      obtain ⟨n, hn⟩ := List.mem_iff_getElem?.1 hy
      rcases hget n y hn with ⟨rfl, rfl⟩ | ⟨_, hy'⟩
      · obtain ⟨a1, a2, a3, a4, a5, a6⟩ := hs.wf x (List.mem_of_getElem? hi)
        refine ⟨a1, a2, ?_, a4, by rw [List.length_append]; exact hlen, a6⟩
        intro h hh
        rcases List.mem_append.1 hh with hh | hh
        · exact a3 h hh
        · obtain rfl := List.mem_singleton.1 hh
          exact ⟨hf1, hf2⟩
      · exact hs.wf y (List.mem_of_getElem? hy')
    case out =>
      intro n hn
      rw [List.length_set] at hn
      show (if n = i then v' else D.fv n) = _ ∧ _
      rw [if_neg (by omega)]
      exact hs.out n hn
    case few =>
      rw [List.length_set]; exact hs.few
  · rintro k hk (rfl | rfl | e)
    · simp [hs.o2]
    · simp [hg]
    · simp [e]
  · intro k hk
    by_cases e : v'.ownBlock = some k
    · rcases pl with h5 | h5
      · rw [h5] at e
        exact .inl (by simp [hs.oF i hlt k e])
      · exact .inr (h5 k e)
    · simp only [if_neg e] at hk
      exact .inl hk
theorem pop_state {w w8 : World} {O : Nat → Option Tag} {b : Nat} {N : List GNode} {D : StkD} (hs : StkI w O b N D) {i : Nat} {x : GNode} (hi : N[i]? = some x) {f : Int} (hf1 : Wf f)
    (hlen : x.pops.length + 1 ≤ 1000000) {g : Nat} (hg : O g = some .nodes) {v' : Value}
    (T : Upd (fun k => k = D.r3 ∨ k = g ∨ O k = some (.po i)) w w8)
    (m2 : MapIs w8 Try.prog 27 D.r3 (D.k3 ++ [(key2 i f, .int .i64 1)]))
    (row : w8.ownsRow 0 110 4 D.nv N.length (nodeCells N D.fv (fun k => if k = i then v' else D.pv k)))
    (rowf : w8.ownsRow 0 3 1 v' (x.pops.length + 1) (popCells (x.pops ++ [f])))
    (pl : v'.ownBlock = (D.pv i).ownBlock ∨ ∀ k, v'.ownBlock = some k → w.heap.size ≤ k) :
    StkNext w (fun k => O k ≠ none) b (addPop N i f) w8 := by
  have hlt := (List.getElem?_eq_some_iff.1 hi).1
  unfold addPop
  rw [hi]
  simp only
  have dis : ∀ k t, O k = some t → t ≠ .m3 → t ≠ .nodes → t ≠ .po i → ¬ (k = D.r3 ∨ k = g ∨ O k = some (.po i)) := by
    rintro k t e h1 h2 h3 (rfl | rfl | e')
    · rw [hs.o3] at e; injection e with e; exact h1 e.symm
    · rw [hg] at e; injection e with e; exact h2 e.symm
    · rw [e'] at e; injection e with e; exact h3 e.symm
  have old : ∀ k t, O k = some t → t ≠ .po i → v'.ownBlock ≠ some k := by
    intro k t e hne e'
    rcases pl with h5 | h5
    · rw [h5] at e'
      rw [hs.oP i hlt k e'] at e
      injection e with e
      exact hne e.symm
    · have h1 := h5 k e'
      have h2 := hs.lt k (by simp [e])
      omega
  have hO : ∀ k t, O k = some t → t ≠ .po i → (if v'.ownBlock = some k then some (Tag.po i) else O k) = some t := by
    intro k t e hne
    rw [if_neg (old k t e hne)]; exact e
  have hget : ∀ n y, (N.set i { x with pops := x.pops ++ [f] })[n]? = some y → (n = i ∧ y = { x with pops := x.pops ++ [f] }) ∨ (n ≠ i ∧ N[n]? = some y) := by
    intro n y hy
    rw [List.getElem?_set] at hy
    by_cases hn : i = n
    · subst hn
      rw [if_pos rfl, if_pos hlt] at hy
      injection hy with hy
      exact .inl ⟨rfl, hy.symm⟩
    · rw [if_neg hn] at hy
      exact .inr ⟨fun e => hn e.symm, hy⟩
  have hgi : (N.set i { x with pops := x.pops ++ [f] })[i]? = some { x with pops := x.pops ++ [f] } := by
    rw [List.getElem?_set, if_pos rfl, if_pos hlt]
  have hgo : ∀ n, n ≠ i → (N.set i { x with pops := x.pops ++ [f] })[n]? = N[n]? := by
    intro n hn
    rw [List.getElem?_set, if_neg (fun e => hn e.symm)]
  refine ⟨fun k => (if v'.ownBlock = some k then some (Tag.po i) else O k) ≠ none, ⟨fun k => if v'.ownBlock = some k then some (Tag.po i) else O k,
    { D with pv := fun k => if k = i then v' else D.pv k, k3 := D.k3 ++ [(key2 i f, .int .i64 1)] }, ?_, rfl⟩, T.mono ?_, ?_⟩
  · constructor
    case blk =>
      exact hs.blk.upd T (dis _ _ hs.o0 (by simp) (by simp) (by simp))
    case map1 =>
      exact hs.map1.upd T (dis _ _ hs.o1 (by simp) (by simp) (by simp))
    case map3 =>
      exact m2
    case map2 =>
      exact hs.map2.upd T (dis _ _ hs.o2 (by simp) (by simp) (by simp))
    case e1 =>
      show D.k1 = _
      rw [keys_same N i x { x with pops := x.pops ++ [f] } hi rfl rfl, hs.e1]
    case e3 =>
      intro q
      show q ∈ D.k3 ++ _ ↔ _
      rw [List.mem_append, hs.e3 q, List.mem_singleton]
      constructor
      · rintro (⟨n, h, y, hy, hf, rfl⟩ | rfl)
        · by_cases hn : n = i
          · subst hn
            rw [hi] at hy
            injection hy with hy
            subst hy
            exact ⟨n, h, _, hgi, List.mem_append.2 (.inl hf), rfl⟩
          · exact ⟨n, h, y, by rw [hgo n hn]; exact hy, hf, rfl⟩
        · exact ⟨i, f, _, hgi, by simp, rfl⟩
      · rintro ⟨n, h, y, hy, hf, rfl⟩
        rcases hget n y hy with ⟨rfl, rfl⟩ | ⟨_, hy'⟩
        · rcases List.mem_append.1 hf with hf | hf
          · exact .inl ⟨n, h, x, hi, hf, rfl⟩
          · obtain rfl := List.mem_singleton.1 hf
            exact .inr rfl
        · exact .inl ⟨n, h, y, hy', hf, rfl⟩
    case e2 =>
      intro q
      show q ∈ D.k2 ↔ _
      rw [hs.e2 q]
      constructor
      · rintro ⟨n, h, y, hy, hf, rfl⟩
        by_cases hn : n = i
        · subst hn
          rw [hi] at hy
          injection hy with hy
          subst hy
          exact ⟨n, h, _, hgi, hf, rfl⟩
        · exact ⟨n, h, y, by rw [hgo n hn]; exact hy, hf, rfl⟩
      · rintro ⟨n, h, y, hy, hf, rfl⟩
        rcases hget n y hy with ⟨rfl, rfl⟩ | ⟨_, hy'⟩
        · exact ⟨n, h, x, hi, hf, rfl⟩
        · exact ⟨n, h, y, hy', hf, rfl⟩
    case row =>
      rw [List.length_set]
      show World.ownsRow _ _ _ _ _ _ (nodeCells _ D.fv (fun k => if k = i then v' else D.pv k))
      rw [nodeCells_same N _ _ i x { x with pops := x.pops ++ [f] } hi rfl rfl]
      exact row
    case rowP =>
      intro n y hy
      show World.ownsRow _ _ _ _ (if n = i then v' else D.pv n) _ _
      rcases hget n y hy with ⟨rfl, rfl⟩ | ⟨hn, hy'⟩
      · rw [if_pos rfl, List.length_append]
        exact rowf
      · rw [if_neg hn]
        exact ownsRow_upd (hs.rowP n y hy') T fun k hk => dis _ _ (hs.oP n (List.getElem?_eq_some_iff.1 hy').1 k hk) (by simp) (by simp) (by simp [hn])
    case rowF =>
      intro n y hy
      show World.ownsRow _ _ _ _ (D.fv n) _ _
      rcases hget n y hy with ⟨rfl, rfl⟩ | ⟨hn, hy'⟩
      · exact ownsRow_upd (hs.rowF n x hi) T fun k hk => dis _ _ (hs.oF n hlt k hk) (by simp) (by simp) (by simp)
      · exact ownsRow_upd (hs.rowF n y hy') T fun k hk => dis _ _ (hs.oF n (List.getElem?_eq_some_iff.1 hy').1 k hk) (by simp) (by simp) (by simp)
    case o0 =>
      exact hO _ _ hs.o0 (by simp)
    case o1 =>
      exact hO _ _ hs.o1 (by simp)
    case o3 =>
      exact hO _ _ hs.o3 (by simp)
    case o2 =>
      exact hO _ _ hs.o2 (by simp)
    case oN =>
      intro k hk
      exact hO _ _ (hs.oN k hk) (by simp)
    case oP =>
      intro n hn k hk
      rw [List.length_set] at hn
      have hk' : (if n = i then v' else D.pv n).ownBlock = some k := hk
      by_cases e : n = i
      · subst e
        rw [if_pos rfl] at hk'
        exact if_pos hk'
      · rw [if_neg e] at hk'
        exact hO _ _ (hs.oP n hn k hk') (by simp [e])
    case oF =>
      intro n hn k hk
      rw [List.length_set] at hn
      exact hO _ _ (hs.oF n hn k hk) (by simp)
    case lt =>
      intro k hk
      by_cases e : v'.ownBlock = some k
      · exact (rowf.lt k e).2
      · simp only [if_neg e] at hk
        exact Nat.lt_of_lt_of_le (hs.lt k hk) T.size
    case wf =>
      intro y hy
      obtain ⟨n, hn⟩ := List.mem_iff_getElem?.1 hy
      rcases hget n y hn with ⟨rfl, rfl⟩ | ⟨_, hy'⟩
      · obtain ⟨a1, a2, a3, a4, a5, a6⟩ := hs.wf x (List.mem_of_getElem? hi)
        refine ⟨a1, a2, a3, ?_, a5, by rw [List.length_append]; exact hlen⟩
        intro h hh
        rcases List.mem_append.1 hh with hh | hh
        · exact a4 h hh
        · obtain rfl := List.mem_singleton.1 hh
          exact hf1
      · exact hs.wf y (List.mem_of_getElem? hy')
    case out =>
      intro n hn
      rw [List.length_set] at hn
      show _ ∧ (if n = i then v' else D.pv n) = _
      rw [if_neg (by omega)]
      exact hs.out n hn
    case few =>
      rw [List.length_set]; exact hs.few
  · rintro k hk (rfl | rfl | e)
    · simp [hs.o3]
    · simp [hg]
    · simp [e]
  · intro k hk
    by_cases e : v'.ownBlock = some k
    · rcases pl with h5 | h5
      · rw [h5] at e
        exact .inl (by simp [hs.oP i hlt k e])
      · exact .inr (h5 k e)
    · simp only [if_neg e] at hk
      exact .inl hk
end Go.Proofs.Ytbppbgdmoihooaa
