/- GssPlays: a node more in the document's list; the state that the script keeps up, and what a step makes of it. -/
import Derived.Test.YtbppbgdmoihooaaRefL
namespace Go.Proofs.Ytbppbgdmoihooaa
open Go.RowKit

theorem info_rnode : (Try.prog.info? 59).map (fun i => (i.zero, i.size, i.bytes)) = some (some (.agg #[.int .i64 0, .int .i64 0, .slice none 0 0, .slice none 0 0]), 4, 64) := by kernel_rfl

theorem ref_node_at {w w8 : World} {O : Nat → Option Tag} {v v' : Value} {N : List GNode} {D : RefD} (hs : RefI w O v N D) (o : Obj) {m p : Int} (gr : (w.alloc o).grownBy w8 v.ownBlock)
    (own : w8.ownsRow 0 59 4 v' (N.length + 1) (nodeCells N D.fv D.pv ++ [.int .i64 m, .int .i64 p, .slice none 0 0, .slice none 0 0])) (pl : v'.ownBlock = v.ownBlock ∨ v'.ownBlock = some (w.alloc o).heap.size) :
    ∃ G', RefAt w8 G' v' (N ++ [⟨m, p, [], []⟩]) ∧ Upd (fun k => O k ≠ none) w w8 ∧ ∀ k, G' k → O k ≠ none ∨ w.heap.size ≤ k := by
  have T : Upd (fun k => O k = some .nodes) w w8 := ((Upd.refl _ w).alloc o).grown gr (fun k hk => .inl (hs.oN k hk))
  have old : ∀ k t, O k = some t → t ≠ .nodes → v'.ownBlock ≠ some k := by
    intro k t e hne e'
    rcases pl with h5 | h5
    · rw [h5] at e'
      rw [hs.oN k e'] at e
      injection e with e
      exact hne e.symm
    · rw [h5] at e'
      injection e' with e'
      have := hs.lt k (by simp [e])
      simp at e'
      omega
  have dis : ∀ k t, O k = some t → t ≠ .nodes → ¬ O k = some .nodes := by
    intro k t e h1 e'
    rw [e'] at e; injection e with e; exact h1 e.symm
  have hnew : ∀ (i : Nat) (x : GNode), (N ++ [⟨m, p, [], []⟩])[i]? = some x → N[i]? = some x ∨ (i = N.length ∧ x = ⟨m, p, [], []⟩) := by
    intro i x hx
    rw [List.getElem?_append] at hx
    split at hx
    · exact .inl hx
    · rename_i hlt
      have : i - N.length = 0 := by
        rcases Nat.eq_zero_or_pos (i - N.length) with h0 | h0
        · exact h0
        · rw [List.getElem?_eq_none (by simp; omega)] at hx; cases hx
      rw [this] at hx
      simp at hx
      exact .inr ⟨by omega, hx.symm⟩
  have hO : ∀ k t, O k = some t → t ≠ .nodes → (if v'.ownBlock = some k then some Tag.nodes else O k) = some t := by
    intro k t e hne
    rw [if_neg (old k t e hne)]; exact e
  refine ⟨fun k => (if v'.ownBlock = some k then some Tag.nodes else O k) ≠ none, ⟨fun k => if v'.ownBlock = some k then some Tag.nodes else O k, D, ?_, rfl⟩, T.mono (fun k _ hk => by simp [hk]), ?_⟩
  · constructor
    · have hc : nodeCells (N ++ [⟨m, p, [], []⟩]) D.fv D.pv = nodeCells N D.fv D.pv ++ [.int .i64 m, .int .i64 p, .slice none 0 0, .slice none 0 0] := by
        simp [nodeCells, List.zipIdx_append, (hs.out N.length (Nat.le_refl _)).1, (hs.out N.length (Nat.le_refl _)).2]
      rw [hc, List.length_append]
      exact own
    · intro i x hx
      rcases hnew i x hx with h1 | ⟨rfl, rfl⟩
      · exact ownsRow_upd (hs.rowF i x h1) T fun k hk => dis _ _ (hs.oF i (List.getElem?_eq_some_iff.1 h1).1 k hk) (by simp)
      · rw [(hs.out N.length (Nat.le_refl _)).1]
        exact World.ownsRow_nil _ _ _ _
    · intro i x hx
      rcases hnew i x hx with h1 | ⟨rfl, rfl⟩
      · exact ownsRow_upd (hs.rowP i x h1) T fun k hk => dis _ _ (hs.oP i (List.getElem?_eq_some_iff.1 h1).1 k hk) (by simp)
      · rw [(hs.out N.length (Nat.le_refl _)).2]
        exact World.ownsRow_nil _ _ _ _
    · intro k hk
      exact if_pos hk
    · intro i hi k hk
      rcases Nat.lt_or_ge i N.length with hlt | hge
      · exact hO _ _ (hs.oF i hlt k hk) (by simp)
      · rw [(hs.out i hge).1] at hk
        simp [Value.ownBlock] at hk
    · intro i hi k hk
      rcases Nat.lt_or_ge i N.length with hlt | hge
      · exact hO _ _ (hs.oP i hlt k hk) (by simp)
      · rw [(hs.out i hge).2] at hk
        simp [Value.ownBlock] at hk
    · intro k hk
      by_cases e : v'.ownBlock = some k
      · exact (own.lt k e).2
      · simp only [if_neg e] at hk
        exact Nat.lt_of_lt_of_le (hs.lt k hk) T.size
    · intro i hi
      exact hs.out i (by simp at hi; omega)
  · intro k hk
    by_cases e : v'.ownBlock = some k
    · rcases pl with h5 | h5
      · rw [h5] at e
        exact .inl (by simp [hs.oN k e])
      · rw [h5] at e
        injection e with e
        simp at e
        exact .inr (by omega)
    · simp only [if_neg e] at hk
      exact .inl hk

theorem stk_inj {w : World} {F : Nat → Prop} {b : Nat} {N : List GNode} (h : StkAt w F b N) {m p : Int} {i j : Nat} (hi : AtNode N m p i) (hj : AtNode N m p j) : i = j := by
  obtain ⟨O, D, hs, rfl⟩ := h
  have k := fun (i : Nat) (hi : AtNode N m p i) => (by
    obtain ⟨x, hx, rfl, rfl⟩ := hi
    rw [hs.e1]
    exact List.mem_map.2 ⟨(x, i), by rw [List.mem_zipIdx_iff_getElem?]; exact hx, rfl⟩ : (key2 m p, Value.int .i64 (i : Int)) ∈ D.k1)
  have := nodup_val hs.map1.nodup (k i hi) (k j hj)
  injection this with _ this
  exact Int.ofNat.inj this
theorem RefAt.len {w : World} {G : Nat → Prop} {A : Option Addr} {n c : Nat} {N : List GNode} (h : RefAt w G (.slice A n c) N) : n = N.length := by
  obtain ⟨O, D, hs, rfl⟩ := h
  obtain ⟨A, c, e, -, -⟩ := own_form hs.row
  injection e
theorem Sm.node {k : Nat} {N : List GNode} (h : Sm k N) (m p : Int) : Sm (k + 1) (N ++ [⟨m, p, [], []⟩]) := by
  refine ⟨by simp; exact h.1, fun i x hx => ?_⟩
  rw [List.getElem?_append] at hx
  split at hx
  · have := h.2 i x hx
    omega
  · cases hi : i - N.length with
    | zero => rw [hi] at hx; simp at hx; subst hx; simp
    | succ j => rw [hi] at hx; simp at hx

/-- Behind k steps: the stack and the document's list hold the same nodes. -/
def PI (w : World) (b k : Nat) (v : Value) (wr : World) : Prop :=
  ∃ F G N, Both wr F G b v N ∧ Below w.heap.size w wr ∧ (∀ q, F q ∨ G q → w.heap.size ≤ q) ∧ Sm k N
theorem PI.below {w : World} {b k : Nat} {v : Value} {wr : World} (h : PI w b k v wr) : Below w.heap.size w wr := by obtain ⟨_, _, _, _, h, _⟩ := h; exact h
theorem Sm.le {k j : Nat} {N : List GNode} (h : Sm k N) (hkj : k ≤ j) : Sm j N := ⟨Nat.le_trans h.1 hkj, fun i x hx => ⟨Nat.le_trans (h.2 i x hx).1 hkj, Nat.le_trans (h.2 i x hx).2 hkj⟩⟩
theorem PI.keep {w : World} {b k : Nat} {v : Value} {wr w2 : World} (h : PI w b k v wr) (hb : Below wr.heap.size wr w2) : PI w b k v w2 := by
  obtain ⟨F, G, N, hB, h1, h2, h3⟩ := h
  exact ⟨F, G, N, hB.below hb, h1.trans (hb.mono h1.size), h2, h3⟩
theorem PI.mono {w : World} {b k j : Nat} {v : Value} {wr : World} (h : PI w b k v wr) (hj : k ≤ j) : PI w b j v wr := by
  obtain ⟨F, G, N, hB, h1, h2, h3⟩ := h
  exact ⟨F, G, N, hB, h1, h2, h3.le hj⟩
theorem PI.step {w : World} {b k : Nat} {v : Value} {wr w2 : World} {F G : Nat → Prop} {N : List GNode} {e : Ending} (hB : Both wr F G b v N) (h1 : Below w.heap.size w wr) (h2 : ∀ q, F q ∨ G q → w.heap.size ≤ q) (h3 : Sm k N) (h : PlayPost wr F G b v N e w2) :
    e = .returned (.bool true) ∧ PI w b (k + 1) v w2 := by
  obtain ⟨F', G', N', rfl, hB', U, hn, hS⟩ := h
  refine ⟨rfl, F', G', N', hB', h1.trans (U.below (fun i _ hi => h2 i hi) h1.size), fun q hq => ?_, hS k h3⟩
  rcases hn q hq with h4 | h4
  · exact h2 q h4
  · exact Nat.le_trans h1.size h4
theorem PI.form {w : World} {b k : Nat} {v : Value} {wr : World} (h : PI w b k v wr) : ∃ A n c, v = .slice A n c ∧ n ≤ c ∧ n ≤ k := by
  obtain ⟨F, G, N, hB, -, -, hS⟩ := h
  obtain ⟨O, D, hs, rfl⟩ := hB.r
  obtain ⟨A, c, e, hc, -⟩ := own_form hs.row
  exact ⟨A, N.length, c, e, hc, hS.1⟩

/-- What a step that answers a bool leaves. -/
def PIr (w : World) (b k : Nat) (v : Value) (e : Ending) (w' : World) : Prop := e = .returned (.bool true) ∧ PI w b k v w'

theorem push_pi (w : World) (b k : Nat) (v : Value) (wr : World) (n p q : Int) (hq : Wf q) (hk : k ≤ 300) (h : PI w b k v wr) :
    Calls Try.prog 22 #[.pointer (some ⟨b, 0, none⟩), v, .int .i64 n, .agg #[.int .i64 p, .int .i64 q]] wr (PIr w b (k + 1) v) := by
  obtain ⟨F, G, N, hB, h1, h2, h3⟩ := h
  by_cases hn : 0 ≤ n ∧ n < (N.length : Int)
  · by_cases hp : 0 ≤ p ∧ p < (N.length : Int)
    · obtain ⟨i, rfl⟩ : ∃ i : Nat, n = i := ⟨n.toNat, by omega⟩
      obtain ⟨x, hx⟩ : ∃ x, N[i]? = some x := ⟨N[i]'(by omega), List.getElem?_eq_getElem _⟩
      have hs := h3.2 i x hx
      by_cases hm : (p, q) ∈ x.frames
      · exact (rpush_old wr F G b v N i x p q hB hx hp hm (by omega)).mono fun e w' hh => PI.step hB h1 h2 h3 hh
      · exact (rpush_new wr F G b v N i x p q hB hx hp hq hm (by omega) (by omega)).mono fun e w' hh => PI.step hB h1 h2 h3 hh
    · exact (rpush_no wr F G b v N n p q hB (.inr hp)).mono fun e w' hh => PI.step hB h1 h2 h3 hh
  · exact (rpush_no wr F G b v N n p q hB (.inl hn)).mono fun e w' hh => PI.step hB h1 h2 h3 hh

theorem pop_pi (w : World) (b k : Nat) (v : Value) (wr : World) (n p : Int) (hq : Wf p) (hk : k ≤ 300) (h : PI w b k v wr) :
    Calls Try.prog 23 #[.pointer (some ⟨b, 0, none⟩), v, .int .i64 n, .int .i64 p] wr (PIr w b (k + 1) v) := by
  obtain ⟨F, G, N, hB, h1, h2, h3⟩ := h
  by_cases hn : 0 ≤ n ∧ n < (N.length : Int)
  · obtain ⟨i, rfl⟩ : ∃ i : Nat, n = i := ⟨n.toNat, by omega⟩
    obtain ⟨x, hx⟩ : ∃ x, N[i]? = some x := ⟨N[i]'(by omega), List.getElem?_eq_getElem _⟩
    have hs := h3.2 i x hx
    by_cases hm : p ∈ x.pops
    · exact (rpop_old wr F G b v N i x p hB hx hm (by omega)).mono fun e w' hh => PI.step hB h1 h2 h3 hh
    · exact (rpop_new wr F G b v N i x p hB hx hq hm (by omega) (by omega)).mono fun e w' hh => PI.step hB h1 h2 h3 hh
  · exact (rpop_no wr F G b v N n p hB hn).mono fun e w' hh => PI.step hB h1 h2 h3 hh

theorem look_pi (w : World) (b k : Nat) (v : Value) (wr : World) (n : Int) (hk : k ≤ 300) (h : PI w b k v wr) :
    Calls Try.prog 24 #[.pointer (some ⟨b, 0, none⟩), v, .int .i64 n] wr (PIr w b (k + 1) v) := by
  have H := h
  obtain ⟨F, G, N, hB, h1, h2, h3⟩ := h
  by_cases hn : 0 ≤ n ∧ n < (N.length : Int)
  · obtain ⟨i, rfl⟩ : ∃ i : Nat, n = i := ⟨n.toNat, by omega⟩
    obtain ⟨x, hx⟩ : ∃ x, N[i]? = some x := ⟨N[i]'(by omega), List.getElem?_eq_getElem _⟩
    have hs := h3.2 i x hx
    exact (rlook_yes wr F G b v N i x hB hx (by omega) (by omega)).mono fun e w' hh => ⟨hh.1, (H.keep hh.2).mono (by omega)⟩
  · exact (rlook_no wr F G b v N n hB hn).mono fun e w' hh => ⟨hh.1, (H.keep hh.2).mono (by omega)⟩

theorem all_pi (w : World) (b k : Nat) (v : Value) (wr : World) (n : Int) (hk : k ≤ 300) (h : PI w b k v wr) :
    Calls Try.prog 25 #[.pointer (some ⟨b, 0, none⟩), v, .int .i64 n] wr (PIr w b (k + 1) v) := by
  have H := h
  obtain ⟨F, G, N, hB, h1, h2, h3⟩ := h
  exact (rall wr F G b v N n hB (by have := h3.1; omega) (fun i x hx => by have := (h3.2 i x hx).1; omega)).mono fun e w' hh => ⟨hh.1, (H.keep hh.2).mono (by omega)⟩
end Go.Proofs.Ytbppbgdmoihooaa
