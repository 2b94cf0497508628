/- Edges: a list of edges in order, each once. -/
import Derived.Test.YthmkgnifcbnkpaaGreatEdK
import Derived.Test.YthmkgnifcbnkpaaGreatLayE
import Derived.Laws.CopyRow
namespace Go.Proofs.YthmkgnifcbnkpaaGreat
open Go.RowKit Go.Sort Go.Shelf

theorem ed_stood : Tryz.prog.stoodInHeld 39 = false := by kernel_rfl
theorem ed_part (W : World) (a b c : Txt) (k : Nat) (x : Txt) (h : [a, b, c][k]? = some x) : (part 9 #[.string a, .string b, .string c] k).run Tryz.prog W = .ok (.string x) W := by
  match k, h with
  | 0, h => simp at h; subst h; simp [part, isAgg, run_underlying Tryz.underlying9]
  | 1, h => simp at h; subst h; simp [part, isAgg, run_underlying Tryz.underlying9]
  | 2, h => simp at h; subst h; simp [part, isAgg, run_underlying Tryz.underlying9]
  | k + 3, h => simp at h
theorem str_equalIn (W : World) (d : Nat) (a b : Txt) : (Op.equalIn (d + 1) 9 (.string a) (.string b)).run Tryz.prog W = .ok (decide (a = b)) W := by
  have h : (a == b) = decide (a = b) := by
    have h1 : (a == b) = (a.data == b.data) := rfl
    rw [h1]
    by_cases e : a.data = b.data
    · have : a = b := by obtain ⟨a⟩ := a; obtain ⟨b⟩ := b; simp at e; rw [e]
      rw [decide_eq_true this, e]; simp
    · rw [decide_eq_false (fun h => e (by rw [h]))]
      simpa using e
  rw [← h]
  simp [Op.equalIn, run_underlying Tryz.underlying9]
set_option maxRecDepth 20000 in
theorem ed_equal (W : World) (x y : Ed) : (Op.equal 39 x.agg y.agg).run Tryz.prog W = .ok (decide (x = y)) W := by
  obtain ⟨a0, a1, a2⟩ := x
  obtain ⟨b0, b1, b2⟩ := y
  have hs : Tryz.prog.underlying 39 = some (.struct (Tryz.prog.fieldsOf 39)) := by kernel_rfl
  have h9 := fun a b => str_equalIn W 9998 a b
  have pa := ed_part W a0 a1 a2
  have pb := ed_part W b0 b1 b2
  have hd : decide ((⟨a0, a1, a2⟩ : Ed) = ⟨b0, b1, b2⟩) = (decide (a0 = b0) && (decide (a1 = b1) && decide (a2 = b2))) := by
    rw [Bool.eq_iff_iff]
    simp
  rw [hd]
  unfold Ed.agg
  show (Op.equalIn (9999 + 1) _ _ _).run _ _ = _
  rw [run_equalIn_struct (P := Tryz.prog) W 9999 _ _ _ hs ed_stood]
  simp only [Program.fieldsOf, Tryz.underlying39, Op.eqFields]
  rw [if_pos (by decide), if_pos (by decide), if_pos (by decide)]
  simp only [Sem.run_bind, pa 0 a0 rfl, pb 0 b0 rfl, h9, Result.andThen_ok]
  cases decide (a0 = b0)
  · simp
  · simp only [Bool.not_true, Bool.false_eq_true, if_false, Sem.run_bind, pa 1 a1 rfl, pb 1 b1 rfl, h9, Result.andThen_ok, Bool.true_and]
    cases decide (a1 = b1)
    · simp
    · simp only [Bool.not_true, Bool.false_eq_true, if_false, Sem.run_bind, pa 2 a2 rfl, pb 2 b2 rfl, h9, Result.andThen_ok, Bool.true_and]
      cases decide (a2 = b2) <;> simp
theorem ed_eql (W : World) (x y : Ed) : (binOp .eql 39 x.agg y.agg).run Tryz.prog W = .ok (.bool (decide (x = y))) W := by
  have h := ed_equal W x y
  unfold Ed.agg at h ⊢
  simp only [binOp]
  simp [h]
theorem ed_neq (W : World) (x y : Ed) : (binOp .neq 39 x.agg y.agg).run Tryz.prog W = .ok (.bool (!decide (x = y))) W := by
  have h := ed_equal W x y
  unfold Ed.agg at h ⊢
  simp only [binOp]
  simp [h]

/-! A row that is written into. -/
theorem own_setCell {w : World} {base e size n g cap : Nat} {xs : List Value} (h : w.ownsRow base e size (.slice (some ⟨g, 0, none⟩) n cap) n xs) {i : Nat} (_hi : i < n * size) (u : Value) :
    (w.setCell ⟨g, i, none⟩ u).ownsRow base e size (.slice (some ⟨g, 0, none⟩) n cap) n (xs.set i u) := by
  rcases h.2 with ⟨hv, -⟩ | ⟨g', cap', cur, hv, hb, hg, h1, h2, h3, h4⟩
  · cases hv
  injection hv with hv _ hv3
  injection hv with hv
  injection hv with hv _ _
  subst hv; subst hv3
  refine ⟨by rw [List.length_set]; exact h.1, .inr ⟨g, cap, cur.setIfInBounds i u, rfl, hb, (Blk.set (t := e) hg i u), h1, h2, by simp [h3], ?_⟩⟩
  rw [← h4, Array.toList_setIfInBounds, List.take_set]
theorem clear_own {w : World} {base n g cap : Nat} {xs : List Value} (h : w.ownsRow base 39 3 (.slice (some ⟨g, 0, none⟩) n cap) n xs) (k : Nat) (hk : k < n) (c' : Nat) :
    ∃ w', (∀ ty, (Builtin.clear_ #[23] ty #[.slice (some ⟨g, k * 3, none⟩) (n - k) c']).run Tryz.prog w = .ok (.tuple #[]) w') ∧ RowR w' (some ⟨g, 0, none⟩) (xs.take (k * 3)) ∧ Upd (fun q => q = g) w w' := by
  rcases h.2 with ⟨hv, -⟩ | ⟨g', cap', cur, hv, hb, hg, h1, h2, h3, h4⟩
  · cases hv
  injection hv with hv _ hv3
  injection hv with hv
  injection hv with hv _ _
  subst hv; subst hv3
  have hz : ∀ w, (zeroValue 39).run Tryz.prog w = .ok (.agg #[.string ByteArray.empty, .string ByteArray.empty, .string ByteArray.empty]) w := fun _ => by kernel_rfl
  obtain ⟨vs, hvs⟩ : ∃ vs, (Builtin.zeroCells #[Value.string ByteArray.empty, .string ByteArray.empty, .string ByteArray.empty] (n - k)).toList = vs := ⟨_, rfl⟩
  have hlen : vs.length = (n - k) * 3 := by rw [← hvs]; simp [Builtin.zeroCells]
  have hone : ∀ v ∈ vs, v.oneCell' = true := by
    intro v hv
    rw [← hvs] at hv
    simp only [Builtin.zeroCells, Array.toList_map, List.mem_map] at hv
    obtain ⟨i, -, rfl⟩ := hv
    have : i % 3 = 0 ∨ i % 3 = 1 ∨ i % 3 = 2 := by omega
    rcases this with e | e | e <;> simp [e] <;> rfl
  have hrun := run_storeCells_at (P := Tryz.prog) g (k * 3) 39 vs 0 cur w hg (by rw [hlen, h3]; omega) hone
  refine ⟨w.setRow g (cur.toList.take (k * 3 + 0) ++ vs ++ cur.toList.drop (k * 3 + 0 + vs.length)).toArray, fun ty => ?_, ?_, ?_⟩
  · obtain ⟨m, hm⟩ : ∃ m, n - k = m + 1 := ⟨n - k - 1, by omega⟩
    rw [hm] at hvs ⊢
    simp only [Builtin.clear_]
    simp [run_underlying Tryz.underlying23, hz, Value.cells]
    rw [hvs, hrun]
    simp [Result.andThen]
  · intro j u hj
    have hjl := (List.getElem?_eq_some_iff.1 hj).1
    rw [List.length_take] at hjl
    refine ⟨g, 0, rfl, ?_⟩
    have hlt : g < w.heap.size := (Array.getElem?_eq_some_iff.1 hg).1
    have hj' : xs[j]? = some u := by rw [List.getElem?_take_of_lt (by omega)] at hj; exact hj
    rw [← h4, List.getElem?_take_of_lt (by omega)] at hj'
    have hh : (w.setRow g (cur.toList.take (k * 3 + 0) ++ vs ++ cur.toList.drop (k * 3 + 0 + vs.length)).toArray).heap[g]? = some (.cells (cur.toList.take (k * 3 + 0) ++ vs ++ cur.toList.drop (k * 3 + 0 + vs.length)).toArray 39 (0, 0)) := by
      simp [World.setRow, Array.getElem?_modify, hg]
    rw [cell_of_row _ g _ _ _ (0, 0) hh, Nat.zero_add]
    have hjc : j < cur.size := by rw [Array.getElem?_toList] at hj'; exact (Array.getElem?_eq_some_iff.1 hj').1
    rw [List.getElem?_toArray, List.append_assoc, List.getElem?_append_left (by rw [List.length_take, Array.length_toList]; omega), List.getElem?_take_of_lt (by omega)]
    exact hj'
  · refine ⟨rfl, rfl, rfl, by simp [World.setRow], fun q _ hne => ?_⟩
    have : g ≠ q := fun e => hne e.symm
    simp [World.setRow, Array.getElem?_modify, this]

/-! Compact at edges. -/
theorem ed_row {w : World} {base n g cap : Nat} {L : List Ed} (h : w.ownsRow base 39 3 (.slice (some ⟨g, 0, none⟩) n cap) n (edCells L)) {k : Nat} {x : Ed} (hk : L[k]? = some x) :
    w.cell? ⟨g, k * 3, none⟩ = some (.string x.fr) ∧ w.cell? ⟨g, k * 3 + 1, none⟩ = some (.string x.lb) ∧ w.cell? ⟨g, k * 3 + 2, none⟩ = some (.string x.to) := by
  obtain ⟨b, o, e, h0, h1, h2⟩ := (RowR.of_own h).ed hk
  injection e with e
  injection e with e1 e2 _
  subst e1; subst e2
  rw [Nat.zero_add] at h0 h1 h2
  exact ⟨h0, h1, h2⟩
theorem ed_set {L : List Ed} {k : Nat} (hk : k < L.length) (x : Ed) : (((edCells L).set (k * 3) (.string x.fr)).set (k * 3 + 1) (.string x.lb)).set (k * 3 + 2) (.string x.to) = edCells (L.set k x) := by
  apply List.ext_getElem?
  intro j
  have hl : (edCells L).length = L.length * 3 := edCells_len L
  by_cases hj : j < L.length * 3
  · have hi : j / 3 < L.length := Nat.div_lt_of_lt_mul (by omega)
    have hm : j % 3 < 3 := Nat.mod_lt _ (by decide)
    have hjd : j / 3 * 3 + j % 3 = j := by omega
    have hx : (L.set k x)[j / 3]? = some (if k = j / 3 then x else L[j / 3]) := by
      rw [List.getElem?_set]
      by_cases e : k = j / 3
      · subst e; simp [hi]
      · rw [if_neg e, if_neg e, List.getElem?_eq_getElem hi]
    have h2 := flat_get Ed.cells 3 (fun _ => rfl) (L.set k x) (j / 3) (j % 3) _ hx hm
    rw [hjd] at h2
    show _ = ((L.set k x).flatMap Ed.cells)[j]?
    rw [h2]
    have h1 := flat_get Ed.cells 3 (fun _ => rfl) L (j / 3) (j % 3) _ (List.getElem?_eq_getElem hi) hm
    rw [hjd] at h1
    have h1' : (edCells L)[j]? = (L[j / 3]).cells[j % 3]? := h1
    simp only [List.getElem?_set, List.length_set]
    by_cases e : k = j / 3
    · rw [if_pos e]
      have : j % 3 = 0 ∨ j % 3 = 1 ∨ j % 3 = 2 := by omega
      rcases this with e3 | e3 | e3
      · rw [if_neg (by omega), if_neg (by omega), if_pos (by omega), if_pos (by omega), e3]; rfl
      · rw [if_neg (by omega), if_pos (by omega), if_pos (by omega), e3]; rfl
      · rw [if_pos (by omega), if_pos (by omega), e3]; rfl
    · rw [if_neg e, if_neg (by omega), if_neg (by omega), if_neg (by omega)]
      exact h1'
  · rw [List.getElem?_eq_none (by simp only [List.length_set]; omega), List.getElem?_eq_none (by rw [edCells_len, List.length_set]; omega)]
/-- What lies in the row when m places have been looked at. -/
def cmpct (d : Array Ed) (m : Nat) : List Ed := Lib.compactUpTo d m ++ d.toList.drop (Lib.compactUpTo d m).length
theorem cmpct_len {d : Array Ed} {m : Nat} (hm : m ≤ d.size) : (cmpct d m).length = d.size := by
  have := compact_le d m
  simp only [cmpct, List.length_append, List.length_drop, Array.length_toList]
  omega
theorem cmpct_at {d : Array Ed} {m j : Nat} (hj : (Lib.compactUpTo d m).length ≤ j) (h : j < d.size) : (cmpct d m)[j]? = some d[j]! := by
  rw [cmpct, List.getElem?_append_right hj, List.getElem?_drop, Nat.add_sub_cancel' hj, Array.getElem?_toList, getElem!_pos d j h, Array.getElem?_eq_getElem h]
theorem cmpct_step {d : Array Ed} {m : Nat} (hk : Lib.keeps d m = true) (hl : (Lib.compactUpTo d m).length < d.size) : (cmpct d m).set (Lib.compactUpTo d m).length d[m]! = cmpct d (m + 1) := by
  rw [cmpct, cmpct, Lib.compactUpTo_succ, if_pos hk, List.length_append, List.length_singleton, List.append_assoc, List.set_append_right _ _ (Nat.le_refl _), Nat.sub_self]
  congr 1
  rw [show d.toList.drop (Lib.compactUpTo d m).length = d.toList[(Lib.compactUpTo d m).length]'(by simpa using hl) :: d.toList.drop ((Lib.compactUpTo d m).length + 1) from List.drop_eq_getElem_cons (by simpa using hl)]
  rfl
theorem cmpct_same {d : Array Ed} {m : Nat} (hk : Lib.keeps d m = false) : cmpct d (m + 1) = cmpct d m := by
  rw [cmpct, cmpct, Lib.compactUpTo_succ, if_neg (by rw [hk]; simp), List.append_nil]
theorem cmpct_all {d : Array Ed} {m : Nat} (h : ∀ j, j < m → Lib.keeps d j = true) (hm : m ≤ d.size) : Lib.compactUpTo d m = d.toList.take m ∧ cmpct d m = d.toList := by
  have h1 : Lib.compactUpTo d m = d.toList.take m := by
    rw [Lib.compactUpTo_all d m h]
    apply List.ext_getElem
    · simp; omega
    · intro i h1 h2
      simp at h1
      simp [show i < d.size by omega]
  refine ⟨h1, ?_⟩
  rw [cmpct, h1, List.length_take, Array.length_toList, Nat.min_eq_left hm, List.take_append_drop]
end Go.Proofs.YthmkgnifcbnkpaaGreat
