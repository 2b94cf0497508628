/- Graphs: slices.Insert of a hop into a row of the call's own; Graphs: a hop put in its place; Graphs: a graph that grows, in memory; Graphs: a node that comes. -/
import Derived.Test.YtnmkieiehjajlaaGreatDoorZ18
import Derived.Test.YtnmkieiehjajlaaGreatDoorZ27
import Derived.Shelf.Spec.SlicesInsertGrow
import Derived.Test.YtnmkieiehjajlaaGreatDoorZ19
import Derived.Test.YtnmkieiehjajlaaGreatDoorZ06
set_option linter.unusedVariables false
set_option linter.unusedSimpArgs false
namespace Go.Proofs.YtnmkieiehjajlaaGreatDoor
open Go.RowKit

theorem setCells_heap (b : Nat) : ∀ (vs : List Value) (o : Nat) (w : World) (cur : Array Value) (t : TypeId), w.heap[b]? = some (.cells cur t (0, 0)) → o + vs.length ≤ cur.size →
    ∃ cur', (w.setCells b o vs).heap[b]? = some (.cells cur' t (0, 0)) ∧ cur'.size = cur.size ∧ cur'.toList = cur.toList.take o ++ vs ++ cur.toList.drop (o + vs.length)
  | [], o, w, cur, t, h, _ => ⟨cur, h, rfl, by simp⟩
  | v :: r, o, w, cur, t, h, hl => by
    have hb := Blk.set (show Blk w b t cur from h) o v
    simp only [List.length_cons] at hl
    obtain ⟨c', e1, e2, e3⟩ := setCells_heap b r (o + 1) _ _ t hb (by simp; omega)
    refine ⟨c', e1, by rw [e2]; simp, ?_⟩
    rw [e3, Array.toList_setIfInBounds, List.drop_set_of_lt (by omega), List.take_set]
    have h1 : (cur.toList.take (o + 1)).set o v = cur.toList.take o ++ [v] := by
      rw [List.take_add_one, List.getElem?_eq_getElem (by simp; omega)]
      rw [List.set_append_right _ _ (by simp; omega)]
      have : o - (cur.toList.take o).length = 0 := by simp; omega
      rw [this]
      rfl
    rw [h1]
    simp [Nat.add_assoc, Nat.add_comm 1]
theorem Upd.setCells {F : Nat → Prop} {a : World} {b : Nat} (hp : F b ∨ a.heap.size ≤ b) : ∀ (vs : List Value) (o : Nat) {w : World}, Upd F a w → Upd F a (w.setCells b o vs)
  | [], _, _, h => h
  | v :: r, o, _w, h => Upd.setCells hp r (o + 1) (h.setCell (p := ⟨b, o, none⟩) hp v)
theorem run_copy_rows {P : Program} (w : World) (dT sT ty elem : TypeId) (size b o dLen dCap : Nat) (a : Addr) (sLen sCap : Nat) (cs : List Value)
    (hu : P.underlying dT = some (.slice elem)) (hs : (P.info? elem).map (·.size) = some size) (hn : cs.length = Nat.min sLen dLen * size)
    (hsrc : ∀ j v, cs[j]? = some v → w.cell? (a.add j) = some v) (hc : ∀ j, j < cs.length → (w.cell? ⟨b, o + j, none⟩).isSome = true) (hf : ∀ j, j < cs.length → w.frozen? ⟨b, o + j, none⟩ = false) (h1 : ∀ v ∈ cs, v.oneCell' = true) :
    (Builtin.copy_ #[dT, sT] ty #[.slice (some ⟨b, o, none⟩) dLen dCap, .slice (some a) sLen sCap]).run P w = .ok (goInt (Nat.min sLen dLen)) (w.setCells b o cs) := by
  have hl := run_loadCells_list (P := P) w a cs hsrc
  have hst := run_storeCells_cells (P := P) b o cs 0 w (by simpa using hc) (by simpa using hf) h1
  cases hq : P.info? elem with
  | none => simp [hq] at hs
  | some i =>
    have hi : i.size = size := by simpa [hq] using hs
    simp [Builtin.copy_, run_underlying hu, Builtin.lenOf, Builtin.firstCells, sizeOf, typeInfo, hq, hi, ← hn, hl, hst]
/-- In a row with cells enough: what a copy asks. -/
theorem cells_some {w : World} {b : Nat} {cur : Array Value} {t : TypeId} (h : w.heap[b]? = some (.cells cur t (0, 0))) {k : Nat} (hk : k < cur.size) : (w.cell? ⟨b, k, none⟩).isSome = true := by
  rw [cell_of_row w b k cur t (0, 0) h, Array.getElem?_eq_getElem hk]
  rfl
theorem cells_free {w : World} {b : Nat} {cur : Array Value} {t : TypeId} (h : w.heap[b]? = some (.cells cur t (0, 0))) (k : Nat) : w.frozen? ⟨b, k, none⟩ = false := by simp [World.frozen?, h]
theorem ins_list {α : Type} (C X v : List α) (k : Nat) (hX : C.take X.length = X) (hk : k ≤ X.length) (hC : X.length + v.length ≤ C.length) :
    ((C.take (k + v.length) ++ X.drop k ++ C.drop (k + v.length + (X.drop k).length)).take k ++ v ++ (C.take (k + v.length) ++ X.drop k ++ C.drop (k + v.length + (X.drop k).length)).drop (k + v.length)).take (X.length + v.length) = X.take k ++ v ++ X.drop k := by
  have h1 : (C.take (k + v.length) ++ X.drop k ++ C.drop (k + v.length + (X.drop k).length)).take k = X.take k := by
    rw [List.append_assoc, List.take_append_of_le_length (by rw [List.length_take]; omega), List.take_take, Nat.min_eq_left (by omega)]
    conv => rhs; rw [← hX]
    rw [List.take_take, Nat.min_eq_left hk]
  have h2 : (C.take (k + v.length) ++ X.drop k ++ C.drop (k + v.length + (X.drop k).length)).drop (k + v.length) = X.drop k ++ C.drop (k + v.length + (X.drop k).length) := by
    rw [List.append_assoc]
    exact List.drop_left' (by rw [List.length_take]; omega)
  rw [h1, h2, ← List.append_assoc]
  exact List.take_left' (by simp; omega)
theorem ins_grow {α : Type} (C v Y : List α) (k : Nat) (hC : k + v.length + Y.length ≤ C.length) :
    ((C.take k ++ v ++ C.drop (k + v.length)).take (k + v.length) ++ Y ++ (C.take k ++ v ++ C.drop (k + v.length)).drop (k + v.length + Y.length)).take (k + v.length + Y.length) = C.take k ++ v ++ Y := by
  have h1 : (C.take k ++ v ++ C.drop (k + v.length)).take (k + v.length) = C.take k ++ v := List.take_left' (by simp; omega)
  rw [h1]
  exact List.take_left' (by simp; omega)
def insAt (L : List Hp) (i : Nat) (h : Hp) : List Hp := L.take i ++ h :: L.drop i
theorem hpCells_app (N M : List Hp) : hpCells (N ++ M) = hpCells N ++ hpCells M := by simp [hpCells]
theorem insAt_len (L : List Hp) {i : Nat} (h : Hp) (hi : i ≤ L.length) : (insAt L i h).length = L.length + 1 := by simp [insAt]; omega
theorem hp_take (L : List Hp) (i : Nat) (hi : i ≤ L.length) : hpCells (L.take i) = (hpCells L).take (i * 2) := by
  conv => rhs; rw [← List.take_append_drop i L, hpCells_app]
  exact (List.take_left' (by rw [hpCells_len, List.length_take]; omega)).symm
theorem hp_drop (L : List Hp) (i : Nat) (hi : i ≤ L.length) : hpCells (L.drop i) = (hpCells L).drop (i * 2) := by
  conv => rhs; rw [← List.take_append_drop i L, hpCells_app]
  exact (List.drop_left' (by rw [hpCells_len, List.length_take]; omega)).symm
theorem insAt_cells (L : List Hp) (i : Nat) (h : Hp) (hi : i ≤ L.length) : hpCells (insAt L i h) = (hpCells L).take (i * 2) ++ h.cells ++ (hpCells L).drop (i * 2) := by
  rw [insAt, hpCells_app, hp_take L i hi]
  show _ ++ (h.cells ++ hpCells (L.drop i)) = _
  rw [hp_drop L i hi, List.append_assoc]

def InsAt (w : World) (base : Nat) (v : Value) (L : List Hp) (e : Ending) (w' : World) : Prop :=
  ∃ A' c', e = .returned (.slice A' L.length c') ∧ w'.ownsRow base 36 2 (.slice A' L.length c') L.length (hpCells L) ∧ Upd (fun k => v.ownBlock = some k) w w' ∧ ∀ k, (Value.slice A' L.length c').ownBlock = some k → v.ownBlock = some k ∨ w.heap.size ≤ k
set_option maxHeartbeats 4000000 in
set_option maxRecDepth 20000 in
theorem insert_end (w : World) (base : Nat) (A : Option Addr) (c : Nat) (L : List Hp) (own : w.ownsRow base 36 2 (.slice A L.length c) L.length (hpCells L)) (g : Nat) (h : Hp) (hg : Blk w g 36 h.cells.toArray) (hb : base ≤ w.heap.size) (hl : (L.length + 1) * 24 ≤ 140737488355328) :
    Calls Tryz.prog 138 #[.slice A L.length c, .int .i64 L.length, .slice (some ⟨g, 0, none⟩) 1 1] w (InsAt w base (.slice A L.length c) (insAt L L.length h)) := by
  have hr : RowR w (some ⟨g, 0, none⟩) h.cells := fun j u hj => ⟨g, 0, rfl, by rw [Nat.zero_add, hg.cell j]; simpa using hj⟩
  obtain ⟨A', c', w', happ, own', up, pl⟩ := append_row2 w base 31 36 2 24 _ Tryz.underlying31 info_hop rfl (by decide) (by decide) A L.length c _ own (some ⟨g, 0, none⟩) 1 1 h.cells hr rfl (by simp [Hp.cells]; exact ⟨rfl, rfl⟩) hl hb
  have e : L ++ [h] = insAt L L.length h := by simp [insAt]
  have e2 : hpCells L ++ h.cells = hpCells (insAt L L.length h) := by rw [← e, hpCells_app]; simp [hpCells]
  have e3 : L.length + 1 = (insAt L L.length h).length := by rw [← e]; simp
  have e4 := own_form own
  rw [e2] at own'
  rw [e3] at own' pl
  have HH := Lib.hid (show InsAt w base (.slice A L.length c) (insAt L L.length h) (.returned (.slice A' (L.length + 1) c')) w' from ⟨A', c', by rw [e3], own', up, pl⟩)
  clear own' up pl e3 e e2 own hr hg hb
  obtain ⟨n, hn⟩ : ∃ n, L.length = n := ⟨_, rfl⟩
  rw [hn] at hl e4 happ HH ⊢
  clear hn
  obtain ⟨A0, c0, e5, e6, e7⟩ := e4
  injection e5 with e5 _ e8
  subst e5
  subst e8
  have hc63 : n ≤ 9223372036854775807 := by omega
  go_enter Tryz.func138, Tryz.ntmps138
  rcases e7 with rfl | ⟨g0, rfl⟩
  all_goals
    go_wp2_with (at_builtin; refine wpList_append_run rfl _ _ _ rfl rfl rfl happ ?_)
    all_goals
      go_ret
      exact HH.out
set_option maxHeartbeats 4000000 in
set_option maxRecDepth 20000 in
theorem insert_room (w : World) (base g0 c : Nat) (L : List Hp) (own : w.ownsRow base 36 2 (.slice (some ⟨g0, 0, none⟩) L.length c) L.length (hpCells L)) (g : Nat) (h : Hp) (hg : Blk w g 36 h.cells.toArray) (hne : g ≠ g0) (i : Nat) (hi : i < L.length) (hc : L.length + 1 ≤ c) :
    Calls Tryz.prog 138 #[.slice (some ⟨g0, 0, none⟩) L.length c, .int .i64 i, .slice (some ⟨g, 0, none⟩) 1 1] w (InsAt w base (.slice (some ⟨g0, 0, none⟩) L.length c) (insAt L i h)) := by
  obtain ⟨n, hn⟩ : ∃ n, L.length = n := ⟨_, rfl⟩
  have hcl := hpCells_len L
  rw [hn] at own hi hc hcl ⊢
  rcases own.2 with ⟨e, -⟩ | ⟨g1, c1, cur, e, hbase, hh, hcn, hcm, hcs, hct⟩
  · cases e
  injection e with e _ e2
  injection e with e
  injection e with e
  subst e
  subst e2
  have hlen : n * 2 + 2 ≤ cur.toList.length := by rw [Array.length_toList, hcs]; omega
  have hv : h.cells.length = 2 := rfl
  have hdl : ((hpCells L).drop (i * 2)).length = (n - i) * 2 := by rw [List.length_drop, hcl]; omega
  obtain ⟨Y, hY⟩ : ∃ Y, Y = (hpCells L).drop (i * 2) := ⟨_, rfl⟩
  rw [← hY] at hdl
  have hYc : ∀ j u, Y[j]? = some u → w.drew.cell? ((⟨g0, i * 2, none⟩ : Addr).add j) = some u := fun j u hu => by
    rw [hY, List.getElem?_drop, ← hct, List.getElem?_take] at hu
    split at hu
    · rw [Addr.add_lit]
      rw [cell_of_row w.drew g0 _ cur _ (0, 0) hh]
      simpa using hu
    · cases hu
  have hYo : ∀ u ∈ Y, u.oneCell' = true := fun u hu => one_hp L u (by rw [hY] at hu; exact List.mem_of_mem_drop hu)
  have hsz : (Tryz.prog.info? 36).map (·.size) = some 2 := by
    obtain ⟨i0, hi0, h0, h1, h2⟩ := info_parts info_hop
    rw [hi0]; simp [h1]
  have hcp1 : ∀ ty dc sc, (Builtin.copy_ #[31, 31] ty #[.slice (some ⟨g0, (i + 1) * 2, none⟩) (n + 1 - (i + 1)) dc, .slice (some ⟨g0, i * 2, none⟩) (n + 1 - i) sc]).run Tryz.prog w.drew = .ok (goInt ((n + 1 - (i + 1) : Nat) : Int)) (w.drew.setCells g0 ((i + 1) * 2) Y) := fun ty dc sc => by
    have e : Nat.min (n + 1 - i) (n + 1 - (i + 1)) = n + 1 - (i + 1) := by simp only [Nat.min_def]; split <;> omega
    rw [run_copy_rows w.drew 31 31 ty 36 2 g0 ((i + 1) * 2) (n + 1 - (i + 1)) dc ⟨g0, i * 2, none⟩ (n + 1 - i) sc Y Tryz.underlying31 hsz (by rw [hdl, e]; omega) hYc
      (fun j hj => cells_some (w := w.drew) hh (by rw [hdl] at hj; rw [hcs]; omega)) (fun j hj => cells_free (w := w.drew) hh _) hYo, e]
  obtain ⟨cu1, k1, z1, l1⟩ := setCells_heap g0 Y ((i + 1) * 2) w.drew cur _ hh (by rw [hdl, hcs]; omega)
  have u1 : Upd (fun k => (Value.slice (some ⟨g0, 0, none⟩) n c).ownBlock = some k) w (w.drew.setCells g0 ((i + 1) * 2) Y) := Upd.setCells (F := fun k => (Value.slice (some ⟨g0, 0, none⟩) n c).ownBlock = some k) (a := w) (b := g0) (.inl rfl) Y _ (Upd.refl _ w).drew
  have kg : Blk (w.drew.setCells g0 ((i + 1) * 2) Y) g 36 h.cells.toArray := hg.upd u1 (fun e => by injection e with e; exact hne e.symm)
  have hov : ∀ lb cb, (callFunc 175 #[.slice (some ⟨g, 0, none⟩) 1 1, .slice (some ⟨g0, (i + 1) * 2, none⟩) lb cb]).run Tryz.prog w = .ok (.value (.bool false)) w := fun lb cb => by
    rw [run_callFunc_extern Tryz.func175 (by kernel_rfl) (by kernel_rfl) (by kernel_rfl) (e := Extern.SlicesOverlaps.overlaps #[31, 31] #[4]) (by kernel_rfl)]
    obtain ⟨i0, hi0, h0, h1, h2⟩ := info_parts info_hop
    rw [Lib.run_overlaps_apart w 31 4 36 Tryz.underlying31 2 (fun w => by simp [sizeOf, typeInfo, hi0, h1]) ⟨g, 0, none⟩ ⟨g0, (i + 1) * 2, none⟩ 1 1 lb cb hne 36 36 2 cur.size (by unfold Blk at hg; simp [World.shape?, hg, Hp.cells]) (by simp [World.shape?, hh]) (by rw [hcs]; omega) (hg.frozen _) (hg.frozen _)]
    rfl
  have hcp2 : ∀ ty dc, (Builtin.copy_ #[31, 31] ty #[.slice (some ⟨g0, i * 2, none⟩) (n + 1 - i) dc, .slice (some ⟨g, 0, none⟩) 1 1]).run Tryz.prog (w.drew.setCells g0 ((i + 1) * 2) Y) = .ok (goInt 1) ((w.drew.setCells g0 ((i + 1) * 2) Y).setCells g0 (i * 2) h.cells) := fun ty dc => by
    have e : Nat.min 1 (n + 1 - i) = 1 := by simp only [Nat.min_def]; split <;> omega
    rw [run_copy_rows _ 31 31 ty 36 2 g0 (i * 2) (n + 1 - i) dc ⟨g, 0, none⟩ 1 1 h.cells Tryz.underlying31 hsz (by rw [e]; rfl) (fun j u hu => by rw [Addr.add_lit, Nat.zero_add, kg.cell]; simpa using hu)
      (fun j hj => cells_some k1 (by rw [z1, hcs]; rw [hv] at hj; omega)) (fun j hj => cells_free k1 _) (by simp [Hp.cells]; exact ⟨rfl, rfl⟩), e]
    rfl
  obtain ⟨cu2, k2, z2, l2⟩ := setCells_heap g0 h.cells (i * 2) _ cu1 _ k1 (by rw [z1, hcs, hv]; omega)
  have u2 := Upd.setCells (F := fun k => (Value.slice (some ⟨g0, 0, none⟩) n c).ownBlock = some k) (a := w) (b := g0) (.inl rfl) h.cells (i * 2) u1
  have own' : ((w.drew.setCells g0 ((i + 1) * 2) Y).setCells g0 (i * 2) h.cells).ownsRow base 36 2 (.slice (some ⟨g0, 0, none⟩) (insAt L i h).length c) (insAt L i h).length (hpCells (insAt L i h)) := by
    have e0 : (insAt L i h).length = n + 1 := by rw [insAt_len L h (by omega), hn]
    rw [e0]
    refine ⟨by rw [hpCells_len, e0], .inr ⟨g0, c, cu2, rfl, hbase, k2, hc, hcm, by rw [z2, z1, hcs], ?_⟩⟩
    rw [insAt_cells L i h (by omega), l2, l1, hY]
    have := ins_list cur.toList (hpCells L) h.cells (i * 2) (by rw [hcl]; exact hct) (by omega) (by rw [hcl, hv]; exact hlen)
    rw [hv, hcl] at this
    rw [show (n + 1) * 2 = n * 2 + 2 by omega, show (i + 1) * 2 = i * 2 + 2 by omega]
    exact this
  have e0 : n + 1 = (insAt L i h).length := by rw [insAt_len L h (by omega), hn]
  have HH := Lib.hid (show InsAt w base (.slice (some ⟨g0, 0, none⟩) n c) (insAt L i h) (.returned (.slice (some ⟨g0, 0, none⟩) (n + 1) c)) ((w.drew.setCells g0 ((i + 1) * 2) Y).setCells g0 (i * 2) h.cells) from ⟨_, c, by rw [e0], own', u2, fun k hk => .inl hk⟩)
  clear own own' u2 u1 kg l1 l2 k1 k2 z1 z2 hg hh hcs hct hlen hdl hYc hYo hY hn hcl hv hsz e0
  generalize (w.drew.setCells g0 ((i + 1) * 2) Y).setCells g0 (i * 2) h.cells = W2 at hcp2 HH
  generalize w.drew.setCells g0 ((i + 1) * 2) Y = W1 at hcp1 hcp2
  have hz2 : ¬ ((i : Int) = (n : Int)) := by omega
  have hw1 : IntKind.i64.wrap ((i : Int) + (1 : Int)) = (i : Int) + (1 : Int) := by unfold maxLen at hcm; rw [IntKind.wrap_i64]; omega
  have hc63 : c ≤ 9223372036854775807 := by unfold maxLen at hcm; omega
  have hin : i ≤ n := by omega
  have htn : ((i : Int) + (1 : Int)).toNat = i + 1 := by omega
  have hb1 : (0 : Int) ≤ (i : Int) + 1 := by omega
  have hb2 : ¬ (c = i + 1) := by omega
  have hb3 : (i : Int) ≤ (n : Int) + 1 := by omega
  have hb4 : ¬ (c = i) := by omega
  go_enter Tryz.func138, Tryz.ntmps138
  go_upto_region 15 with (simp only [hov])
  refine wp_region_ord (fun _ => True) 9 [(0, true), (1, true), (2, true), (3, true), (4, true), (5, true), (6, true), (7, true), (8, false)] (by kernel_rfl) (by kernel_rfl) (fun _ _ d _ _ h => by cases d <;> exact h) trivial ?_
  iterate 8 (refine ord_take (v := ?_) rfl (by first | with_reducible rfl | kernel_rfl) ?_ ?_; rotate_left; (focus (intro wS hS; (try dsimp only at hS); go_split_ands; go_simp; (try with_reducible rfl); done)); (try simp only [Act.put, List.getElem_toArray, List.getElem_cons_succ, List.getElem_cons_zero, List.setIfInBounds_toArray, List.set_cons_zero, List.set_cons_succ]))
  refine ord_do rfl rfl (fun K hK => ?_)
  refine wp_copy_runI _ _ _ 31 31 rfl (.slice (some ⟨g0, (i + 1) * 2, none⟩) (n + 1 - (i + 1)) (c - (i + 1))) (.slice (some ⟨g0, i * 2, none⟩) (n + 1 - i) (c - i)) (by simp [Act.eval]) (by simp [Act.eval]) (hcp1 _ _ _) ?_
  refine hK _ _ (fun _ => trivial) ?_
  clear hK K
  (try simp only [Act.put, List.getElem_toArray, List.getElem_cons_succ, List.getElem_cons_zero, List.setIfInBounds_toArray, List.set_cons_zero, List.set_cons_succ])
  refine ord_done ?_
  go_wp2_with (at_builtin; refine wpList_copy_runI _ rfl _ _ 31 31 rfl _ _ rfl rfl (hcp2 _ _) ?_)
  go_ret
  exact HH.out
theorem own_more {w : World} {base e size n c : Nat} {A : Option Addr} {xs : List Value} (h : w.ownsRow base e size (.slice A n c) n xs) : n ≤ c ∧ c ≤ maxLen := by
  rcases h.2 with ⟨e, e2⟩ | ⟨g, cap, cur, e, _, _, hc, hm, _⟩
  · injection e with _ _ e3
    subst e3
    rw [e2]
    exact ⟨Nat.le_refl _, by unfold maxLen; omega⟩
  · injection e with _ _ e3
    subst e3
    exact ⟨hc, hm⟩
set_option maxHeartbeats 4000000 in
set_option maxRecDepth 20000 in
theorem insert_grow (w : World) (base g0 c : Nat) (L : List Hp) (own : w.ownsRow base 36 2 (.slice (some ⟨g0, 0, none⟩) L.length c) L.length (hpCells L)) (g : Nat) (h : Hp) (hg : Blk w g 36 h.cells.toArray) (hb : base ≤ w.heap.size) (i : Nat) (hi : i < L.length) (hc : c < L.length + 1) (hl : (L.length + 1) * 24 ≤ 140737488355328) :
    Calls Tryz.prog 138 #[.slice (some ⟨g0, 0, none⟩) L.length c, .int .i64 i, .slice (some ⟨g, 0, none⟩) 1 1] w (InsAt w base (.slice (some ⟨g0, 0, none⟩) L.length c) (insAt L i h)) := by
  obtain ⟨n, hn⟩ : ∃ n, L.length = n := ⟨_, rfl⟩
  have hcl := hpCells_len L
  have hil := insAt_len L h (Nat.le_of_lt hi)
  have hgs := (own.lt g0 rfl).2
  have hrr := RowR.of_own own
  have hcm := own_more own
  rw [hn] at hi hc hcl hl hil hcm ⊢
  rw [hn] at own
  have hold0 : ∀ j u, (hpCells L)[j]? = some u → w.cell? ⟨g0, j, none⟩ = some u := fun j u hu => by
    obtain ⟨b', o', e, y⟩ := hrr j u hu
    injection e with e
    injection e with e1 e2
    subst e1; subst e2
    rwa [Nat.zero_add] at y
  obtain ⟨i0, hi0, hz0, hz1, hz2⟩ := info_parts info_hop
  have hsz : (Tryz.prog.info? 36).map (·.size) = some 2 := by rw [hi0]; simp [hz1]
  have hv : h.cells.length = 2 := rfl
  have hkk : (n : Int) + 1 - (i : Int) = ((n + 1 - i : Nat) : Int) := by omega
  have hik : i + (n + 1 - i) = n + 1 := by omega
  have hold : (Builtin.firstCells i0.size i (.slice (some ⟨g0, 0, none⟩) i c)).run Tryz.prog w.drew = .ok ((hpCells L).take (i * 2)).toArray w.drew := by
    rw [hz1]
    exact run_firstCells_some w.drew 2 i ⟨g0, 0, none⟩ i c _ (by rw [List.length_take]; omega) (fun j v hj => by
      rw [Addr.add_lit, Nat.zero_add]
      rw [List.getElem?_take] at hj
      split at hj
      · exact hold0 j v hj
      · cases hj)
  have hrz : ∀ ty, (Builtin.append_ #[31, 3] ty #[.slice (some ⟨g0, 0, none⟩) i c, .int .i64 ((n : Int) + 1 - (i : Int))]).run Tryz.prog w =
      .ok (.slice (some ⟨w.heap.size, 0, none⟩) (n + 1) (grownCap w (n + 1) c 36)) (w.drew.alloc (.cells (((hpCells L).take (i * 2)).toArray ++ Builtin.zeroCells (Value.agg #[.string ByteArray.empty, .int .i64 0]).cells (n + 1 - i) ++ Builtin.zeroCells (Value.agg #[.string ByteArray.empty, .int .i64 0]).cells (grownCap w (n + 1) c 36 - (n + 1))) 36)) := fun ty => by
    have h := Lib.run_append_grow_zeros w 31 3 ty 36 i0 _ .i64 .i64 Tryz.underlying31 Tryz.underlying3 hi0 hz0 (some ⟨g0, 0, none⟩) i c ((hpCells L).take (i * 2)) hold (n + 1 - i) (by omega) (by omega) (by omega) (by omega) (by rw [hz2]; omega) (by rw [hz2, hik]; exact growslice_fits hc hl)
    rw [hik] at h
    rw [hkk]
    exact h
  have hG63 : grownCap w (n + 1) c 36 ≤ maxLen := grownCap_le_maxLen w (n + 1) c 36 (by unfold maxLen; omega)
  have hGn : n + 1 ≤ grownCap w (n + 1) c 36 := grownCap_ge w _ _ _
  obtain ⟨G, hG⟩ : ∃ G, G = grownCap w (n + 1) c 36 := ⟨_, rfl⟩
  rw [← hG] at hrz hG63 hGn
  obtain ⟨ROW, hROW⟩ : ∃ ROW : Array Value, ROW = ((hpCells L).take (i * 2)).toArray ++ Builtin.zeroCells (Value.agg #[.string ByteArray.empty, .int .i64 0]).cells (n + 1 - i) ++ Builtin.zeroCells (Value.agg #[.string ByteArray.empty, .int .i64 0]).cells (G - (n + 1)) := ⟨_, rfl⟩
  rw [← hROW] at hrz
  have hRl : ROW.size = G * 2 := by
    rw [hROW]
    simp only [Array.size_append, List.size_toArray, size_zeroCells, List.length_take, hcl]
    simp [Value.cells]
    omega
  have hRt : ROW.toList.take (i * 2) = (hpCells L).take (i * 2) := by
    rw [hROW]
    simp only [Array.toList_append, List.append_assoc]
    exact List.take_left' (by rw [List.length_take]; omega)
  clear hROW hold
  have k0 : (w.drew.alloc (.cells ROW 36)).heap[w.heap.size]? = some (.cells ROW 36 (0, 0)) := Blk.new w.drew _ _
  have u0 : Upd (fun k => (Value.slice (some ⟨g0, 0, none⟩) n c).ownBlock = some k) w (w.drew.alloc (.cells ROW 36)) := ((Upd.refl _ w).drew).alloc _
  have b0 : Upd (fun _ => False) w (w.drew.alloc (.cells ROW 36)) := ((Upd.refl _ w).drew).alloc _
  generalize w.drew.alloc (.cells ROW 36) = W0 at hrz k0 u0 b0
  have hcpA : ∀ ty dc, (Builtin.copy_ #[31, 31] ty #[.slice (some ⟨w.heap.size, i * 2, none⟩) (n + 1 - i) dc, .slice (some ⟨g, 0, none⟩) 1 1]).run Tryz.prog W0 = .ok (goInt 1) (W0.setCells w.heap.size (i * 2) h.cells) := fun ty dc => by
    have e : Nat.min 1 (n + 1 - i) = 1 := by simp only [Nat.min_def]; split <;> omega
    rw [run_copy_rows _ 31 31 ty 36 2 w.heap.size (i * 2) (n + 1 - i) dc ⟨g, 0, none⟩ 1 1 h.cells Tryz.underlying31 hsz (by rw [e]; rfl) (fun j u hu => by rw [Addr.add_lit, Nat.zero_add, (hg.upd b0 id).cell]; simpa using hu)
      (fun j hj => cells_some k0 (by rw [hRl]; rw [hv] at hj; omega)) (fun j hj => cells_free k0 _) (by simp [Hp.cells]; exact ⟨rfl, rfl⟩), e]
    rfl
  obtain ⟨cu1, k1, z1, l1⟩ := setCells_heap w.heap.size h.cells (i * 2) W0 ROW _ k0 (by rw [hRl, hv]; omega)
  have u1 := Upd.setCells (F := fun k => (Value.slice (some ⟨g0, 0, none⟩) n c).ownBlock = some k) (a := w) (b := w.heap.size) (.inr (Nat.le_refl _)) h.cells (i * 2) u0
  have b1 := Upd.setCells (F := fun _ => False) (a := w) (b := w.heap.size) (.inr (Nat.le_refl _)) h.cells (i * 2) b0
  generalize W0.setCells w.heap.size (i * 2) h.cells = W1 at hcpA k1 u1 b1
  have hdl : ((hpCells L).drop (i * 2)).length = (n - i) * 2 := by rw [List.length_drop, hcl]; omega
  obtain ⟨Y, hY⟩ : ∃ Y, Y = (hpCells L).drop (i * 2) := ⟨_, rfl⟩
  rw [← hY] at hdl
  have hYc : ∀ j u, Y[j]? = some u → W1.drew.cell? ((⟨g0, i * 2, none⟩ : Addr).add j) = some u := fun j u hu => by
    rw [hY, List.getElem?_drop] at hu
    rw [Addr.add_lit]
    show W1.cell? _ = _
    rw [b1.cell (by exact hgs) id]
    exact hold0 _ _ hu
  have hYo : ∀ u ∈ Y, u.oneCell' = true := fun u hu => one_hp L u (by rw [hY] at hu; exact List.mem_of_mem_drop hu)
  have hcpB : ∀ ty dc sc, (Builtin.copy_ #[31, 31] ty #[.slice (some ⟨w.heap.size, (i + 1) * 2, none⟩) (n + 1 - (i + 1)) dc, .slice (some ⟨g0, i * 2, none⟩) (n - i) sc]).run Tryz.prog W1.drew = .ok (goInt ((n - i : Nat) : Int)) (W1.drew.setCells w.heap.size ((i + 1) * 2) Y) := fun ty dc sc => by
    have e : Nat.min (n - i) (n + 1 - (i + 1)) = n - i := by simp only [Nat.min_def]; split <;> omega
    rw [run_copy_rows W1.drew 31 31 ty 36 2 w.heap.size ((i + 1) * 2) (n + 1 - (i + 1)) dc ⟨g0, i * 2, none⟩ (n - i) sc Y Tryz.underlying31 hsz (by rw [hdl, e]) hYc
      (fun j hj => cells_some (w := W1.drew) k1 (by rw [hdl] at hj; rw [z1, hRl]; omega)) (fun j hj => cells_free (w := W1.drew) k1 _) hYo, e]
  obtain ⟨cu2, k2, z2, l2⟩ := setCells_heap w.heap.size Y ((i + 1) * 2) W1.drew cu1 _ k1 (by rw [hdl, z1, hRl]; omega)
  have u2 := Upd.setCells (F := fun k => (Value.slice (some ⟨g0, 0, none⟩) n c).ownBlock = some k) (a := w) (b := w.heap.size) (.inr (Nat.le_refl _)) Y ((i + 1) * 2) u1.drew
  generalize W1.drew.setCells w.heap.size ((i + 1) * 2) Y = W2 at hcpB k2 u2
  have own' : W2.ownsRow base 36 2 (.slice (some ⟨w.heap.size, 0, none⟩) (insAt L i h).length G) (insAt L i h).length (hpCells (insAt L i h)) := by
    rw [hil]
    refine ⟨by rw [hpCells_len, hil], .inr ⟨w.heap.size, G, cu2, rfl, hb, k2, hGn, hG63, by rw [z2, z1, hRl], ?_⟩⟩
    rw [insAt_cells L i h (by omega), l2, l1, ← hY, ← hRt]
    have := ins_grow ROW.toList h.cells Y (i * 2) (by rw [hv, hdl, Array.length_toList, hRl]; omega)
    rw [hv, hdl] at this
    rw [hdl, hv, show (n + 1) * 2 = i * 2 + 2 + (n - i) * 2 by omega, show (i + 1) * 2 = i * 2 + 2 by omega]
    exact this
  have HH := Lib.hid (show InsAt w base (.slice (some ⟨g0, 0, none⟩) n c) (insAt L i h) (.returned (.slice (some ⟨w.heap.size, 0, none⟩) (n + 1) G)) W2 from ⟨_, G, by rw [hil], own', u2, fun k hk => .inr (by injection hk with hk; exact Nat.le_of_eq hk)⟩)
  clear own own' u0 u1 u2 b0 b1 k0 k1 k2 z1 z2 l1 l2 hg hRl hRt hdl hYc hYo hY hn hcl hv hsz hil hrr hold0 hik hi0 hz0 hz1 hz2
  have hz2 : ¬ ((i : Int) = (n : Int)) := by omega
  have hz3 : (c : Int) < (n : Int) + 1 := by omega
  have hw1 : IntKind.i64.wrap ((i : Int) + (1 : Int)) = (i : Int) + (1 : Int) := by rw [IntKind.wrap_i64]; omega
  have hc63 : c ≤ 9223372036854775807 := by omega
  have hG64 : G ≤ 9223372036854775807 := by unfold maxLen at hG63; omega
  have hin : i ≤ n := by omega
  have hnc : n ≤ c := hcm.1
  have htn : ((i : Int) + (1 : Int)).toNat = i + 1 := by omega
  have hb1 : (0 : Int) ≤ (i : Int) + 1 := by omega
  have hb3 : (i : Int) ≤ (n : Int) := by omega
  have hb4 : ¬ (c = i) := by omega
  have hb5 : ¬ (G = i) := by omega
  have hb6 : ¬ (G = i + 1) := by omega
  clear hcm hkk hG hG63
  go_enter Tryz.func138, Tryz.ntmps138
  go_upto_region 11 with (first
    | (at_builtin; refine Lib.wpList_append_run _ rfl _ _ _ _ rfl _ _ rfl rfl _ _ (hrz _) ?_)
    | (at_builtin; refine wpList_copy_runI _ rfl _ _ 31 31 rfl _ _ rfl rfl (hcpA _ _) ?_))
  refine wp_region_ord (fun _ => True) 9 [(0, true), (1, true), (2, true), (3, true), (4, true), (5, true), (6, true), (7, true), (8, false)] (by kernel_rfl) (by kernel_rfl) (fun _ _ d _ _ h => by cases d <;> exact h) trivial ?_
  iterate 8 (refine ord_take (v := ?_) rfl (by first | with_reducible rfl | kernel_rfl) ?_ ?_; rotate_left; (focus (intro wS hS; (try dsimp only at hS); go_split_ands; go_simp; (try with_reducible rfl); done)); (try simp only [Act.put, List.getElem_toArray, List.getElem_cons_succ, List.getElem_cons_zero, List.setIfInBounds_toArray, List.set_cons_zero, List.set_cons_succ]))
  refine ord_do rfl rfl (fun K hK => ?_)
  refine wp_copy_runI _ _ _ 31 31 rfl (.slice (some ⟨w.heap.size, (i + 1) * 2, none⟩) (n + 1 - (i + 1)) (G - (i + 1))) (.slice (some ⟨g0, i * 2, none⟩) (n - i) (c - i)) (by simp [Act.eval]) (by simp [Act.eval]) (hcpB _ _ _) ?_
  refine hK _ _ (fun _ => trivial) ?_
  clear hK K
  (try simp only [Act.put, List.getElem_toArray, List.getElem_cons_succ, List.getElem_cons_zero, List.setIfInBounds_toArray, List.set_cons_zero, List.set_cons_succ])
  refine ord_done ?_
  go_wp2
  go_ret
  exact HH.out
/-- slices.Insert of one hop. -/
theorem insert_hop (w : World) (base : Nat) (A : Option Addr) (c : Nat) (L : List Hp) (own : w.ownsRow base 36 2 (.slice A L.length c) L.length (hpCells L)) (g : Nat) (h : Hp) (hg : Blk w g 36 h.cells.toArray) (hne : (Value.slice A L.length c).ownBlock ≠ some g) (hb : base ≤ w.heap.size) (i : Nat) (hi : i ≤ L.length) (hl : (L.length + 1) * 24 ≤ 140737488355328) :
    Calls Tryz.prog 138 #[.slice A L.length c, .int .i64 i, .slice (some ⟨g, 0, none⟩) 1 1] w (InsAt w base (.slice A L.length c) (insAt L i h)) := by
  rcases Nat.lt_or_eq_of_le hi with h1 | rfl
  · obtain ⟨A0, c0, e5, e6, e7⟩ := own_form own
    injection e5 with e5 _ e8
    subst e5
    subst e8
    rcases e7 with rfl | ⟨g0, rfl⟩
    · exfalso
      rcases own.2 with ⟨_, e⟩ | ⟨_, _, _, e, _⟩
      · omega
      · injection e with e
        cases e
    · rcases Nat.lt_or_ge c (L.length + 1) with h2 | h2
      · exact insert_grow w base g0 c L own g h hg hb i h1 h2 hl
      · exact insert_room w base g0 c L own g h hg (fun e => hne (by rw [e]; rfl)) i h1 h2
  · exact insert_end w base A c L own g h hg hb hl
end Go.Proofs.YtnmkieiehjajlaaGreatDoor
namespace Go.Proofs.YtnmkieiehjajlaaGreatDoor
open Go.RowKit

def putH (L : List Hp) (h : Hp) : List Hp := insAt L (posH L h) h
theorem posH_none {L : List Hp} {h : Hp} (hn : ∀ x ∈ L, ltH x h = false) : posH L h = 0 := by
  unfold posH
  rw [List.countP_eq_zero]
  intro x hx
  rw [hn x hx]
  simp
theorem putH_nil (h : Hp) : putH [] h = [h] := rfl
theorem putH_yes {x : Hp} {L : List Hp} {h : Hp} (hx : ltH x h = true) : putH (x :: L) h = x :: putH L h := by
  unfold putH posH insAt
  rw [List.countP_cons_of_pos (p := fun x => ltH x h) hx]
  rfl
theorem putH_no {x : Hp} {L : List Hp} {h : Hp} (hup : Rises ltH (x :: L)) (hx : ltH x h = false) : putH (x :: L) h = h :: x :: L := by
  unfold putH insAt
  have h0 := (List.pairwise_cons.1 hup).1
  rw [posH_none (fun y hy => by
    rcases List.mem_cons.1 hy with rfl | hy
    · exact hx
    · cases e : ltH y h
      · rfl
      · rw [stoH.tr _ _ _ (h0 y hy) e] at hx
        cases hx)]
  rfl
theorem putH_mem {L : List Hp} {h y : Hp} : y ∈ putH L h ↔ y ∈ L ∨ y = h := by
  unfold putH insAt
  rw [List.mem_append, List.mem_cons]
  have : y ∈ L ↔ y ∈ L.take (posH L h) ∨ y ∈ L.drop (posH L h) := by rw [← List.mem_append, List.take_append_drop]
  rw [this]
  constructor
  · rintro (h | h | h)
    · exact .inl (.inl h)
    · exact .inr h
    · exact .inl (.inr h)
  · rintro ((h | h) | h)
    · exact .inl h
    · exact .inr (.inr h)
    · exact .inr (.inl h)
theorem putH_len (L : List Hp) (h : Hp) : (putH L h).length = L.length + 1 := insAt_len L h (posH_le L h)
theorem putH_rises : ∀ {L : List Hp} {h : Hp}, Rises ltH L → h ∉ L → Rises ltH (putH L h)
  | [], h, _, _ => by rw [putH_nil]; exact List.pairwise_singleton _ _
  | x :: L, h, hup, hn => by
    have h0 := List.pairwise_cons.1 hup
    cases hx : ltH x h with
    | true =>
      rw [putH_yes hx]
      refine List.pairwise_cons.2 ⟨fun y hy => ?_, putH_rises h0.2 (fun e => hn (List.mem_cons_of_mem _ e))⟩
      rcases putH_mem.1 hy with h1 | rfl
      · exact h0.1 y h1
      · exact hx
    | false =>
      rw [putH_no hup hx]
      have hhx : ltH h x = true := by
        cases e : ltH h x with
        | true => rfl
        | false => exact (hn (by rw [stoH.tri _ _ e hx]; exact List.mem_cons_self ..)).elim
      refine List.pairwise_cons.2 ⟨fun y hy => ?_, hup⟩
      rcases List.mem_cons.1 hy with rfl | hy
      · exact hhx
      · exact stoH.tr _ _ _ hhx (h0.1 y hy)

set_option maxHeartbeats 2000000 in
set_option maxRecDepth 20000 in
theorem put_any (w : World) (base : Nat) (A : Option Addr) (c : Nat) (L : List Hp) (h : Hp) (own : w.ownsRow base 36 2 (.slice A L.length c) L.length (hpCells L)) (hup : Rises ltH L) (hb : base ≤ w.heap.size) (hl : (L.length + 1) * 24 ≤ 140737488355328) :
    Calls Tryz.prog 93 #[.slice A L.length c, h.agg] w (InsAt w base (.slice A L.length c) (putH L h)) := by
  unfold putH
  obtain ⟨i, hi⟩ : ∃ i, posH L h = i := ⟨_, rfl⟩
  have hil : i ≤ L.length := by rw [← hi]; exact posH_le L h
  rw [hi]
  obtain ⟨s0, s1⟩ := h
  have k0 := Blk.new w 36 #[.string s0, .int .i64 s1]
  have u0 : Below w.heap.size w (w.alloc (.cells #[.string s0, .int .i64 s1] 36)) := (Below.refl _ _).alloc (Nat.le_refl _) _
  have H := Lib.hid (And.intro (own.alloc (.cells #[.string s0, .int .i64 s1] 36)) (And.intro k0 (And.intro u0 (And.intro hup (And.intro (own.lt) hi)))))
  clear k0 u0 own hup hi
  unfold Hp.agg
  dsimp only
  go_enter Tryz.func93, Tryz.ntmps93
  go_upto_region 1 with (fail)
  generalize w.alloc (.cells #[.string s0, .int .i64 s1] 36) = W0 at H ⊢
  have q0 : W0.cell? ⟨w.heap.size, 0, none⟩ = some (.string s0) := H.out.2.1.cell 0
  have q1 : W0.cell? ⟨w.heap.size, 1, none⟩ = some (.int .i64 s1) := H.out.2.1.cell 1
  have hcon := bsf_any W0 A c L ⟨s0, s1⟩ (RowR.of_own H.out.1) H.out.2.2.2.1 (by omega)
  rw [H.out.2.2.2.2.2] at hcon
  unfold Hp.agg at hcon
  dsimp only at hcon
  go_wp2_with fail
  refine hcon.mono ?_
  clear hcon q0 q1
  rintro e w1 ⟨rfl, b1⟩
  have k1 := H.out.2.1.upd (Upd.of_below b1 (fun _ => False)) id
  have k2 := Blk.new w1 36 #[.string s0, .int .i64 s1]
  have o2 := (ownsRow_upd H.out.1 (Upd.of_below b1 (fun _ => False)) (fun _ _ h => h)).alloc (.cells #[.string s0, .int .i64 s1] 36)
  have b2 : Below w.heap.size w (w1.alloc (.cells #[.string s0, .int .i64 s1] 36)) := (H.out.2.2.1.trans (b1.mono H.out.2.2.1.size)).alloc (by have := H.out.2.2.1.size; have := b1.size; omega) _
  have q0 : w1.cell? ⟨w.heap.size, 0, none⟩ = some (.string s0) := k1.cell 0
  have q1 : w1.cell? ⟨w.heap.size, 1, none⟩ = some (.int .i64 s1) := k1.cell 1
  have hne : (Value.slice A L.length c).ownBlock ≠ some w1.heap.size := fun e => by
    have := (H.out.2.2.2.2.1 _ e).2
    have := b2.size
    have := H.out.2.2.1.size
    have := b1.size
    omega
  have hcon := insert_hop _ base A c L o2 w1.heap.size ⟨s0, s1⟩ k2 hne (by have := b2.size; omega) i hil hl
  have HB := Lib.hid b2
  clear k1 k2 o2 b2 b1
  go_wp2_with fail
  refine hcon.mono ?_
  clear hcon q0 q1
  generalize w1.alloc (.cells #[.string s0, .int .i64 s1] 36) = W2 at HB ⊢
  rintro e w3 ⟨A', c', rfl, o3, u3, p3⟩
  have FIN := Lib.hid (show InsAt w base (.slice A L.length c) (insAt L i ⟨s0, s1⟩) (.returned (.slice A' (insAt L i ⟨s0, s1⟩).length c')) w3 from ⟨A', c', rfl, o3, (Upd.of_below HB.out _).trans u3 (fun k hk => .inl hk), fun k hk => by
    rcases p3 k hk with h | h
    · exact .inl h
    · exact .inr (by have := HB.out.size; omega)⟩)
  clear o3 u3 p3
  go_wp2
  go_ret
  exact FIN.out
end Go.Proofs.YtnmkieiehjajlaaGreatDoor
namespace Go.Proofs.YtnmkieiehjajlaaGreatDoor
open Go.RowKit

/-! A name's number. -/
def idxT (N : List Txt) (s : Txt) : Nat := N.findIdx fun t => decide (t = s)
theorem idxT_at {N : List Txt} {s : Txt} (h : s ∈ N) : N[idxT N s]? = some s := by
  have hl : idxT N s < N.length := List.findIdx_lt_length_of_exists ⟨s, h, by simp⟩
  have := List.findIdx_getElem (p := fun t => decide (t = s)) (xs := N) (w := hl)
  rw [List.getElem?_eq_getElem hl]
  exact congrArg some (of_decide_eq_true this)
theorem idxT_lt {N : List Txt} {s : Txt} (h : s ∈ N) : idxT N s < N.length := (List.getElem?_eq_some_iff.1 (idxT_at h)).1
theorem idxT_out {N : List Txt} {s : Txt} (h : s ∉ N) : idxT N s = N.length := by
  unfold idxT
  rw [List.findIdx_eq_length]
  intro t ht
  rw [decide_eq_false]
  rintro rfl
  exact h ht
theorem idxT_app {N M : List Txt} {s : Txt} (h : s ∈ N) : idxT (N ++ M) s = idxT N s := by
  have hl := idxT_lt h
  unfold idxT at hl ⊢
  rw [List.findIdx_append, if_pos hl]
theorem idxT_is {N : List Txt} (hd : N.Nodup) {s : Txt} {i : Nat} (h : N[i]? = some s) : idxT N s = i := by
  have h1 := idxT_at (List.mem_of_getElem? h)
  obtain ⟨a, e⟩ := List.getElem?_eq_some_iff.1 h
  obtain ⟨b, f⟩ := List.getElem?_eq_some_iff.1 h1
  exact (List.getElem_inj hd).1 (f.trans e.symm)
theorem idxT_addN {N : List Txt} {s t : Txt} (h : s ∈ N) : idxT (addN N t) s = idxT N s := by
  unfold addN
  split
  · rfl
  · exact idxT_app h
theorem idxT_new (N : List Txt) (s : Txt) : idxT (addN N s) s = idxT N s := by
  by_cases h : s ∈ N
  · exact idxT_addN h
  · unfold addN
    rw [if_neg (fun e => h (inB_iff.1 e)), idxT_out h]
    unfold idxT
    rw [List.findIdx_append, if_neg (by have := idxT_out h; unfold idxT at this; omega)]
    simp
def numT (N : List Txt) (s : Txt) : Int := if inB s N = true then (idxT N s : Int) + 1 else 0
theorem look_num {w : World} {r : Nat} {N : List Txt} (h : MapIs w Tryz.prog 9 r (kvN N N.length)) (s : Txt) (hk : TxtOk s) :
    (Instr.lookup 98 (.map (some r)) (.string s) false).run Tryz.prog w = .ok (.int .i64 (numT N s)) w := by
  unfold numT
  by_cases hs : s ∈ N
  · rw [if_pos (inB_iff.2 hs)]
    exact h.look_hit str_law Tryz.underlying98 (kvN_in N N.length _ s (idxT_lt hs) (idxT_at hs)) false
  · rw [if_neg (fun e => hs (inB_iff.1 e))]
    exact h.look_miss str_law Tryz.underlying98 (str_key hk) (fun q hq e => by
      obtain ⟨i, t, hi, ht, rfl⟩ := kvN_mem N N.length q hq
      simp only [Value.string.injEq] at e
      subst e
      exact hs (List.mem_of_getElem? ht)) (by kernel_rfl) false
theorem kvN_app (N M : List Txt) : ∀ k, k ≤ N.length → kvN (N ++ M) k = kvN N k
  | 0, _ => rfl
  | k + 1, h => by
    unfold kvN
    rw [List.getElem?_append_left (by omega), kvN_app N M k (by omega)]
theorem kvN_push (N : List Txt) (s : Txt) : kvN (N ++ [s]) (N.length + 1) = kvN N N.length ++ [(.string s, .int .i64 ((N.length : Int) + 1))] := by
  rw [kvN, kvN_app N [s] _ (Nat.le_refl _)]
  simp

/-! The graph. -/
inductive Ro
  | p | m | n | o | i
  | oo (k : Nat)
  | ii (k : Nat)
structure GrD where
  r : Nat
  nv : Value
  ov : Value
  iv : Value
  fo : Nat → Value
  fi : Nat → Value
def rowV (f : Nat → Value) (n : Nat) : List Value := (List.range n).map f
theorem rowV_len (f : Nat → Value) (n : Nat) : (rowV f n).length = n * 1 := by simp [rowV]
theorem rowV_succ (f : Nat → Value) (n : Nat) : rowV f (n + 1) = rowV f n ++ [f n] := by simp [rowV, List.range_succ]
theorem rowV_at {f : Nat → Value} {n k : Nat} (h : k < n) : (rowV f n)[k]? = some (f k) := by simp [rowV, h]
structure GrI (w : World) (O : Nat → Option Ro) (p : Nat) (N : List Txt) (U V : Nat → List Hp) (cnt : Int) (D : GrD) : Prop where
  blk : Blk w p 101 #[D.nv, .map (some D.r), D.ov, D.iv, .int .i64 cnt]
  map : MapIs w Tryz.prog 9 D.r (kvN N N.length)
  rn : w.ownsRow 0 9 1 D.nv N.length (txtCells N)
  ro : w.ownsRow 0 31 1 D.ov N.length (rowV D.fo N.length)
  ri : w.ownsRow 0 31 1 D.iv N.length (rowV D.fi N.length)
  fo : ∀ k, w.ownsRow 0 36 2 (D.fo k) (U k).length (hpCells (U k))
  fi : ∀ k, w.ownsRow 0 36 2 (D.fi k) (V k).length (hpCells (V k))
  op : O p = some .p
  om : O D.r = some .m
  on : ∀ k, D.nv.ownBlock = some k → O k = some .n
  oo : ∀ k, D.ov.ownBlock = some k → O k = some .o
  oi : ∀ k, D.iv.ownBlock = some k → O k = some .i
  oU : ∀ j k, (D.fo j).ownBlock = some k → O k = some (.oo j)
  oV : ∀ j k, (D.fi j).ownBlock = some k → O k = some (.ii j)
  lt : ∀ k, O k ≠ none → k < w.heap.size
  out : ∀ k, N.length ≤ k → D.fo k = .slice none 0 0 ∧ D.fi k = .slice none 0 0
/-- Block p is a graph of these; F: the blocks that are its own. -/
def GrAt (w : World) (F : Nat → Prop) (p : Nat) (N : List Txt) (U V : Nat → List Hp) (cnt : Int) : Prop := ∃ O D, GrI w O p N U V cnt D ∧ F = fun k => O k ≠ none
theorem GrI.upd {w w' : World} {O : Nat → Option Ro} {p : Nat} {N : List Txt} {U V : Nat → List Hp} {cnt : Int} {D : GrD} {G : Nat → Prop} (h : GrI w O p N U V cnt D) (hu : Upd G w w') (hd : ∀ k, O k ≠ none → ¬ G k) : GrI w' O p N U V cnt D := by
  have no : ∀ k t, O k = some t → ¬ G k := fun k t e => hd k (by simp [e])
  exact ⟨h.blk.upd hu (no _ _ h.op), h.map.upd hu (no _ _ h.om), ownsRow_upd h.rn hu fun k hk => no _ _ (h.on k hk), ownsRow_upd h.ro hu fun k hk => no _ _ (h.oo k hk), ownsRow_upd h.ri hu fun k hk => no _ _ (h.oi k hk),
    fun j => ownsRow_upd (h.fo j) hu fun k hk => no _ _ (h.oU j k hk), fun j => ownsRow_upd (h.fi j) hu fun k hk => no _ _ (h.oV j k hk), h.op, h.om, h.on, h.oo, h.oi, h.oU, h.oV, fun k hk => Nat.lt_of_lt_of_le (h.lt k hk) hu.size, h.out⟩
theorem GrAt.upd {w w' : World} {F G : Nat → Prop} {p : Nat} {N : List Txt} {U V : Nat → List Hp} {cnt : Int} (h : GrAt w F p N U V cnt) (hu : Upd G w w') (hd : ∀ k, F k → ¬ G k) : GrAt w' F p N U V cnt := by
  obtain ⟨O, D, hs, rfl⟩ := h
  exact ⟨O, D, hs.upd hu hd, rfl⟩
theorem GrAt.lt {w : World} {F : Nat → Prop} {p : Nat} {N : List Txt} {U V : Nat → List Hp} {cnt : Int} (h : GrAt w F p N U V cnt) : ∀ k, F k → k < w.heap.size := by
  obtain ⟨O, D, hs, rfl⟩ := h
  exact hs.lt
theorem GrAt.below {w w' : World} {F : Nat → Prop} {p : Nat} {N : List Txt} {U V : Nat → List Hp} {cnt : Int} (h : GrAt w F p N U V cnt) (hb : Below w.heap.size w w') : GrAt w' F p N U V cnt := h.upd (Upd.of_below hb (fun _ => False)) (fun _ _ => id)
/-- What a call that turns this graph leaves. -/
def GrNext (w : World) (F : Nat → Prop) (p : Nat) (N : List Txt) (U V : Nat → List Hp) (cnt : Int) (w' : World) : Prop :=
  ∃ F', GrAt w' F' p N U V cnt ∧ Upd F w w' ∧ ∀ k, F' k → F k ∨ w.heap.size ≤ k
theorem GrNext.refl {w w' : World} {F : Nat → Prop} {p : Nat} {N : List Txt} {U V : Nat → List Hp} {cnt : Int} (h : GrAt w F p N U V cnt) (hb : Below w.heap.size w w') : GrNext w F p N U V cnt w' :=
  ⟨F, h.below hb, Upd.of_below hb F, fun _ hk => .inl hk⟩
theorem GrNext.trans {w w' w'' : World} {F : Nat → Prop} {p : Nat} {N' : List Txt} {U' V' : Nat → List Hp} {cnt' : Int} {F' : Nat → Prop} (hu : Upd F w w') (hF : ∀ k, F' k → F k ∨ w.heap.size ≤ k) (h2 : GrNext w' F' p N' U' V' cnt' w'') : GrNext w F p N' U' V' cnt' w'' := by
  obtain ⟨F2, g, u, hF2⟩ := h2
  refine ⟨F2, g, hu.trans u hF, fun k hk => ?_⟩
  rcases hF2 k hk with h | h
  · exact hF k h
  · exact .inr (Nat.le_trans hu.size h)
theorem GrI.grow {w w' : World} {O : Nat → Option Ro} {p : Nat} {N : List Txt} {U V : Nat → List Hp} {cnt : Int} {D : GrD} (h : GrI w O p N U V cnt D) (s : Txt) (nv ov iv : Value) (B1 B2 : Nat) (hB1 : w.heap.size ≤ B1) (hB2 : B1 ≤ B2)
    (hu : Upd (fun k => k = p ∨ k = D.r ∨ D.nv.ownBlock = some k ∨ D.ov.ownBlock = some k ∨ D.iv.ownBlock = some k) w w') (hb : Blk w' p 101 #[nv, .map (some D.r), ov, iv, .int .i64 cnt])
    (hm : MapIs w' Tryz.prog 9 D.r (kvN N N.length ++ [(.string s, .int .i64 ((N.length : Int) + 1))]))
    (rn : w'.ownsRow 0 9 1 nv (N.length + 1) (txtCells N ++ [.string s])) (ro : w'.ownsRow 0 31 1 ov (N.length + 1) (rowV D.fo N.length ++ [.slice none 0 0])) (ri : w'.ownsRow 0 31 1 iv (N.length + 1) (rowV D.fi N.length ++ [.slice none 0 0]))
    (pn : ∀ k, nv.ownBlock = some k → D.nv.ownBlock = some k ∨ w.heap.size ≤ k ∧ k < B1) (po : ∀ k, ov.ownBlock = some k → D.ov.ownBlock = some k ∨ B1 ≤ k ∧ k < B2) (pi : ∀ k, iv.ownBlock = some k → D.iv.ownBlock = some k ∨ B2 ≤ k) :
    GrNext w (fun k => O k ≠ none) p (N ++ [s]) U V cnt w' := by
  have no : ∀ k t, O k = some t → (t = Ro.p → False) → (t = Ro.m → False) → (t = Ro.n → False) → (t = Ro.o → False) → (t = Ro.i → False) → ¬ (k = p ∨ k = D.r ∨ D.nv.ownBlock = some k ∨ D.ov.ownBlock = some k ∨ D.iv.ownBlock = some k) := by
    rintro k t e h1 h2 h3 h4 h5 (rfl | rfl | hk | hk | hk)
    · rw [h.op] at e; injection e with e; exact h1 e.symm
    · rw [h.om] at e; injection e with e; exact h2 e.symm
    · rw [h.on k hk] at e; injection e with e; exact h3 e.symm
    · rw [h.oo k hk] at e; injection e with e; exact h4 e.symm
    · rw [h.oi k hk] at e; injection e with e; exact h5 e.symm
  have fresh : ∀ k, w.heap.size ≤ k → O k = none := fun k hk => by
    cases e : O k with
    | none => rfl
    | some t => have := h.lt k (by simp [e]); omega
  have hn : ∀ k, nv.ownBlock = some k → O k = some .n ∨ O k = none ∧ w.heap.size ≤ k ∧ k < B1 := fun k hk => by
    rcases pn k hk with h1 | ⟨h1, h2⟩
    · exact .inl (h.on k h1)
    · exact .inr ⟨fresh k h1, h1, h2⟩
  have ho : ∀ k, ov.ownBlock = some k → O k = some .o ∨ O k = none ∧ B1 ≤ k ∧ k < B2 := fun k hk => by
    rcases po k hk with h1 | ⟨h1, h2⟩
    · exact .inl (h.oo k h1)
    · exact .inr ⟨fresh k (by omega), h1, h2⟩
  have hi : ∀ k, iv.ownBlock = some k → O k = some .i ∨ O k = none ∧ B2 ≤ k := fun k hk => by
    rcases pi k hk with h1 | h1
    · exact .inl (h.oi k h1)
    · exact .inr ⟨fresh k (by omega), h1⟩
  have keep : ∀ k t, O k = some t → (t = Ro.n → False) → (t = Ro.o → False) → (t = Ro.i → False) → (if nv.ownBlock = some k then some Ro.n else if ov.ownBlock = some k then some Ro.o else if iv.ownBlock = some k then some Ro.i else O k) = some t := by
    intro k t e h1 h2 h3
    rw [if_neg, if_neg, if_neg, e]
    · intro hk
      rcases hi k hk with h4 | h4
      · rw [e] at h4; injection h4 with h4; exact h3 h4
      · rw [e] at h4; cases h4.1
    · intro hk
      rcases ho k hk with h4 | h4
      · rw [e] at h4; injection h4 with h4; exact h2 h4
      · rw [e] at h4; cases h4.1
    · intro hk
      rcases hn k hk with h4 | h4
      · rw [e] at h4; injection h4 with h4; exact h1 h4
      · rw [e] at h4; cases h4.1
  refine ⟨fun k => (if nv.ownBlock = some k then some Ro.n else if ov.ownBlock = some k then some Ro.o else if iv.ownBlock = some k then some Ro.i else O k) ≠ none, ⟨fun k => if nv.ownBlock = some k then some Ro.n else if ov.ownBlock = some k then some Ro.o else if iv.ownBlock = some k then some Ro.i else O k, ⟨D.r, nv, ov, iv, D.fo, D.fi⟩, ⟨hb, ?_, ?_, ?_, ?_, fun j => ownsRow_upd (h.fo j) hu fun k hk => no _ _ (h.oU j k hk) nofun nofun nofun nofun nofun, fun j => ownsRow_upd (h.fi j) hu fun k hk => no _ _ (h.oV j k hk) nofun nofun nofun nofun nofun, ?_, ?_, ?_, ?_, ?_, ?_, ?_, ?_, ?_⟩, rfl⟩, hu.mono ?_, ?_⟩
  · dsimp only
    rw [List.length_append, List.length_singleton, kvN_push]
    exact hm
  · dsimp only
    rw [List.length_append, List.length_singleton, txtCells, List.map_append]
    exact rn
  · dsimp only
    rw [List.length_append, List.length_singleton, rowV_succ, (h.out _ (Nat.le_refl _)).1]
    exact ro
  · dsimp only
    rw [List.length_append, List.length_singleton, rowV_succ, (h.out _ (Nat.le_refl _)).2]
    exact ri
  · exact keep p _ h.op nofun nofun nofun
  · exact keep _ _ h.om nofun nofun nofun
  · intro k hk
    exact if_pos hk
  · intro k hk
    (try dsimp only at hk ⊢)
    rw [if_neg, if_pos hk]
    intro e
    rcases hn k e with h1 | ⟨h1, h2, h3⟩ <;> rcases ho k hk with h4 | ⟨h4, h5, h6⟩
    · rw [h1] at h4; cases h4
    · rw [h1] at h4; cases h4
    · rw [h1] at h4; cases h4
    · omega
  · intro k hk
    (try dsimp only at hk ⊢)
    rw [if_neg, if_neg, if_pos hk]
    · intro e
      rcases ho k e with h1 | ⟨h1, h2, h3⟩ <;> rcases hi k hk with h4 | ⟨h4, h5⟩
      · rw [h1] at h4; cases h4
      · rw [h1] at h4; cases h4
      · rw [h1] at h4; cases h4
      · omega
    · intro e
      rcases hn k e with h1 | ⟨h1, h2, h3⟩ <;> rcases hi k hk with h4 | ⟨h4, h5⟩
      · rw [h1] at h4; cases h4
      · rw [h1] at h4; cases h4
      · rw [h1] at h4; cases h4
      · omega
  · intro j k hk
    exact keep k _ (h.oU j k hk) nofun nofun nofun
  · intro j k hk
    exact keep k _ (h.oV j k hk) nofun nofun nofun
  · intro k hk
    (try dsimp only at hk)
    by_cases h1 : nv.ownBlock = some k
    · exact (rn.lt k h1).2
    rw [if_neg h1] at hk
    by_cases h2 : ov.ownBlock = some k
    · exact (ro.lt k h2).2
    rw [if_neg h2] at hk
    by_cases h3 : iv.ownBlock = some k
    · exact (ri.lt k h3).2
    rw [if_neg h3] at hk
    exact Nat.lt_of_lt_of_le (h.lt k hk) hu.size
  · intro k hk
    rw [List.length_append, List.length_singleton] at hk
    exact h.out k (by omega)
  · rintro k - (rfl | rfl | hk | hk | hk)
    · rw [h.op]; nofun
    · rw [h.om]; nofun
    · rw [h.on k hk]; nofun
    · rw [h.oo k hk]; nofun
    · rw [h.oi k hk]; nofun
  · intro k hk
    (try dsimp only at hk ⊢)
    by_cases h1 : nv.ownBlock = some k
    · rcases hn k h1 with h2 | h2
      · rw [h2]; exact .inl nofun
      · exact .inr h2.2.1
    rw [if_neg h1] at hk
    by_cases h2 : ov.ownBlock = some k
    · rcases ho k h2 with h2 | h2
      · rw [h2]; exact .inl nofun
      · exact .inr (by omega)
    rw [if_neg h2] at hk
    by_cases h3 : iv.ownBlock = some k
    · rcases hi k h3 with h2 | h2
      · rw [h2]; exact .inl nofun
      · exact .inr (by omega)
    rw [if_neg h3] at hk
    exact .inl hk
end Go.Proofs.YtnmkieiehjajlaaGreatDoor
namespace Go.Proofs.YtnmkieiehjajlaaGreatDoor
open Go.RowKit

def NodeP (w : World) (F : Nat → Prop) (p : Nat) (N : List Txt) (U V : Nat → List Hp) (cnt : Int) (s : Txt) (e : Ending) (w' : World) : Prop := e = .returned (.int .i64 (idxT N s)) ∧ GrNext w F p (addN N s) U V cnt w'
theorem info_hops : (Tryz.prog.info? 31).map (fun i => (i.zero, i.size, i.bytes)) = some (some (.slice none 0 0), 1, 24) := by kernel_rfl
theorem row_one {w : World} {g : Nat} {t : TypeId} {v : Value} (h : Blk w g t #[v]) : RowR w (some ⟨g, 0, none⟩) [v] := fun j u hj => ⟨g, 0, rfl, by rw [Nat.zero_add, h.cell j]; simpa using hj⟩
/-- Behind both appends. -/
theorem node_fin {w w3 V V' : World} {O : Nat → Option Ro} {p r n b w2s : Nat} {N : List Txt} {U Vv : Nat → List Hp} {s : Txt} {cnt : Int} {A0 A1 A2 A3 B2 B3 : Option Addr} {c0 c1 c2 c3 d2 d3 : Nat} {fo fi : Nat → Value}
    (hg : GrI w O p N U Vv cnt ⟨r, .slice A0 N.length c0, .slice A2 N.length c2, .slice A3 N.length c3, fo, fi⟩) (hn : N.length = n)
    (k3 : Blk w3 p 101 #[Value.slice A1 (n + 1) c1, .map (some r), Value.slice A2 n c2, Value.slice A3 n c3, .int .i64 cnt]) (m3 : MapIs w3 Tryz.prog 9 r (kvN N n ++ [(.string s, .int .i64 ((n : Int) + 1))])) (n3 : w3.ownsRow 0 9 1 (.slice A1 (n + 1) c1) (n + 1) (txtCells N ++ [.string s]))
    (ut3 : Upd (fun k => k = p ∨ k = r ∨ (Value.slice A0 n c0).ownBlock = some k ∨ (Value.slice A2 n c2).ownBlock = some k ∨ (Value.slice A3 n c3).ownBlock = some k) w w3)
    (pn : ∀ k, (Value.slice A1 (n + 1) c1).ownBlock = some k → (Value.slice A0 n c0).ownBlock = some k ∨ w.heap.size ≤ k ∧ k < w2s) (hw2 : w2s ≤ w3.heap.size)
    (h1 : (Value.slice A1 (n + 1) c1).ownBlock ≠ some r) (h2 : (Value.slice A1 (n + 1) c1).ownBlock ≠ some p) (h3 : r ≠ p) (h4 : ∀ k, (Value.slice A2 n c2).ownBlock = some k → k ≠ p ∧ k ≠ r ∧ k < w.heap.size) (h5 : ∀ k, (Value.slice A3 n c3).ownBlock = some k → k ≠ p ∧ k ≠ r ∧ k < w.heap.size) (h6 : ∀ k, (Value.slice A2 n c2).ownBlock = some k → (Value.slice A3 n c3).ownBlock = some k → False)
    (hj : Upd (fun k => (Value.slice A2 n c2).ownBlock = some k) w3 V) (o2 : V.ownsRow 0 31 1 (.slice B2 (n + 1) d2) (n + 1) (rowV fo n ++ [.slice none 0 0])) (p2 : ∀ k, (Value.slice B2 (n + 1) d2).ownBlock = some k → (Value.slice A2 n c2).ownBlock = some k ∨ b ≤ k) (hb : w3.heap.size ≤ b)
    (o6 : V'.ownsRow 0 31 1 (.slice B3 (n + 1) d3) (n + 1) (rowV fi n ++ [.slice none 0 0])) (u6 : Upd (fun k => (Value.slice A3 n c3).ownBlock = some k) V V') (p6 : ∀ k, (Value.slice B3 (n + 1) d3).ownBlock = some k → (Value.slice A3 n c3).ownBlock = some k ∨ V.heap.size ≤ k) :
    Hid (Blk V' p 101 #[Value.slice A1 (n + 1) c1, .map (some r), Value.slice A2 n c2, Value.slice A3 n c3, .int .i64 cnt] ∧ GrNext w (fun k => O k ≠ none) p (N ++ [s]) U Vv cnt ((V'.setCell ⟨p, 2, none⟩ (.slice B2 (n + 1) d2)).setCell ⟨p, 3, none⟩ (.slice B3 (n + 1) d3)) ∧
      (Instr.lookup 98 (.map (some r)) (.string s) false).run Tryz.prog ((V'.setCell ⟨p, 2, none⟩ (.slice B2 (n + 1) d2)).setCell ⟨p, 3, none⟩ (.slice B3 (n + 1) d3)) = .ok (.int .i64 ((n : Int) + 1)) ((V'.setCell ⟨p, 2, none⟩ (.slice B2 (n + 1) d2)).setCell ⟨p, 3, none⟩ (.slice B3 (n + 1) d3)) ∧
      ((V'.setCell ⟨p, 2, none⟩ (.slice B2 (n + 1) d2)).setCell ⟨p, 3, none⟩ (.slice B3 (n + 1) d3)).cell? ⟨p, 1, none⟩ = some (.map (some r))) := by
  subst hn
  have hs3 := ut3.size
  have hsV := hj.size
  have hp := hg.lt p (by rw [hg.op]; nofun)
  have nB2 : ∀ k, (Value.slice B2 (N.length + 1) d2).ownBlock = some k → k ≠ p ∧ k < V.heap.size ∧ ¬ (Value.slice A3 N.length c3).ownBlock = some k := fun k hk => by
    refine ⟨?_, (o2.lt k hk).2, ?_⟩
    · rintro rfl
      rcases p2 _ hk with h | h
      · exact (h4 _ h).1 rfl
      · omega
    · intro h
      rcases p2 _ hk with h' | h'
      · exact h6 _ h' h
      · have := (h5 _ h).2.2; omega
  have kV' := (k3.upd hj (fun e => (h4 _ e).1 rfl)).upd u6 (fun e => (h5 _ e).1 rfl)
  have mV' := (m3.upd hj (fun e => (h4 _ e).2.1 rfl)).upd u6 (fun e => (h5 _ e).2.1 rfl)
  have nA1 : ∀ k, (Value.slice A1 (N.length + 1) c1).ownBlock = some k → ¬ (Value.slice A2 N.length c2).ownBlock = some k ∧ ¬ (Value.slice A3 N.length c3).ownBlock = some k := fun k hk => by
    rcases pn k hk with h | h
    · have hr := hg.on k h
      exact ⟨fun e => (by rw [hg.oo k e] at hr; cases hr), fun e => (by rw [hg.oi k e] at hr; cases hr)⟩
    · exact ⟨fun e => (by have := (h4 k e).2.2; omega), fun e => (by have := (h5 k e).2.2; omega)⟩
  have nV' := ownsRow_upd (ownsRow_upd n3 hj (fun k hk => (nA1 k hk).1)) u6 (fun k hk => (nA1 k hk).2)
  have oV' := ownsRow_upd o2 u6 (fun k hk => (nB2 k hk).2.2)
  have nB3 : ∀ k, (Value.slice B3 (N.length + 1) d3).ownBlock = some k → k ≠ p := fun k hk => by
    rintro rfl
    rcases p6 _ hk with h | h
    · exact (h5 _ h).1 rfl
    · omega
  have us := ((Upd.refl (fun k => k = p) V').setCell (p := ⟨p, 2, none⟩) (.inl rfl) (.slice B2 (N.length + 1) d2)).setCell (p := ⟨p, 3, none⟩) (.inl rfl) (.slice B3 (N.length + 1) d3)
  have kz := (kV'.set 2 (.slice B2 (N.length + 1) d2)).set 3 (.slice B3 (N.length + 1) d3)
  have mz := mV'.upd us h3
  have utz := ((ut3.trans hj (fun k h => .inl (.inr (.inr (.inr (.inl h)))))).trans u6 (fun k h => .inl (.inr (.inr (.inr (.inr h)))))).trans us (fun k h => .inl (.inl h))
  refine Lib.hid ⟨kV', ?_, ?_, kz.cell 1⟩
  · exact hg.grow s _ _ _ w3.heap.size V.heap.size hs3 hsV utz kz mz (ownsRow_upd nV' us (fun k hk e => h2 (by rw [hk, e]))) (ownsRow_upd oV' us (fun k hk => (nB2 k hk).1)) (ownsRow_upd o6 us nB3)
      (fun k hk => (pn k hk).imp id fun h => ⟨h.1, by omega⟩) (fun k hk => (p2 k hk).imp id fun h => ⟨by omega, (nB2 k hk).2.1⟩) p6
  · exact mz.look_hit str_law Tryz.underlying98 (List.mem_append.2 (.inr (List.mem_singleton.2 rfl))) false
set_option maxHeartbeats 4000000 in
set_option maxRecDepth 20000 in
theorem node_any (w : World) (F : Nat → Prop) (p : Nat) (N : List Txt) (U V : Nat → List Hp) (cnt : Int) (s : Txt) (h : GrAt w F p N U V cnt) (hk : TxtOk s) (hl : N.length ≤ 1000000) :
    Calls Tryz.prog 53 #[.pointer (some ⟨p, 0, none⟩), .string s] w (NodeP w F p N U V cnt s) := by
  by_cases hs : s ∈ N
  · have hadd : addN N s = N := by unfold addN; rw [if_pos (inB_iff.2 hs)]
    have FIN := Lib.hid (show GrNext w F p (addN N s) U V cnt w from by rw [hadd]; exact GrNext.refl h (Below.refl _ _))
    obtain ⟨O, D, hg, rfl⟩ := h
    have l0 := look_num hg.map s hk
    have q1 : w.cell? ⟨p, 1, none⟩ = some (.map (some D.r)) := hg.blk.cell 1
    obtain ⟨k, hk2⟩ : ∃ k, idxT N s = k := ⟨_, rfl⟩
    have hkl : k ≤ 1000000 := by have := idxT_lt hs; omega
    have hnum : numT N s = (k : Int) + 1 := by unfold numT; rw [if_pos (inB_iff.2 hs), hk2]
    rw [hnum] at l0
    have hz : ((k : Int) + 1 == 0) = false := by simp; omega
    have hw : IntKind.i64.wrap (((k : Int) + 1) - 1) = (k : Int) := by rw [IntKind.wrap_i64]; omega
    have HK := Lib.hid hk2
    clear hg hnum hadd hs
    go_enter Tryz.func53, Tryz.ntmps53
    go_wp2
    go_ret
    exact ⟨by rw [HK.out]; rfl, FIN.out⟩
  · have hadd : addN N s = N ++ [s] := by unfold addN; rw [if_neg (fun e => hs (inB_iff.1 e))]
    have hidx := idxT_out hs
    have hnum : numT N s = 0 := by unfold numT; rw [if_neg (fun e => hs (inB_iff.1 e))]
    obtain ⟨O, ⟨r, v0, v2, v3, fo, fi⟩, hg, rfl⟩ := h
    obtain ⟨A0, c0, e0, -, -⟩ := own_form hg.rn
    dsimp only at e0
    subst e0
    obtain ⟨A2, c2, e0, -, -⟩ := own_form hg.ro
    dsimp only at e0
    subst e0
    obtain ⟨A3, c3, e0, -, -⟩ := own_form hg.ri
    dsimp only at e0
    subst e0
    have l0 := look_num hg.map s hk
    rw [hnum] at l0
    have hlt := hg.lt
    have lt : ∀ k t, O k = some t → k < w.heap.size := fun k t e => hlt k (by simp [e])
    have hom : O r = some .m := hg.om
    -- the names
    obtain ⟨nv, w1, happ1, own1, up1, pl1⟩ := push_own w 0 22 9 1 16 _ Tryz.underlying22 info_string rfl (by decide) (Value.slice A0 N.length c0) N.length _ hg.rn [.string s] 1 rfl (by simp; rfl) (by omega) (by unfold maxLen; omega) (Nat.zero_le _)
    obtain ⟨A1, c1, rfl, -, -⟩ := own_form own1
    have kb1 := hg.blk.upd up1 (fun e => by have := hg.on _ e; rw [hg.op] at this; cases this)
    have km1 := hg.map.upd up1 (fun e => by have := hg.on _ e; rw [hom] at this; cases this)
    have ko1 := ownsRow_upd hg.ro up1 (fun k e f => by have := hg.on _ f; rw [hg.oo k e] at this; cases this)
    have ki1 := ownsRow_upd hg.ri up1 (fun k e f => by have := hg.on _ f; rw [hg.oi k e] at this; cases this)
    have np1 : (Value.slice A1 (N.length + 1) c1).ownBlock ≠ some p := fun e => by
      rcases pl1 p e with h | h
      · have := hg.on _ h; rw [hg.op] at this; cases this
      · have := lt _ _ hg.op; omega
    have nr1 : (Value.slice A1 (N.length + 1) c1).ownBlock ≠ some r := fun e => by
      rcases pl1 _ e with h | h
      · have := hg.on _ h; rw [hom] at this; cases this
      · have := lt _ _ hom; omega
    have rp : r ≠ p := fun e => by have := hom; rw [e, hg.op] at this; cases this
    have no : ∀ k, (Value.slice A2 N.length c2).ownBlock = some k → k ≠ p ∧ k ≠ r ∧ k < w.heap.size := fun k hk => ⟨fun e => (by have := hg.oo k hk; rw [e, hg.op] at this; cases this), fun e => (by have := hg.oo k hk; rw [e, hom] at this; cases this), lt _ _ (hg.oo k hk)⟩
    have ni : ∀ k, (Value.slice A3 N.length c3).ownBlock = some k → k ≠ p ∧ k ≠ r ∧ k < w.heap.size := fun k hk => ⟨fun e => (by have := hg.oi k hk; rw [e, hg.op] at this; cases this), fun e => (by have := hg.oi k hk; rw [e, hom] at this; cases this), lt _ _ (hg.oi k hk)⟩
    have noi : ∀ k, (Value.slice A2 N.length c2).ownBlock = some k → (Value.slice A3 N.length c3).ownBlock = some k → False := fun k h1 h2 => by have := hg.oo k h1; rw [hg.oi k h2] at this; cases this
    have kb2 := kb1.set 0 (Value.slice A1 (N.length + 1) c1)
    have us := (Upd.refl (fun k => k = p) w1).setCell (p := ⟨p, 0, none⟩) (.inl rfl) (Value.slice A1 (N.length + 1) c1)
    have km2 := km1.upd us rp
    have ko2 := ownsRow_upd ko1 us (fun k hk => (no k hk).1)
    have ki2 := ownsRow_upd ki1 us (fun k hk => (ni k hk).1)
    have kn2 := ownsRow_upd own1 us (fun k hk e => np1 (by rw [hk, e]))
    have up2 : Upd (fun k => k = p ∨ k = r ∨ (Value.slice A0 N.length c0).ownBlock = some k ∨ (Value.slice A2 N.length c2).ownBlock = some k ∨ (Value.slice A3 N.length c3).ownBlock = some k) w (w1.setCell ⟨p, 0, none⟩ (Value.slice A1 (N.length + 1) c1)) := (up1.mono (fun k _ h => .inr (.inr (.inl h)))).trans us (fun k h => .inl (.inl h))
    have bn : ∀ k, (Value.slice A1 (N.length + 1) c1).ownBlock = some k → (Value.slice A0 N.length c0).ownBlock = some k ∨ w.heap.size ≤ k ∧ k < (w1.setCell ⟨p, 0, none⟩ (Value.slice A1 (N.length + 1) c1)).heap.size := fun k hk => by
      rcases pl1 k hk with h | h
      · exact .inl h
      · exact .inr ⟨h, (kn2.lt k hk).2⟩
    have q0 : w.cell? ⟨p, 0, none⟩ = some (Value.slice A0 N.length c0) := hg.blk.cell 0
    have q1 : w.cell? ⟨p, 1, none⟩ = some (.map (some r)) := hg.blk.cell 1
    have r0 : w1.cell? ⟨p, 0, none⟩ = some (Value.slice A0 N.length c0) := kb1.cell 0
    have f0 : w1.frozen? ⟨p, 0, none⟩ = false := kb1.frozen 0
    have HG := Lib.hid (And.intro hg (And.intro hadd hidx))
    clear hom
    have HX := Lib.hid (And.intro (show Blk (w1.setCell ⟨p, 0, none⟩ (Value.slice A1 (N.length + 1) c1)) p 101 #[Value.slice A1 (N.length + 1) c1, .map (some r), Value.slice A2 N.length c2, Value.slice A3 N.length c3, .int .i64 cnt] from kb2) (And.intro km2 (And.intro kn2 (And.intro ko2 (And.intro ki2 (And.intro up2 bn))))))
    have HN := Lib.hid (And.intro nr1 (And.intro np1 (And.intro rp (And.intro no (And.intro ni noi)))))
    clear hg hadd hidx kb2 km2 kn2 ko2 ki2 up2 bn nr1 np1 rp no ni noi kb1 km1 ko1 ki1 us own1 up1 pl1 hnum hlt lt
    obtain ⟨n, hn⟩ : ∃ n, N.length = n := ⟨_, rfl⟩
    rw [hn] at hl happ1 HX HN q0 r0
    have HL := Lib.hid hn
    clear hn
    go_enter Tryz.func53, Tryz.ntmps53
    go_upto_region 3 with (at_builtin; refine wpList_append_run rfl _ _ _ rfl rfl rfl happ1 ?_)
    generalize w1.setCell ⟨p, 0, none⟩ (Value.slice A1 (n + 1) c1) = W2 at HX ⊢
    clear q0 q1 r0 f0 l0 happ1
    obtain ⟨w3, hrun, hm3, hg3, hz3⟩ := (MapIs.drew HX.out.2.1).put_miss str_law Tryz.underlying98 (.int .i64 ((n : Int) + 1)) (str_key hk) (fun q hq e => by
      obtain ⟨i, t, hi, ht, rfl⟩ := kvN_mem N _ q hq
      simp only [Value.string.injEq] at e
      subst e
      exact hs (List.mem_of_getElem? ht))
    have u3 : Upd (fun k => k = r) W2 w3 := (Upd.refl (fun k => k = r) W2).drew.grown hg3 (fun k e => .inl (by injection e with e; exact e.symm))
    have kb3 := HX.out.1.upd u3 (fun e => HN.out.2.2.1 e.symm)
    have kn3 := ownsRow_upd HX.out.2.2.1 u3 (fun k hk e => HN.out.1 (by rw [hk, e]))
    have ko3 := ownsRow_upd HX.out.2.2.2.1 u3 (fun k hk => (HN.out.2.2.2.1 k hk).2.1)
    have ki3 := ownsRow_upd HX.out.2.2.2.2.1 u3 (fun k hk => (HN.out.2.2.2.2.1 k hk).2.1)
    have ut3 := HX.out.2.2.2.2.2.1.trans u3 (fun k h => .inl (.inr (.inl h)))
    have H3 := Lib.hid (And.intro kb3 (And.intro hm3 (And.intro kn3 (And.intro ko3 (And.intro ki3 (And.intro ut3 u3.size))))))
    have hS : W2.drew.cell? ⟨p, 0, none⟩ = some (.slice A1 (n + 1) c1) ∧ W2.drew.cell? ⟨p, 1, none⟩ = some (.map (some r)) := ⟨HX.out.1.cell 0, HX.out.1.cell 1⟩
    clear hg3 hz3 u3 kb3 hm3 kn3 ko3 ki3 ut3
    refine wp_region_ord (fun W => W.cell? ⟨p, 0, none⟩ = some (.slice A1 (n + 1) c1) ∧ W.cell? ⟨p, 1, none⟩ = some (.map (some r))) 10 [(0, true), (1, true), (2, true), (3, true), (4, true), (5, true), (6, true), (7, true), (8, true), (9, true), (10, false)] (by kernel_rfl) (by kernel_rfl) (fun _ _ d _ _ h => by cases d <;> exact h) hS ?_
    generalize W2.drew = V2 at hrun hS ⊢
    iterate 10 (refine ord_take (v := ?_) rfl (by first | with_reducible rfl | kernel_rfl) ?_ ?_; rotate_left; (focus (intro wS hS; (try dsimp only at hS); go_split_ands; go_simp; (try with_reducible rfl); done)); (try simp only [Act.put, List.getElem_toArray, List.getElem_cons_succ, List.getElem_cons_zero, List.setIfInBounds_toArray, List.set_cons_zero, List.set_cons_succ]))
    refine ord_do rfl rfl (fun K hK => ?_)
    go_simp
    refine hK _ _ (fun h => absurd rfl h) ?_
    clear hK K hS hrun V2
    (try simp only [Act.put, List.getElem_toArray, List.getElem_cons_succ, List.getElem_cons_zero, List.setIfInBounds_toArray, List.set_cons_zero, List.set_cons_succ])
    refine ord_done ?_
    go_upto_region 4 with (fail)
    have KS := Lib.hid (show ∀ V, Upd (fun k => (Value.slice A2 n c2).ownBlock = some k) w3 V → V.cell? ⟨p, 2, none⟩ = some (.slice A2 n c2) ∧ V.cell? ⟨p, 3, none⟩ = some (.slice A3 n c3) from fun V hv => by
      have kb := H3.out.1.upd hv (fun e => (HN.out.2.2.2.1 _ e).1 rfl)
      exact ⟨kb.cell 2, kb.cell 3⟩)
    have hS : w3.drew.cell? ⟨p, 2, none⟩ = some (.slice A2 n c2) ∧ w3.drew.cell? ⟨p, 3, none⟩ = some (.slice A3 n c3) := KS.out _ (Upd.refl _ _).drew
    refine wp_region_late (fun W => W.cell? ⟨p, 2, none⟩ = some (.slice A2 n c2) ∧ W.cell? ⟨p, 3, none⟩ = some (.slice A3 n c3)) (lateFrom 16) (by kernel_rfl) ?_
    have HJ0 := Lib.hid (show Upd (fun _ => False) w3 w3.drew from (Upd.refl _ w3).drew)
    generalize w3.drew = V0 at HJ0 hS ⊢
    intro hd
    (refine late_take (i := 0) (v := ?_) rfl (by kernel_rfl) hd (fun _ _ d _ _ h => by cases d <;> exact h) hS (by first | with_reducible rfl | kernel_rfl) ?_ ?_; rotate_left; (focus (intro wS hS; (try dsimp only at hS); go_split_ands; go_simp; (try with_reducible rfl); done)); clear hd; intro hd; (try simp only [Act.put, List.getElem_toArray, List.getElem_cons_zero, List.setIfInBounds_toArray, List.set_cons_zero, List.set_cons_succ]))
    (refine late_take0 (i := 1) (v := ?_) rfl (by kernel_rfl) hd (fun _ _ d _ _ h => by cases d <;> exact h) (by first | with_reducible rfl | kernel_rfl) ?_ ?_; rotate_left; (focus (intro wS; go_simp; (try with_reducible rfl); done)); clear hd; intro hd; (try simp only [Act.put, List.getElem_toArray, List.getElem_cons_succ, List.getElem_cons_zero, List.setIfInBounds_toArray, List.set_cons_zero, List.set_cons_succ]))
    (refine late_take (i := 2) (v := ?_) rfl (by kernel_rfl) hd (fun _ _ d _ _ h => by cases d <;> exact h) hS (by first | with_reducible rfl | kernel_rfl) ?_ ?_; rotate_left; (focus (intro wS hS; (try dsimp only at hS); go_split_ands; go_simp; (try with_reducible rfl); done)); clear hd; intro hd; (try simp only [Act.put, List.getElem_toArray, List.getElem_cons_succ, List.getElem_cons_zero, List.setIfInBounds_toArray, List.set_cons_zero, List.set_cons_succ]))
    (refine late_take (i := 3) (v := ?_) rfl (by kernel_rfl) hd (fun _ _ d _ _ h => by cases d <;> exact h) hS (by first | with_reducible rfl | kernel_rfl) ?_ ?_; rotate_left; (focus (intro wS hS; (try dsimp only at hS); go_split_ands; go_simp; (try with_reducible rfl); done)); clear hd; intro hd; (try simp only [Act.put, List.getElem_toArray, List.getElem_cons_succ, List.getElem_cons_zero, List.setIfInBounds_toArray, List.set_cons_zero, List.set_cons_succ]))
    (refine late_take (i := 4) (v := ?_) rfl (by kernel_rfl) hd (fun _ _ d _ _ h => by cases d <;> exact h) hS (by first | with_reducible rfl | kernel_rfl) ?_ ?_; rotate_left; (focus (intro wS hS; (try dsimp only at hS); go_split_ands; go_simp; (try with_reducible rfl); done)); clear hd; intro hd; (try simp only [Act.put, List.getElem_toArray, List.getElem_cons_succ, List.getElem_cons_zero, List.setIfInBounds_toArray, List.set_cons_zero, List.set_cons_succ]))
    (refine late_take (i := 5) (v := ?_) rfl (by kernel_rfl) hd (fun _ _ d _ _ h => by cases d <;> exact h) hS (by first | with_reducible rfl | kernel_rfl) ?_ ?_; rotate_left; (focus (intro wS hS; (try dsimp only at hS); go_split_ands; go_simp; (try with_reducible rfl); done)); clear hd; intro hd; (try simp only [Act.put, List.getElem_toArray, List.getElem_cons_succ, List.getElem_cons_zero, List.setIfInBounds_toArray, List.set_cons_zero, List.set_cons_succ]))
    (refine late_take (i := 8) (v := ?_) rfl (by kernel_rfl) hd (fun _ _ d _ _ h => by cases d <;> exact h) hS (by first | with_reducible rfl | kernel_rfl) ?_ ?_; rotate_left; (focus (intro wS hS; (try dsimp only at hS); go_split_ands; go_simp; (try with_reducible rfl); done)); clear hd; intro hd; (try simp only [Act.put, List.getElem_toArray, List.getElem_cons_succ, List.getElem_cons_zero, List.setIfInBounds_toArray, List.set_cons_zero, List.set_cons_succ]))
    (refine late_take (i := 9) (v := ?_) rfl (by kernel_rfl) hd (fun _ _ d _ _ h => by cases d <;> exact h) hS (by first | with_reducible rfl | kernel_rfl) ?_ ?_; rotate_left; (focus (intro wS hS; (try dsimp only at hS); go_split_ands; go_simp; (try with_reducible rfl); done)); clear hd; intro hd; (try simp only [Act.put, List.getElem_toArray, List.getElem_cons_succ, List.getElem_cons_zero, List.setIfInBounds_toArray, List.set_cons_zero, List.set_cons_succ]))
    (refine late_take (i := 10) (v := ?_) rfl (by kernel_rfl) hd (fun _ _ d _ _ h => by cases d <;> exact h) hS (by first | with_reducible rfl | kernel_rfl) ?_ ?_; rotate_left; (focus (intro wS hS; (try dsimp only at hS); go_split_ands; go_simp; (try with_reducible rfl); done)); clear hd; intro hd; (try simp only [Act.put, List.getElem_toArray, List.getElem_cons_succ, List.getElem_cons_zero, List.setIfInBounds_toArray, List.set_cons_zero, List.set_cons_succ]))
    (refine late_take (i := 11) (v := ?_) rfl (by kernel_rfl) hd (fun _ _ d _ _ h => by cases d <;> exact h) hS (by first | with_reducible rfl | kernel_rfl) ?_ ?_; rotate_left; (focus (intro wS hS; (try dsimp only at hS); go_split_ands; go_simp; (try with_reducible rfl); done)); clear hd; intro hd; (try simp only [Act.put, List.getElem_toArray, List.getElem_cons_succ, List.getElem_cons_zero, List.setIfInBounds_toArray, List.set_cons_zero, List.set_cons_succ]))
    clear hS
    refine late_run hd (L := [6, 12]) (by kernel_rfl) (by decide) (fun i hi hd2 => ?_)
    clear hd
    have hd := hd2
    clear hd2
    simp only [List.mem_cons, List.not_mem_nil, or_false] at hi
    rcases hi with rfl | rfl
    · skip
      have koV1 := Blk.new V0 31 #[.slice none 0 0]
      have HJ1 := Lib.hid ((HJ0.out).alloc (.cells #[.slice none 0 0] 31))
      have HBo1 := Lib.hid koV1
      clear koV1
      refine late_do (S := fun W => W.cell? ⟨p, 2, none⟩ = some (.slice A2 n c2) ∧ W.cell? ⟨p, 3, none⟩ = some (.slice A3 n c3)) (late := lateFrom 16) rfl rfl (fun K hK => ?_)
      go_simp
      refine hK _ _ (fun _ _ => KS.out _ (HJ1.out.mono (fun _ _ h => by first | exact h.elim | exact h))) ?_
      clear hK K
      (try simp only [Act.put, List.getElem_toArray, List.getElem_cons_succ, List.getElem_cons_zero, List.setIfInBounds_toArray, List.set_cons_zero, List.set_cons_succ])
      have hS : (V0.alloc (.cells #[.slice none 0 0] 31)).cell? ⟨p, 2, none⟩ = some (.slice A2 n c2) ∧ (V0.alloc (.cells #[.slice none 0 0] 31)).cell? ⟨p, 3, none⟩ = some (.slice A3 n c3) := KS.out _ (HJ1.out.mono (fun _ _ h => by first | exact h.elim | exact h))
      generalize V0.alloc (.cells #[.slice none 0 0] 31) = V1 at HJ1 HBo1 hS ⊢
      clear hS
      refine late_run hd (L := [7, 12]) (by kernel_rfl) (by decide) (fun i hi hd2 => ?_)
      clear hd
      have hd := hd2
      clear hd2
      simp only [List.mem_cons, List.not_mem_nil, or_false] at hi
      rcases hi with rfl | rfl
      · skip
        obtain ⟨B2, d2, V2, happ, o6, u6, p6⟩ := append_row2 V1 0 99 31 1 24 _ Tryz.underlying99 info_hops rfl (by decide) (by decide) A2 n c2 (rowV fo n) (ownsRow_upd H3.out.2.2.2.1 HJ1.out (fun _ _ h => h)) (some ⟨V0.heap.size, 0, none⟩) 1 1 [.slice none 0 0] (row_one HBo1.out) rfl (by simp; rfl) (by omega) (Nat.zero_le _)
        have HJ2 := Lib.hid (show Upd (fun k => (Value.slice A2 n c2).ownBlock = some k) w3 V2 from (HJ1.out.mono (fun _ _ h => h.elim)).trans u6 (fun k h => .inl h))
        have HO := Lib.hid (And.intro o6 (And.intro p6 (show w3.heap.size ≤ V1.heap.size from HJ1.out.size)))
        clear o6 u6 p6
        refine late_do (S := fun W => W.cell? ⟨p, 2, none⟩ = some (.slice A2 n c2) ∧ W.cell? ⟨p, 3, none⟩ = some (.slice A3 n c3)) (late := lateFrom 16) rfl rfl (fun K hK => ?_)
        refine wp_append_run _ _ _ rfl rfl rfl happ ?_
        refine hK _ _ (fun _ _ => KS.out _ HJ2.out) ?_
        clear hK K happ
        (try simp only [Act.put, List.getElem_toArray, List.getElem_cons_succ, List.getElem_cons_zero, List.setIfInBounds_toArray, List.set_cons_zero, List.set_cons_succ])
        refine late_run hd (L := [12]) (by kernel_rfl) (by decide) (fun i hi hd2 => ?_)
        clear hd
        have hd := hd2
        clear hd2
        simp only [List.mem_cons, List.not_mem_nil, or_false] at hi
        subst hi
        have kiV3 := Blk.new V2 31 #[.slice none 0 0]
        have HJ3 := Lib.hid ((HJ2.out).alloc (.cells #[.slice none 0 0] 31))
        have HO := Lib.hid (And.intro (HO.out.1.alloc (.cells #[.slice none 0 0] 31)) HO.out.2)
        have HBi3 := Lib.hid kiV3
        clear kiV3
        refine late_do (S := fun W => W.cell? ⟨p, 2, none⟩ = some (.slice A2 n c2) ∧ W.cell? ⟨p, 3, none⟩ = some (.slice A3 n c3)) (late := lateFrom 16) rfl rfl (fun K hK => ?_)
        go_simp
        refine hK _ _ (fun _ _ => KS.out _ (HJ3.out.mono (fun _ _ h => by first | exact h.elim | exact h))) ?_
        clear hK K
        (try simp only [Act.put, List.getElem_toArray, List.getElem_cons_succ, List.getElem_cons_zero, List.setIfInBounds_toArray, List.set_cons_zero, List.set_cons_succ])
        have hS : (V2.alloc (.cells #[.slice none 0 0] 31)).cell? ⟨p, 2, none⟩ = some (.slice A2 n c2) ∧ (V2.alloc (.cells #[.slice none 0 0] 31)).cell? ⟨p, 3, none⟩ = some (.slice A3 n c3) := KS.out _ (HJ3.out.mono (fun _ _ h => by first | exact h.elim | exact h))
        generalize V2.alloc (.cells #[.slice none 0 0] 31) = V3 at HJ3 HBi3 HO hS ⊢
        clear hS
        refine late_run hd (L := [13]) (by kernel_rfl) (by decide) (fun i hi hd2 => ?_)
        clear hd
        have hd := hd2
        clear hd2
        simp only [List.mem_cons, List.not_mem_nil, or_false] at hi
        subst hi
        obtain ⟨B3, d3, V4, happ, o6, u6, p6⟩ := append_row2 V3 0 99 31 1 24 _ Tryz.underlying99 info_hops rfl (by decide) (by decide) A3 n c3 (rowV fi n) (ownsRow_upd H3.out.2.2.2.2.1 HJ3.out (fun k h1 h2 => HN.out.2.2.2.2.2 k h2 h1)) (some ⟨V2.heap.size, 0, none⟩) 1 1 [.slice none 0 0] (row_one HBi3.out) rfl (by simp; rfl) (by omega) (Nat.zero_le _)
        have HF := node_fin HG.out.1 HL.out H3.out.1 H3.out.2.1 H3.out.2.2.1 H3.out.2.2.2.2.2.1 HX.out.2.2.2.2.2.2 H3.out.2.2.2.2.2.2 HN.out.1 HN.out.2.1 HN.out.2.2.1 HN.out.2.2.2.1 HN.out.2.2.2.2.1 HN.out.2.2.2.2.2 HJ3.out HO.out.1 HO.out.2.1 HO.out.2.2 o6 u6 p6
        clear o6 u6 p6
        refine late_do (S := fun W => W.cell? ⟨p, 2, none⟩ = some (.slice A2 n c2) ∧ W.cell? ⟨p, 3, none⟩ = some (.slice A3 n c3)) (late := lateFrom 16) rfl rfl (fun K hK => ?_)
        refine wp_append_run _ _ _ rfl rfl rfl happ ?_
        refine hK _ _ (fun _ _ => ⟨HF.out.1.cell 2, HF.out.1.cell 3⟩) ?_
        clear hK K happ
        (try simp only [Act.put, List.getElem_toArray, List.getElem_cons_succ, List.getElem_cons_zero, List.setIfInBounds_toArray, List.set_cons_zero, List.set_cons_succ])
        have r2 : V4.cell? ⟨p, 2, none⟩ = some (.slice A2 n c2) := HF.out.1.cell 2
        have f2 : V4.frozen? ⟨p, 2, none⟩ = false := HF.out.1.frozen 2
        have kz := HF.out.1.set 2 (.slice B2 (n + 1) d2)
        have r3 : (V4.setCell ⟨p, 2, none⟩ (.slice B2 (n + 1) d2)).cell? ⟨p, 3, none⟩ = some (.slice A3 n c3) := kz.cell 3
        have f3 : (V4.setCell ⟨p, 2, none⟩ (.slice B2 (n + 1) d2)).frozen? ⟨p, 3, none⟩ = false := kz.frozen 3
        have FIN := Lib.hid HF.out.2
        clear kz
        refine late_run hd (L := [14]) (by kernel_rfl) (by decide) (fun i hi hd2 => ?_)
        clear hd
        have hd := hd2
        clear hd2
        simp only [List.mem_cons, List.not_mem_nil, or_false] at hi
        subst hi
        refine late_do (S := fun W => W.cell? ⟨p, 2, none⟩ = some (.slice A2 n c2) ∧ W.cell? ⟨p, 3, none⟩ = some (.slice A3 n c3)) (late := lateFrom 16) rfl rfl (fun K hK => ?_)
        go_simp
        refine hK _ _ (fun h _ => ⟨HF.out.1.cell 2, HF.out.1.cell 3⟩) ?_
        clear hK K
        (try simp only [Act.put, List.getElem_toArray, List.getElem_cons_succ, List.getElem_cons_zero, List.setIfInBounds_toArray, List.set_cons_zero, List.set_cons_succ])
        refine late_run hd (L := [15]) (by kernel_rfl) (by decide) (fun i hi hd2 => ?_)
        clear hd
        have hd := hd2
        clear hd2
        simp only [List.mem_cons, List.not_mem_nil, or_false] at hi
        subst hi
        refine late_do (S := fun W => W.cell? ⟨p, 2, none⟩ = some (.slice A2 n c2) ∧ W.cell? ⟨p, 3, none⟩ = some (.slice A3 n c3)) (late := lateFrom 16) rfl rfl (fun K hK => ?_)
        go_simp
        refine hK _ _ (fun h _ => ⟨HF.out.1.cell 2, HF.out.1.cell 3⟩) ?_
        clear hK K
        (try simp only [Act.put, List.getElem_toArray, List.getElem_cons_succ, List.getElem_cons_zero, List.setIfInBounds_toArray, List.set_cons_zero, List.set_cons_succ])
        refine late_run hd (L := [16]) (by kernel_rfl) (by decide) (fun i hi hd2 => ?_)
        clear hd
        have hd := hd2
        clear hd2
        simp only [List.mem_cons, List.not_mem_nil, or_false] at hi
        subst hi
        refine late_do (S := fun W => W.cell? ⟨p, 2, none⟩ = some (.slice A2 n c2) ∧ W.cell? ⟨p, 3, none⟩ = some (.slice A3 n c3)) (late := lateFrom 16) rfl rfl (fun K hK => ?_)
        go_simp
        refine hK _ _ (fun h _ => absurd h (by decide)) ?_
        clear hK K
        (try simp only [Act.put, List.getElem_toArray, List.getElem_cons_succ, List.getElem_cons_zero, List.setIfInBounds_toArray, List.set_cons_zero, List.set_cons_succ])
        refine late_run hd (L := [17]) (by kernel_rfl) (by decide) (fun i hi hd2 => ?_)
        clear hd
        have hd := hd2
        clear hd2
        simp only [List.mem_cons, List.not_mem_nil, or_false] at hi
        subst hi
        refine late_do (S := fun W => W.cell? ⟨p, 2, none⟩ = some (.slice A2 n c2) ∧ W.cell? ⟨p, 3, none⟩ = some (.slice A3 n c3)) (late := lateFrom 16) rfl rfl (fun K hK => ?_)
        go_simp
        refine hK _ _ (fun h _ => absurd h (by decide)) ?_
        clear hK K
        (try simp only [Act.put, List.getElem_toArray, List.getElem_cons_succ, List.getElem_cons_zero, List.setIfInBounds_toArray, List.set_cons_zero, List.set_cons_succ])
        refine late_run hd (L := [18]) (by kernel_rfl) (by decide) (fun i hi hd2 => ?_)
        clear hd
        have hd := hd2
        clear hd2
        simp only [List.mem_cons, List.not_mem_nil, or_false] at hi
        subst hi
        refine late_do (S := fun W => W.cell? ⟨p, 2, none⟩ = some (.slice A2 n c2) ∧ W.cell? ⟨p, 3, none⟩ = some (.slice A3 n c3)) (late := lateFrom 16) rfl rfl (fun K hK => ?_)
        go_simp
        refine hK _ _ (fun h _ => absurd h (by decide)) ?_
        clear hK K
        (try simp only [Act.put, List.getElem_toArray, List.getElem_cons_succ, List.getElem_cons_zero, List.setIfInBounds_toArray, List.set_cons_zero, List.set_cons_succ])
        refine late_run hd (L := [19]) (by kernel_rfl) (by decide) (fun i hi hd2 => ?_)
        clear hd
        have hd := hd2
        clear hd2
        simp only [List.mem_cons, List.not_mem_nil, or_false] at hi
        subst hi
        refine late_do (S := fun W => W.cell? ⟨p, 2, none⟩ = some (.slice A2 n c2) ∧ W.cell? ⟨p, 3, none⟩ = some (.slice A3 n c3)) (late := lateFrom 16) rfl rfl (fun K hK => ?_)
        go_simp
        refine hK _ _ (fun h _ => absurd h (by decide)) ?_
        clear hK K
        (try simp only [Act.put, List.getElem_toArray, List.getElem_cons_succ, List.getElem_cons_zero, List.setIfInBounds_toArray, List.set_cons_zero, List.set_cons_succ])
        refine late_done (by kernel_rfl) ?_
        generalize (V4.setCell ⟨p, 2, none⟩ (.slice B2 (n + 1) d2)).setCell ⟨p, 3, none⟩ (.slice B3 (n + 1) d3) = WF at FIN ⊢
        have l0 := FIN.out.2.1
        have q1 : WF.cell? ⟨p, 1, none⟩ = some (.map (some r)) := FIN.out.2.2
        have hw : IntKind.i64.wrap (((n : Int) + 1) - 1) = (n : Int) := by rw [IntKind.wrap_i64]; omega
        clear r2 f2 r3 f3
        go_wp2
        go_ret
        exact ⟨by rw [HG.out.2.2, HL.out]; rfl, by rw [HG.out.2.1]; exact FIN.out.1⟩
      · skip
        have kiV2 := Blk.new V1 31 #[.slice none 0 0]
        have koV2 := HBo1.out.alloc (.cells #[.slice none 0 0] 31)
        have HJ2 := Lib.hid ((HJ1.out).alloc (.cells #[.slice none 0 0] 31))
        have HBo2 := Lib.hid koV2
        have HBi2 := Lib.hid kiV2
        clear koV2 kiV2
        refine late_do (S := fun W => W.cell? ⟨p, 2, none⟩ = some (.slice A2 n c2) ∧ W.cell? ⟨p, 3, none⟩ = some (.slice A3 n c3)) (late := lateFrom 16) rfl rfl (fun K hK => ?_)
        go_simp
        refine hK _ _ (fun _ _ => KS.out _ (HJ2.out.mono (fun _ _ h => by first | exact h.elim | exact h))) ?_
        clear hK K
        (try simp only [Act.put, List.getElem_toArray, List.getElem_cons_succ, List.getElem_cons_zero, List.setIfInBounds_toArray, List.set_cons_zero, List.set_cons_succ])
        have hS : (V1.alloc (.cells #[.slice none 0 0] 31)).cell? ⟨p, 2, none⟩ = some (.slice A2 n c2) ∧ (V1.alloc (.cells #[.slice none 0 0] 31)).cell? ⟨p, 3, none⟩ = some (.slice A3 n c3) := KS.out _ (HJ2.out.mono (fun _ _ h => by first | exact h.elim | exact h))
        generalize V1.alloc (.cells #[.slice none 0 0] 31) = V2 at HJ2 HBo2 HBi2 hS ⊢
        clear hS
        refine late_run hd (L := [7]) (by kernel_rfl) (by decide) (fun i hi hd2 => ?_)
        clear hd
        have hd := hd2
        clear hd2
        simp only [List.mem_cons, List.not_mem_nil, or_false] at hi
        subst hi
        obtain ⟨B2, d2, V3, happ, o6, u6, p6⟩ := append_row2 V2 0 99 31 1 24 _ Tryz.underlying99 info_hops rfl (by decide) (by decide) A2 n c2 (rowV fo n) (ownsRow_upd H3.out.2.2.2.1 HJ2.out (fun _ _ h => h)) (some ⟨V0.heap.size, 0, none⟩) 1 1 [.slice none 0 0] (row_one HBo2.out) rfl (by simp; rfl) (by omega) (Nat.zero_le _)
        have HJ3 := Lib.hid (show Upd (fun k => (Value.slice A2 n c2).ownBlock = some k) w3 V3 from (HJ2.out.mono (fun _ _ h => h.elim)).trans u6 (fun k h => .inl h))
        have HBi3 := Lib.hid (HBi2.out.upd u6 (fun e => by have := (HN.out.2.2.2.1 _ e).2.2; have := H3.out.2.2.2.2.2.2; have := H3.out.2.2.2.2.2.1.size; have := HJ1.out.size; omega))
        have HO := Lib.hid (And.intro o6 (And.intro p6 (show w3.heap.size ≤ V2.heap.size from HJ2.out.size)))
        clear o6 u6 p6
        refine late_do (S := fun W => W.cell? ⟨p, 2, none⟩ = some (.slice A2 n c2) ∧ W.cell? ⟨p, 3, none⟩ = some (.slice A3 n c3)) (late := lateFrom 16) rfl rfl (fun K hK => ?_)
        refine wp_append_run _ _ _ rfl rfl rfl happ ?_
        refine hK _ _ (fun _ _ => KS.out _ HJ3.out) ?_
        clear hK K happ
        (try simp only [Act.put, List.getElem_toArray, List.getElem_cons_succ, List.getElem_cons_zero, List.setIfInBounds_toArray, List.set_cons_zero, List.set_cons_succ])
        refine late_run hd (L := [13]) (by kernel_rfl) (by decide) (fun i hi hd2 => ?_)
        clear hd
        have hd := hd2
        clear hd2
        simp only [List.mem_cons, List.not_mem_nil, or_false] at hi
        subst hi
        obtain ⟨B3, d3, V4, happ, o6, u6, p6⟩ := append_row2 V3 0 99 31 1 24 _ Tryz.underlying99 info_hops rfl (by decide) (by decide) A3 n c3 (rowV fi n) (ownsRow_upd H3.out.2.2.2.2.1 HJ3.out (fun k h1 h2 => HN.out.2.2.2.2.2 k h2 h1)) (some ⟨V1.heap.size, 0, none⟩) 1 1 [.slice none 0 0] (row_one HBi3.out) rfl (by simp; rfl) (by omega) (Nat.zero_le _)
        have HF := node_fin HG.out.1 HL.out H3.out.1 H3.out.2.1 H3.out.2.2.1 H3.out.2.2.2.2.2.1 HX.out.2.2.2.2.2.2 H3.out.2.2.2.2.2.2 HN.out.1 HN.out.2.1 HN.out.2.2.1 HN.out.2.2.2.1 HN.out.2.2.2.2.1 HN.out.2.2.2.2.2 HJ3.out HO.out.1 HO.out.2.1 HO.out.2.2 o6 u6 p6
        clear o6 u6 p6
        refine late_do (S := fun W => W.cell? ⟨p, 2, none⟩ = some (.slice A2 n c2) ∧ W.cell? ⟨p, 3, none⟩ = some (.slice A3 n c3)) (late := lateFrom 16) rfl rfl (fun K hK => ?_)
        refine wp_append_run _ _ _ rfl rfl rfl happ ?_
        refine hK _ _ (fun _ _ => ⟨HF.out.1.cell 2, HF.out.1.cell 3⟩) ?_
        clear hK K happ
        (try simp only [Act.put, List.getElem_toArray, List.getElem_cons_succ, List.getElem_cons_zero, List.setIfInBounds_toArray, List.set_cons_zero, List.set_cons_succ])
        have r2 : V4.cell? ⟨p, 2, none⟩ = some (.slice A2 n c2) := HF.out.1.cell 2
        have f2 : V4.frozen? ⟨p, 2, none⟩ = false := HF.out.1.frozen 2
        have kz := HF.out.1.set 2 (.slice B2 (n + 1) d2)
        have r3 : (V4.setCell ⟨p, 2, none⟩ (.slice B2 (n + 1) d2)).cell? ⟨p, 3, none⟩ = some (.slice A3 n c3) := kz.cell 3
        have f3 : (V4.setCell ⟨p, 2, none⟩ (.slice B2 (n + 1) d2)).frozen? ⟨p, 3, none⟩ = false := kz.frozen 3
        have FIN := Lib.hid HF.out.2
        clear kz
        refine late_run hd (L := [14]) (by kernel_rfl) (by decide) (fun i hi hd2 => ?_)
        clear hd
        have hd := hd2
        clear hd2
        simp only [List.mem_cons, List.not_mem_nil, or_false] at hi
        subst hi
        refine late_do (S := fun W => W.cell? ⟨p, 2, none⟩ = some (.slice A2 n c2) ∧ W.cell? ⟨p, 3, none⟩ = some (.slice A3 n c3)) (late := lateFrom 16) rfl rfl (fun K hK => ?_)
        go_simp
        refine hK _ _ (fun h _ => ⟨HF.out.1.cell 2, HF.out.1.cell 3⟩) ?_
        clear hK K
        (try simp only [Act.put, List.getElem_toArray, List.getElem_cons_succ, List.getElem_cons_zero, List.setIfInBounds_toArray, List.set_cons_zero, List.set_cons_succ])
        refine late_run hd (L := [15]) (by kernel_rfl) (by decide) (fun i hi hd2 => ?_)
        clear hd
        have hd := hd2
        clear hd2
        simp only [List.mem_cons, List.not_mem_nil, or_false] at hi
        subst hi
        refine late_do (S := fun W => W.cell? ⟨p, 2, none⟩ = some (.slice A2 n c2) ∧ W.cell? ⟨p, 3, none⟩ = some (.slice A3 n c3)) (late := lateFrom 16) rfl rfl (fun K hK => ?_)
        go_simp
        refine hK _ _ (fun h _ => ⟨HF.out.1.cell 2, HF.out.1.cell 3⟩) ?_
        clear hK K
        (try simp only [Act.put, List.getElem_toArray, List.getElem_cons_succ, List.getElem_cons_zero, List.setIfInBounds_toArray, List.set_cons_zero, List.set_cons_succ])
        refine late_run hd (L := [16]) (by kernel_rfl) (by decide) (fun i hi hd2 => ?_)
        clear hd
        have hd := hd2
        clear hd2
        simp only [List.mem_cons, List.not_mem_nil, or_false] at hi
        subst hi
        refine late_do (S := fun W => W.cell? ⟨p, 2, none⟩ = some (.slice A2 n c2) ∧ W.cell? ⟨p, 3, none⟩ = some (.slice A3 n c3)) (late := lateFrom 16) rfl rfl (fun K hK => ?_)
        go_simp
        refine hK _ _ (fun h _ => absurd h (by decide)) ?_
        clear hK K
        (try simp only [Act.put, List.getElem_toArray, List.getElem_cons_succ, List.getElem_cons_zero, List.setIfInBounds_toArray, List.set_cons_zero, List.set_cons_succ])
        refine late_run hd (L := [17]) (by kernel_rfl) (by decide) (fun i hi hd2 => ?_)
        clear hd
        have hd := hd2
        clear hd2
        simp only [List.mem_cons, List.not_mem_nil, or_false] at hi
        subst hi
        refine late_do (S := fun W => W.cell? ⟨p, 2, none⟩ = some (.slice A2 n c2) ∧ W.cell? ⟨p, 3, none⟩ = some (.slice A3 n c3)) (late := lateFrom 16) rfl rfl (fun K hK => ?_)
        go_simp
        refine hK _ _ (fun h _ => absurd h (by decide)) ?_
        clear hK K
        (try simp only [Act.put, List.getElem_toArray, List.getElem_cons_succ, List.getElem_cons_zero, List.setIfInBounds_toArray, List.set_cons_zero, List.set_cons_succ])
        refine late_run hd (L := [18]) (by kernel_rfl) (by decide) (fun i hi hd2 => ?_)
        clear hd
        have hd := hd2
        clear hd2
        simp only [List.mem_cons, List.not_mem_nil, or_false] at hi
        subst hi
        refine late_do (S := fun W => W.cell? ⟨p, 2, none⟩ = some (.slice A2 n c2) ∧ W.cell? ⟨p, 3, none⟩ = some (.slice A3 n c3)) (late := lateFrom 16) rfl rfl (fun K hK => ?_)
        go_simp
        refine hK _ _ (fun h _ => absurd h (by decide)) ?_
        clear hK K
        (try simp only [Act.put, List.getElem_toArray, List.getElem_cons_succ, List.getElem_cons_zero, List.setIfInBounds_toArray, List.set_cons_zero, List.set_cons_succ])
        refine late_run hd (L := [19]) (by kernel_rfl) (by decide) (fun i hi hd2 => ?_)
        clear hd
        have hd := hd2
        clear hd2
        simp only [List.mem_cons, List.not_mem_nil, or_false] at hi
        subst hi
        refine late_do (S := fun W => W.cell? ⟨p, 2, none⟩ = some (.slice A2 n c2) ∧ W.cell? ⟨p, 3, none⟩ = some (.slice A3 n c3)) (late := lateFrom 16) rfl rfl (fun K hK => ?_)
        go_simp
        refine hK _ _ (fun h _ => absurd h (by decide)) ?_
        clear hK K
        (try simp only [Act.put, List.getElem_toArray, List.getElem_cons_succ, List.getElem_cons_zero, List.setIfInBounds_toArray, List.set_cons_zero, List.set_cons_succ])
        refine late_done (by kernel_rfl) ?_
        generalize (V4.setCell ⟨p, 2, none⟩ (.slice B2 (n + 1) d2)).setCell ⟨p, 3, none⟩ (.slice B3 (n + 1) d3) = WF at FIN ⊢
        have l0 := FIN.out.2.1
        have q1 : WF.cell? ⟨p, 1, none⟩ = some (.map (some r)) := FIN.out.2.2
        have hw : IntKind.i64.wrap (((n : Int) + 1) - 1) = (n : Int) := by rw [IntKind.wrap_i64]; omega
        clear r2 f2 r3 f3
        go_wp2
        go_ret
        exact ⟨by rw [HG.out.2.2, HL.out]; rfl, by rw [HG.out.2.1]; exact FIN.out.1⟩
    · skip
      have kiV1 := Blk.new V0 31 #[.slice none 0 0]
      have HJ1 := Lib.hid ((HJ0.out).alloc (.cells #[.slice none 0 0] 31))
      have HBi1 := Lib.hid kiV1
      clear kiV1
      refine late_do (S := fun W => W.cell? ⟨p, 2, none⟩ = some (.slice A2 n c2) ∧ W.cell? ⟨p, 3, none⟩ = some (.slice A3 n c3)) (late := lateFrom 16) rfl rfl (fun K hK => ?_)
      go_simp
      refine hK _ _ (fun _ _ => KS.out _ (HJ1.out.mono (fun _ _ h => by first | exact h.elim | exact h))) ?_
      clear hK K
      (try simp only [Act.put, List.getElem_toArray, List.getElem_cons_succ, List.getElem_cons_zero, List.setIfInBounds_toArray, List.set_cons_zero, List.set_cons_succ])
      have hS : (V0.alloc (.cells #[.slice none 0 0] 31)).cell? ⟨p, 2, none⟩ = some (.slice A2 n c2) ∧ (V0.alloc (.cells #[.slice none 0 0] 31)).cell? ⟨p, 3, none⟩ = some (.slice A3 n c3) := KS.out _ (HJ1.out.mono (fun _ _ h => by first | exact h.elim | exact h))
      generalize V0.alloc (.cells #[.slice none 0 0] 31) = V1 at HJ1 HBi1 hS ⊢
      clear hS
      refine late_run hd (L := [6]) (by kernel_rfl) (by decide) (fun i hi hd2 => ?_)
      clear hd
      have hd := hd2
      clear hd2
      simp only [List.mem_cons, List.not_mem_nil, or_false] at hi
      subst hi
      have koV2 := Blk.new V1 31 #[.slice none 0 0]
      have kiV2 := HBi1.out.alloc (.cells #[.slice none 0 0] 31)
      have HJ2 := Lib.hid ((HJ1.out).alloc (.cells #[.slice none 0 0] 31))
      have HBi2 := Lib.hid kiV2
      have HBo2 := Lib.hid koV2
      clear kiV2 koV2
      refine late_do (S := fun W => W.cell? ⟨p, 2, none⟩ = some (.slice A2 n c2) ∧ W.cell? ⟨p, 3, none⟩ = some (.slice A3 n c3)) (late := lateFrom 16) rfl rfl (fun K hK => ?_)
      go_simp
      refine hK _ _ (fun _ _ => KS.out _ (HJ2.out.mono (fun _ _ h => by first | exact h.elim | exact h))) ?_
      clear hK K
      (try simp only [Act.put, List.getElem_toArray, List.getElem_cons_succ, List.getElem_cons_zero, List.setIfInBounds_toArray, List.set_cons_zero, List.set_cons_succ])
      have hS : (V1.alloc (.cells #[.slice none 0 0] 31)).cell? ⟨p, 2, none⟩ = some (.slice A2 n c2) ∧ (V1.alloc (.cells #[.slice none 0 0] 31)).cell? ⟨p, 3, none⟩ = some (.slice A3 n c3) := KS.out _ (HJ2.out.mono (fun _ _ h => by first | exact h.elim | exact h))
      generalize V1.alloc (.cells #[.slice none 0 0] 31) = V2 at HJ2 HBi2 HBo2 hS ⊢
      clear hS
      refine late_run hd (L := [7]) (by kernel_rfl) (by decide) (fun i hi hd2 => ?_)
      clear hd
      have hd := hd2
      clear hd2
      simp only [List.mem_cons, List.not_mem_nil, or_false] at hi
      subst hi
      obtain ⟨B2, d2, V3, happ, o6, u6, p6⟩ := append_row2 V2 0 99 31 1 24 _ Tryz.underlying99 info_hops rfl (by decide) (by decide) A2 n c2 (rowV fo n) (ownsRow_upd H3.out.2.2.2.1 HJ2.out (fun _ _ h => h)) (some ⟨V1.heap.size, 0, none⟩) 1 1 [.slice none 0 0] (row_one HBo2.out) rfl (by simp; rfl) (by omega) (Nat.zero_le _)
      have HJ3 := Lib.hid (show Upd (fun k => (Value.slice A2 n c2).ownBlock = some k) w3 V3 from (HJ2.out.mono (fun _ _ h => h.elim)).trans u6 (fun k h => .inl h))
      have HBi3 := Lib.hid (HBi2.out.upd u6 (fun e => by have := (HN.out.2.2.2.1 _ e).2.2; have := H3.out.2.2.2.2.2.2; have := H3.out.2.2.2.2.2.1.size; have := HJ0.out.size; omega))
      have HO := Lib.hid (And.intro o6 (And.intro p6 (show w3.heap.size ≤ V2.heap.size from HJ2.out.size)))
      clear o6 u6 p6
      refine late_do (S := fun W => W.cell? ⟨p, 2, none⟩ = some (.slice A2 n c2) ∧ W.cell? ⟨p, 3, none⟩ = some (.slice A3 n c3)) (late := lateFrom 16) rfl rfl (fun K hK => ?_)
      refine wp_append_run _ _ _ rfl rfl rfl happ ?_
      refine hK _ _ (fun _ _ => KS.out _ HJ3.out) ?_
      clear hK K happ
      (try simp only [Act.put, List.getElem_toArray, List.getElem_cons_succ, List.getElem_cons_zero, List.setIfInBounds_toArray, List.set_cons_zero, List.set_cons_succ])
      refine late_run hd (L := [13]) (by kernel_rfl) (by decide) (fun i hi hd2 => ?_)
      clear hd
      have hd := hd2
      clear hd2
      simp only [List.mem_cons, List.not_mem_nil, or_false] at hi
      subst hi
      obtain ⟨B3, d3, V4, happ, o6, u6, p6⟩ := append_row2 V3 0 99 31 1 24 _ Tryz.underlying99 info_hops rfl (by decide) (by decide) A3 n c3 (rowV fi n) (ownsRow_upd H3.out.2.2.2.2.1 HJ3.out (fun k h1 h2 => HN.out.2.2.2.2.2 k h2 h1)) (some ⟨V0.heap.size, 0, none⟩) 1 1 [.slice none 0 0] (row_one HBi3.out) rfl (by simp; rfl) (by omega) (Nat.zero_le _)
      have HF := node_fin HG.out.1 HL.out H3.out.1 H3.out.2.1 H3.out.2.2.1 H3.out.2.2.2.2.2.1 HX.out.2.2.2.2.2.2 H3.out.2.2.2.2.2.2 HN.out.1 HN.out.2.1 HN.out.2.2.1 HN.out.2.2.2.1 HN.out.2.2.2.2.1 HN.out.2.2.2.2.2 HJ3.out HO.out.1 HO.out.2.1 HO.out.2.2 o6 u6 p6
      clear o6 u6 p6
      refine late_do (S := fun W => W.cell? ⟨p, 2, none⟩ = some (.slice A2 n c2) ∧ W.cell? ⟨p, 3, none⟩ = some (.slice A3 n c3)) (late := lateFrom 16) rfl rfl (fun K hK => ?_)
      refine wp_append_run _ _ _ rfl rfl rfl happ ?_
      refine hK _ _ (fun _ _ => ⟨HF.out.1.cell 2, HF.out.1.cell 3⟩) ?_
      clear hK K happ
      (try simp only [Act.put, List.getElem_toArray, List.getElem_cons_succ, List.getElem_cons_zero, List.setIfInBounds_toArray, List.set_cons_zero, List.set_cons_succ])
      have r2 : V4.cell? ⟨p, 2, none⟩ = some (.slice A2 n c2) := HF.out.1.cell 2
      have f2 : V4.frozen? ⟨p, 2, none⟩ = false := HF.out.1.frozen 2
      have kz := HF.out.1.set 2 (.slice B2 (n + 1) d2)
      have r3 : (V4.setCell ⟨p, 2, none⟩ (.slice B2 (n + 1) d2)).cell? ⟨p, 3, none⟩ = some (.slice A3 n c3) := kz.cell 3
      have f3 : (V4.setCell ⟨p, 2, none⟩ (.slice B2 (n + 1) d2)).frozen? ⟨p, 3, none⟩ = false := kz.frozen 3
      have FIN := Lib.hid HF.out.2
      clear kz
      refine late_run hd (L := [14]) (by kernel_rfl) (by decide) (fun i hi hd2 => ?_)
      clear hd
      have hd := hd2
      clear hd2
      simp only [List.mem_cons, List.not_mem_nil, or_false] at hi
      subst hi
      refine late_do (S := fun W => W.cell? ⟨p, 2, none⟩ = some (.slice A2 n c2) ∧ W.cell? ⟨p, 3, none⟩ = some (.slice A3 n c3)) (late := lateFrom 16) rfl rfl (fun K hK => ?_)
      go_simp
      refine hK _ _ (fun h _ => ⟨HF.out.1.cell 2, HF.out.1.cell 3⟩) ?_
      clear hK K
      (try simp only [Act.put, List.getElem_toArray, List.getElem_cons_succ, List.getElem_cons_zero, List.setIfInBounds_toArray, List.set_cons_zero, List.set_cons_succ])
      refine late_run hd (L := [15]) (by kernel_rfl) (by decide) (fun i hi hd2 => ?_)
      clear hd
      have hd := hd2
      clear hd2
      simp only [List.mem_cons, List.not_mem_nil, or_false] at hi
      subst hi
      refine late_do (S := fun W => W.cell? ⟨p, 2, none⟩ = some (.slice A2 n c2) ∧ W.cell? ⟨p, 3, none⟩ = some (.slice A3 n c3)) (late := lateFrom 16) rfl rfl (fun K hK => ?_)
      go_simp
      refine hK _ _ (fun h _ => ⟨HF.out.1.cell 2, HF.out.1.cell 3⟩) ?_
      clear hK K
      (try simp only [Act.put, List.getElem_toArray, List.getElem_cons_succ, List.getElem_cons_zero, List.setIfInBounds_toArray, List.set_cons_zero, List.set_cons_succ])
      refine late_run hd (L := [16]) (by kernel_rfl) (by decide) (fun i hi hd2 => ?_)
      clear hd
      have hd := hd2
      clear hd2
      simp only [List.mem_cons, List.not_mem_nil, or_false] at hi
      subst hi
      refine late_do (S := fun W => W.cell? ⟨p, 2, none⟩ = some (.slice A2 n c2) ∧ W.cell? ⟨p, 3, none⟩ = some (.slice A3 n c3)) (late := lateFrom 16) rfl rfl (fun K hK => ?_)
      go_simp
      refine hK _ _ (fun h _ => absurd h (by decide)) ?_
      clear hK K
      (try simp only [Act.put, List.getElem_toArray, List.getElem_cons_succ, List.getElem_cons_zero, List.setIfInBounds_toArray, List.set_cons_zero, List.set_cons_succ])
      refine late_run hd (L := [17]) (by kernel_rfl) (by decide) (fun i hi hd2 => ?_)
      clear hd
      have hd := hd2
      clear hd2
      simp only [List.mem_cons, List.not_mem_nil, or_false] at hi
      subst hi
      refine late_do (S := fun W => W.cell? ⟨p, 2, none⟩ = some (.slice A2 n c2) ∧ W.cell? ⟨p, 3, none⟩ = some (.slice A3 n c3)) (late := lateFrom 16) rfl rfl (fun K hK => ?_)
      go_simp
      refine hK _ _ (fun h _ => absurd h (by decide)) ?_
      clear hK K
      (try simp only [Act.put, List.getElem_toArray, List.getElem_cons_succ, List.getElem_cons_zero, List.setIfInBounds_toArray, List.set_cons_zero, List.set_cons_succ])
      refine late_run hd (L := [18]) (by kernel_rfl) (by decide) (fun i hi hd2 => ?_)
      clear hd
      have hd := hd2
      clear hd2
      simp only [List.mem_cons, List.not_mem_nil, or_false] at hi
      subst hi
      refine late_do (S := fun W => W.cell? ⟨p, 2, none⟩ = some (.slice A2 n c2) ∧ W.cell? ⟨p, 3, none⟩ = some (.slice A3 n c3)) (late := lateFrom 16) rfl rfl (fun K hK => ?_)
      go_simp
      refine hK _ _ (fun h _ => absurd h (by decide)) ?_
      clear hK K
      (try simp only [Act.put, List.getElem_toArray, List.getElem_cons_succ, List.getElem_cons_zero, List.setIfInBounds_toArray, List.set_cons_zero, List.set_cons_succ])
      refine late_run hd (L := [19]) (by kernel_rfl) (by decide) (fun i hi hd2 => ?_)
      clear hd
      have hd := hd2
      clear hd2
      simp only [List.mem_cons, List.not_mem_nil, or_false] at hi
      subst hi
      refine late_do (S := fun W => W.cell? ⟨p, 2, none⟩ = some (.slice A2 n c2) ∧ W.cell? ⟨p, 3, none⟩ = some (.slice A3 n c3)) (late := lateFrom 16) rfl rfl (fun K hK => ?_)
      go_simp
      refine hK _ _ (fun h _ => absurd h (by decide)) ?_
      clear hK K
      (try simp only [Act.put, List.getElem_toArray, List.getElem_cons_succ, List.getElem_cons_zero, List.setIfInBounds_toArray, List.set_cons_zero, List.set_cons_succ])
      refine late_done (by kernel_rfl) ?_
      generalize (V4.setCell ⟨p, 2, none⟩ (.slice B2 (n + 1) d2)).setCell ⟨p, 3, none⟩ (.slice B3 (n + 1) d3) = WF at FIN ⊢
      have l0 := FIN.out.2.1
      have q1 : WF.cell? ⟨p, 1, none⟩ = some (.map (some r)) := FIN.out.2.2
      have hw : IntKind.i64.wrap (((n : Int) + 1) - 1) = (n : Int) := by rw [IntKind.wrap_i64]; omega
      clear r2 f2 r3 f3
      go_wp2
      go_ret
      exact ⟨by rw [HG.out.2.2, HL.out]; rfl, by rw [HG.out.2.1]; exact FIN.out.1⟩
end Go.Proofs.YtnmkieiehjajlaaGreatDoor
