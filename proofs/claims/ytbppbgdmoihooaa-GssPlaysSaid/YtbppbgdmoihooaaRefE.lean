/- GssPlays: push, of a frame that is new. -/
import Derived.Test.YtbppbgdmoihooaaRefD
namespace Go.Proofs.Ytbppbgdmoihooaa
open Go.RowKit

theorem RefI.upd {w w' : World} {O : Nat → Option Tag} {H : Nat → Prop} {v : Value} {N : List GNode} {D : RefD} (hs : RefI w O v N D) (hu : Upd H w w') (hd : ∀ k, O k ≠ none → ¬ H k) : RefI w' O v N D := by
  have no : ∀ k t, O k = some t → ¬ H k := fun k t e => hd k (by simp [e])
  refine ⟨ownsRow_upd hs.row hu fun k hk => no _ _ (hs.oN k hk), ?_, ?_, hs.oN, hs.oF, hs.oP, fun k hk => Nat.lt_of_lt_of_le (hs.lt k hk) hu.size, hs.out⟩
  · intro i x hx
    exact ownsRow_upd (hs.rowF i x hx) hu fun k hk => no _ _ (hs.oF i (List.getElem?_eq_some_iff.1 hx).1 k hk)
  · intro i x hx
    exact ownsRow_upd (hs.rowP i x hx) hu fun k hk => no _ _ (hs.oP i (List.getElem?_eq_some_iff.1 hx).1 k hk)

theorem Sm.set {k : Nat} {N : List GNode} {i : Nat} {y : GNode} (h : Sm k N) (h1 : y.frames.length ≤ k + 1) (h2 : y.pops.length ≤ k + 1) : Sm (k + 1) (N.set i y) := by
  refine ⟨by rw [List.length_set]; exact Nat.le_succ_of_le h.1, fun j x hx => ?_⟩
  rw [List.getElem?_set] at hx
  split at hx
  · split at hx
    · injection hx with hx
      subst hx
      exact ⟨h1, h2⟩
    · cases hx
  · exact ⟨Nat.le_succ_of_le (h.2 j x hx).1, Nat.le_succ_of_le (h.2 j x hx).2⟩
theorem Sm.frame {k : Nat} {N : List GNode} (h : Sm k N) (i : Nat) (f : Int × Int) : Sm (k + 1) (addFrame N i f) := by
  unfold addFrame
  split
  · rename_i x hx
    have := h.2 i x hx
    exact h.set (by simp; omega) (by simp; omega)
  · exact ⟨Nat.le_succ_of_le h.1, fun j x hx => ⟨Nat.le_succ_of_le (h.2 j x hx).1, Nat.le_succ_of_le (h.2 j x hx).2⟩⟩
theorem Sm.pop {k : Nat} {N : List GNode} (h : Sm k N) (i : Nat) (a : Int) : Sm (k + 1) (addPop N i a) := by
  unfold addPop
  split
  · rename_i x hx
    have := h.2 i x hx
    exact h.set (by simp; omega) (by simp; omega)
  · exact ⟨Nat.le_succ_of_le h.1, fun j x hx => ⟨Nat.le_succ_of_le (h.2 j x hx).1, Nat.le_succ_of_le (h.2 j x hx).2⟩⟩
theorem addFrame_at {N : List GNode} {i : Nat} {x : GNode} (hi : N[i]? = some x) (f : Int × Int) : (addFrame N i f)[i]? = some { x with frames := x.frames ++ [f] } := by
  unfold addFrame
  rw [hi]
  simp only
  rw [List.getElem?_set, if_pos rfl, if_pos (List.getElem?_eq_some_iff.1 hi).1]
theorem addPop_at {N : List GNode} {i : Nat} {x : GNode} (hi : N[i]? = some x) (a : Int) : (addPop N i a)[i]? = some { x with pops := x.pops ++ [a] } := by
  unfold addPop
  rw [hi]
  simp only
  rw [List.getElem?_set, if_pos rfl, if_pos (List.getElem?_eq_some_iff.1 hi).1]

set_option maxHeartbeats 4000000 in
set_option maxRecDepth 20000 in
theorem rpush_new (w : World) (F G : Nat → Prop) (b : Nat) (v : Value) (N : List GNode) (i : Nat) (x : GNode) (p q : Int) (h : Both w F G b v N) (hi : N[i]? = some x) (hp : 0 ≤ p ∧ p < (N.length : Int)) (hq : Wf q) (hnew : (p, q) ∉ x.frames) (hx : x.frames.length + 1 ≤ 1000000) (hxp : x.pops.length ≤ 1000000) :
    Calls Try.prog 22 #[.pointer (some ⟨b, 0, none⟩), v, .int .i64 i, .agg #[.int .i64 p, .int .i64 q]] w (PlayPost w F G b v N) := by
  have hlt := (List.getElem?_eq_some_iff.1 hi).1
  have k0 := Blk.new w 48 #[.int .i64 p, .int .i64 q]
  have u1 : Below w.heap.size w (w.alloc (.cells #[.int .i64 p, .int .i64 q] 48)) := (Below.refl _ _).alloc (Nat.le_refl _) _
  have hlt1 : w.heap.size < (w.alloc (.cells #[.int .i64 p, .int .i64 q] 48)).heap.size := by simp
  obtain ⟨O, D, hs, rfl⟩ := h.r
  obtain ⟨g, c, rfl, hc, hg, -⟩ := ref_cells hs hi
  have hc' : (N.length : Int) ≤ (c : Int) := by omega
  have hin : 0 ≤ (i : Int) ∧ (i : Int) < (N.length : Int) := by omega
  have H := Lib.hid (And.intro h (And.intro k0 (And.intro u1 (And.intro hnew (And.intro hs (And.intro hi (And.intro hp (And.intro hin (And.intro hq (And.intro hg hlt1))))))))))
  clear h k0 u1 hnew hi hs hg hc hp hin hq hlt1
  go_enter Try.func22, Try.ntmps22
  go_wp2_with fail
  generalize w.alloc (.cells #[.int .i64 p, .int .i64 q] 48) = w1 at H ⊢
  obtain ⟨h, k0, u1, hnew, hs, hi, hp, hin, hq, hg, hlt1⟩ := H.out
  refine (push_new w1 F b N i x p q (h.below u1).s hi hp.1 hp.2 hq hnew hx).mono ?_
  rintro e w2 ⟨l, F', rfl, S2, U2, hF', row2, dl⟩
  obtain ⟨Al, cl, rfl, hcl, -⟩ := own_form row2
  -- what stands in the second world
  have hbF : ¬ F w.heap.size := fun hf => Nat.lt_irrefl _ (h.s.lt _ hf)
  have k2 := k0.upd U2 hbF
  have hs2 := (hs.upd (H := fun _ => False) (Upd.of_below u1 _) (fun _ _ => id)).upd U2 (fun k hk hf => h.d k hf hk)
  have f0 : w2.cell? ⟨w.heap.size, 0, none⟩ = some (.int .i64 p) := k2.cell 0
  have f1 : w2.cell? ⟨w.heap.size, 1, none⟩ = some (.int .i64 q) := k2.cell 1
  obtain ⟨g', c'', hv, -, -, m0, m1, m2, m3, -⟩ := ref_cells hs2 hi
  injection hv with hv _ hcc
  injection hv with hv
  injection hv with hv
  subst hv hcc
  have H2 := Lib.hid (And.intro S2 (And.intro U2 (And.intro hF' (And.intro row2 (And.intro dl (And.intro k2 (And.intro hs2 (And.intro u1 (And.intro h hlt1)))))))))
  have HI := Lib.hid (And.intro hi (And.intro hp (And.intro hin (And.intro hnew hg))))
  clear S2 U2 hF' row2 dl k2 hs2 h k0 u1 hnew hi hs hp hin hq hg hbF H hlt1
  go_wp2_with fail
  refine (in_yes _ _ _ _ _ HI.out.2.2.1).mono ?_
  rintro e w' ⟨rfl, rfl⟩
  go_wp2_with fail
  refine (in_yes _ _ _ _ _ HI.out.2.1).mono ?_
  rintro e w' ⟨rfl, rfl⟩
  go_wp2
  refine wp_region_ord (fun w' => w'.cell? ⟨g, i * 4, none⟩ = some (.int .i64 x.mark) ∧ w'.cell? ⟨g, i * 4 + 1, none⟩ = some (.int .i64 x.place) ∧ w'.cell? ⟨g, i * 4 + 2, none⟩ = some (D.fv i) ∧ w'.cell? ⟨g, i * 4 + 3, none⟩ = some (D.pv i) ∧ w'.cell? ⟨w.heap.size, 0, none⟩ = some (.int .i64 p) ∧ w'.cell? ⟨w.heap.size, 1, none⟩ = some (.int .i64 q)) 5 [(0, true), (1, true), (2, true), (3, true), (4, true), (5, false)] (by kernel_rfl) (by kernel_rfl) (fun _ _ d _ _ h => by cases d <;> exact h) ⟨m0, m1, m2, m3, f0, f1⟩ ?_
  have HB2 := Lib.hid (Below.drew (Below.refl w2.heap.size w2))
  clear m0 m1 m2 m3 f0 f1
  generalize w2.drew = w3 at HB2 ⊢
  repeat (refine ord_take (v := ?_) rfl rfl ?_ ?_; rotate_left; focus (intro wS hS; (try dsimp only at hS); go_split_ands; go_simp; (try with_reducible rfl); done); (try simp only [Act.put, List.setIfInBounds_toArray, List.set_cons_zero, List.set_cons_succ]))
  refine ord_do rfl rfl (fun K hK => ?_)
  go_simp
  refine (framed_any w3 0 x.mark x.place (D.fv i) (D.pv i) x.frames p q (row_below (H2.out.2.2.2.2.2.2.1.rowF i x HI.out.1) HB2.out) (by omega)).mono ?_
  rintro e w4 ⟨rfl, hb4⟩
  rw [decide_eq_false HI.out.2.2.2.1]
  refine hK _ _ (fun h => absurd rfl h) ?_
  clear hK K
  refine ord_done ?_
  have hb := HB2.out.trans (hb4.mono HB2.out.size)
  have HB4 := Lib.hid hb
  clear hb hb4 HB2
  -- the document's list gets the frame
  have hs4 := H2.out.2.2.2.2.2.2.1.upd (Upd.of_below HB4.out (fun _ => False)) (fun _ _ => id)
  have k4 := H2.out.2.2.2.2.2.1.upd (Upd.of_below HB4.out (fun _ => False)) id
  obtain ⟨g', c'', hv, -, -, -, -, n2, -, fz⟩ := ref_cells hs4 HI.out.1
  injection hv with hv _ hcc
  injection hv with hv
  injection hv with hv
  subst hv hcc
  have f0 : w4.cell? ⟨w.heap.size, 0, none⟩ = some (.int .i64 p) := k4.cell 0
  have f1 : w4.cell? ⟨w.heap.size, 1, none⟩ = some (.int .i64 q) := k4.cell 1
  have HS := Lib.hid (And.intro hs4 (And.intro k4 (fz 2 (by omega))))
  clear hs4 k4 fz
  go_wp2
  refine wp_region_ord (fun w' => w'.cell? ⟨g, i * 4 + 2, none⟩ = some (D.fv i) ∧ w'.cell? ⟨w.heap.size, 0, none⟩ = some (.int .i64 p) ∧ w'.cell? ⟨w.heap.size, 1, none⟩ = some (.int .i64 q)) 12 [(0, true), (1, true), (2, true), (3, true), (4, true), (5, true), (6, true), (7, true), (8, false), (9, false), (10, true), (11, true), (12, false)] (by kernel_rfl) (by kernel_rfl) (fun _ _ d _ _ h => by cases d <;> exact h) ⟨n2, f0, f1⟩ ?_
  have g6 : w4.drew.cell? ⟨g, i * 4 + 2, none⟩ = some (D.fv i) := n2
  have a60 : w4.drew.cell? ⟨w.heap.size, 0, none⟩ = some (.int .i64 p) := f0
  have a61 : w4.drew.cell? ⟨w.heap.size, 1, none⟩ = some (.int .i64 q) := f1
  have hs6 := HS.out.1.upd (Upd.of_below (Below.drew (Below.refl w4.heap.size w4)) (fun _ => False)) (fun _ _ => id)
  have k6 := HS.out.2.1.drew
  have hfz6 : w4.drew.frozen? ⟨g, i * 4 + 2, none⟩ = false := HS.out.2.2
  have B6 := HB4.out.drew
  generalize w4.drew = w6 at g6 a60 a61 hs6 k6 hfz6 B6 ⊢
  clear n2 f0 f1 HS
  obtain ⟨hi, -, -, -, hg⟩ := HI.out
  have row6 := (hs6.rowF i x hi).alloc (.cells #[.int .i64 p, .int .i64 q] 48)
  obtain ⟨i0, hi0, hz0, hz1, hz2⟩ := info_parts info_frame
  obtain ⟨v', w7, happ, own7, gr7, -, pl7⟩ := run_append_own_at (P := Try.prog) _ 0 41 41 48 i0 _ 2 16 Try.underlying41 hi0 hz0 hz1 hz2 rfl (by decide) (D.fv i) x.frames.length _ row6 ⟨w6.heap.size, 0, none⟩ 1 1
    [.int .i64 p, .int .i64 q] rfl (by
      intro j u hu
      match j, hu with
      | 0, hu => simp [Addr.add] at hu ⊢; exact hu
      | 1, hu => simp [Addr.add] at hu ⊢; exact hu
      | j + 2, hu => simp at hu) (by simp [Value.oneCell']) (by unfold maxLen; omega) (by omega) (Nat.zero_le _)
  obtain ⟨A', c', hv', -, -⟩ := own_form own7
  subst hv'
  have lt0 := hs6.lt
  have ng : some g ≠ (D.fv i).ownBlock := by
    intro e'
    have := hs6.oF i hlt g e'.symm
    rw [hg] at this
    injection this with this
    cases this
  have nG : O w.heap.size = none := by
    by_cases e : O w.heap.size = none
    · exact e
    · have := H2.out.2.2.2.2.2.2.2.2.1.r.lt w.heap.size e
      omega
  have na : some w.heap.size ≠ (D.fv i).ownBlock := by
    intro e
    have := hs6.oF i hlt _ e.symm
    rw [nG] at this
    cases this
  have lg := World.block_lt_of_cell? w6 _ g6
  have la := World.block_lt_of_cell? w6 _ a60
  simp only at lg la
  have s72 : (w6.alloc (.cells #[.int .i64 p, .int .i64 q] 48)).cell? ⟨g, i * 4 + 2, none⟩ = some (D.fv i) := (World.cell?_alloc_lt _ _ _ lg).trans g6
  have s73 : (w6.alloc (.cells #[.int .i64 p, .int .i64 q] 48)).cell? ⟨w.heap.size, 0, none⟩ = some (.int .i64 p) := (World.cell?_alloc_lt _ _ _ la).trans a60
  have s74 : (w6.alloc (.cells #[.int .i64 p, .int .i64 q] 48)).cell? ⟨w.heap.size, 1, none⟩ = some (.int .i64 q) := (World.cell?_alloc_lt _ _ _ la).trans a61
  have t2 := gr7.cell s72 ng
  have t3 := gr7.cell s73 na
  have t4 := gr7.cell s74 na
  have f7 : w7.frozen? ⟨g, i * 4 + 2, none⟩ = false := by
    rw [World.frozen?_of_block (w := w6.alloc (.cells #[.int .i64 p, .int .i64 q] 48)) (gr7.block g (by simp; omega) ng), World.frozen?_alloc_old _ _ _ (by show g ≠ _; omega)]
    exact hfz6
  have fin : RefNext w6 (fun k => O k ≠ none) (.slice (some ⟨g, 0, none⟩) N.length c) (addFrame N i (p, q)) (w7.setCell ⟨g, i * 4 + 2, none⟩ (.slice A' (x.frames.length + 1) c')) := by
    have V : Upd (fun k => k = g ∨ O k = some (.fr i)) w6 (w7.setCell ⟨g, i * 4 + 2, none⟩ (.slice A' (x.frames.length + 1) c')) :=
      (((Upd.refl _ w6).alloc _).grown gr7 (fun k hk => .inl (.inr (hs6.oF i hlt k hk)))).setCell (.inl (.inl rfl)) _
    have V1 : Upd (fun k => O k = some (.fr i)) w6 w7 := ((Upd.refl _ w6).alloc _).grown gr7 (fun k hk => .inl (hs6.oF i hlt k hk))
    refine ref_frame_state hs6 hi hg (v' := .slice A' (x.frames.length + 1) c') V ?_ ?_ ?_
    · have r7 := ownsRow_upd hs6.row V1 (fun k hk e => by rw [hs6.oN k hk] at e; injection e with e; cases e)
      have := (r7.stored (i * 4 + 2) (.slice A' (x.frames.length + 1) c')).1
      rwa [nodeCells_setF N D.fv D.pv i _ hlt] at this
    · have e : frameCells (x.frames ++ [(p, q)]) = frameCells x.frames ++ [.int .i64 p, .int .i64 q] := by simp [frameCells]
      rw [e]
      refine ownsRow_upd own7 ((Upd.refl (fun k => k = g) w7).setCell (.inl rfl) _) ?_
      rintro k hk rfl
      rcases pl7 with h5 | h5
      · rw [h5] at hk
        exact ng hk.symm
      · rw [h5] at hk
        injection hk with hk
        simp at hk
        omega
    · rcases pl7 with h5 | h5
      · exact .inl h5
      · refine .inr fun k hk => ?_
        rw [h5] at hk
        injection hk with hk
        simp at hk
        omega
  have H5 := Lib.hid (And.intro fin B6)
  clear fin hs6 k6 hfz6 row6 hi0 hz0 hz1 hz2 own7 gr7 pl7 lt0 ng na lg la hi hg nG B6 HB4
  repeat (refine ord_take (v := ?_) rfl rfl ?_ ?_; rotate_left; focus (intro wS hS; (try dsimp only at hS); go_split_ands; go_simp; (try with_reducible rfl); done); (try simp only [Act.put, List.setIfInBounds_toArray, List.set_cons_zero, List.set_cons_succ]))
  refine ord_do rfl rfl (fun K hK => ?_)
  go_simp
  refine hK _ _ (fun _ => ⟨s72, s73, s74⟩) ?_
  clear hK K
  refine ord_do rfl rfl (fun K hK => ?_)
  refine wp_append_run _ _ _ rfl rfl rfl happ ?_
  refine hK _ _ (fun _ => ⟨t2, t3, t4⟩) ?_
  clear hK K happ
  repeat (refine ord_take (v := ?_) rfl rfl ?_ ?_; rotate_left; focus (intro wS hS; (try dsimp only at hS); go_split_ands; go_simp; (try with_reducible rfl); done); (try simp only [Act.put, List.setIfInBounds_toArray, List.set_cons_zero, List.set_cons_succ]))
  refine ord_do rfl rfl (fun K hK => ?_)
  go_simp
  refine hK _ _ (fun h => absurd rfl h) ?_
  clear hK K s72 s73 s74 t2 t3 t4 f7 g6 a60 a61
  refine ord_done ?_
  generalize w7.setCell ⟨g, i * 4 + 2, none⟩ (.slice A' (x.frames.length + 1) c') = w8 at H5 ⊢
  clear hc' hx
  obtain ⟨⟨G2, ⟨O2, D2, hs8, hG2⟩, U8, hx8⟩, B6⟩ := H5.out
  have hi8 := addFrame_at HI.out.1 (p, q)
  have hN8 : (addFrame N i (p, q)).length = N.length := addFrame_len N i (p, q)
  obtain ⟨g', c'', hv, hcc8, -, -, -, -, n3, -⟩ := ref_cells hs8 hi8
  injection hv with hv _ hcc
  injection hv with hv
  injection hv with hv
  subst hv hcc
  have hc8 : (N.length : Int) ≤ (c : Int) := by omega
  have rowl : w8.ownsRow w1.heap.size 3 1 (.slice Al x.pops.length cl) x.pops.length (popCells x.pops) := ownsRow_upd (row_below H2.out.2.2.2.1 B6) U8 (fun k hk hO => by
    have h1 := (H2.out.2.2.2.1.lt k hk).1
    have h2 := H2.out.2.2.2.2.2.2.2.2.1.r.lt k hO
    have h3 := H2.out.2.2.2.2.2.2.2.1.size
    omega)
  have rowp : w8.ownsRow 0 3 1 (D2.pv i) x.pops.length (popCells x.pops) := by
    have h9 := hs8.rowP i _ hi8
    exact h9
  have HR := Lib.hid (And.intro rowl rowp)
  have H8 := Lib.hid (show RefAt w8 G2 _ (addFrame N i (p, q)) from ⟨O2, D2, hs8, hG2⟩)
  have HU := Lib.hid (And.intro U8 (And.intro hx8 B6))
  clear rowl rowp hs8 hG2 U8 hx8 B6 H5 hi8 hN8 hcc8
  go_wp2_with fail
  refine (sameInts_same w8 _ 0 _ _ x.pops HR.out.1 HR.out.2 hxp).mono ?_
  rintro e w9 ⟨rfl, hb9⟩
  have row9 := row_below HR.out.1 hb9
  have H9 := Lib.hid (And.intro hb9 row9)
  have hcl' : (x.pops.length : Int) ≤ (cl : Int) := by omega
  clear hb9 row9 n3
  go_wp2
  go_loopw [13] (fun iv wr => ∃ (k : Nat) (xs : List Value), k ≤ x.pops.length ∧ iv = .int .i64 k ∧ xs.length = x.pops.length ∧ wr.ownsRow w1.heap.size 3 1 (.slice Al x.pops.length cl) x.pops.length xs ∧ Upd (fun q => Value.ownBlock (.slice Al x.pops.length cl) = some q) w9 wr) (fun iv _ => x.pops.length - (intOf iv).toNat)
  case atStart => exact ⟨0, popCells x.pops, Nat.zero_le _, rfl, by simp [popCells], H9.out.2, Upd.refl _ _⟩
  case round =>
    obtain ⟨k, xs, hk, rfl, hxs, row, hu⟩ := hrel
    by_cases hlt2 : k < x.pops.length
    · obtain ⟨gl, cc, hv, hob, -, -, -, hcell⟩ := own_cells row (by omega)
      injection hv with hA _ hcc
      subst hA
      obtain ⟨u, hu0⟩ : ∃ u, xs[k]? = some u := ⟨xs[k], List.getElem?_eq_getElem (by omega)⟩
      obtain ⟨r0, r1⟩ := hcell k u hu0
      have fin := Lib.hid (And.intro ((row.stored k (.int .i64 77)).1) (hu.setCell (p := ⟨gl, k, none⟩) (.inl hob) (.int .i64 77)))
      have hxs' : (xs.set k (.int .i64 77)).length = x.pops.length := by rw [List.length_set]; exact hxs
      have HX := Lib.hid hxs'
      clear hcell hu0 row hu hxs hxs' hob hcc
      go_wp2
      go_roundw
      case rel => exact ⟨k + 1, xs.set k (.int .i64 77), by omega, by go_num, HX.out, fin.out.1, fin.out.2⟩
      case measure => simp [intOf]; omega
    · have HL := Lib.hid (And.intro hu row)
      clear hu row
      go_wp2
      go_ret
      obtain ⟨S2, U2, hF', row2, dl, k2, -, u1, h, hlt1⟩ := H2.out
      obtain ⟨U8, hx8, B6⟩ := HU.out
      have T : Upd (fun k => O k ≠ none ∨ Value.ownBlock (.slice Al x.pops.length cl) = some k) w2 wr := by
        have t1 : Upd (fun k => O k ≠ none ∨ Value.ownBlock (.slice Al x.pops.length cl) = some k) w2 w6 := Upd.of_below B6 _
        have t2 := t1.trans U8 (fun k hk => .inl (.inl hk))
        have t3 := t2.trans (F' := fun _ => False) (Upd.of_below H9.out.1 _) (fun _ => False.elim)
        exact t3.trans HL.out.1 (fun k hk => .inl (.inr hk))
      have hszs := u1.size
      have hr1 := fun k hk => (row2.lt k hk)
      refine ⟨F', G2, addFrame N i (p, q), rfl, ⟨S2.upd T ?_, ((H8.out.below H9.out.1).upd HL.out.1 ?_), ?_⟩, ?_, ?_, fun k hk => hk.frame i (p, q)⟩
      · rintro k hk (h1 | h1)
        · rcases hF' k hk with h2 | h2
          · exact h.d k h2 h1
          · have := h.r.lt k h1
            omega
        · exact dl k h1 hk
      · intro k hk hv
        have h1 := hr1 k hv
        have h6 := B6.size
        rcases hx8 k hk with h2 | h2
        · have := h.r.lt k h2
          omega
        · omega
      · intro k hk hk2
        have h6 := B6.size
        have h7 := S2.lt k hk
        rcases hx8 k hk2 with h2 | h2
        · rcases hF' k hk with h3 | h3
          · exact h.d k h3 h2
          · have := h.r.lt k h2
            omega
        · omega
      · have t0 : Upd (fun k => F k ∨ O k ≠ none) w w1 := Upd.of_below u1 _
        have t1 := t0.trans U2 (fun k hk => .inl (.inl hk))
        refine t1.trans T (fun k hk => ?_)
        rcases hk with hk | hk
        · exact .inl (.inr hk)
        · have := hr1 k hk
          exact .inr (by omega)
      · have h6 := B6.size
        have h7 := U2.size
        rintro k (hk | hk)
        · rcases hF' k hk with h2 | h2
          · exact .inl (.inl h2)
          · exact .inr (by omega)
        · rcases hx8 k hk with h2 | h2
          · exact .inl (.inr h2)
          · exact .inr (by omega)
end Go.Proofs.Ytbppbgdmoihooaa
