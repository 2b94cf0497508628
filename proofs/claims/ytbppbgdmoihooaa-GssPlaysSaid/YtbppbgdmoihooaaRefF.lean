/- GssPlays: pop. -/
import Derived.Test.YtbppbgdmoihooaaRefE
namespace Go.Proofs.Ytbppbgdmoihooaa
open Go.RowKit

set_option maxHeartbeats 1600000 in
set_option maxRecDepth 20000 in
theorem rpop_no (w : World) (F G : Nat → Prop) (b : Nat) (v : Value) (N : List GNode) (n p : Int) (h : Both w F G b v N) (hn : ¬ (0 ≤ n ∧ n < (N.length : Int))) :
    Calls Try.prog 23 #[.pointer (some ⟨b, 0, none⟩), v, .int .i64 n, .int .i64 p] w (PlayPost w F G b v N) := by
  obtain ⟨A, c, rfl⟩ : ∃ A c, v = .slice A N.length c := by
    obtain ⟨O, D, hs, rfl⟩ := h.r
    obtain ⟨A, c, e, -, -⟩ := own_form hs.row
    exact ⟨A, c, e⟩
  have H := Lib.hid h
  have HN := Lib.hid hn
  clear h hn
  go_enter Try.func23, Try.ntmps23
  go_wp2_with fail
  refine (pop_no w F b N n p H.out.s HN.out).mono ?_
  rintro e w2 ⟨rfl, hb2⟩
  have HB := Lib.hid hb2
  clear hb2
  go_wp2_with fail
  refine (in_no _ _ _ _ _ HN.out).mono ?_
  rintro e w' ⟨rfl, rfl⟩
  go_wp2
  go_ret
  exact PlayPost.same H.out HB.out

set_option maxHeartbeats 1600000 in
set_option maxRecDepth 20000 in
theorem rpop_old (w : World) (F G : Nat → Prop) (b : Nat) (v : Value) (N : List GNode) (i : Nat) (x : GNode) (p : Int) (h : Both w F G b v N) (hi : N[i]? = some x) (hold : p ∈ x.pops) (hx : x.pops.length ≤ 1000000) :
    Calls Try.prog 23 #[.pointer (some ⟨b, 0, none⟩), v, .int .i64 i, .int .i64 p] w (PlayPost w F G b v N) := by
  have hlt := (List.getElem?_eq_some_iff.1 hi).1
  obtain ⟨O, D, hs, rfl⟩ := h.r
  obtain ⟨g, c, rfl, hc, hg, n0, n1, n2, n3, -⟩ := ref_cells hs hi
  have hrow := hs.rowP i x hi
  have hc' : (N.length : Int) ≤ (c : Int) := by omega
  have hin : 0 ≤ (i : Int) ∧ (i : Int) < (N.length : Int) := by omega
  have H := Lib.hid (And.intro h (And.intro hold (And.intro hrow (And.intro hi hin))))
  have HC := Lib.hid (And.intro n0 (And.intro n1 (And.intro n2 n3)))
  clear h hold hrow hi hs n0 n1 n2 n3 hg hc hin
  go_enter Try.func23, Try.ntmps23
  go_wp2_with fail
  obtain ⟨h, hold, hrow, hi, hin⟩ := H.out
  refine (pop_old w _ b N i x p h.s hi hold).mono ?_
  rintro e w2 ⟨rfl, hb⟩
  have up : ∀ j u, w.cell? ⟨g, j, none⟩ = some u → w2.cell? ⟨g, j, none⟩ = some u := fun j u hu => (hb.cell (p := ⟨g, j, none⟩) (World.block_lt_of_cell? w _ hu)).trans hu
  obtain ⟨n0, n1, n2, n3⟩ := HC.out
  have m0 := up _ _ n0
  have m1 := up _ _ n1
  have m2 := up _ _ n2
  have m3 := up _ _ n3
  have HB := Lib.hid (And.intro hb (row_below hrow hb))
  clear hb up n0 n1 n2 n3 h hold hrow hi hin
  go_wp2_with fail
  refine (in_yes _ _ _ _ _ H.out.2.2.2.2).mono ?_
  rintro e w' ⟨rfl, rfl⟩
  go_wp2_with fail
  refine (popped_any w2 0 x.mark x.place (D.fv i) (D.pv i) x.pops p HB.out.2 hx).mono ?_
  rintro e w4 ⟨rfl, hb4⟩
  rw [decide_eq_true H.out.2.1]
  have hb := HB.out.1.trans (hb4.mono HB.out.1.size)
  have HB4 := Lib.hid hb
  clear hb hb4 HB
  go_wp2
  go_ret
  exact PlayPost.same H.out.1 HB4.out

set_option maxHeartbeats 4000000 in
set_option maxRecDepth 20000 in
theorem rpop_new (w : World) (F G : Nat → Prop) (b : Nat) (v : Value) (N : List GNode) (i : Nat) (x : GNode) (p : Int) (h : Both w F G b v N) (hi : N[i]? = some x) (hq : Wf p) (hnew : p ∉ x.pops) (hx : x.pops.length + 1 ≤ 1000000) (hxf : x.frames.length ≤ 1000000) :
    Calls Try.prog 23 #[.pointer (some ⟨b, 0, none⟩), v, .int .i64 i, .int .i64 p] w (PlayPost w F G b v N) := by
  have hlt := (List.getElem?_eq_some_iff.1 hi).1
  obtain ⟨O, D, hs, rfl⟩ := h.r
  obtain ⟨g, c, rfl, hc, hg, -⟩ := ref_cells hs hi
  have hc' : (N.length : Int) ≤ (c : Int) := by omega
  have hin : 0 ≤ (i : Int) ∧ (i : Int) < (N.length : Int) := by omega
  have H := Lib.hid (And.intro h (And.intro hnew (And.intro hs (And.intro hi (And.intro hin (And.intro hq hg))))))
  clear h hnew hi hs hg hc hin hq
  go_enter Try.func23, Try.ntmps23
  go_wp2_with fail
  obtain ⟨h, hnew, hs, hi, hin, hq, hg⟩ := H.out
  refine (pop_new w F b N i x p h.s hi hq hnew hx).mono ?_
  rintro e w2 ⟨l, F', rfl, S2, U2, hF', row2, dl⟩
  obtain ⟨Al, cl, rfl, hcl, -⟩ := own_form row2
  -- what stands in the second world
  have hs2 := hs.upd U2 (fun k hk hf => h.d k hf hk)
  obtain ⟨g', c'', hv, -, -, m0, m1, m2, m3, -⟩ := ref_cells hs2 hi
  injection hv with hv _ hcc
  injection hv with hv
  injection hv with hv
  subst hv hcc
  have H2 := Lib.hid (And.intro S2 (And.intro U2 (And.intro hF' (And.intro row2 (And.intro dl (And.intro hs2 h))))))
  have HI := Lib.hid (And.intro hi (And.intro hin (And.intro hnew hg)))
  clear S2 U2 hF' row2 dl hs2 h hnew hi hs hin hq hg H
  go_wp2_with fail
  refine (in_yes _ _ _ _ _ HI.out.2.1).mono ?_
  rintro e w' ⟨rfl, rfl⟩
  go_wp2_with fail
  refine (popped_any w2 0 x.mark x.place (D.fv i) (D.pv i) x.pops p (H2.out.2.2.2.2.2.1.rowP i x HI.out.1) (by omega)).mono ?_
  rintro e w4 ⟨rfl, hb4⟩
  rw [decide_eq_false HI.out.2.2.1]
  have HB4 := Lib.hid hb4
  -- the document's list gets the pop
  have hs6 := H2.out.2.2.2.2.2.1.upd (Upd.of_below hb4 (fun _ => False)) (fun _ _ => id)
  clear hb4 m0 m1 m2 m3
  obtain ⟨g', c'', hv, -, -, -, -, -, n3, fz⟩ := ref_cells hs6 HI.out.1
  injection hv with hv _ hcc
  injection hv with hv
  injection hv with hv
  subst hv hcc
  have hfz6 := fz 3 (by omega)
  have row6 := (hs6.rowP i x HI.out.1).alloc (.cells #[.int .i64 p] 3)
  obtain ⟨i0, hi0, hz0, hz1, hz2⟩ := info_parts info_int
  obtain ⟨v', w7, happ, own7, gr7, -, pl7⟩ := run_append_own_at (P := Try.prog) _ 0 44 44 3 i0 _ 1 8 Try.underlying44 hi0 hz0 hz1 hz2 rfl (by decide) (D.pv i) x.pops.length _ row6 ⟨w4.heap.size, 0, none⟩ 1 1
    [.int .i64 p] rfl (by
      intro j u hu
      match j, hu with
      | 0, hu => simp [Addr.add] at hu ⊢; exact hu
      | j + 1, hu => simp at hu) (by simp [Value.oneCell']) (by unfold maxLen; omega) (by omega) (Nat.zero_le _)
  obtain ⟨A', c', hv', -, -⟩ := own_form own7
  subst hv'
  obtain ⟨hi, -, -, hg⟩ := HI.out
  have ng : some g ≠ (D.pv i).ownBlock := by
    intro e'
    have := hs6.oP i hlt g e'.symm
    rw [hg] at this
    injection this with this
    cases this
  have lg := World.block_lt_of_cell? w4 _ n3
  simp only at lg
  have s72 : (w4.alloc (.cells #[.int .i64 p] 3)).cell? ⟨g, i * 4 + 3, none⟩ = some (D.pv i) := (World.cell?_alloc_lt _ _ _ lg).trans n3
  have t2 := gr7.cell s72 ng
  have f7 : w7.frozen? ⟨g, i * 4 + 3, none⟩ = false := by
    rw [World.frozen?_of_block (w := w4.alloc (.cells #[.int .i64 p] 3)) (gr7.block g (by simp; omega) ng), World.frozen?_alloc_old _ _ _ (by show g ≠ _; omega)]
    exact hfz6
  have fin : RefNext w4 (fun k => O k ≠ none) (.slice (some ⟨g, 0, none⟩) N.length c) (addPop N i p) (w7.setCell ⟨g, i * 4 + 3, none⟩ (.slice A' (x.pops.length + 1) c')) := by
    have V : Upd (fun k => k = g ∨ O k = some (.po i)) w4 (w7.setCell ⟨g, i * 4 + 3, none⟩ (.slice A' (x.pops.length + 1) c')) :=
      (((Upd.refl _ w4).alloc _).grown gr7 (fun k hk => .inl (.inr (hs6.oP i hlt k hk)))).setCell (.inl (.inl rfl)) _
    have V1 : Upd (fun k => O k = some (.po i)) w4 w7 := ((Upd.refl _ w4).alloc _).grown gr7 (fun k hk => .inl (hs6.oP i hlt k hk))
    refine ref_pop_state hs6 hi hg (v' := .slice A' (x.pops.length + 1) c') V ?_ ?_ ?_
    · have r7 := ownsRow_upd hs6.row V1 (fun k hk e => by rw [hs6.oN k hk] at e; injection e with e; cases e)
      have := (r7.stored (i * 4 + 3) (.slice A' (x.pops.length + 1) c')).1
      rwa [nodeCells_setP N D.fv D.pv i _ hlt] at this
    · have e : popCells (x.pops ++ [p]) = popCells x.pops ++ [.int .i64 p] := by simp [popCells]
      rw [e]
      refine ownsRow_upd own7 ((Upd.refl (fun k => k = g) w7).setCell (.inl rfl) _) ?_
      rintro k hk rfl
      rcases pl7 with h5 | h5
      · rw [h5] at hk
        exact ng hk.symm
      · rw [h5] at hk
        injection hk with hk
        simp at hk
        omega
    · rcases pl7 with h5 | h5
      · exact .inl h5
      · refine .inr fun k hk => ?_
        rw [h5] at hk
        injection hk with hk
        simp at hk
        omega
  have H5 := Lib.hid (And.intro fin HB4.out)
  clear fin hs6 hfz6 row6 hi0 hz0 hz1 hz2 own7 gr7 pl7 ng lg hi hg HB4 fz
  obtain ⟨⟨G2, ⟨O2, D2, hs8, hG2⟩, U8, hx8⟩, B6⟩ := H5.out
  have hi8 := addPop_at HI.out.1 p
  have hN8 : (addPop N i p).length = N.length := addPop_len N i p
  obtain ⟨g', c'', hv, hcc8, -, -, -, m2, -, -⟩ := ref_cells hs8 hi8
  injection hv with hv _ hcc
  injection hv with hv
  injection hv with hv
  subst hv hcc
  have rowl : (w7.setCell ⟨g, i * 4 + 3, none⟩ (.slice A' (x.pops.length + 1) c')).ownsRow w.heap.size 48 2 (.slice Al x.frames.length cl) x.frames.length (frameCells x.frames) := ownsRow_upd (row_below H2.out.2.2.2.1 B6) U8 (fun k hk hO => by
    have h1 := (H2.out.2.2.2.1.lt k hk).1
    have h2 := H2.out.2.2.2.2.2.2.r.lt k hO
    omega)
  have rowp : (w7.setCell ⟨g, i * 4 + 3, none⟩ (.slice A' (x.pops.length + 1) c')).ownsRow 0 48 2 (D2.fv i) x.frames.length (frameCells x.frames) := by
    have h9 := hs8.rowF i _ hi8
    exact h9
  have HR := Lib.hid (And.intro rowl rowp)
  have H8 := Lib.hid (show RefAt (w7.setCell ⟨g, i * 4 + 3, none⟩ (.slice A' (x.pops.length + 1) c')) G2 _ (addPop N i p) from ⟨O2, D2, hs8, hG2⟩)
  have HU := Lib.hid (And.intro U8 (And.intro hx8 B6))
  clear rowl rowp hs8 hG2 U8 hx8 B6 H5 hi8 hN8 hcc8
  go_wp2_with (at_builtin; refine wpList_append_run rfl _ _ _ rfl rfl rfl happ ?_)
  generalize w7.setCell ⟨g, i * 4 + 3, none⟩ (.slice A' (x.pops.length + 1) c') = w8 at HR H8 HU m2 ⊢
  clear s72 t2 f7 happ n3
  refine (sameFrames_same w8 _ 0 _ _ x.frames HR.out.1 HR.out.2 hxf).mono ?_
  rintro e w9 ⟨rfl, hb9⟩
  have row9 := row_below HR.out.1 hb9
  have H9 := Lib.hid (And.intro hb9 row9)
  have hcl' : (x.frames.length : Int) ≤ (cl : Int) := by omega
  clear hb9 row9 m2
  go_wp2
  go_loopw [13] (fun iv wr => ∃ (k : Nat) (xs : List Value), k ≤ x.frames.length ∧ iv = .int .i64 k ∧ xs.length = x.frames.length * 2 ∧ wr.ownsRow w.heap.size 48 2 (.slice Al x.frames.length cl) x.frames.length xs ∧ Upd (fun q => Value.ownBlock (.slice Al x.frames.length cl) = some q) w9 wr) (fun iv _ => x.frames.length - (intOf iv).toNat)
  case atStart => exact ⟨0, frameCells x.frames, Nat.zero_le _, rfl, flat_len (fun p : Int × Int => [Value.int .i64 p.1, .int .i64 p.2]) 2 (fun _ => rfl) x.frames, H9.out.2, Upd.refl _ _⟩
  case round =>
    obtain ⟨k, xs, hk, rfl, hxs, row, hu⟩ := hrel
    by_cases hlt2 : k < x.frames.length
    · obtain ⟨gl, cc, hv, hob, -, -, -, hcell⟩ := own_cells row (by omega)
      injection hv with hA _ hcc
      subst hA
      obtain ⟨u0, hu0⟩ : ∃ u, xs[k * 2]? = some u := ⟨xs[k * 2]'(by omega), List.getElem?_eq_getElem _⟩
      obtain ⟨u1, hu1⟩ : ∃ u, xs[k * 2 + 1]? = some u := ⟨xs[k * 2 + 1]'(by omega), List.getElem?_eq_getElem _⟩
      obtain ⟨r0, r1⟩ := hcell _ u0 hu0
      obtain ⟨r2, r3⟩ := hcell _ u1 hu1
      have row' := ((row.stored (k * 2) (.int .i64 77)).1.stored (k * 2 + 1) (.int .i64 0)).1
      have hu' := (hu.setCell (p := ⟨gl, k * 2, none⟩) (.inl hob) (.int .i64 77)).setCell (p := ⟨gl, k * 2 + 1, none⟩) (.inl hob) (.int .i64 0)
      have fin := Lib.hid (And.intro row' hu')
      have hxs' : ((xs.set (k * 2) (.int .i64 77)).set (k * 2 + 1) (.int .i64 0)).length = x.frames.length * 2 := by rw [List.length_set, List.length_set]; exact hxs
      have HX := Lib.hid hxs'
      clear hcell hu0 hu1 row hu hxs hxs' hob hcc row' hu'
      go_wp2
      go_roundw
      case rel => exact ⟨k + 1, _, by omega, by go_num, HX.out, fin.out.1, fin.out.2⟩
      case measure => simp [intOf]; omega
    · have HL := Lib.hid (And.intro hu row)
      clear hu row
      go_wp2
      go_ret
      obtain ⟨S2, U2, hF', row2, dl, -, h⟩ := H2.out
      obtain ⟨U8, hx8, B6⟩ := HU.out
      have T : Upd (fun k => O k ≠ none ∨ Value.ownBlock (.slice Al x.frames.length cl) = some k) w2 wr := by
        have t1 : Upd (fun k => O k ≠ none ∨ Value.ownBlock (.slice Al x.frames.length cl) = some k) w2 w4 := Upd.of_below B6 _
        have t2 := t1.trans U8 (fun k hk => .inl (.inl hk))
        have t3 := t2.trans (F' := fun _ => False) (Upd.of_below H9.out.1 _) (fun _ => False.elim)
        exact t3.trans HL.out.1 (fun k hk => .inl (.inr hk))
      have hr1 := fun k hk => (row2.lt k hk)
      refine ⟨F', G2, addPop N i p, rfl, ⟨S2.upd T ?_, ((H8.out.below H9.out.1).upd HL.out.1 ?_), ?_⟩, ?_, ?_, fun k hk => hk.pop i p⟩
      · rintro k hk (h1 | h1)
        · rcases hF' k hk with h2 | h2
          · exact h.d k h2 h1
          · have := h.r.lt k h1
            omega
        · exact dl k h1 hk
      · intro k hk hv
        have h1 := hr1 k hv
        have h6 := B6.size
        rcases hx8 k hk with h2 | h2
        · have := h.r.lt k h2
          omega
        · omega
      · intro k hk hk2
        have h6 := B6.size
        have h7 := S2.lt k hk
        rcases hx8 k hk2 with h2 | h2
        · rcases hF' k hk with h3 | h3
          · exact h.d k h3 h2
          · have := h.r.lt k h2
            omega
        · omega
      · have t1 : Upd (fun k => F k ∨ O k ≠ none) w w2 := U2.mono (fun _ _ hk => .inl hk)
        refine t1.trans T (fun k hk => ?_)
        rcases hk with hk | hk
        · exact .inl (.inr hk)
        · exact .inr (hr1 k hk).1
      · have h6 := B6.size
        have h7 := U2.size
        rintro k (hk | hk)
        · rcases hF' k hk with h2 | h2
          · exact .inl (.inl h2)
          · exact .inr h2
        · rcases hx8 k hk with h2 | h2
          · exact .inl (.inr h2)
          · exact .inr (by omega)
end Go.Proofs.Ytbppbgdmoihooaa
