/- The shared stack (gss): Push. -/
import Derived.Test.YtbppbgdmoihooaaGssF
namespace Go.Proofs.Ytbppbgdmoihooaa
open Go.RowKit

theorem cells_list (w : World) (t : TypeId) (cs : List Value) (xs : List Int) (h : cs = xs.map (Value.int .i64)) {W : World} (hW : Blk W w.heap.size t cs.toArray) : ∀ i (x : Int), xs[i]? = some x → W.cell? ⟨w.heap.size, i, none⟩ = some (.int .i64 x) := by
  intro i x hx
  rw [hW.cell i, h]
  simp [hx]

set_option maxHeartbeats 1600000 in
set_option maxRecDepth 20000 in
theorem push_new (w : World) (F : Nat → Prop) (b : Nat) (N : List GNode) (i : Nat) (x : GNode) (p q : Int) (h : StkAt w F b N) (hi : N[i]? = some x) (hp0 : 0 ≤ p) (hp1 : p < N.length) (hq : Wf q) (hnew : (p, q) ∉ x.frames) (hlen : x.frames.length + 1 ≤ 1000000) :
    Calls Try.prog 26 #[.pointer (some ⟨b, 0, none⟩), .int .i64 i, .agg #[.int .i64 p, .int .i64 q]] w (StkRet w F b (addFrame N i (p, q)) 3 1 x.pops.length (popCells x.pops) [.bool true, .int .i64 0]) := by
  have hlt := (List.getElem?_eq_some_iff.1 hi).1
  -- the box of the frame, the list of numbers, the key
  have u1 := (Upd.refl (fun _ => False) w).alloc (.cells #[.int .i64 p, .int .i64 q] 48)
  have kA := Blk.new w 48 #[.int .i64 p, .int .i64 q]
  have u2 := u1.alloc (.cells #[.int .i64 (i : Int), .int .i64 p] 3)
  have kL := Blk.new (w.alloc (.cells #[.int .i64 p, .int .i64 q] 48)) 3 #[.int .i64 (i : Int), .int .i64 p]
  have h2 := h.upd u2 (fun _ _ => id)
  have u3 := u2.alloc (.cells #[.int .i64 (i : Int), .int .i64 p, .int .i64 q] 119)
  have kK := Blk.new ((w.alloc (.cells #[.int .i64 p, .int .i64 q] 48)).alloc (.cells #[.int .i64 (i : Int), .int .i64 p] 3)) 119 #[.int .i64 (i : Int), .int .i64 p, .int .i64 q]
  have kA3 := (kA.alloc (.cells #[.int .i64 (i : Int), .int .i64 p] 3)).alloc (.cells #[.int .i64 (i : Int), .int .i64 p, .int .i64 q] 119)
  simp only [World.size_alloc] at kL kK
  have hw : wrongOf N.length [(i : Int), p] = 0 := wrongOf_good (by simp; omega)
  have hcl : ∀ j (y : Int), [(i : Int), p][j]? = some y → ((w.alloc (.cells #[.int .i64 p, .int .i64 q] 48)).alloc (.cells #[.int .i64 (i : Int), .int .i64 p] 3)).cell? ⟨w.heap.size + 1, j, none⟩ = some (.int .i64 y) := by
    intro j y hj
    rw [kL.cell j]
    match j, hj with
    | 0, hj => simpa using hj
    | 1, hj => simpa using hj
    | j + 2, hj => simp at hj
  have hwf : Wf (i : Int) ∧ Wf p := by
    obtain ⟨O, D, hs, _⟩ := h
    have := hs.few
    exact ⟨wf_small (by omega) (by omega), wf_small hp0 (by omega)⟩
  have H : Hid _ := Lib.hid (And.intro h (And.intro h2 (And.intro hcl (And.intro u3 (And.intro kK (And.intro kA3 (And.intro hnew (And.intro hwf (And.intro hq hlen)))))))))
  clear u1 kA u2 kL h2 u3 kK kA3 hcl hnew hwf hq hlen h hp0 hp1
  go_enter Try.func26, Try.ntmps26
  go_wp2_with (go_at_call 52; refine (wrong_any _ _ b N H.out.2.1 (w.heap.size + 1) _ [(i : Int), p] H.out.2.2.1 (by simp)).mono ?_; rintro e w' ⟨rfl, rfl⟩)
  obtain ⟨h0, h2, hcl, u3, kK, kA3, hnew, ⟨hwi, hwp⟩, hq, hlen⟩ := H.out
  generalize ((w.alloc (.cells #[.int .i64 p, .int .i64 q] 48)).alloc (.cells #[.int .i64 (i : Int), .int .i64 p] 3)).alloc (.cells #[.int .i64 (i : Int), .int .i64 p, .int .i64 q] 119) = w3 at *
  obtain ⟨O, D, hs, rfl⟩ := h0
  have c1 : w3.cell? ⟨b, 1, none⟩ = some (.map (some D.r2)) := (hs.blk.upd u3 id).cell 1
  have e0 : w3.cell? ⟨w.heap.size + 1 + 1, 0, none⟩ = some (.int .i64 (i : Int)) := kK.cell 0
  have e1 : w3.cell? ⟨w.heap.size + 1 + 1, 1, none⟩ = some (.int .i64 p) := kK.cell 1
  have e2 : w3.cell? ⟨w.heap.size + 1 + 1, 2, none⟩ = some (.int .i64 q) := kK.cell 2
  have hmiss : ∀ y ∈ D.k2, y.1 ≠ key3 i p q := by
    intro y hy e
    obtain ⟨n, f, z, hz, hf, rfl⟩ := (hs.e2 y).1 hy
    obtain ⟨e1, e2, e3⟩ := key3_inj.1 e
    have : n = i := by omega
    subst this
    rw [hi] at hz
    injection hz with hz
    subst hz
    exact hnew (by rw [← e2, ← e3]; exact hf)
  have hl : ∀ n, Sem.run Try.prog (Instr.lookup 105 (.map (some D.r2)) (.agg #[.int .i64 (i : Int), .int .i64 p, .int .i64 q]) false) (w3.drewN n) = .ok (.int .i64 0) (w3.drewN n) := fun n =>
    ((hs.map2.upd u3 id).drewN n).look_miss law3 Try.underlying105 (key := key3 i p q) (keyOf3 hwi hwp hq) hmiss (by kernel_rfl) false
  have H2 : Hid _ := Lib.hid (And.intro hs (And.intro u3 (And.intro kK (And.intro kA3 (And.intro hmiss (And.intro hwi (And.intro hwp (And.intro hq (And.intro hlen hi)))))))))
  clear hs u3 kK kA3 hmiss hwi hwp hq hlen hi hcl h2 hnew H
  go_quiet (fail)
  go_wp2
  refine wp_region_still_tail 5 (by kernel_rfl) (by kernel_rfl) ?_
  simp only [List.take_succ_cons, List.take_zero, List.drop_succ_cons, List.drop_zero, World.drew_eq]
  obtain ⟨hs, u3, kK, kA3, hmiss, hwi, hwp, hq, hlen, hi⟩ := H2.out
  have d1 : (w3.drewN nq).drew.cell? ⟨b, 1, none⟩ = some (.map (some D.r2)) := c1
  have d2 : (w3.drewN nq).drew.cell? ⟨w.heap.size + 1 + 1, 0, none⟩ = some (.int .i64 (i : Int)) := e0
  have d3 : (w3.drewN nq).drew.cell? ⟨w.heap.size + 1 + 1, 1, none⟩ = some (.int .i64 p) := e1
  have d4 : (w3.drewN nq).drew.cell? ⟨w.heap.size + 1 + 1, 2, none⟩ = some (.int .i64 q) := e2
  have u4 := (u3.drewN nq).drew
  have kA4 := (kA3.drewN nq).drew
  generalize (w3.drewN nq).drew = w4 at d1 d2 d3 d4 u4 kA4 ⊢
  have H3 : Hid _ := Lib.hid (And.intro hs (And.intro u4 (And.intro kA4 (And.intro hmiss (And.intro hwi (And.intro hwp (And.intro hq (And.intro hlen hi))))))))
  clear c1 e0 e1 e2 hl H2 hs u3 kK kA3 hmiss hwi hwp hq hlen hi u4 kA4
  repeat still_step
  refine wpStill_nil ?_
  obtain ⟨hs, u4, kA4, hmiss, hwi, hwp, hq, hlen, hi⟩ := H3.out
  obtain ⟨w5, hput, hm5, hg5, hs5⟩ := (hs.map2.upd u4 id).put_miss law3 Try.underlying105 (.int .i64 1) (keyOf3 hwi hwp hq) hmiss
  have hput' : (Instr.mapUpdate 105 (.map (some D.r2)) (.agg #[.int .i64 (i : Int), .int .i64 p, .int .i64 q]) (.int .i64 1)).run Try.prog w4 = .ok () w5 := hput
  have nr : ∀ k, k ≠ D.r2 → some k ≠ some D.r2 := fun k hk e => hk (by injection e)
  have lt2 := hs.lt D.r2 (by simp [hs.o2])
  have sz4 := u4.size
  have u5 : Upd (fun k => k = D.r2) w w5 := (u4.mono (fun _ _ h => h.elim) : Upd (fun k => k = D.r2) w w4).grown hg5 (fun k hk => .inl (by injection hk with hk; exact hk.symm))
  have kA5 := kA4.grown hg5 (nr _ (by omega))
  have nbr : b ≠ D.r2 := by rintro rfl; have := hs.o0; rw [hs.o2] at this; injection this with this; cases this
  obtain ⟨g, c, hnv, hOg, hc, hgl, -, -, n2, n3, f2, -⟩ := node_cells hs hi
  have ngr : g ≠ D.r2 := by rintro rfl; rw [hs.o2] at hOg; injection hOg with hOg; cases hOg
  have ngb : g ≠ b := by rintro rfl; rw [hs.o0] at hOg; injection hOg with hOg; cases hOg
  have b5 : w5.cell? ⟨b, 3, none⟩ = some (.slice (some ⟨g, 0, none⟩) N.length c) := by rw [← hnv]; exact (hs.blk.upd u5 nbr).cell 3
  have g5 : w5.cell? ⟨g, i * 4 + 2, none⟩ = some (D.fv i) := (u5.cell (p := ⟨g, i * 4 + 2, none⟩) hgl ngr).trans n2
  have a50 : w5.cell? ⟨w.heap.size, 0, none⟩ = some (.int .i64 p) := kA5.cell 0
  have a51 : w5.cell? ⟨w.heap.size, 1, none⟩ = some (.int .i64 q) := kA5.cell 1
  have hfz : w5.frozen? ⟨g, i * 4 + 2, none⟩ = false := (World.frozen?_of_block (w := w) (u5.block g hgl ngr)).trans f2
  have H4 : Hid _ := Lib.hid (And.intro hs (And.intro u5 (And.intro kA5 (And.intro hm5 (And.intro hwp (And.intro hq (And.intro hlen (And.intro hi (And.intro hnv (And.intro hOg (And.intro hgl (And.intro hfz hc))))))))))))
  have hc' : (N.length : Int) ≤ (c : Int) := by omega
  clear hput hm5 hg5 hs5 nr lt2 sz4 u5 kA5 nbr hnv hOg hgl n2 n3 f2 ngr ngb hs u4 kA4 hmiss hwi hwp hq hlen hi hfz H3 d1 d2 d3 d4 hc
  go_wp2
  refine wp_region_ord (fun w' => w'.cell? ⟨b, 3, none⟩ = some (.slice (some ⟨g, 0, none⟩) N.length c) ∧ w'.cell? ⟨g, i * 4 + 2, none⟩ = some (D.fv i) ∧ w'.cell? ⟨w.heap.size, 0, none⟩ = some (.int .i64 p) ∧ w'.cell? ⟨w.heap.size, 1, none⟩ = some (.int .i64 q)) 18
    [(0, true), (1, true), (2, true), (3, true), (4, true), (5, true), (6, true), (7, true), (8, true), (9, true), (10, true), (11, true), (12, true), (13, true), (14, false), (15, false), (16, true), (17, true), (18, false)] (by kernel_rfl) (by kernel_rfl) (fun _ _ d _ _ h => by cases d <;> exact h) ⟨b5, g5, a50, a51⟩ ?_
  have b6 : w5.drew.cell? ⟨b, 3, none⟩ = some (.slice (some ⟨g, 0, none⟩) N.length c) := b5
  have g6 : w5.drew.cell? ⟨g, i * 4 + 2, none⟩ = some (D.fv i) := g5
  have a60 : w5.drew.cell? ⟨w.heap.size, 0, none⟩ = some (.int .i64 p) := a50
  have a61 : w5.drew.cell? ⟨w.heap.size, 1, none⟩ = some (.int .i64 q) := a51
  obtain ⟨hs, u5, kA5, hm5, hwp, hq, hlen, hi, hnv, hOg, hgl, hfz, hc⟩ := H4.out
  have u6 := u5.drew
  have hm6 := hm5.drew
  have hfz6 : w5.drew.frozen? ⟨g, i * 4 + 2, none⟩ = false := hfz
  generalize w5.drew = w6 at b6 g6 a60 a61 u6 hm6 hfz6 ⊢
  clear b5 g5 a50 a51 u5 hm5 hfz H4 hput'
  -- append
  have row6 := (ownsRow_upd (hs.rowF i x hi) u6 (fun k hk e => by subst e; have := hs.oF i hlt _ hk; rw [hs.o2] at this; injection this with this; cases this)).alloc (.cells #[.int .i64 p, .int .i64 q] 48)
  obtain ⟨i0, hi0, hz0, hz1, hz2⟩ := info_parts info_frame
  obtain ⟨v', w7, happ, own7, gr7, -, pl7⟩ := run_append_own_at (P := Try.prog) _ 0 41 41 48 i0 _ 2 16 Try.underlying41 hi0 hz0 hz1 hz2 rfl (by decide) (D.fv i) x.frames.length _ row6 ⟨w6.heap.size, 0, none⟩ 1 1
    [.int .i64 p, .int .i64 q] rfl (by
      intro j u hu
      match j, hu with
      | 0, hu => simp [Addr.add] at hu ⊢; exact hu
      | 1, hu => simp [Addr.add] at hu ⊢; exact hu
      | j + 2, hu => simp at hu) (by simp [Value.oneCell']) (by unfold maxLen; omega) (by omega) (Nat.zero_le _)
  obtain ⟨A', c', hv', -, -⟩ := own_form own7
  subst hv'
  have sz6 := u6.size
  have lt0 := hs.lt
  have nF : ∀ k t, O k = some t → t ≠ .fr i → some k ≠ (D.fv i).ownBlock := by
    intro k t e hne e'
    have := hs.oF i hlt k e'.symm
    rw [e] at this
    injection this with this
    exact hne this
  have nb := nF b _ hs.o0 (by simp)
  have ng := nF g _ hOg (by simp)
  have na : some w.heap.size ≠ (D.fv i).ownBlock := by
    intro e
    have := lt0 _ (by rw [hs.oF i hlt _ e.symm]; simp)
    omega
  have lb := World.block_lt_of_cell? w6 _ b6
  have lg := World.block_lt_of_cell? w6 _ g6
  have la := World.block_lt_of_cell? w6 _ a60
  have ga := gr7.block
  simp only [World.size_alloc] at ga lb lg la
  have s71 : (w6.alloc (.cells #[.int .i64 p, .int .i64 q] 48)).cell? ⟨b, 3, none⟩ = some (.slice (some ⟨g, 0, none⟩) N.length c) := (World.cell?_alloc_lt _ _ _ lb).trans b6
  have s72 : (w6.alloc (.cells #[.int .i64 p, .int .i64 q] 48)).cell? ⟨g, i * 4 + 2, none⟩ = some (D.fv i) := (World.cell?_alloc_lt _ _ _ lg).trans g6
  have s73 : (w6.alloc (.cells #[.int .i64 p, .int .i64 q] 48)).cell? ⟨w.heap.size, 0, none⟩ = some (.int .i64 p) := (World.cell?_alloc_lt _ _ _ la).trans a60
  have s74 : (w6.alloc (.cells #[.int .i64 p, .int .i64 q] 48)).cell? ⟨w.heap.size, 1, none⟩ = some (.int .i64 q) := (World.cell?_alloc_lt _ _ _ la).trans a61
  have t1 := gr7.cell s71 nb
  have t2 := gr7.cell s72 ng
  have t3 := gr7.cell s73 na
  have t4 := gr7.cell s74 na
  have f7 : w7.frozen? ⟨g, i * 4 + 2, none⟩ = false := by
    rw [World.frozen?_of_block (w := w6.alloc (.cells #[.int .i64 p, .int .i64 q] 48)) (gr7.block g (by simp; omega) ng), World.frozen?_alloc_old _ _ _ (by show g ≠ _; omega)]
    exact hfz6
  have fin : StkNext w (fun k => O k ≠ none) b (addFrame N i (p, q)) (w7.setCell ⟨g, i * 4 + 2, none⟩ (.slice A' (x.frames.length + 1) c')) := by
    have T : Upd (fun k => k = D.r2 ∨ k = g ∨ O k = some (.fr i)) w (w7.setCell ⟨g, i * 4 + 2, none⟩ (.slice A' (x.frames.length + 1) c')) :=
      (((u6.mono (fun _ _ h => .inl h) : Upd (fun k => k = D.r2 ∨ k = g ∨ O k = some (.fr i)) w w6).alloc _).grown gr7 (fun k hk => .inl (.inr (.inr (hs.oF i hlt k hk))))).setCell (.inl (.inr (.inl rfl))) _
    have V : Upd (fun k => k = g ∨ O k = some (.fr i)) w6 (w7.setCell ⟨g, i * 4 + 2, none⟩ (.slice A' (x.frames.length + 1) c')) :=
      (((Upd.refl _ w6).alloc _).grown gr7 (fun k hk => .inl (.inr (hs.oF i hlt k hk)))).setCell (.inl (.inl rfl)) _
    have V1 : Upd (fun k => O k = some (.fr i)) w6 w7 := ((Upd.refl _ w6).alloc _).grown gr7 (fun k hk => .inl (hs.oF i hlt k hk))
    have hgr : ¬ g = D.r2 := by rintro rfl; rw [hs.o2] at hOg; injection hOg with hOg; cases hOg
    refine frame_state hs hi hwp hq hlen hOg (v' := .slice A' (x.frames.length + 1) c') T (hm6.upd V ?_) ?_ ?_ ?_
    · rintro (e | e)
      · exact hgr e.symm
      · rw [hs.o2] at e; injection e with e; cases e
    · have r7 := ownsRow_upd (ownsRow_upd hs.row u6 (fun k hk e => by subst e; have := hs.oN _ hk; rw [hs.o2] at this; injection this with this; cases this)) V1 (fun k hk e => by rw [hs.oN k hk] at e; injection e with e; cases e)
      rw [hnv] at r7 ⊢
      have := (r7.stored (i * 4 + 2) (.slice A' (x.frames.length + 1) c')).1
      rwa [nodeCells_setF N D.fv D.pv i _ hlt] at this
    · have e : frameCells (x.frames ++ [(p, q)]) = frameCells x.frames ++ [.int .i64 p, .int .i64 q] := by simp [frameCells]
      rw [e]
      refine ownsRow_upd own7 ((Upd.refl (fun k => k = g) w7).setCell (.inl rfl) _) ?_
      rintro k hk rfl
      rcases pl7 with h5 | h5
      · rw [h5] at hk
        exact ng hk.symm
      · rw [h5] at hk
        injection hk with hk
        simp at hk
        omega
    · rcases pl7 with h5 | h5
      · exact .inl h5
      · refine .inr fun k hk => ?_
        rw [h5] at hk
        injection hk with hk
        simp at hk
        omega
  have H5 : Hid _ := Lib.hid (And.intro fin (And.intro hs (And.intro hi hlen)))
  have hc' : (N.length : Int) ≤ (c : Int) := by omega
  clear fin hs hi hlen u6 hm6 hfz6 row6 hi0 hz0 hz1 hz2 own7 gr7 pl7 sz6 lt0 nF nb ng na lb lg la ga hnv hOg hgl hc hwp hq kA5
  repeat (refine ord_take (v := ?_) rfl rfl ?_ ?_; rotate_left; focus (intro wS hS; (try dsimp only at hS); go_split_ands; go_simp; (try with_reducible rfl)); (try simp only [Act.put, List.setIfInBounds_toArray, List.set_cons_zero, List.set_cons_succ]))
  refine ord_do rfl rfl (fun K hK => ?_)
  go_simp
  refine hK _ _ (fun _ => ⟨s71, s72, s73, s74⟩) ?_
  clear hK K
  refine ord_do rfl rfl (fun K hK => ?_)
  refine wp_append_run _ _ _ rfl rfl rfl happ ?_
  refine hK _ _ (fun _ => ⟨t1, t2, t3, t4⟩) ?_
  clear hK K happ
  repeat (refine ord_take (v := ?_) rfl rfl ?_ ?_; rotate_left; focus (intro wS hS; (try dsimp only at hS); go_split_ands; go_simp; (try with_reducible rfl)); (try simp only [Act.put, List.setIfInBounds_toArray, List.set_cons_zero, List.set_cons_succ]))
  refine ord_do rfl rfl (fun K hK => ?_)
  go_simp
  refine hK _ _ (fun h => absurd rfl h) ?_
  clear hK K
  refine ord_done ?_
  obtain ⟨⟨F', h8, u8, x8⟩, hs, hi, hlen⟩ := H5.out
  generalize w7.setCell ⟨g, i * 4 + 2, none⟩ (.slice A' (x.frames.length + 1) c') = w8 at *
  have hi' : (addFrame N i (p, q))[i]? = some { x with frames := x.frames ++ [(p, q)] } := by
    unfold addFrame
    rw [hi]
    simp only
    rw [List.getElem?_set, if_pos rfl, if_pos hlt]
  obtain ⟨O', D', hs', rfl⟩ := h8
  obtain ⟨g', cc, hnv', -, hcc, -, -, -, -, n3', -⟩ := node_cells hs' hi'
  have b8 : w8.cell? ⟨b, 3, none⟩ = some (.slice (some ⟨g', 0, none⟩) (addFrame N i (p, q)).length cc) := by rw [← hnv']; exact hs'.blk.cell 3
  have hN : (addFrame N i (p, q)).length = N.length := by
    unfold addFrame
    rw [hi]
    simp
  rw [hN] at b8 hcc
  have hr := hs'.rowP i _ hi'
  have hsm := (hs'.wf _ (List.mem_of_getElem? hi')).2.2.2.2.2
  have H6 : Hid _ := Lib.hid (And.intro hr (And.intro hsm (show StkNext w (fun k => O k ≠ none) b (addFrame N i (p, q)) w8 from ⟨_, ⟨O', D', hs', rfl⟩, u8, x8⟩)))
  have hcc' : (N.length : Int) ≤ (cc : Int) := by omega
  clear hs hi hlen u8 x8 hi' hs' hnv' hcc hN hr hsm H5 b6 g6 a60 a61 s71 s72 s73 s74 t1 t2 t3 t4 f7 hc'
  go_wp2_with (go_at_call 54; refine (own_int _ _ _ _ _ H6.out.1 (one_pop _) (by have := H6.out.2.1; simp only at this ⊢; omega)).mono ?_; rintro e w' ⟨v', rfl, hq, hb⟩)
  refine bodyPost_ret (results_tmp3 rfl _ _ _) rfl ?_
  exact StkRet.of_next H6.out.2.2 hq hb _
end Go.Proofs.Ytbppbgdmoihooaa
