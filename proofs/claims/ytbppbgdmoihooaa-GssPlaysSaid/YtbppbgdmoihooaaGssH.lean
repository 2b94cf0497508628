/- The shared stack (gss): Pop. -/
import Derived.Test.YtbppbgdmoihooaaGssG
namespace Go.Proofs.Ytbppbgdmoihooaa
open Go.RowKit

set_option maxHeartbeats 1600000 in
set_option maxRecDepth 20000 in
theorem pop_new (w : World) (F : Nat → Prop) (b : Nat) (N : List GNode) (i : Nat) (x : GNode) (p : Int) (h : StkAt w F b N) (hi : N[i]? = some x) (hp : Wf p) (hnew : p ∉ x.pops) (hlen : x.pops.length + 1 ≤ 1000000) :
    Calls Try.prog 27 #[.pointer (some ⟨b, 0, none⟩), .int .i64 i, .int .i64 p] w (StkRet w F b (addPop N i p) 48 2 x.frames.length (frameCells x.frames) [.bool true, .int .i64 0]) := by
  have hlt := (List.getElem?_eq_some_iff.1 hi).1
  have u2 := (Upd.refl (fun _ => False) w).alloc (.cells #[.int .i64 (i : Int)] 3)
  have kL := Blk.new w 3 #[.int .i64 (i : Int)]
  have h2 := h.upd u2 (fun _ _ => id)
  have u3 := u2.alloc (.cells #[.int .i64 (i : Int), .int .i64 p] 27)
  have kK := Blk.new (w.alloc (.cells #[.int .i64 (i : Int)] 3)) 27 #[.int .i64 (i : Int), .int .i64 p]
  simp only [World.size_alloc] at kK
  have hw : wrongOf N.length [(i : Int)] = 0 := wrongOf_good (by simp; omega)
  have hcl : ∀ j (y : Int), [(i : Int)][j]? = some y → (w.alloc (.cells #[.int .i64 (i : Int)] 3)).cell? ⟨w.heap.size, j, none⟩ = some (.int .i64 y) := by
    intro j y hj
    rw [kL.cell j]
    match j, hj with
    | 0, hj => simpa using hj
    | j + 1, hj => simp at hj
  have hwf : Wf (i : Int) ∧ Wf p := by
    obtain ⟨O, D, hs, _⟩ := h
    have := hs.few
    exact ⟨wf_small (by omega) (by omega), hp⟩
  have H : Hid _ := Lib.hid (And.intro h (And.intro h2 (And.intro hcl (And.intro u3 (And.intro kK (And.intro hnew (And.intro hwf hlen)))))))
  clear u2 kL h2 u3 kK hcl hnew hwf hlen h hp
  go_enter Try.func27, Try.ntmps27
  go_wp2_with (go_at_call 52; refine (wrong_any _ _ b N H.out.2.1 w.heap.size _ [(i : Int)] H.out.2.2.1 (by simp)).mono ?_; rintro e w' ⟨rfl, rfl⟩)
  obtain ⟨h0, h2, hcl, u3, kK, hnew, ⟨hwi, hwp⟩, hlen⟩ := H.out
  generalize (w.alloc (.cells #[.int .i64 (i : Int)] 3)).alloc (.cells #[.int .i64 (i : Int), .int .i64 p] 27) = w3 at *
  obtain ⟨O, D, hs, rfl⟩ := h0
  have c1 : w3.cell? ⟨b, 2, none⟩ = some (.map (some D.r3)) := (hs.blk.upd u3 id).cell 2
  have e0 : w3.cell? ⟨w.heap.size + 1, 0, none⟩ = some (.int .i64 (i : Int)) := kK.cell 0
  have e1 : w3.cell? ⟨w.heap.size + 1, 1, none⟩ = some (.int .i64 p) := kK.cell 1
  have hmiss : ∀ y ∈ D.k3, y.1 ≠ key2 i p := by
    intro y hy e
    obtain ⟨n, f, z, hz, hf, rfl⟩ := (hs.e3 y).1 hy
    obtain ⟨e1, e2⟩ := key2_inj.1 e
    have : n = i := by omega
    subst this
    rw [hi] at hz
    injection hz with hz
    subst hz
    exact hnew (by rw [← e2]; exact hf)
  have hl : ∀ n, Sem.run Try.prog (Instr.lookup 104 (.map (some D.r3)) (.agg #[.int .i64 (i : Int), .int .i64 p]) false) (w3.drewN n) = .ok (.int .i64 0) (w3.drewN n) := fun n =>
    ((hs.map3.upd u3 id).drewN n).look_miss law2 Try.underlying104 (key := key2 i p) (keyOf2 hwi hwp) hmiss (by kernel_rfl) false
  have H2 : Hid _ := Lib.hid (And.intro hs (And.intro u3 (And.intro hmiss (And.intro hwi (And.intro hwp (And.intro hlen hi))))))
  clear hs u3 kK hmiss hwi hwp hlen hi hcl h2 hnew H
  go_quiet (fail)
  go_wp2
  refine wp_region_still_tail 5 (by kernel_rfl) (by kernel_rfl) ?_
  simp only [List.take_succ_cons, List.take_zero, List.drop_succ_cons, List.drop_zero, World.drew_eq]
  obtain ⟨hs, u3, hmiss, hwi, hwp, hlen, hi⟩ := H2.out
  have d1 : (w3.drewN nq).drew.cell? ⟨b, 2, none⟩ = some (.map (some D.r3)) := c1
  have d2 : (w3.drewN nq).drew.cell? ⟨w.heap.size + 1, 0, none⟩ = some (.int .i64 (i : Int)) := e0
  have d3 : (w3.drewN nq).drew.cell? ⟨w.heap.size + 1, 1, none⟩ = some (.int .i64 p) := e1
  have u4 := (u3.drewN nq).drew
  generalize (w3.drewN nq).drew = w4 at d1 d2 d3 u4 ⊢
  have H3 : Hid _ := Lib.hid (And.intro hs (And.intro u4 (And.intro hmiss (And.intro hwi (And.intro hwp (And.intro hlen hi))))))
  clear c1 e0 e1 hl H2 hs u3 hmiss hwi hwp hlen hi u4
  repeat still_step
  refine wpStill_nil ?_
  obtain ⟨hs, u4, hmiss, hwi, hwp, hlen, hi⟩ := H3.out
  obtain ⟨w5, hput, hm5, hg5, hs5⟩ := (hs.map3.upd u4 id).put_miss law2 Try.underlying104 (.int .i64 1) (keyOf2 hwi hwp) hmiss
  have hput' : (Instr.mapUpdate 104 (.map (some D.r3)) (.agg #[.int .i64 (i : Int), .int .i64 p]) (.int .i64 1)).run Try.prog w4 = .ok () w5 := hput
  have nr : ∀ k, k ≠ D.r3 → some k ≠ some D.r3 := fun k hk e => hk (by injection e)
  have lt2 := hs.lt D.r3 (by simp [hs.o3])
  have sz4 := u4.size
  have u5 : Upd (fun k => k = D.r3) w w5 := (u4.mono (fun _ _ h => h.elim) : Upd (fun k => k = D.r3) w w4).grown hg5 (fun k hk => .inl (by injection hk with hk; exact hk.symm))
  have nbr : b ≠ D.r3 := by rintro rfl; have := hs.o0; rw [hs.o3] at this; injection this with this; cases this
  obtain ⟨g, c, hnv, hOg, hc, hgl, -, -, n2, n3, -, f3⟩ := node_cells hs hi
  have ngr : g ≠ D.r3 := by rintro rfl; rw [hs.o3] at hOg; injection hOg with hOg; cases hOg
  have ngb : g ≠ b := by rintro rfl; rw [hs.o0] at hOg; injection hOg with hOg; cases hOg
  have b5 : w5.cell? ⟨b, 3, none⟩ = some (.slice (some ⟨g, 0, none⟩) N.length c) := by rw [← hnv]; exact (hs.blk.upd u5 nbr).cell 3
  have g5 : w5.cell? ⟨g, i * 4 + 3, none⟩ = some (D.pv i) := (u5.cell (p := ⟨g, i * 4 + 3, none⟩) hgl ngr).trans n3
  have hfz : w5.frozen? ⟨g, i * 4 + 3, none⟩ = false := (World.frozen?_of_block (w := w) (u5.block g hgl ngr)).trans f3
  have H4 : Hid _ := Lib.hid (And.intro hs (And.intro u5 (And.intro hm5 (And.intro hwp (And.intro hlen (And.intro hi (And.intro hnv (And.intro hOg (And.intro hgl (And.intro hfz hc))))))))))
  have hc' : (N.length : Int) ≤ (c : Int) := by omega
  clear hput hm5 hg5 hs5 nr lt2 sz4 u5 nbr hnv hOg hgl n2 n3 f3 ngr ngb hs u4 hmiss hwi hwp hlen hi hfz H3 d1 d2 d3 hc
  go_wp2
  refine wp_region_ord (fun w' => w'.cell? ⟨b, 3, none⟩ = some (.slice (some ⟨g, 0, none⟩) N.length c) ∧ w'.cell? ⟨g, i * 4 + 3, none⟩ = some (D.pv i)) 18
    [(0, true), (1, true), (2, true), (3, true), (4, true), (5, true), (6, true), (7, true), (8, true), (9, true), (10, true), (11, true), (12, true), (13, true), (14, false), (15, false), (16, true), (17, true), (18, false)] (by kernel_rfl) (by kernel_rfl) (fun _ _ d _ _ h => by cases d <;> exact h) ⟨b5, g5⟩ ?_
  have b6 : w5.drew.cell? ⟨b, 3, none⟩ = some (.slice (some ⟨g, 0, none⟩) N.length c) := b5
  have g6 : w5.drew.cell? ⟨g, i * 4 + 3, none⟩ = some (D.pv i) := g5
  obtain ⟨hs, u5, hm5, hwp, hlen, hi, hnv, hOg, hgl, hfz, hc⟩ := H4.out
  have u6 := u5.drew
  have hm6 := hm5.drew
  have hfz6 : w5.drew.frozen? ⟨g, i * 4 + 3, none⟩ = false := hfz
  generalize w5.drew = w6 at b6 g6 u6 hm6 hfz6 ⊢
  clear b5 g5 u5 hm5 hfz H4 hput'
  -- append
  have row6 := (ownsRow_upd (hs.rowP i x hi) u6 (fun k hk e => by subst e; have := hs.oP i hlt _ hk; rw [hs.o3] at this; injection this with this; cases this)).alloc (.cells #[.int .i64 p] 3)
  obtain ⟨i0, hi0, hz0, hz1, hz2⟩ := info_parts info_int
  obtain ⟨v', w7, happ, own7, gr7, -, pl7⟩ := run_append_own_at (P := Try.prog) _ 0 44 44 3 i0 _ 1 8 Try.underlying44 hi0 hz0 hz1 hz2 rfl (by decide) (D.pv i) x.pops.length _ row6 ⟨w6.heap.size, 0, none⟩ 1 1
    [.int .i64 p] rfl (by
      intro j u hu
      match j, hu with
      | 0, hu => simp [Addr.add] at hu ⊢; exact hu
      | j + 1, hu => simp at hu) (by simp [Value.oneCell']) (by unfold maxLen; omega) (by omega) (Nat.zero_le _)
  obtain ⟨A', c', hv', -, -⟩ := own_form own7
  subst hv'
  have sz6 := u6.size
  have lt0 := hs.lt
  have nF : ∀ k t, O k = some t → t ≠ .po i → some k ≠ (D.pv i).ownBlock := by
    intro k t e hne e'
    have := hs.oP i hlt k e'.symm
    rw [e] at this
    injection this with this
    exact hne this
  have nb := nF b _ hs.o0 (by simp)
  have ng := nF g _ hOg (by simp)
  have lb := World.block_lt_of_cell? w6 _ b6
  have lg := World.block_lt_of_cell? w6 _ g6
  have ga := gr7.block
  simp only [World.size_alloc] at ga lb lg
  have s71 : (w6.alloc (.cells #[.int .i64 p] 3)).cell? ⟨b, 3, none⟩ = some (.slice (some ⟨g, 0, none⟩) N.length c) := (World.cell?_alloc_lt _ _ _ lb).trans b6
  have s72 : (w6.alloc (.cells #[.int .i64 p] 3)).cell? ⟨g, i * 4 + 3, none⟩ = some (D.pv i) := (World.cell?_alloc_lt _ _ _ lg).trans g6
  have t1 := gr7.cell s71 nb
  have t2 := gr7.cell s72 ng
  have f7 : w7.frozen? ⟨g, i * 4 + 3, none⟩ = false := by
    rw [World.frozen?_of_block (w := w6.alloc (.cells #[.int .i64 p] 3)) (gr7.block g (by simp; omega) ng), World.frozen?_alloc_old _ _ _ (by show g ≠ _; omega)]
    exact hfz6
  have fin : StkNext w (fun k => O k ≠ none) b (addPop N i p) (w7.setCell ⟨g, i * 4 + 3, none⟩ (.slice A' (x.pops.length + 1) c')) := by
    have T : Upd (fun k => k = D.r3 ∨ k = g ∨ O k = some (.po i)) w (w7.setCell ⟨g, i * 4 + 3, none⟩ (.slice A' (x.pops.length + 1) c')) :=
      (((u6.mono (fun _ _ h => .inl h) : Upd (fun k => k = D.r3 ∨ k = g ∨ O k = some (.po i)) w w6).alloc _).grown gr7 (fun k hk => .inl (.inr (.inr (hs.oP i hlt k hk))))).setCell (.inl (.inr (.inl rfl))) _
    have V : Upd (fun k => k = g ∨ O k = some (.po i)) w6 (w7.setCell ⟨g, i * 4 + 3, none⟩ (.slice A' (x.pops.length + 1) c')) :=
      (((Upd.refl _ w6).alloc _).grown gr7 (fun k hk => .inl (.inr (hs.oP i hlt k hk)))).setCell (.inl (.inl rfl)) _
    have V1 : Upd (fun k => O k = some (.po i)) w6 w7 := ((Upd.refl _ w6).alloc _).grown gr7 (fun k hk => .inl (hs.oP i hlt k hk))
    have hgr : ¬ g = D.r3 := by rintro rfl; rw [hs.o3] at hOg; injection hOg with hOg; cases hOg
    refine pop_state hs hi hwp hlen hOg (v' := .slice A' (x.pops.length + 1) c') T (hm6.upd V ?_) ?_ ?_ ?_
    · rintro (e | e)
      · exact hgr e.symm
      · rw [hs.o3] at e; injection e with e; cases e
    · have r7 := ownsRow_upd (ownsRow_upd hs.row u6 (fun k hk e => by subst e; have := hs.oN _ hk; rw [hs.o3] at this; injection this with this; cases this)) V1 (fun k hk e => by rw [hs.oN k hk] at e; injection e with e; cases e)
      rw [hnv] at r7 ⊢
      have := (r7.stored (i * 4 + 3) (.slice A' (x.pops.length + 1) c')).1
      rwa [nodeCells_setP N D.fv D.pv i _ hlt] at this
    · have e : popCells (x.pops ++ [p]) = popCells x.pops ++ [.int .i64 p] := by simp [popCells]
      rw [e]
      refine ownsRow_upd own7 ((Upd.refl (fun k => k = g) w7).setCell (.inl rfl) _) ?_
      rintro k hk rfl
      rcases pl7 with h5 | h5
      · rw [h5] at hk
        exact ng hk.symm
      · rw [h5] at hk
        injection hk with hk
        simp at hk
        omega
    · rcases pl7 with h5 | h5
      · exact .inl h5
      · refine .inr fun k hk => ?_
        rw [h5] at hk
        injection hk with hk
        simp at hk
        omega
  have H5 : Hid _ := Lib.hid (And.intro fin (And.intro hs (And.intro hi hlen)))
  have hc' : (N.length : Int) ≤ (c : Int) := by omega
  clear fin hs hi hlen u6 hm6 hfz6 row6 hi0 hz0 hz1 hz2 own7 gr7 pl7 sz6 lt0 nF nb ng lb lg ga hnv hOg hgl hc hwp
  repeat (refine ord_take (v := ?_) rfl rfl ?_ ?_; rotate_left; focus (intro wS hS; (try dsimp only at hS); go_split_ands; go_simp; (try with_reducible rfl)); (try simp only [Act.put, List.setIfInBounds_toArray, List.set_cons_zero, List.set_cons_succ]))
  refine ord_do rfl rfl (fun K hK => ?_)
  go_simp
  refine hK _ _ (fun _ => ⟨s71, s72⟩) ?_
  clear hK K
  refine ord_do rfl rfl (fun K hK => ?_)
  refine wp_append_run _ _ _ rfl rfl rfl happ ?_
  refine hK _ _ (fun _ => ⟨t1, t2⟩) ?_
  clear hK K happ
  repeat (refine ord_take (v := ?_) rfl rfl ?_ ?_; rotate_left; focus (intro wS hS; (try dsimp only at hS); go_split_ands; go_simp; (try with_reducible rfl)); (try simp only [Act.put, List.setIfInBounds_toArray, List.set_cons_zero, List.set_cons_succ]))
  refine ord_do rfl rfl (fun K hK => ?_)
  go_simp
  refine hK _ _ (fun h => absurd rfl h) ?_
  clear hK K
  refine ord_done ?_
  obtain ⟨⟨F', h8, u8, x8⟩, hs, hi, hlen⟩ := H5.out
  generalize w7.setCell ⟨g, i * 4 + 3, none⟩ (.slice A' (x.pops.length + 1) c') = w8 at *
  have hi' : (addPop N i p)[i]? = some { x with pops := x.pops ++ [p] } := by
    unfold addPop
    rw [hi]
    simp only
    rw [List.getElem?_set, if_pos rfl, if_pos hlt]
  obtain ⟨O', D', hs', rfl⟩ := h8
  obtain ⟨g', cc, hnv', -, hcc, -, -, -, n2', -, -⟩ := node_cells hs' hi'
  have b8 : w8.cell? ⟨b, 3, none⟩ = some (.slice (some ⟨g', 0, none⟩) (addPop N i p).length cc) := by rw [← hnv']; exact hs'.blk.cell 3
  have hN : (addPop N i p).length = N.length := by
    unfold addPop
    rw [hi]
    simp
  rw [hN] at b8 hcc
  have hr := hs'.rowF i _ hi'
  have hsm := (hs'.wf _ (List.mem_of_getElem? hi')).2.2.2.2.1
  have H6 : Hid _ := Lib.hid (And.intro hr (And.intro hsm (show StkNext w (fun k => O k ≠ none) b (addPop N i p) w8 from ⟨_, ⟨O', D', hs', rfl⟩, u8, x8⟩)))
  have hcc' : (N.length : Int) ≤ (cc : Int) := by omega
  clear hs hi hlen u8 x8 hi' hs' hnv' hcc hN hr hsm H5 b6 g6 s71 s72 t1 t2 f7 hc'
  go_wp2_with (go_at_call 53; refine (own_frame _ _ _ _ _ H6.out.1 (one_frame _) (by have := H6.out.2.1; simp only at this ⊢; omega)).mono ?_; rintro e w' ⟨v', rfl, hq, hb⟩)
  refine bodyPost_ret (results_tmp3 rfl _ _ _) rfl ?_
  exact StkRet.of_next H6.out.2.2 hq hb _
end Go.Proofs.Ytbppbgdmoihooaa
