/- GssPlays: all: the walk. -/
import Derived.Test.YtbppbgdmoihooaaRefK
import Derived.Test.YtbppbgdmoihooaaRangeIn
import Derived.LoopN
namespace Go.Proofs.Ytbppbgdmoihooaa
open Go.RowKit Go.Shelf
attribute [local go_sem] Oper.semAt_some

/-- A post that no panic reaches. -/
def noPanic (Q : Exit → Act → World → Prop) : Exit → Act → World → Prop
  | .panic _, _, _ => False
  | e, a, w => Q e a w
theorem wp_noPanic {P : Program} {c : Code} {Q : Exit → Act → World → Prop} {a : Act} {w : World} (h : c.wp P (noPanic Q) a w) : c.wp P Q a w := fun b k cs => by
  obtain ⟨e, a', w', hq, ha⟩ := h b k cs
  refine ⟨e, a', w', ?_, ha⟩
  cases e <;> first | exact hq | exact hq.elim

set_option maxHeartbeats 1500000 in
set_option maxRecDepth 20000 in
theorem rall (w : World) (F G : Nat → Prop) (b : Nat) (v : Value) (N : List GNode) (early : Int) (h : Both w F G b v N) (hN : N.length ≤ 300) (hF : ∀ (i : Nat) (x : GNode), N[i]? = some x → x.frames.length ≤ 300) :
    Calls Try.prog 25 #[.pointer (some ⟨b, 0, none⟩), v, .int .i64 early] w (Same w (.bool true)) := by
  have heq := eql_func_nil
  obtain ⟨O, D, hs, rfl⟩ := h.r
  obtain ⟨A, c, rfl, hc, -⟩ := own_form hs.row
  have hc' : (N.length : Int) ≤ (c : Int) := by omega
  have k0 := (Blk.new w 3 #[.int .i64 early]).alloc (.cells #[.bool false] 4)
  have k1 := Blk.new (w.alloc (.cells #[.int .i64 early] 3)) 4 #[.bool false]
  have u1 : Below w.heap.size w ((w.alloc (.cells #[.int .i64 early] 3)).alloc (.cells #[.bool false] 4)) := ((Below.refl _ _).alloc (Nat.le_refl _) _).alloc (by simp) _
  have z1 : ((w.alloc (.cells #[.int .i64 early] 3)).alloc (.cells #[.bool false] 4)).heap.size = w.heap.size + 2 := by simp
  simp only [World.size_alloc] at k1
  have H := Lib.hid (And.intro h (And.intro hs (And.intro hF (And.intro k0 (And.intro k1 (And.intro u1 z1))))))
  clear h hs hF k0 k1 u1 z1 hc
  refine (callsIn_wide (n := 5)).1 ?_
  refine callsIn_of_wp_marks Try.func25 rfl trivial ?_ rfl
  simp only [Try.ntmps25, List.size_toArray, List.length_cons, List.length_nil, Nat.reduceAdd, Nat.reduceSub, Array.replicate_succ, Array.replicate_zero, List.push_toArray, List.append_toArray, List.nil_append, List.cons_append]
  refine wpIn_wide.2 ?_
  go_wp2_with fail
  generalize (w.alloc (.cells #[.int .i64 early] 3)).alloc (.cells #[.bool false] 4) = w1 at H ⊢
  refine (all_yes w1 F b N (H.out.1.s.below H.out.2.2.2.2.2.1) hN H.out.2.2.1).mono ?_
  rintro e w2 ⟨bx, rfl, hbx, v0, kb, row, hne, bel⟩
  have HA := Lib.hid (And.intro hbx (And.intro kb (And.intro row (And.intro hne bel))))
  have bel0 := H.out.2.2.2.2.2.1.trans (bel.mono H.out.2.2.2.2.2.1.size)
  have HB := Lib.hid bel0
  have gs := Lib.hid (Gat.start w2)
  clear hbx kb row hne bel bel0
  go_wp2
  generalize (w2.alloc (.cells #[.slice none 0 0] 44)).alloc (.cells #[.slice none 0 0] 41) = w3 at gs ⊢
  go_loopw [10] (fun iv wr => ∃ k : Nat, k ≤ N.length ∧ iv = .int .i64 k ∧ Gat w2 (allF N k) wr) (fun iv _ => N.length - (intOf iv).toNat)
  case atStart => exact ⟨0, Nat.zero_le _, rfl, gs.out⟩
  case round =>
    obtain ⟨k, hk, rfl, ga⟩ := hrel
    have GA := Lib.hid ga
    clear ga
    by_cases hlt : k < N.length
    · obtain ⟨x, hx⟩ : ∃ x, N[k]? = some x := ⟨N[k], List.getElem?_eq_getElem hlt⟩
      obtain ⟨g, cc, hv, -, -, -, -, n2, -, -⟩ := ref_cells H.out.2.1 hx
      injection hv with hA _ hcc
      subst hA
      have hrow := H.out.2.1.rowF k x hx
      obtain ⟨Af, cf, hfv, hcf, -⟩ := own_form hrow
      rw [hfv] at n2
      have hcf' : (x.frames.length : Int) ≤ (cf : Int) := by omega
      have hb2 := HB.out
      have hxl := H.out.2.2.1 k x hx
      have r2 : w2.cell? ⟨g, k * 4 + 2, none⟩ = some (.slice Af x.frames.length cf) := (hb2.cell (p := ⟨g, k * 4 + 2, none⟩) (World.block_lt_of_cell? w _ n2)).trans n2
      have HX := Lib.hid (And.intro hx (And.intro hrow (And.intro hfv r2)))
      clear hx hrow hfv n2 hcc hcf hb2 r2
      go_wp2
      go_loopw [11] (fun iv wr => ∃ j : Nat, j ≤ x.frames.length ∧ iv = .int .i64 j ∧ Gat w2 (allF N k ++ (x.frames.take j).map fun f => (k, f.1, f.2)) wr) (fun iv _ => x.frames.length - (intOf iv).toNat)
      case atStart => exact ⟨0, Nat.zero_le _, rfl, by simpa using GA.out⟩
      case round =>
        obtain ⟨j, hj, rfl, ga⟩ := hrel
        have r2 : wr.cell? ⟨g, k * 4 + 2, none⟩ = some (.slice Af x.frames.length cf) := (ga.bel.cell (p := ⟨g, k * 4 + 2, none⟩) (World.block_lt_of_cell? w2 _ HX.out.2.2.2)).trans HX.out.2.2.2
        by_cases hltj : j < x.frames.length
        · obtain ⟨⟨f1, f2⟩, hf⟩ : ∃ f, x.frames[j]? = some f := ⟨x.frames[j], List.getElem?_eq_getElem hltj⟩
          obtain ⟨gf, cf', hvf, -, -, -, -, hcellf⟩ := own_cells HX.out.2.1 (by omega)
          have hvf' := HX.out.2.2.1.symm.trans hvf
          injection hvf' with hAf _ hcff
          subst hAf
          obtain ⟨L, hL⟩ : ∃ L, (allF N k ++ (x.frames.take j).map fun f => (k, f.1, f.2)) = L := ⟨_, rfl⟩
          have hLn : L.length ≤ 100000 := by
            rw [← hL, List.length_append, List.length_map, List.length_take]
            have h1 := allF_len H.out.2.2.1 k
            have h2 := H.out.2.2.1 k x HX.out.1
            omega
          have hLs : (allF N k ++ (x.frames.take (j + 1)).map fun f => (k, f.1, f.2)) = L ++ [(k, f1, f2)] := by
            rw [take_snoc hf, List.map_append, ← List.append_assoc, hL]
            rfl
          rw [hL] at ga
          have bel := HB.out.trans (ga.bel.mono HB.out.size)
          have hg2 := fun r (hr : r < 2) => flat_get (fun p : Int × Int => [Value.int .i64 p.1, .int .i64 p.2]) 2 (fun _ => rfl) x.frames j r _ hf hr
          have hq0 := (hcellf _ _ (hg2 0 (by omega))).1
          have hq1 := (hcellf _ _ (hg2 1 (by omega))).1
          have p0 : w2.cell? ⟨gf, j * 2, none⟩ = some (.int .i64 f1) := (HB.out.cell (p := ⟨gf, j * 2, none⟩) (World.block_lt_of_cell? w _ hq0)).trans hq0
          have p1 : w2.cell? ⟨gf, j * 2 + 1, none⟩ = some (.int .i64 f2) := (HB.out.cell (p := ⟨gf, j * 2 + 1, none⟩) (World.block_lt_of_cell? w _ hq1)).trans hq1
          obtain ⟨vn, vw, gt⟩ := ga
          obtain ⟨Ln, hLn'⟩ : ∃ Ln, L.map (fun m => m.1) = Ln := ⟨_, rfl⟩
          obtain ⟨Lw, hLw'⟩ : ∃ Lw, L.map (fun m => m.2) = Lw := ⟨_, rfl⟩
          have l1 : Ln.length ≤ 100000 := by rw [← hLn', List.length_map]; exact hLn
          have l2 : Lw.length ≤ 100000 := by rw [← hLw', List.length_map]; exact hLn
          rw [hLn', hLw'] at gt
          obtain ⟨An, cn, rfl, -, -⟩ := own_form gt.rn
          obtain ⟨Aw, cw, rfl, -, -⟩ := own_form gt.rf
          have n0 : wr.cell? ⟨w2.heap.size, 0, none⟩ = some (.slice An Ln.length cn) := gt.kn.cell 0
          obtain ⟨i0, hi0, hz0, hz1, hz2⟩ := info_parts info_int
          obtain ⟨v8, w8, happ, own8, gr8, -, pl8⟩ := run_append_own_at (P := Try.prog) (wr.alloc (.cells #[.int .i64 (k : Int)] 3)) (w2.heap.size + 2) 44 44 3 i0 _ 1 8 Try.underlying44 hi0 hz0 hz1 hz2 rfl (by decide) _ Ln.length _ (gt.rn.alloc _) ⟨wr.heap.size, 0, none⟩ 1 1
            [.int .i64 (k : Int)] rfl (by
              intro j u hu
              match j, hu with
              | 0, hu => simp [Addr.add] at hu ⊢; exact hu
              | j + 1, hu => simp at hu) (by simp [Value.oneCell']) (by unfold maxLen; omega) (by omega) (by have := gt.kw.lt; simp; omega)
          obtain ⟨k8, gt8⟩ := gt.node gr8 own8 pl8
          obtain ⟨A8, c8, rfl, -, -⟩ := own_form own8
          have n8 : w8.cell? ⟨w2.heap.size, 0, none⟩ = some (.slice An Ln.length cn) := k8.cell 0
          have n9 := k8.frozen 0
          have HG := Lib.hid (And.intro gt8 (And.intro hLs (And.intro hLn' (And.intro hLw' (And.intro p0 p1)))))
          clear hf hcellf hcff hvf hL hLn hLs bel hg2 hq0 hq1 p0 p1 hLn' hLw' gt hi0 hz0 hz1 hz2 own8 gr8 pl8 k8 gt8 GA
          go_wp2_with (at_builtin; refine wpList_append_run rfl _ _ _ rfl rfl rfl happ ?_)
          have G2 := HG.out.1
          generalize w8.setCell ⟨w2.heap.size, 0, none⟩ (.slice A8 (Ln.length + 1) c8) = wB at HG G2 ⊢
          clear happ n8 n9 n0 r2
          have s0 : wB.cell? ⟨gf, j * 2, none⟩ = some (.int .i64 f1) := (G2.bel.cell (p := ⟨gf, j * 2, none⟩) (World.block_lt_of_cell? w2 _ HG.out.2.2.2.2.1)).trans HG.out.2.2.2.2.1
          have s1 : wB.cell? ⟨gf, j * 2 + 1, none⟩ = some (.int .i64 f2) := (G2.bel.cell (p := ⟨gf, j * 2 + 1, none⟩) (World.block_lt_of_cell? w2 _ HG.out.2.2.2.2.2)).trans HG.out.2.2.2.2.2
          have s2 : wB.cell? ⟨g, k * 4 + 2, none⟩ = some (.slice (some ⟨gf, 0, none⟩) x.frames.length cf) := (G2.bel.cell (p := ⟨g, k * 4 + 2, none⟩) (World.block_lt_of_cell? w2 _ HX.out.2.2.2)).trans HX.out.2.2.2
          have s3 : wB.cell? ⟨w2.heap.size + 1, 0, none⟩ = some (.slice Aw Lw.length cw) := G2.kw.cell 0
          refine wp_noPanic ?_
          refine wp_region_ord (fun w' => w'.cell? ⟨gf, j * 2, none⟩ = some (.int .i64 f1) ∧ w'.cell? ⟨gf, j * 2 + 1, none⟩ = some (.int .i64 f2) ∧ w'.cell? ⟨g, k * 4 + 2, none⟩ = some (.slice (some ⟨gf, 0, none⟩) x.frames.length cf) ∧ w'.cell? ⟨w2.heap.size + 1, 0, none⟩ = some (.slice Aw Lw.length cw)) 11 [(0, true), (1, true), (2, true), (3, true), (4, true), (5, true), (6, true), (7, true), (8, true), (9, false), (10, false), (11, false)] (by kernel_rfl) (by kernel_rfl) (fun _ _ _ _ _ h => h.elim) ⟨s0, s1, s2, s3⟩ ?_
          have G3 := G2.drew
          have d0 : wB.drew.cell? ⟨gf, j * 2, none⟩ = some (.int .i64 f1) := s0
          have d1 : wB.drew.cell? ⟨gf, j * 2 + 1, none⟩ = some (.int .i64 f2) := s1
          have d2 : wB.drew.cell? ⟨g, k * 4 + 2, none⟩ = some (.slice (some ⟨gf, 0, none⟩) x.frames.length cf) := s2
          have d3 : wB.drew.cell? ⟨w2.heap.size + 1, 0, none⟩ = some (.slice Aw Lw.length cw) := s3
          have HL := Lib.hid HG.out.2
          clear s0 s1 s2 s3 G2 HG
          generalize wB.drew = wd at d0 d1 d2 d3 G3 ⊢
          obtain ⟨i0, hi0, hz0, hz1, hz2⟩ := info_parts info_frame
          obtain ⟨v9, w9, happ, own9, gr9, -, pl9⟩ := run_append_own_at (P := Try.prog) (wd.alloc (.cells #[.int .i64 f1, .int .i64 f2] 48)) (w2.heap.size + 2) 41 41 48 i0 _ 2 16 Try.underlying41 hi0 hz0 hz1 hz2 rfl (by decide) _ Lw.length _ (G3.rf.alloc _) ⟨wd.heap.size, 0, none⟩ 1 1
            [.int .i64 f1, .int .i64 f2] rfl (by
              intro j u hu
              match j, hu with
              | 0, hu => simp [Addr.add] at hu ⊢; exact hu
              | 1, hu => simp [Addr.add] at hu ⊢; exact hu
              | j + 2, hu => simp at hu) (by simp [Value.oneCell']) (by unfold maxLen; omega) (by omega) (by have := G3.kw.lt; simp; omega)
          have nb := fun (q : Nat) (hq : q < w2.heap.size + 2) (e : some q = Value.ownBlock (.slice Aw Lw.length cw)) => (by have := (G3.rf.lt q e.symm).1; omega : False)
          obtain ⟨k9, gt9⟩ := G3.want (f := (f1, f2)) gr9 own9 pl9
          obtain ⟨A9, c9, rfl, -, -⟩ := own_form own9
          have lgf := World.block_lt_of_cell? w2 _ HL.out.2.2.2.1
          have lg := World.block_lt_of_cell? w2 _ HX.out.2.2.2
          simp only at lgf lg
          have hwd := G3.bel.size
          have hwd1 := G3.kw.lt
          have e0 : (wd.alloc (.cells #[.int .i64 f1, .int .i64 f2] 48)).cell? ⟨gf, j * 2, none⟩ = some (.int .i64 f1) := (World.cell?_alloc_lt _ _ _ (by show gf < _; omega)).trans d0
          have e1 : (wd.alloc (.cells #[.int .i64 f1, .int .i64 f2] 48)).cell? ⟨gf, j * 2 + 1, none⟩ = some (.int .i64 f2) := (World.cell?_alloc_lt _ _ _ (by show gf < _; omega)).trans d1
          have e2 : (wd.alloc (.cells #[.int .i64 f1, .int .i64 f2] 48)).cell? ⟨g, k * 4 + 2, none⟩ = some (.slice (some ⟨gf, 0, none⟩) x.frames.length cf) := (World.cell?_alloc_lt _ _ _ (by show g < _; omega)).trans d2
          have e3 : (wd.alloc (.cells #[.int .i64 f1, .int .i64 f2] 48)).cell? ⟨w2.heap.size + 1, 0, none⟩ = some (.slice Aw Lw.length cw) := (World.cell?_alloc_lt _ _ _ (by show w2.heap.size + 1 < _; omega)).trans d3
          have t0 := gr9.cell e0 (fun e => nb gf (by omega) e)
          have t1 := gr9.cell e1 (fun e => nb gf (by omega) e)
          have t2 := gr9.cell e2 (fun e => nb g (by omega) e)
          have t3 : w9.cell? ⟨w2.heap.size + 1, 0, none⟩ = some (.slice Aw Lw.length cw) := k9.cell 0
          have t4 := k9.frozen 0
          have fin : Gat w2 (allF N k ++ (x.frames.take (j + 1)).map fun f => (k, f.1, f.2)) (w9.setCell ⟨w2.heap.size + 1, 0, none⟩ (.slice A9 (Lw.length + 1) c9)) := by
            rw [HL.out.1]
            refine ⟨.slice A8 (Ln.length + 1) c8, .slice A9 (Lw.length + 1) c9, ?_⟩
            rw [List.map_append, List.map_append, HL.out.2.1, HL.out.2.2.1]
            exact gt9
          have FIN := Lib.hid fin
          clear fin gt9 k9 nb G3 lgf lg hwd hwd1 hi0 hz0 hz1 hz2 own9 gr9 pl9 l1 l2
          repeat (refine ord_take (v := ?_) rfl rfl ?_ ?_; rotate_left; (focus (intro wS hS; (try dsimp only at hS); go_split_ands; go_simp; (try with_reducible rfl); done)); (try simp only [Act.put, List.getElem_toArray, List.getElem_cons_succ, List.getElem_cons_zero, List.setIfInBounds_toArray, List.set_cons_zero, List.set_cons_succ]))
          refine ord_do rfl rfl (fun K hK => ?_)
          go_simp
          refine hK _ _ (fun _ => ⟨e0, e1, e2, e3⟩) ?_
          clear hK K
          refine ord_do rfl rfl (fun K hK => ?_)
          refine wp_append_run _ _ _ rfl rfl rfl happ ?_
          refine hK _ _ (fun _ => ⟨t0, t1, t2, t3⟩) ?_
          clear hK K happ
          refine ord_do rfl rfl (fun K hK => ?_)
          go_simp
          refine hK _ _ (fun h => absurd rfl h) ?_
          clear hK K d0 d1 d2 d3 e0 e1 e2 e3 t0 t1 t2 t3 t4
          refine ord_done ?_
          dsimp only [noPanic]
          go_wp2
          go_roundw
          case rel => exact ⟨j + 1, by omega, by go_num, FIN.out⟩
          case measure => simp [intOf]; omega
        · have HG := Lib.hid ga
          clear ga
          go_wp2
          go_roundw
          case rel =>
            refine ⟨k + 1, by omega, by go_num, ?_⟩
            have := HG.out
            rw [List.take_of_length_le (by omega)] at this
            rw [allF_succ HX.out.1]
            exact this
          case measure => simp [intOf]; omega
    · obtain rfl : N.length = k := by omega
      clear hlt
      go_wp2
      refine wp_loop_rounds 3 ?_
      rw [rounds_succ]
      obtain ⟨vn, vw, gt⟩ := GA.out
      clear GA gs
      obtain ⟨L, hL⟩ : ∃ L, allF N N.length = L := ⟨_, rfl⟩
      have hLn : L.length ≤ 100000 := by
        rw [← hL]
        have h1 := allF_len H.out.2.2.1 N.length
        omega
      rw [hL] at HA gt
      have cb := HA.out.2.1.cell 0
      have lbx := HA.out.2.1.lt
      have hbx1 := HA.out.1
      have hw1 := H.out.2.2.2.2.2.2
      go_wp2
      have gt0 := (gt.alloc (.cells #[.int .i64 0] 3)).alloc (.cells #[.int .i64 0] 3)
      have k12 := (Blk.new wr 3 #[.int .i64 0]).alloc (.cells #[.int .i64 0] 3)
      have k13 := Blk.new (wr.alloc (.cells #[.int .i64 0] 3)) 3 #[.int .i64 0]
      have hz : ((wr.alloc (.cells #[.int .i64 0] 3)).alloc (.cells #[.int .i64 0] 3)).heap.size = wr.heap.size + 2 := by simp
      have bX : Below wr.heap.size wr ((wr.alloc (.cells #[.int .i64 0] 3)).alloc (.cells #[.int .i64 0] 3)) := ((Below.refl _ _).alloc (Nat.le_refl _) _).alloc (by simp) _
      have hs0 := gt.bel.size
      have lkw := gt.kw.lt
      have d0 : ∀ q, vn.ownBlock = some q → q < wr.heap.size := fun q hq => (gt.rn.lt q hq).2
      have d1 : ∀ q, vw.ownBlock = some q → q < wr.heap.size := fun q hq => (gt.rf.lt q hq).2
      simp only [World.size_alloc] at k13
      generalize (wr.alloc (.cells #[.int .i64 0] 3)).alloc (.cells #[.int .i64 0] 3) = W0 at gt0 k12 k13 hz bX ⊢
      have HT := Lib.hid (And.intro gt0 (And.intro k12 (And.intro k13 (And.intro hz (And.intro d0 (And.intro d1 bX))))))
      clear gt0 k12 k13 hz d0 d1 gt bX
      refine wp_range_end 5 (by omega) (gf := 60) (lb := #[.pointer (some ⟨bx, 0, none⟩)]) rfl (enters_of Try.func60 (by kernel_rfl) rfl)
        (each_stops Fence.wide (5 - 1) trivial rfl (by omega) bx (wr.heap.size + 1) w1.heap.size L v0 (by omega) W0 (by have := HT.out.2.2.2.1; omega) (by have := HT.out.2.2.2.1; omega)
          ((HT.out.1.bel.cell (p := ⟨bx, 0, none⟩) lbx).trans cb) (row_below HA.out.2.2.1 HT.out.1.bel) (fun q hq => by have := (HA.out.2.2.1.lt q hq).2; omega))
        belowK_t (belowK_b (by have := HT.out.2.2.2.1; omega)) (Below.refl _ _) (fun _ => rfl)
        (fun pre W => Upd (fun q => q = wr.heap.size + 1) W0 W ∧ Blk W (wr.heap.size + 1) 3 #[.int .i64 (pre.length : Int)])
        (fun c pre W => (c = .ret ∧ BadAt L pre) ∨ (c = .exit 6 ∧ Upd (fun q => q = wr.heap.size + 1) W0 W))
        ?hI ?hIx ⟨Upd.refl _ _, HT.out.2.2.1⟩
        (fun T x b => (((T.setIfInBounds 56 (.int .i64 (x.1 : Int))).setIfInBounds 57 (.agg #[.int .i64 x.2.1, .int .i64 x.2.2])).setIfInBounds 14 (.int .i64 (x.1 : Int))).setIfInBounds 15 (.pointer (some ⟨b, 0, none⟩)))
        (fun x b W => Blk W b 48 #[.int .i64 x.2.1, .int .i64 x.2.2] ∧ wr.heap.size + 2 ≤ b)
        ?hBx ?assign ?body (fun W => Upd (fun q => q = wr.heap.size + 1) W0 W) ?done ?stop ?fine
      case hI => exact fun s X Y row h hg hr => ⟨h.1.keep hg (Nat.le_refl _) hr, h.2.keep hg hr⟩
      case hIx => exact fun c s X Y row h hg hr => h.imp id fun h => ⟨h.1, h.2.keep hg (Nat.le_refl _) hr⟩
      case hBx => exact fun x b s X Y row h hg hr => ⟨h.1.keep hg hr, h.2⟩
      case assign =>
        rintro l pre ⟨m, f1, f2⟩ W K hi hK
        dsimp only [encF]
        gi_wp2
        exact hK W.heap.size _ ((KeepsOthers.alloc W _).from _) ((Below.refl _ _).alloc (by have := hi.1.size; have := HT.out.2.2.2.1; omega) _) ⟨hi.1.alloc _, hi.2.alloc _⟩ ⟨Blk.new W _ _, by have := hi.1.size; have := HT.out.2.2.2.1; omega⟩
      case body =>
        rintro l pre ⟨m, f1, f2⟩ b15 W hl hr ⟨U, k13⟩ ⟨k15, hb15⟩ hlt
        obtain ⟨gt0, k12, -, hz, d0, d1, -⟩ := HT.out
        have gtW := gt0.upd U (fun q e => .inr (by subst e; exact ⟨by omega, fun e => by have := d0 _ e; omega, fun e => by have := d1 _ e; omega⟩))
        have c12 := (k12.upd U (by omega)).cell 0
        have u20 : Upd (fun q => q = wr.heap.size + 1) w1 W := ((Upd.of_below HA.out.2.2.2.2 _).trans (Upd.of_below gt0.bel (fun _ => False)) (fun _ h => h.elim)).trans U (fun _ h => .inl h)
        have c5 := (H.out.2.2.2.1.upd u20 (by omega)).cell 0
        have c6 := H.out.2.2.2.2.1.upd u20 (by omega)
        have c15 := k15.cell 0
        have c16 := k15.cell 1
        have c13 := k13.cell 0
        simp only [List.getElem?_toArray, List.getElem?_cons_succ, List.getElem?_cons_zero] at c12 c5 c15 c16 c13
        obtain ⟨⟨y, g1, g2⟩, hy⟩ : ∃ y, L[pre.length]? = some y := ⟨L[pre.length], List.getElem?_eq_getElem hlt⟩
        obtain ⟨gn, cn, gw, cw, hcn, hcw, e0, e1, e2, e3, e4⟩ := gtW.at hy
        have HB := Lib.hid (And.intro U (And.intro k13 (And.intro k15 (And.intro gtW (And.intro c6 (And.intro hy u20))))))
        clear U k13 k15 gtW c6 hy u20 gt0 k12 hz d0 d1
        simp only [List.setIfInBounds_toArray, List.set_cons_zero, List.set_cons_succ]
        gi_wp2
        refine wpIn_region_ord (fun W => W.cell? ⟨wr.heap.size + 1, 0, none⟩ = some (.int .i64 (pre.length : Int)) ∧ W.cell? ⟨w2.heap.size, 0, none⟩ = some (.slice (some ⟨gn, 0, none⟩) L.length cn) ∧ W.cell? ⟨w2.heap.size + 1, 0, none⟩ = some (.slice (some ⟨gw, 0, none⟩) L.length cw) ∧
            W.cell? ⟨gn, pre.length, none⟩ = some (.int .i64 (y : Int)) ∧ W.cell? ⟨gw, pre.length * 2, none⟩ = some (.int .i64 g1) ∧ W.cell? ⟨gw, pre.length * 2 + 1, none⟩ = some (.int .i64 g2) ∧ W.cell? ⟨b15, 0, none⟩ = some (.int .i64 f1) ∧ W.cell? ⟨b15, 1, none⟩ = some (.int .i64 f2))
          20 [(0, true), (1, true), (2, true), (3, true), (4, true), (5, true), (6, true), (7, true), (8, true), (9, true), (10, true), (11, true), (12, true), (13, true), (14, true), (15, true), (16, true), (17, true), (18, true), (19, true)]
          (by kernel_rfl) (by kernel_rfl) (by kernel_rfl) (fun ⟨_, _, h⟩ => h) (fun _ _ _ _ _ h => h) ⟨c13, e0, e1, e2, e3, e4, c15, c16⟩ ?_
        have hge : decide (L.length ≤ pre.length) = false := by simp; omega
        by_cases hxy : (m, f1, f2) = (y, g1, g2)
        · injection hxy with h1 h2
          injection h2 with h2 h3
          subst h1
          subst h2
          subst h3
          have q0 : W.drew.cell? ⟨wr.heap.size + 1, 0, none⟩ = some (.int .i64 (pre.length : Int)) := c13
          have q1 : W.drew.frozen? ⟨wr.heap.size + 1, 0, none⟩ = false := (HB.out.2.1.drew).frozen 0
          have q2 : W.drew.cell? ⟨wr.heap.size, 0, none⟩ = some (.int .i64 0) := c12
          have q3 : W.drew.cell? ⟨w.heap.size, 0, none⟩ = some (.int .i64 early) := c5
          iterate 20 (refine ord_take (v := ?_) rfl (by first | with_reducible rfl | kernel_rfl) ?_ ?_; rotate_left; (focus (intro wS hS; (try dsimp only at hS); go_split_ands; go_simp; (try with_reducible rfl); done)); (try simp only [Act.put, List.getElem_toArray, List.getElem_cons_succ, List.getElem_cons_zero, List.setIfInBounds_toArray, List.set_cons_zero, List.set_cons_succ]))
          refine ord_done ?_
          have fin : ∀ v : Value, Upd (fun q => q = wr.heap.size + 1) W0 (W.setCell ⟨wr.heap.size + 1, 0, none⟩ v).drew := fun v => (HB.out.1.setCell (.inl rfl) v).drew
          have fin2 : Below (wr.heap.size + 1) W (W.setCell ⟨wr.heap.size + 1, 0, none⟩ (.int .i64 ((pre.length : Int) + 1))).drew := ((Below.refl (wr.heap.size + 1) W).setCell (p := ⟨wr.heap.size + 1, 0, none⟩) (Nat.le_refl _) _).drew
          have fin3 := (HB.out.2.1.set 0 (.int .i64 ((pre.length : Int) + 1))).drew
          have FIN := Lib.hid (And.intro fin (And.intro fin2 fin3))
          clear fin fin2 fin3
          by_cases he : (pre.length : Int) + 1 = early
          · gi_wp2
            exact ⟨((KeepsOthers.setCell W _ _).trans (KeepsOthers.drew _)).from _, .inr ⟨rfl, FIN.out.1 _⟩⟩
          · gi_wp2
            refine ⟨((KeepsOthers.setCell W _ _).trans (KeepsOthers.drew _)).from _, FIN.out.2.1, FIN.out.1 _, ?_⟩
            have := FIN.out.2.2
            rw [List.length_append]
            exact this
        · have q2 : W.drew.cell? ⟨w.heap.size + 1, 0, none⟩ = some (.bool false) := HB.out.2.2.2.2.1.cell 0
          have q3 : W.drew.frozen? ⟨w.heap.size + 1, 0, none⟩ = false := HB.out.2.2.2.2.1.frozen 0
          by_cases hm : m = y
          · subst hm
            by_cases hg : g1 = f1
            · subst hg
              have hn2 : ¬ g2 = f2 := fun e => hxy (by rw [e])
              iterate 20 (refine ord_take (v := ?_) rfl (by first | with_reducible rfl | kernel_rfl) ?_ ?_; rotate_left; (focus (intro wS hS; (try dsimp only at hS); go_split_ands; go_simp; (try with_reducible rfl); done)); (try simp only [Act.put, List.getElem_toArray, List.getElem_cons_succ, List.getElem_cons_zero, List.setIfInBounds_toArray, List.set_cons_zero, List.set_cons_succ]))
              refine ord_done ?_
              gi_wp2
              exact ⟨((KeepsOthers.setCell W _ _).trans (KeepsOthers.drew _)).from _, .inl ⟨rfl, BadAt.mk HB.out.2.2.2.2.2.1 hxy⟩⟩
            · iterate 20 (refine ord_take (v := ?_) rfl (by first | with_reducible rfl | kernel_rfl) ?_ ?_; rotate_left; (focus (intro wS hS; (try dsimp only at hS); go_split_ands; go_simp; (try with_reducible rfl); done)); (try simp only [Act.put, List.getElem_toArray, List.getElem_cons_succ, List.getElem_cons_zero, List.setIfInBounds_toArray, List.set_cons_zero, List.set_cons_succ]))
              refine ord_done ?_
              gi_wp2
              exact ⟨((KeepsOthers.setCell W _ _).trans (KeepsOthers.drew _)).from _, .inl ⟨rfl, BadAt.mk HB.out.2.2.2.2.2.1 hxy⟩⟩
          · have hne : ((y : Int) == (m : Int)) = false := by simp; omega
            have hne2 : ((y : Int) != (m : Int)) = true := by simp; omega
            iterate 13 (refine ord_take (v := ?_) rfl (by first | with_reducible rfl | kernel_rfl) ?_ ?_; rotate_left; (focus (intro wS hS; (try dsimp only at hS); go_split_ands; go_simp; (try with_reducible rfl); done)); (try simp only [Act.put, List.getElem_toArray, List.getElem_cons_succ, List.getElem_cons_zero, List.setIfInBounds_toArray, List.set_cons_zero, List.set_cons_succ]))
            iterate 6 (refine ord_skip rfl (by kernel_rfl) ?_; (try simp only [Act.put, List.getElem_toArray, List.getElem_cons_succ, List.getElem_cons_zero, List.setIfInBounds_toArray, List.set_cons_zero, List.set_cons_succ]))
            iterate 1 (refine ord_take (v := ?_) rfl (by first | with_reducible rfl | kernel_rfl) ?_ ?_; rotate_left; (focus (intro wS hS; (try dsimp only at hS); go_split_ands; go_simp; (try with_reducible rfl); done)); (try simp only [Act.put, List.getElem_toArray, List.getElem_cons_succ, List.getElem_cons_zero, List.setIfInBounds_toArray, List.set_cons_zero, List.set_cons_succ]))
            refine ord_done ?_
            gi_wp2
            exact ⟨((KeepsOthers.setCell W _ _).trans (KeepsOthers.drew _)).from _, .inl ⟨rfl, BadAt.mk HB.out.2.2.2.2.2.1 hxy⟩⟩
      case done => exact fun xs W _ hi => hi.1
      case stop =>
        rintro c pre W ⟨kk, hkk, hpre⟩ (⟨-, hbad⟩ | ⟨hc, U⟩)
        · exact (BadAt.no hbad hpre).elim
        · exact ⟨U, 6, hc, fun _ _ h => h⟩
      case fine =>
        intro D0 Wa hD0 U hd0
        obtain ⟨gt0, k12, -, hz, d0, d1, bX⟩ := HT.out
        have gt := gt0.upd U (fun q e => .inr (by subst e; exact ⟨by omega, fun e => by have := d0 _ e; omega, fun e => by have := d1 _ e; omega⟩))
        have k12W := k12.upd U (by omega)
        have c12 := k12W.cell 0
        have HU0 := Lib.hid (And.intro U (And.intro bX hd0))
        have hsz0 : w2.heap.size ≤ wr.heap.size := hs0
        simp only [List.getElem?_toArray, List.getElem?_cons_zero] at c12
        clear gt0 k12 hz d0 d1 HT k12W U bX hd0 hs0 lkw
        go_wp2
        rw [rounds_succ]
        clear c12
        go_wp2
        have gt0 := (gt.alloc (.cells #[.int .i64 1] 3)).alloc (.cells #[.int .i64 0] 3)
        have k12 := (Blk.new Wa 3 #[.int .i64 1]).alloc (.cells #[.int .i64 0] 3)
        have k13 := Blk.new (Wa.alloc (.cells #[.int .i64 1] 3)) 3 #[.int .i64 0]
        have hz : ((Wa.alloc (.cells #[.int .i64 1] 3)).alloc (.cells #[.int .i64 0] 3)).heap.size = Wa.heap.size + 2 := by simp
        have bX : Below Wa.heap.size Wa ((Wa.alloc (.cells #[.int .i64 1] 3)).alloc (.cells #[.int .i64 0] 3)) := ((Below.refl _ _).alloc (Nat.le_refl _) _).alloc (by simp) _
        have hs0 := gt.bel.size
        have lkw := gt.kw.lt
        have d0 : ∀ q, vn.ownBlock = some q → q < Wa.heap.size := fun q hq => (gt.rn.lt q hq).2
        have d1 : ∀ q, vw.ownBlock = some q → q < Wa.heap.size := fun q hq => (gt.rf.lt q hq).2
        simp only [World.size_alloc] at k13
        generalize (Wa.alloc (.cells #[.int .i64 1] 3)).alloc (.cells #[.int .i64 0] 3) = W1 at gt0 k12 k13 hz bX ⊢
        have HT := Lib.hid (And.intro gt0 (And.intro k12 (And.intro k13 (And.intro hz (And.intro d0 (And.intro d1 bX))))))
        clear gt0 k12 k13 hz d0 d1 gt bX
        refine wp_range_end 5 (by omega) (gf := 60) (lb := #[.pointer (some ⟨bx, 0, none⟩)]) rfl (enters_of Try.func60 (by kernel_rfl) rfl)
          (each_stops Fence.wide (5 - 1) trivial rfl (by omega) bx (Wa.heap.size + 1) w1.heap.size L v0 (by omega) W1 (by have := HT.out.2.2.2.1; omega) (by have := HT.out.2.2.2.1; omega)
            ((HT.out.1.bel.cell (p := ⟨bx, 0, none⟩) lbx).trans cb) (row_below HA.out.2.2.1 HT.out.1.bel) (fun q hq => by have := (HA.out.2.2.1.lt q hq).2; omega))
          belowK_t (belowK_b (by have := HT.out.2.2.2.1; omega)) (Below.refl _ _) (fun _ => rfl)
          (fun pre W => Upd (fun q => q = Wa.heap.size + 1) W1 W ∧ Blk W (Wa.heap.size + 1) 3 #[.int .i64 (pre.length : Int)])
          (fun c pre W => (c = .ret ∧ BadAt L pre) ∨ (c = .exit 6 ∧ False))
          ?hI ?hIx ⟨Upd.refl _ _, HT.out.2.2.1⟩
          (fun T x b => (((T.setIfInBounds 56 (.int .i64 (x.1 : Int))).setIfInBounds 57 (.agg #[.int .i64 x.2.1, .int .i64 x.2.2])).setIfInBounds 14 (.int .i64 (x.1 : Int))).setIfInBounds 15 (.pointer (some ⟨b, 0, none⟩)))
          (fun x b W => Blk W b 48 #[.int .i64 x.2.1, .int .i64 x.2.2] ∧ Wa.heap.size + 2 ≤ b)
          ?hBx ?assign ?body (fun W => Upd (fun q => q = Wa.heap.size + 1) W1 W ∧ Blk W (Wa.heap.size + 1) 3 #[.int .i64 (L.length : Int)]) ?done ?stop ?fine
        case hI => exact fun s X Y row h hg hr => ⟨h.1.keep hg (Nat.le_refl _) hr, h.2.keep hg hr⟩
        case hIx => exact fun c s X Y row h hg hr => h
        case hBx => exact fun x b s X Y row h hg hr => ⟨h.1.keep hg hr, h.2⟩
        case assign =>
          rintro l pre ⟨m, f1, f2⟩ W K hi hK
          dsimp only [encF]
          gi_wp2
          exact hK W.heap.size _ ((KeepsOthers.alloc W _).from _) ((Below.refl _ _).alloc (by have := hi.1.size; have := HT.out.2.2.2.1; omega) _) ⟨hi.1.alloc _, hi.2.alloc _⟩ ⟨Blk.new W _ _, by have := hi.1.size; have := HT.out.2.2.2.1; omega⟩
        case body =>
          rintro l pre ⟨m, f1, f2⟩ b15 W hl hr ⟨U, k13⟩ ⟨k15, hb15⟩ hlt
          obtain ⟨gt0, k12, -, hz, d0, d1, -⟩ := HT.out
          have gtW := gt0.upd U (fun q e => .inr (by subst e; exact ⟨by omega, fun e => by have := d0 _ e; omega, fun e => by have := d1 _ e; omega⟩))
          have c12 := (k12.upd U (by omega)).cell 0
          have u20 : Upd (fun q => q = Wa.heap.size + 1) w1 W := ((Upd.of_below HA.out.2.2.2.2 _).trans (Upd.of_below gt0.bel (fun _ => False)) (fun _ h => h.elim)).trans U (fun _ h => .inl h)
          have c5 := (H.out.2.2.2.1.upd u20 (by omega)).cell 0
          have c6 := H.out.2.2.2.2.1.upd u20 (by omega)
          have c15 := k15.cell 0
          have c16 := k15.cell 1
          have c13 := k13.cell 0
          simp only [List.getElem?_toArray, List.getElem?_cons_succ, List.getElem?_cons_zero] at c12 c5 c15 c16 c13
          obtain ⟨⟨y, g1, g2⟩, hy⟩ : ∃ y, L[pre.length]? = some y := ⟨L[pre.length], List.getElem?_eq_getElem hlt⟩
          obtain ⟨gn, cn, gw, cw, hcn, hcw, e0, e1, e2, e3, e4⟩ := gtW.at hy
          have HB := Lib.hid (And.intro U (And.intro k13 (And.intro k15 (And.intro gtW (And.intro c6 (And.intro hy u20))))))
          clear U k13 k15 gtW c6 hy u20 gt0 k12 hz d0 d1
          simp only [List.setIfInBounds_toArray, List.set_cons_zero, List.set_cons_succ]
          gi_wp2
          refine wpIn_region_ord (fun W => W.cell? ⟨Wa.heap.size + 1, 0, none⟩ = some (.int .i64 (pre.length : Int)) ∧ W.cell? ⟨w2.heap.size, 0, none⟩ = some (.slice (some ⟨gn, 0, none⟩) L.length cn) ∧ W.cell? ⟨w2.heap.size + 1, 0, none⟩ = some (.slice (some ⟨gw, 0, none⟩) L.length cw) ∧
              W.cell? ⟨gn, pre.length, none⟩ = some (.int .i64 (y : Int)) ∧ W.cell? ⟨gw, pre.length * 2, none⟩ = some (.int .i64 g1) ∧ W.cell? ⟨gw, pre.length * 2 + 1, none⟩ = some (.int .i64 g2) ∧ W.cell? ⟨b15, 0, none⟩ = some (.int .i64 f1) ∧ W.cell? ⟨b15, 1, none⟩ = some (.int .i64 f2))
            20 [(0, true), (1, true), (2, true), (3, true), (4, true), (5, true), (6, true), (7, true), (8, true), (9, true), (10, true), (11, true), (12, true), (13, true), (14, true), (15, true), (16, true), (17, true), (18, true), (19, true)]
            (by kernel_rfl) (by kernel_rfl) (by kernel_rfl) (fun ⟨_, _, h⟩ => h) (fun _ _ _ _ _ h => h) ⟨c13, e0, e1, e2, e3, e4, c15, c16⟩ ?_
          have hge : decide (L.length ≤ pre.length) = false := by simp; omega
          by_cases hxy : (m, f1, f2) = (y, g1, g2)
          · injection hxy with h1 h2
            injection h2 with h2 h3
            subst h1
            subst h2
            subst h3
            have q0 : W.drew.cell? ⟨Wa.heap.size + 1, 0, none⟩ = some (.int .i64 (pre.length : Int)) := c13
            have q1 : W.drew.frozen? ⟨Wa.heap.size + 1, 0, none⟩ = false := (HB.out.2.1.drew).frozen 0
            have q2 : W.drew.cell? ⟨Wa.heap.size, 0, none⟩ = some (.int .i64 1) := c12
            have q3 : W.drew.cell? ⟨w.heap.size, 0, none⟩ = some (.int .i64 early) := c5
            iterate 20 (refine ord_take (v := ?_) rfl (by first | with_reducible rfl | kernel_rfl) ?_ ?_; rotate_left; (focus (intro wS hS; (try dsimp only at hS); go_split_ands; go_simp; (try with_reducible rfl); done)); (try simp only [Act.put, List.getElem_toArray, List.getElem_cons_succ, List.getElem_cons_zero, List.setIfInBounds_toArray, List.set_cons_zero, List.set_cons_succ]))
            refine ord_done ?_
            have fin : ∀ v : Value, Upd (fun q => q = Wa.heap.size + 1) W1 (W.setCell ⟨Wa.heap.size + 1, 0, none⟩ v).drew := fun v => (HB.out.1.setCell (.inl rfl) v).drew
            have fin2 : Below (Wa.heap.size + 1) W (W.setCell ⟨Wa.heap.size + 1, 0, none⟩ (.int .i64 ((pre.length : Int) + 1))).drew := ((Below.refl (Wa.heap.size + 1) W).setCell (p := ⟨Wa.heap.size + 1, 0, none⟩) (Nat.le_refl _) _).drew
            have fin3 := (HB.out.2.1.set 0 (.int .i64 ((pre.length : Int) + 1))).drew
            have FIN := Lib.hid (And.intro fin (And.intro fin2 fin3))
            clear fin fin2 fin3
            gi_wp2
            refine ⟨((KeepsOthers.setCell W _ _).trans (KeepsOthers.drew _)).from _, FIN.out.2.1, FIN.out.1 _, ?_⟩
            have := FIN.out.2.2
            rw [List.length_append]
            exact this
          · have q2 : W.drew.cell? ⟨w.heap.size + 1, 0, none⟩ = some (.bool false) := HB.out.2.2.2.2.1.cell 0
            have q3 : W.drew.frozen? ⟨w.heap.size + 1, 0, none⟩ = false := HB.out.2.2.2.2.1.frozen 0
            by_cases hm : m = y
            · subst hm
              by_cases hg : g1 = f1
              · subst hg
                have hn2 : ¬ g2 = f2 := fun e => hxy (by rw [e])
                iterate 20 (refine ord_take (v := ?_) rfl (by first | with_reducible rfl | kernel_rfl) ?_ ?_; rotate_left; (focus (intro wS hS; (try dsimp only at hS); go_split_ands; go_simp; (try with_reducible rfl); done)); (try simp only [Act.put, List.getElem_toArray, List.getElem_cons_succ, List.getElem_cons_zero, List.setIfInBounds_toArray, List.set_cons_zero, List.set_cons_succ]))
                refine ord_done ?_
                gi_wp2
                exact ⟨((KeepsOthers.setCell W _ _).trans (KeepsOthers.drew _)).from _, .inl ⟨rfl, BadAt.mk HB.out.2.2.2.2.2.1 hxy⟩⟩
              · iterate 20 (refine ord_take (v := ?_) rfl (by first | with_reducible rfl | kernel_rfl) ?_ ?_; rotate_left; (focus (intro wS hS; (try dsimp only at hS); go_split_ands; go_simp; (try with_reducible rfl); done)); (try simp only [Act.put, List.getElem_toArray, List.getElem_cons_succ, List.getElem_cons_zero, List.setIfInBounds_toArray, List.set_cons_zero, List.set_cons_succ]))
                refine ord_done ?_
                gi_wp2
                exact ⟨((KeepsOthers.setCell W _ _).trans (KeepsOthers.drew _)).from _, .inl ⟨rfl, BadAt.mk HB.out.2.2.2.2.2.1 hxy⟩⟩
            · have hne : ((y : Int) == (m : Int)) = false := by simp; omega
              have hne2 : ((y : Int) != (m : Int)) = true := by simp; omega
              iterate 13 (refine ord_take (v := ?_) rfl (by first | with_reducible rfl | kernel_rfl) ?_ ?_; rotate_left; (focus (intro wS hS; (try dsimp only at hS); go_split_ands; go_simp; (try with_reducible rfl); done)); (try simp only [Act.put, List.getElem_toArray, List.getElem_cons_succ, List.getElem_cons_zero, List.setIfInBounds_toArray, List.set_cons_zero, List.set_cons_succ]))
              iterate 6 (refine ord_skip rfl (by kernel_rfl) ?_; (try simp only [Act.put, List.getElem_toArray, List.getElem_cons_succ, List.getElem_cons_zero, List.setIfInBounds_toArray, List.set_cons_zero, List.set_cons_succ]))
              iterate 1 (refine ord_take (v := ?_) rfl (by first | with_reducible rfl | kernel_rfl) ?_ ?_; rotate_left; (focus (intro wS hS; (try dsimp only at hS); go_split_ands; go_simp; (try with_reducible rfl); done)); (try simp only [Act.put, List.getElem_toArray, List.getElem_cons_succ, List.getElem_cons_zero, List.setIfInBounds_toArray, List.set_cons_zero, List.set_cons_succ]))
              refine ord_done ?_
              gi_wp2
              exact ⟨((KeepsOthers.setCell W _ _).trans (KeepsOthers.drew _)).from _, .inl ⟨rfl, BadAt.mk HB.out.2.2.2.2.2.1 hxy⟩⟩
        case done => exact fun xs W h hi => ⟨hi.1, by rw [← h]; exact hi.2⟩
        case stop =>
          rintro c pre W ⟨kk, hkk, hpre⟩ (⟨-, hbad⟩ | ⟨-, h⟩)
          · exact (BadAt.no hbad hpre).elim
          · exact h.elim
        case fine =>
          intro D1 Wb hD1 ⟨U, k13⟩ hd1
          obtain ⟨gt0, k12, -, hz, d0, d1, bX⟩ := HT.out
          have gt := gt0.upd U (fun q e => .inr (by subst e; exact ⟨by omega, fun e => by have := d0 _ e; omega, fun e => by have := d1 _ e; omega⟩))
          have k12W := k12.upd U (by omega)
          have c12 := k12W.cell 0
          have HU1 := Lib.hid (And.intro U (And.intro bX hd1))
          have hsz1 : w2.heap.size ≤ Wa.heap.size := hs0
          simp only [List.getElem?_toArray, List.getElem?_cons_zero] at c12
          have c13 := k13.cell 0
          simp only [List.getElem?_toArray, List.getElem?_cons_zero] at c13
          obtain ⟨Aw, cw, c9⟩ := gt.wlen
          have hnn : ((L.length : Int) != (L.length : Int)) = false := by simp
          clear gt0 k12 hz d0 d1 HT k12W U bX hd1 hs0 lkw
          go_wp2
          rw [rounds_succ]
          clear c12
          have u20 : Upd (fun q => q = Wa.heap.size + 1) w1 Wb := ((Upd.of_below HA.out.2.2.2.2 _).trans (Upd.of_below gt.bel (fun _ => False)) (fun _ h => h.elim))
          have kS := ((H.out.2.2.2.2.1.upd u20 (by have := HA.out.2.2.2.2.size; have := HU0.out.1.size; have := HU0.out.2.1.size; omega)).alloc (.cells #[.int .i64 2] 3))
          have p0 := kS.cell 0
          have p1 := kS.frozen 0
          have kT := kS.set 0 (.bool true)
          have bF : Below w.heap.size w ((Wb.alloc (.cells #[.int .i64 2] 3)).setCell ⟨w.heap.size + 1, 0, none⟩ (.bool true)) := by
            have b1 := (HB.out.trans (gt.bel.mono HB.out.size))
            exact (b1.alloc b1.size _).setCell (by show w.heap.size ≤ w.heap.size + 1; omega) _
          have eD1 : ((Wb.alloc (.cells #[.int .i64 2] 3)).setCell ⟨w.heap.size + 1, 0, none⟩ (.bool true)).heap[D1]? = some (.deferred (some [])) :=
            (KeepsOthers.setCell _ _ _).same D1 _ ((KeepsOthers.alloc Wb _).same D1 _ HU1.out.2.2 rfl) rfl
          have lD0 : D0 < Wa.heap.size := (Array.getElem?_eq_some_iff.1 HU0.out.2.2).1
          have eD0 : ((Wb.alloc (.cells #[.int .i64 2] 3)).setCell ⟨w.heap.size + 1, 0, none⟩ (.bool true)).heap[D0]? = some (.deferred (some [])) :=
            (KeepsOthers.setCell _ _ _).same D0 _ ((KeepsOthers.alloc Wb _).same D0 _ (((HU1.out.1.block D0 (Nat.lt_of_lt_of_le lD0 HU1.out.2.1.size) (by omega)).trans (HU1.out.2.1.block D0 lD0)).trans HU0.out.2.2) rfl) rfl
          have hDD : D0 ≠ D1 := by have := HU1.out.2.1.size; omega
          have hD0w : w.heap.size + 2 ≤ D0 := by have := HA.out.2.2.2.2.size; have := HU0.out.2.1.size; omega
          have hD1w : w.heap.size + 2 ≤ D1 := by have := HU1.out.2.1.size; omega
          have HF := Lib.hid (And.intro kT (And.intro bF (And.intro eD1 eD0)))
          simp only [List.getElem?_toArray, List.getElem?_cons_zero] at p0
          clear u20 kS kT bF eD1 eD0 c9 c13 hnn
          go_wp2
          obtain ⟨kT, bF, eD1, eD0⟩ := HF.out
          generalize (Wb.alloc (.cells #[.int .i64 2] 3)).setCell ⟨w.heap.size + 1, 0, none⟩ (.bool true) = wF at kT bF eD1 eD0 ⊢
          refine ⟨by simp, .inl ⟨_, _, rfl, run_takeDeferred eD1, ?_⟩⟩
          have kD0 : (wF.putObj D1 (.deferred none)).heap[D0]? = some (.deferred (some [])) := ((grownBy_putObj' wF D1 (.deferred none)).block D0 (Array.getElem?_eq_some_iff.1 eD0).1 (fun e => by injection e with e; exact hDD e)).trans eD0
          refine ⟨by simp, .inl ⟨_, _, rfl, run_takeDeferred kD0, ?_⟩⟩
          have kU := (kT.grown (grownBy_putObj' wF D1 (.deferred none)) (fun e => by injection e with e; omega)).grown (grownBy_putObj' _ D0 (.deferred none)) (fun e => by injection e with e; omega)
          have hc5 := kU.cell 0
          simp only [List.setIfInBounds_toArray, List.set_cons_zero, List.getElem?_toArray, List.getElem?_cons_zero] at hc5
          have bG := bF.trans ((belowK_b (w := w) (Nat.le_refl _) wF D1 _ (.deferred none) (by omega) eD1 rfl rfl).trans (belowK_b (w := w) (Nat.le_refl _) _ D0 _ (.deferred none) (by omega) kD0 rfl rfl))
          refine ⟨.bool true, ?_, rfl, bG⟩
          simp [results, Try.f25, go_sem, hc5]
end Go.Proofs.Ytbppbgdmoihooaa
