/- Graphs: Data, Has, New, Nodes, Node, clones. -/
import Derived.Test.YthmkgnifcbnkpaaGreatGm1
import Derived.Test.YthmkgnifcbnkpaaGreatJnA
import Derived.Laws.Cover3
import Derived.Shelf.SlMaps.Clone
namespace Go.Proofs.YthmkgnifcbnkpaaGreat
open Go.RowKit

def edAt (N : List Txt) (k : Nat) (h : Hp) : Ed := ⟨(N[k]?).getD ByteArray.empty, h.lb, (N[h.nd.toNat]?).getD ByteArray.empty⟩
def datTo (N : List Txt) (U : Nat → List Hp) (k : Nat) : List Ed := (List.range k).flatMap fun i => (U i).map (edAt N i)
theorem datTo_succ (N : List Txt) (U : Nat → List Hp) (k : Nat) : datTo N U (k + 1) = datTo N U k ++ (U k).map (edAt N k) := by simp [datTo, List.range_succ]
set_option maxHeartbeats 1000000 in
set_option maxRecDepth 20000 in
theorem is_any (w : World) (p r : Nat) (q1 : w.cell? ⟨p, 1, none⟩ = some (.map (some r))) : Calls Tryz.prog 66 #[.pointer (some ⟨p, 0, none⟩)] w (Only w (.bool true)) := by
  have hq : ∀ W, (binOp .neq 95 (.map (some r)) (.map none)).run Tryz.prog W = .ok (.bool true) W := fun W => by
    have := run_neq_map_nil (P := Tryz.prog) W 95 9 3 (some r) Tryz.underlying95
    simpa using this
  go_enter Tryz.func66, Tryz.ntmps66
  go_wp2
  go_ret
  exact ⟨rfl, rfl⟩
def DataP (w : World) (N : List Txt) (E : List Ed) (e : Ending) (w' : World) : Prop :=
  ∃ A c B d, e = .returned (twoV A (ofN N E).length c B (ofE N E).length d) ∧ w'.ownsRow w.heap.size 9 1 (.slice A (ofN N E).length c) (ofN N E).length (txtCells (ofN N E)) ∧ w'.ownsRow w.heap.size 39 3 (.slice B (ofE N E).length d) (ofE N E).length (edCells (ofE N E)) ∧ Below w.heap.size w w'
set_option maxHeartbeats 4000000 in
set_option maxRecDepth 20000 in
theorem data_any (w : World) (F : Nat → Prop) (p : Nat) (N : List Txt) (U V : Nat → List Hp) (cnt : Int) (h : GrAt w F p N U V cnt) (hl : N.length ≤ 1000000) (hb : ∀ k, (datTo N U k).length ≤ 1000000) (hn : ∀ k x, x ∈ U k → 0 ≤ x.nd ∧ x.nd.toNat < N.length) (hf : FitG N (datTo N U N.length)) :
    Calls Tryz.prog 32 #[.pointer (some ⟨p, 0, none⟩)] w (DataP w N (datTo N U N.length)) := by
  have k0 := Blk.new w 25 #[.slice none 0 0, .slice none 0 0]
  have u0 : Below w.heap.size w (w.alloc (.cells #[.slice none 0 0, .slice none 0 0] 25)) := (Below.refl _ _).alloc (Nat.le_refl _) _
  obtain ⟨O, ⟨r, nv, ov, iv, fo, fi⟩, hg, hFO⟩ := h.below u0
  obtain ⟨nA, nc, e1, hnc, -⟩ := own_form hg.rn
  obtain ⟨oA, oc, e2, -, -⟩ := own_form hg.ro
  dsimp only at e1 e2
  subst e1
  subst e2
  obtain ⟨n, hN⟩ : ∃ n, N.length = n := ⟨_, rfl⟩
  have H := Lib.hid (And.intro hg (And.intro k0 (And.intro u0 (And.intro hb (And.intro hn (And.intro hf hN))))))
  have q0 : (w.alloc (.cells #[.slice none 0 0, .slice none 0 0] 25)).cell? ⟨p, 0, none⟩ = some (.slice nA n nc) := by rw [← hN]; exact hg.blk.cell 0
  have q1 : (w.alloc (.cells #[.slice none 0 0, .slice none 0 0] 25)).cell? ⟨p, 1, none⟩ = some (.map (some r)) := hg.blk.cell 1
  have q2 : (w.alloc (.cells #[.slice none 0 0, .slice none 0 0] 25)).cell? ⟨p, 2, none⟩ = some (.slice oA n oc) := by rw [← hN]; exact hg.blk.cell 2
  rw [hN] at hl hnc
  clear h k0 u0 hg hFO hb hn hf hN
  go_enter Tryz.func32, Tryz.ntmps32
  go_upto_region 1 with (fail)
  generalize w.alloc (.cells #[.slice none 0 0, .slice none 0 0] 25) = W0 at H q0 q1 q2 ⊢
  go_wp2_with fail
  refine (is_any W0 p r q1).mono ?_
  rintro e w' ⟨rfl, hw⟩
  subst w'
  go_wp2_with fail
  clear q1 q2
  go_loopw [3, 19] (fun l i wr => ∃ k : Nat, k ≤ n ∧ i = .int .i64 k ∧ Hid (Below W0.heap.size W0 wr) ∧ Hid (wr.ownsRow W0.heap.size 39 3 l (datTo N U k).length (edCells (datTo N U k)))) (fun _ i _ => n - (intOf i).toNat)
  case atStart => exact ⟨0, Nat.zero_le _, rfl, Lib.hid (Below.refl _ _), Lib.hid (World.ownsRow_nil _ _ _ _)⟩
  case round =>
    obtain ⟨k, hk, rfl, hbw, ho⟩ := hrel
    by_cases hlt : k < n
    · have hltI : (k : Int) < (n : Int) := by omega
      have hkw : IntKind.i64.wrap ((k : Int) + 1) = (k : Int) + 1 := IntWalk.i64_in _ (by omega)
      have hltN : k < N.length := by rw [H.out.2.2.2.2.2.2]; exact hlt
      obtain ⟨s0, hs0⟩ : ∃ s, N[k]? = some s := ⟨N[k], List.getElem?_eq_getElem hltN⟩
      have hg := H.out.1.upd (Upd.of_below hbw.out (fun _ => False)) (fun _ _ => id)
      obtain ⟨og, oc', e, -, co, -⟩ := row_get hg.ro hltN
      dsimp only at e co
      injection e with e e1 e2
      subst e
      clear e1 e2
      obtain ⟨A, cA, eA, -, -⟩ := own_form (hg.fo k)
      dsimp only at eA
      have hrow := H.out.1.fo k
      dsimp only at hrow
      rw [eA] at co hrow
      obtain ⟨m, hm⟩ : ∃ m, (U k).length = m := ⟨_, rfl⟩
      have hm1 : (datTo N U (k + 1)).length ≤ 1000000 := H.out.2.2.2.1 (k + 1)
      rw [datTo_succ, List.length_append, List.length_map, hm] at hm1
      rw [hm] at co
      have HM := Lib.hid (And.intro hm (And.intro (RowR.of_own hrow) hs0))
      clear hg eA hrow hm hs0
      go_wp2_with fail
      clear co
      obtain ⟨W5, hW5⟩ : ∃ W, W = wr := ⟨_, rfl⟩
      subst hW5
      go_loopw [3, 26] (fun l i wz => ∃ j : Nat, j ≤ m ∧ i = .int .i64 j ∧ Hid (Below W0.heap.size W0 wz) ∧ Hid (wz.ownsRow W0.heap.size 39 3 l (datTo N U k ++ ((U k).take j).map (edAt N k)).length (edCells (datTo N U k ++ ((U k).take j).map (edAt N k))))) (fun _ i _ => m - (intOf i).toNat)
      case atStart => exact ⟨0, Nat.zero_le _, rfl, hbw, Lib.hid (by simpa using ho.out)⟩
      case round =>
        obtain ⟨j, hj, rfl, hb0, hown⟩ := hrel
        by_cases hjm : j < m
        · have hjmI : (j : Int) < (m : Int) := by omega
          have hjw : IntKind.i64.wrap ((j : Int) + 1) = (j : Int) + 1 := IntWalk.i64_in _ (by omega)
          obtain ⟨⟨lb, nd⟩, hx⟩ : ∃ x, (U k)[j]? = some x := ⟨(U k)[j]'(by rw [HM.out.1]; exact hjm), List.getElem?_eq_getElem _⟩
          have hnd := H.out.2.2.2.2.1 k _ (List.mem_of_getElem? hx)
          dsimp only at hnd
          obtain ⟨q, rfl⟩ := Int.eq_ofNat_of_zero_le hnd.1
          have hqN : q < N.length := by have := hnd.2; omega
          have hqn : q < n := by have := H.out.2.2.2.2.2.2; omega
          obtain ⟨s1, hs1⟩ : ∃ s, N[q]? = some s := ⟨N[q], List.getElem?_eq_getElem hqN⟩
          obtain ⟨ab, ao, rfl, y0, y1⟩ := (HM.out.2.1.below hb0.out).hp hx
          dsimp only at y0 y1
          have hg := H.out.1.upd (Upd.of_below hb0.out (fun _ => False)) (fun _ _ => id)
          obtain ⟨ng, nc', eN, -, -, -, -, cN⟩ := own_cells hg.rn (by omega)
          dsimp only at eN
          injection eN with eN e1 e2
          subst eN
          clear e1 e2
          have z0 : wr.cell? ⟨p, 0, none⟩ = some (.slice (some ⟨ng, 0, none⟩) n nc) := by rw [← H.out.2.2.2.2.2.2]; exact hg.blk.cell 0
          have z1 : wr.cell? ⟨ng, k, none⟩ = some (.string s0) := (cN k (.string s0) (by simp [txtCells, HM.out.2.2])).1
          have z2 : wr.cell? ⟨ng, q, none⟩ = some (.string s1) := (cN q (.string s1) (by simp [txtCells, hs1])).1
          have kx := Blk.new wr 92 #[.string lb, .int .i64 (q : Int)]
          have ux : Below wr.heap.size wr (wr.alloc (.cells #[.string lb, .int .i64 (q : Int)] 92)) := (Below.refl _ _).alloc (Nat.le_refl _) _
          have lp := World.block_lt_of_cell? wr _ z0
          have ln := World.block_lt_of_cell? wr _ z1
          have hgp : ∀ b, W0.heap.size ≤ b → ng ≠ b := fun b hb e => by
            have := H.out.1.rn.lt ng rfl
            omega
          have hpp : ∀ b, W0.heap.size ≤ b → p ≠ b := fun b hb e => by
            have := H.out.1.blk.lt
            omega
          have hl5 : ((datTo N U k ++ ((U k).take j).map (edAt N k)).length + 1) * 48 ≤ 140737488355328 := by
            rw [List.length_append, List.length_map, List.length_take, HM.out.1]
            have := Nat.min_le_left j m
            omega
          have hed : edAt N k ⟨lb, (q : Int)⟩ = ⟨s0, lb, s1⟩ := by
            unfold edAt
            simp [HM.out.2.2, hs1]
          have htk : datTo N U k ++ ((U k).take (j + 1)).map (edAt N k) = (datTo N U k ++ ((U k).take j).map (edAt N k)) ++ [⟨s0, lb, s1⟩] := by
            rw [List.take_add_one, hx, ← hed]
            simp
          have own5 := (hown.out.alloc (.cells #[.string lb, .int .i64 (q : Int)] 92))
          have HX := Lib.hid (And.intro kx (And.intro ux (And.intro own5 (And.intro hl5 (And.intro htk hown.out.lt)))))
          have SR := Lib.hid (show ∀ W, Upd (fun b => W0.heap.size ≤ b ∧ b < wr.heap.size) (wr.alloc (.cells #[.string lb, .int .i64 (q : Int)] 92)) W → W.cell? ⟨p, 0, none⟩ = some (.slice (some ⟨ng, 0, none⟩) n nc) ∧ W.cell? ⟨ng, k, none⟩ = some (.string s0) ∧ W.cell? ⟨ng, q, none⟩ = some (.string s1) ∧ W.cell? ⟨wr.heap.size, 0, none⟩ = some (.string lb) ∧ W.cell? ⟨wr.heap.size, 1, none⟩ = some (.int .i64 (q : Int)) from fun W hu => by
            have hz : (wr.alloc (.cells #[.string lb, .int .i64 (q : Int)] 92)).heap.size = wr.heap.size + 1 := by simp
            have kk := kx.upd hu (fun e => by have := e.2; omega)
            refine ⟨?_, ?_, ?_, kk.cell 0, kk.cell 1⟩
            · rw [hu.cell (p := ⟨p, 0, none⟩) (by rw [hz]; exact Nat.lt_succ_of_lt lp) (fun e => hpp _ e.1 rfl), World.cell?_alloc_past _ p 0 lp]; exact z0
            · rw [hu.cell (p := ⟨ng, k, none⟩) (by rw [hz]; exact Nat.lt_succ_of_lt ln) (fun e => hgp _ e.1 rfl), World.cell?_alloc_past _ ng k ln]; exact z1
            · rw [hu.cell (p := ⟨ng, q, none⟩) (by rw [hz]; exact Nat.lt_succ_of_lt ln) (fun e => hgp _ e.1 rfl), World.cell?_alloc_past _ ng q ln]; exact z2)
          have hS := SR.out (wr.alloc (.cells #[.string lb, .int .i64 (q : Int)] 92)).drew (Upd.refl _ _).drew
          clear kx ux own5 hl5 htk hed hg cN z0 z1 z2 hx hs1 lp ln hgp hpp hnd hown
          go_upto_region 10 with (fail)
          generalize wr.alloc (.cells #[.string lb, .int .i64 (q : Int)] 92) = W6 at HX SR hS ⊢
          clear y0 y1
          refine wp_region_ord (fun W => W.cell? ⟨p, 0, none⟩ = some (.slice (some ⟨ng, 0, none⟩) n nc) ∧ W.cell? ⟨ng, k, none⟩ = some (.string s0) ∧ W.cell? ⟨ng, q, none⟩ = some (.string s1) ∧ W.cell? ⟨wr.heap.size, 0, none⟩ = some (.string lb) ∧ W.cell? ⟨wr.heap.size, 1, none⟩ = some (.int .i64 (q : Int))) 22 [(0, true), (1, true), (2, true), (3, true), (4, true), (5, true), (6, true), (7, true), (8, true), (9, true), (10, true), (11, true), (12, true), (13, true), (14, true), (15, true), (16, true), (17, true), (18, true), (19, false), (20, false), (21, true)] (by kernel_rfl) (by kernel_rfl) (fun _ _ d _ _ h => by cases d <;> exact h) hS ?_
          iterate 19 (refine ord_take (v := ?_) rfl (by first | with_reducible rfl | kernel_rfl) ?_ ?_; rotate_left; (focus (intro wS hS; (try dsimp only at hS); go_split_ands; go_simp; (try with_reducible rfl); done)); (try simp only [Act.put, List.getElem_toArray, List.getElem_cons_succ, List.getElem_cons_zero, List.setIfInBounds_toArray, List.set_cons_zero, List.set_cons_succ]))
          refine ord_do rfl rfl (fun K hK => ?_)
          go_simp
          refine hK _ _ (fun _ => SR.out _ ((Upd.refl _ W6).drew.alloc (.cells #[.string s0, .string lb, .string s1] 39))) ?_
          clear hK K hS
          (try simp only [Act.put, List.getElem_toArray, List.getElem_cons_succ, List.getElem_cons_zero, List.setIfInBounds_toArray, List.set_cons_zero, List.set_cons_succ])
          obtain ⟨v7, W7, happ, own7, up7, pl7⟩ := push_ed W6.drew W0.heap.size _ _ (ownsRow_upd HX.out.2.2.1 (Upd.refl (fun _ => False) W6).drew (fun _ _ h => h)) ⟨s0, lb, s1⟩ HX.out.2.2.2.1 (by have := HX.out.2.1.size; have := hb0.out.size; exact Nat.le_trans hb0.out.size HX.out.2.1.size)
          dsimp only at happ
          have u67 : Upd (fun b => W0.heap.size ≤ b ∧ b < wr.heap.size) W6 W7 := ((Upd.refl (fun _ => False) W6).drew.mono (fun _ _ h => h.elim)).trans up7 (fun b hb => .inl (HX.out.2.2.2.2.2 b hb))
          have b07 : Below W0.heap.size W0 W7 := hb0.out.trans ((HX.out.2.1.mono hb0.out.size).trans (u67.below (fun b _ hb => hb.1) (Nat.le_trans hb0.out.size HX.out.2.1.size)))
          have hS := SR.out _ u67
          have HF := Lib.hid (And.intro b07 own7)
          clear own7 up7 pl7 u67 b07
          refine ord_do rfl rfl (fun K hK => ?_)
          refine wp_append_run _ _ _ rfl rfl rfl happ ?_
          refine hK _ _ (fun _ => hS) ?_
          clear hK K happ
          (try simp only [Act.put, List.getElem_toArray, List.getElem_cons_succ, List.getElem_cons_zero, List.setIfInBounds_toArray, List.set_cons_zero, List.set_cons_succ])
          (refine ord_take (v := ?_) rfl (by first | with_reducible rfl | kernel_rfl) ?_ ?_; rotate_left; (focus (intro wS hS; (try dsimp only at hS); go_split_ands; go_simp; (try with_reducible rfl); done)); (try simp only [Act.put, List.getElem_toArray, List.getElem_cons_succ, List.getElem_cons_zero, List.setIfInBounds_toArray, List.set_cons_zero, List.set_cons_succ]))
          refine ord_done ?_
          clear hS
          go_wp2
          go_roundw
          case rel => exact ⟨j + 1, by omega, by go_num, Lib.hid HF.out.1, Lib.hid (by rw [HX.out.2.2.2.2.1]; exact HF.out.2)⟩
          case measure => simp [intOf]; omega
        · obtain rfl : j = m := by omega
          go_wp2
          go_roundw
          case rel => exact ⟨k + 1, by omega, by go_num, hb0, Lib.hid (by
            have := hown.out
            rw [← HM.out.1, List.take_length] at this
            rw [datTo_succ]
            exact this)⟩
          case measure => simp [intOf]; omega
    · obtain rfl : k = n := by omega
      obtain ⟨lA, lc, rfl, hlc, -⟩ := own_form ho.out
      have hg := H.out.1.upd (Upd.of_below hbw.out (fun _ => False)) (fun _ _ => id)
      have z0 : wr.cell? ⟨p, 0, none⟩ = some (.slice nA k nc) := by rw [← H.out.2.2.2.2.2.2]; exact hg.blk.cell 0
      have hl0 : (datTo N U k).length ≤ 1000000 := H.out.2.2.2.1 k
      have hfor : ForG wr nA nc lA lc N (datTo N U k) := ⟨RowR.of_own hg.rn, RowR.of_own ho.out, by rw [H.out.2.2.2.2.2.2]; exact hnc, hlc, by have := H.out.2.2.2.2.2.1; rw [H.out.2.2.2.2.2.2] at this; exact this⟩
      have hcon := of_any wr nA nc lA lc N (datTo N U k) hfor (by rw [H.out.2.2.2.2.2.2]; omega)
      rw [H.out.2.2.2.2.2.2] at hcon
      clear hg hfor ho
      go_wp2_with fail
      refine hcon.mono ?_
      clear hcon z0
      rintro e W5 ⟨A5, c5, B5, d5, rfl, o1, o2, b5⟩
      unfold twoV
      obtain ⟨x1, hx1⟩ : ∃ m, (ofN N (datTo N U k)).length = m := ⟨_, rfl⟩
      obtain ⟨x2, hx2⟩ : ∃ m, (ofE N (datTo N U k)).length = m := ⟨_, rfl⟩
      rw [hx1] at o1 ⊢
      rw [hx2] at o2 ⊢
      have b05 := hbw.out.trans (b5.mono hbw.out.size)
      have k5 := (H.out.2.1.upd (Upd.of_below b05 (fun _ => False)) id).alloc (.cells #[.slice A5 x1 c5, .slice B5 x2 d5] 25)
      have k6 := Blk.new W5 25 #[.slice A5 x1 c5, .slice B5 x2 d5]
      have h0 : w.heap.size < W5.heap.size := by have := H.out.2.1.lt; have := b05.size; omega
      have r0 : (W5.alloc (.cells #[.slice A5 x1 c5, .slice B5 x2 d5] 25)).cell? ⟨w.heap.size, 0, none⟩ = some (.slice none 0 0) := k5.cell 0
      have r1 : (W5.alloc (.cells #[.slice A5 x1 c5, .slice B5 x2 d5] 25)).cell? ⟨w.heap.size, 1, none⟩ = some (.slice none 0 0) := k5.cell 1
      have f0 := k5.frozen 0
      have f1 := k5.frozen 1
      have x0 : (W5.alloc (.cells #[.slice A5 x1 c5, .slice B5 x2 d5] 25)).cell? ⟨W5.heap.size, 0, none⟩ = some (.slice A5 x1 c5) := k6.cell 0
      have x1' : (W5.alloc (.cells #[.slice A5 x1 c5, .slice B5 x2 d5] 25)).cell? ⟨W5.heap.size, 1, none⟩ = some (.slice B5 x2 d5) := k6.cell 1
      have kF := (k5.set 0 (.slice A5 x1 c5)).set 1 (.slice B5 x2 d5)
      have uF := ((Upd.refl (fun q => q = w.heap.size) (W5.alloc (.cells #[.slice A5 x1 c5, .slice B5 x2 d5] 25))).setCell (p := ⟨w.heap.size, 0, none⟩) (.inl rfl) (.slice A5 x1 c5)).setCell (p := ⟨w.heap.size, 1, none⟩) (.inl rfl) (.slice B5 x2 d5)
      have e0 := kF.cell 0
      have e1 := kF.cell 1
      simp only [List.setIfInBounds_toArray, List.set_cons_zero, List.set_cons_succ, List.getElem?_toArray, List.getElem?_cons_succ, List.getElem?_cons_zero] at e0 e1
      have bF := (b5.alloc b5.size (.cells #[.slice A5 x1 c5, .slice B5 x2 d5] 25))
      have HO := Lib.hid (And.intro o1 o2)
      have FIN := Lib.hid (show DataP w N (datTo N U k) (.returned (.agg #[.slice A5 x1 c5, .slice B5 x2 d5])) (((W5.alloc (.cells #[.slice A5 x1 c5, .slice B5 x2 d5] 25)).setCell ⟨w.heap.size, 0, none⟩ (.slice A5 x1 c5)).setCell ⟨w.heap.size, 1, none⟩ (.slice B5 x2 d5)) from by
        have hw : w.heap.size ≤ wr.heap.size := Nat.le_trans H.out.2.2.1.size hbw.out.size
        have no : ∀ {v : Value} {e size m : Nat} {xs : List Value}, W5.ownsRow wr.heap.size e size v m xs → (((W5.alloc (.cells #[.slice A5 x1 c5, .slice B5 x2 d5] 25)).setCell ⟨w.heap.size, 0, none⟩ (.slice A5 x1 c5)).setCell ⟨w.heap.size, 1, none⟩ (.slice B5 x2 d5)).ownsRow w.heap.size e size v m xs := fun h => by
          refine ownsRow_base (ownsRow_upd (h.alloc _) uF (fun q hq e => ?_)) (fun q hq => Nat.le_trans hw (h.lt q hq).1)
          have := (h.lt q hq).1
          have := H.out.2.1.lt
          have := hbw.out.size
          omega
        exact ⟨A5, c5, B5, d5, by rw [hx1, hx2]; rfl, by rw [hx1]; exact no o1, by rw [hx2]; exact no o2, H.out.2.2.1.trans ((hbw.out.mono H.out.2.2.1.size).trans ((bF.mono hw).trans (uF.below (fun q _ e => Nat.le_of_eq e.symm) (Nat.le_trans hw bF.size))))⟩)
      clear k5 k6 kF uF bF o1 o2 hx1 hx2 b5 b05
      go_upto_region 14 with (fail)
      generalize W5.alloc (.cells #[.slice A5 x1 c5, .slice B5 x2 d5] 25) = W6 at r0 r1 f0 f1 x0 x1' e0 e1 FIN ⊢
      go_wp2
      refine bodyPost_ret (v := .agg #[.slice A5 x1 c5, .slice B5 x2 d5]) (by simp [results, Tryz.f32, go_sem, e0, e1]) rfl ?_
      have hNk := H.out.2.2.2.2.2.2
      rw [hNk]
      exact FIN.out
end Go.Proofs.YthmkgnifcbnkpaaGreat
namespace Go.Proofs.YthmkgnifcbnkpaaGreat
open Go.RowKit

structure HopsOK (N : List Txt) (X : List Ed) (U V : Nat → List Hp) : Prop where
  up : ∀ k, Rises ltH (U k)
  vp : ∀ k, Rises ltH (V k)
  um : ∀ k h, h ∈ U k ↔ ∃ x ∈ X, N[k]? = some x.fr ∧ h = ⟨x.lb, (idxT N x.to : Int)⟩
  vm : ∀ k h, h ∈ V k ↔ ∃ x ∈ X, N[k]? = some x.to ∧ h = ⟨x.lb, (idxT N x.fr : Int)⟩
/-- Block p is this graph. -/
def GrS (w : World) (F : Nat → Prop) (p : Nat) (G : Gr) : Prop := ∃ U V, GrAt w F p G.N U V G.X.length ∧ HopsOK G.N G.X U V
theorem GrS.upd {w w' : World} {F Q : Nat → Prop} {p : Nat} {G : Gr} (h : GrS w F p G) (hu : Upd Q w w') (hd : ∀ k, F k → ¬ Q k) : GrS w' F p G := by
  obtain ⟨U, V, h1, h2⟩ := h
  exact ⟨U, V, h1.upd hu hd, h2⟩
theorem GrS.below {w w' : World} {F : Nat → Prop} {p : Nat} {G : Gr} (h : GrS w F p G) (hb : Below w.heap.size w w') : GrS w' F p G := h.upd (Upd.of_below hb (fun _ => False)) (fun _ _ => id)
theorem GrS.lt {w : World} {F : Nat → Prop} {p : Nat} {G : Gr} (h : GrS w F p G) : ∀ k, F k → k < w.heap.size := by
  obtain ⟨U, V, h1, -⟩ := h
  exact h1.lt
/-- What a call that turns a graph leaves. -/
def GrTo (w : World) (F : Nat → Prop) (p : Nat) (G : Gr) (w' : World) : Prop := ∃ F', GrS w' F' p G ∧ Upd F w w' ∧ ∀ k, F' k → F k ∨ w.heap.size ≤ k
theorem GrTo.refl {w w' : World} {F : Nat → Prop} {p : Nat} {G : Gr} (h : GrS w F p G) (hb : Below w.heap.size w w') : GrTo w F p G w' := ⟨F, h.below hb, Upd.of_below hb F, fun _ hk => .inl hk⟩

theorem HopsOK.new : HopsOK [] [] (fun _ => []) (fun _ => []) := ⟨fun _ => List.Pairwise.nil, fun _ => List.Pairwise.nil, fun k h => by simp, fun k h => by simp⟩
theorem at_addN {N : List Txt} {s t : Txt} (h : t ∈ N) (k : Nat) : (addN N s)[k]? = some t ↔ N[k]? = some t := by
  unfold addN
  split
  · rfl
  · rename_i hs
    constructor
    · intro e
      rw [List.getElem?_append] at e
      split at e
      · exact e
      · rw [List.getElem?_singleton] at e
        split at e
        · injection e with e
          exact (hs (inB_iff.2 (by rw [e]; exact h))).elim
        · cases e
    · intro e
      rw [List.getElem?_append_left (List.getElem?_eq_some_iff.1 e).1]
      exact e
theorem HopsOK.node {N : List Txt} {X : List Ed} {U V : Nat → List Hp} (h : HopsOK N X U V) (he : ∀ x ∈ X, x.fr ∈ N ∧ x.to ∈ N) (s : Txt) : HopsOK (addN N s) X U V := by
  refine ⟨h.up, h.vp, fun k y => ?_, fun k y => ?_⟩
  · rw [h.um]
    constructor
    · rintro ⟨x, hx, h1, h2⟩
      exact ⟨x, hx, (at_addN (he x hx).1 k).2 h1, by rw [idxT_addN (he x hx).2]; exact h2⟩
    · rintro ⟨x, hx, h1, h2⟩
      exact ⟨x, hx, (at_addN (he x hx).1 k).1 h1, by rw [idxT_addN (he x hx).2] at h2; exact h2⟩
  · rw [h.vm]
    constructor
    · rintro ⟨x, hx, h1, h2⟩
      exact ⟨x, hx, (at_addN (he x hx).2 k).2 h1, by rw [idxT_addN (he x hx).1]; exact h2⟩
    · rintro ⟨x, hx, h1, h2⟩
      exact ⟨x, hx, (at_addN (he x hx).2 k).1 h1, by rw [idxT_addN (he x hx).1] at h2; exact h2⟩
theorem idxT_inj {N : List Txt} {s t : Txt} (hs : s ∈ N) (ht : t ∈ N) (e : (idxT N s : Int) = idxT N t) : s = t := by
  have e : idxT N s = idxT N t := by omega
  have h1 := idxT_at hs
  rw [e, idxT_at ht] at h1
  injection h1 with h1
  exact h1.symm
theorem HopsOK.edge {N : List Txt} {X : List Ed} {U V : Nat → List Hp} (h : HopsOK N X U V) (hN : N.Nodup) (he : ∀ x ∈ X, x.fr ∈ N ∧ x.to ∈ N) {x : Ed} (hf : x.fr ∈ N) (ht : x.to ∈ N) (hx : x ∉ X) : HopsOK N (X ++ [x]) (hopsU N U x) (hopsV N V x) := by
  have nU : (⟨x.lb, (idxT N x.to : Int)⟩ : Hp) ∉ U (idxT N x.fr) := fun hm => by
    obtain ⟨y, hy, h1, h2⟩ := (h.um _ _).1 hm
    rw [idxT_at hf] at h1
    injection h1 with h1
    injection h2 with h2 h3
    have := idxT_inj ht (he y hy).2 h3
    obtain ⟨a, b, c⟩ := x
    obtain ⟨a', b', c'⟩ := y
    dsimp only at h1 h2 this
    subst h1; subst h2; subst this
    exact hx hy
  have nV : (⟨x.lb, (idxT N x.fr : Int)⟩ : Hp) ∉ V (idxT N x.to) := fun hm => by
    obtain ⟨y, hy, h1, h2⟩ := (h.vm _ _).1 hm
    rw [idxT_at ht] at h1
    injection h1 with h1
    injection h2 with h2 h3
    have := idxT_inj hf (he y hy).1 h3
    obtain ⟨a, b, c⟩ := x
    obtain ⟨a', b', c'⟩ := y
    dsimp only at h1 h2 this
    subst h1; subst h2; subst this
    exact hx hy
  refine ⟨fun k => ?_, fun k => ?_, fun k y => ?_, fun k y => ?_⟩
  · unfold hopsU fset
    split
    · exact putH_rises (h.up _) nU
    · exact h.up k
  · unfold hopsV fset
    split
    · exact putH_rises (h.vp _) nV
    · exact h.vp k
  · unfold hopsU fset
    split
    · rename_i hk
      subst hk
      rw [putH_mem, h.um]
      constructor
      · rintro (⟨z, hz, h1, h2⟩ | rfl)
        · exact ⟨z, List.mem_append.2 (.inl hz), h1, h2⟩
        · exact ⟨x, by simp, idxT_at hf, rfl⟩
      · rintro ⟨z, hz, h1, h2⟩
        rcases List.mem_append.1 hz with hz | hz
        · exact .inl ⟨z, hz, h1, h2⟩
        · rw [List.mem_singleton] at hz
          subst hz
          exact .inr h2
    · rename_i hk
      rw [h.um]
      constructor
      · rintro ⟨z, hz, h1, h2⟩
        exact ⟨z, List.mem_append.2 (.inl hz), h1, h2⟩
      · rintro ⟨z, hz, h1, h2⟩
        rcases List.mem_append.1 hz with hz | hz
        · exact ⟨z, hz, h1, h2⟩
        · rw [List.mem_singleton] at hz
          subst hz
          exact (hk (idxT_is hN h1).symm).elim
  · unfold hopsV fset
    split
    · rename_i hk
      subst hk
      rw [putH_mem, h.vm]
      constructor
      · rintro (⟨z, hz, h1, h2⟩ | rfl)
        · exact ⟨z, List.mem_append.2 (.inl hz), h1, h2⟩
        · exact ⟨x, by simp, idxT_at ht, rfl⟩
      · rintro ⟨z, hz, h1, h2⟩
        rcases List.mem_append.1 hz with hz | hz
        · exact .inl ⟨z, hz, h1, h2⟩
        · rw [List.mem_singleton] at hz
          subst hz
          exact .inr h2
    · rename_i hk
      rw [h.vm]
      constructor
      · rintro ⟨z, hz, h1, h2⟩
        exact ⟨z, List.mem_append.2 (.inl hz), h1, h2⟩
      · rintro ⟨z, hz, h1, h2⟩
        rcases List.mem_append.1 hz with hz | hz
        · exact ⟨z, hz, h1, h2⟩
        · rw [List.mem_singleton] at hz
          subst hz
          exact (hk (idxT_is hN h1).symm).elim
theorem HopsOK.len {N : List Txt} {X : List Ed} {U V : Nat → List Hp} (h : HopsOK N X U V) (k : Nat) : (U k).length ≤ X.length ∧ (V k).length ≤ X.length := by
  constructor
  · have := len_sub (L := U k) (M := X.map fun x => (⟨x.lb, (idxT N x.to : Int)⟩ : Hp)) ((h.up k).nodup stoH) (fun y hy => by
      obtain ⟨x, hx, -, e⟩ := (h.um k y).1 hy
      exact List.mem_map.2 ⟨x, hx, e.symm⟩)
    simpa using this
  · have := len_sub (L := V k) (M := X.map fun x => (⟨x.lb, (idxT N x.fr : Int)⟩ : Hp)) ((h.vp k).nodup stoH) (fun y hy => by
      obtain ⟨x, hx, -, e⟩ := (h.vm k y).1 hy
      exact List.mem_map.2 ⟨x, hx, e.symm⟩)
    simpa using this
theorem HopsOK.out {N : List Txt} {X : List Ed} {U V : Nat → List Hp} (h : HopsOK N X U V) {k : Nat} (hk : N.length ≤ k) : U k = [] ∧ V k = [] := by
  constructor
  · refine List.eq_nil_iff_forall_not_mem.2 fun y hy => ?_
    obtain ⟨x, -, e, -⟩ := (h.um k y).1 hy
    rw [List.getElem?_eq_none hk] at e
    cases e
  · refine List.eq_nil_iff_forall_not_mem.2 fun y hy => ?_
    obtain ⟨x, -, e, -⟩ := (h.vm k y).1 hy
    rw [List.getElem?_eq_none hk] at e
    cases e
theorem datTo_len {N : List Txt} {X : List Ed} {U V : Nat → List Hp} (h : HopsOK N X U V) : ∀ k, (datTo N U k).length ≤ N.length * X.length
  | 0 => by simp [datTo]
  | k + 1 => by
    have key : ∀ j, j ≤ N.length → (datTo N U j).length ≤ j * X.length := fun j => by
      induction j with
      | zero => intro _; simp [datTo]
      | succ j ih =>
        intro hj
        have h1 := ih (by omega)
        have h2 := (h.len j).1
        rw [datTo_succ, List.length_append, List.length_map, Nat.add_mul]
        omega
    by_cases hk : k + 1 ≤ N.length
    · exact Nat.le_trans (key _ hk) (Nat.mul_le_mul_right _ hk)
    · have h1 := datTo_len h k
      rw [datTo_succ, (h.out (by omega)).1]
      simpa using h1
theorem datTo_mem {N : List Txt} {X : List Ed} {U V : Nat → List Hp} (h : HopsOK N X U V) (he : ∀ x ∈ X, x.fr ∈ N ∧ x.to ∈ N) (y : Ed) : y ∈ datTo N U N.length ↔ y ∈ X := by
  unfold datTo
  simp only [List.mem_flatMap, List.mem_range, List.mem_map]
  constructor
  · rintro ⟨k, hk, z, hz, rfl⟩
    obtain ⟨x, hx, h1, rfl⟩ := (h.um k z).1 hz
    unfold edAt
    dsimp only
    rw [h1, Int.toNat_natCast, idxT_at (he x hx).2]
    exact hx
  · intro hy
    refine ⟨idxT N y.fr, idxT_lt (he y hy).1, ⟨y.lb, (idxT N y.to : Int)⟩, (h.um _ _).2 ⟨y, hy, idxT_at (he y hy).1, rfl⟩, ?_⟩
    unfold edAt
    dsimp only
    rw [idxT_at (he y hy).1, Int.toNat_natCast, idxT_at (he y hy).2]
    rfl
/-- How great a graph may be. -/
theorem GOk.few {G : Gr} (h : GOk G) : G.N.length ≤ 32 ∧ G.X.length ≤ 256 := by
  have hc := ofI_caps h.may
  have h1 := len_sub h.nd (M := gN G.N G.X) (fun s hs => gN_mem.2 (.inl hs))
  have h2 := len_sub h.xd (M := gE G.X) (fun s hs => gE_mem.2 hs)
  unfold capsI at hc
  split at hc
  · cases hc
  split at hc
  · cases hc
  split at hc
  · cases hc
  omega
theorem dat_same {G : Gr} (h : GOk G) {U V : Nat → List Hp} (ho : HopsOK G.N G.X U V) : ofI G.N (datTo G.N U G.N.length) = 0 ∧ ofN G.N (datTo G.N U G.N.length) = datN G ∧ ofE G.N (datTo G.N U G.N.length) = datE G := by
  have hm := datTo_mem ho h.ends
  have h1 : ofI G.N (datTo G.N U G.N.length) = ofI G.N G.X := ofI_same (fun s => by simp only [hm]) hm (fun s hs => .inl hs) (fun s hs => .inl hs)
  have h0 := h1.trans h.may
  refine ⟨h0, ?_, ?_⟩
  · unfold ofN
    rw [if_pos h0]
    exact gN_same (fun s => by simp only [hm])
  · unfold ofE
    rw [if_pos h0]
    exact gE_same hm
theorem dat_fit {G : Gr} (h : GOk G) {U V : Nat → List Hp} (ho : HopsOK G.N G.X U V) : FitG G.N (datTo G.N U G.N.length) := by
  have hf := h.few
  have hs := Short.of (ofI_named h.may)
  have hl := datTo_len ho G.N.length
  have h8 : G.N.length * G.X.length ≤ 32 * 256 := Nat.mul_le_mul hf.1 hf.2
  refine ⟨by omega, by omega, fun t ht => by have := hs.n t ht; unfold TxtOk; omega, fun x hx => ?_⟩
  have := hs.e x ((datTo_mem ho h.ends x).1 hx)
  unfold EdOk TxtOk
  omega
def DatP (w : World) (G : Gr) (e : Ending) (w' : World) : Prop :=
  ∃ A c B d, e = .returned (twoV A (datN G).length c B (datE G).length d) ∧ w'.ownsRow w.heap.size 9 1 (.slice A (datN G).length c) (datN G).length (txtCells (datN G)) ∧ w'.ownsRow w.heap.size 39 3 (.slice B (datE G).length d) (datE G).length (edCells (datE G)) ∧ Below w.heap.size w w'
theorem data_gr (w : World) (F : Nat → Prop) (p : Nat) (G : Gr) (h : GrS w F p G) (ok : GOk G) : Calls Tryz.prog 32 #[.pointer (some ⟨p, 0, none⟩)] w (DatP w G) := by
  obtain ⟨U, V, hg, ho⟩ := h
  have hf := ok.few
  have hd := dat_same ok ho
  have h8 : G.N.length * G.X.length ≤ 32 * 256 := Nat.mul_le_mul hf.1 hf.2
  refine (data_any w F p G.N U V _ hg (by omega) (fun k => by have := datTo_len ho k; omega) (fun k x hx => ?_) (dat_fit ok ho)).mono ?_
  · obtain ⟨y, hy, -, rfl⟩ := (ho.um k x).1 hx
    exact ⟨Int.natCast_nonneg _, by simpa using idxT_lt (ok.ends y hy).2⟩
  · rintro e w' ⟨A, c, B, d, rfl, o1, o2, b⟩
    rw [hd.2.1] at o1 ⊢
    rw [hd.2.2] at o2 ⊢
    exact ⟨A, c, B, d, rfl, o1, o2, b⟩
end Go.Proofs.YthmkgnifcbnkpaaGreat
namespace Go.Proofs.YthmkgnifcbnkpaaGreat
open Go.RowKit

theorem HopsOK.has {N : List Txt} {X : List Ed} {U V : Nat → List Hp} (h : HopsOK N X U V) (he : ∀ x ∈ X, x.fr ∈ N ∧ x.to ∈ N) {x : Ed} (hf : x.fr ∈ N) (ht : x.to ∈ N) : (⟨x.lb, (idxT N x.to : Int)⟩ : Hp) ∈ U (idxT N x.fr) ↔ x ∈ X := by
  rw [h.um]
  constructor
  · rintro ⟨y, hy, h1, h2⟩
    rw [idxT_at hf] at h1
    injection h1 with h1
    injection h2 with h2 h3
    have := idxT_inj ht (he y hy).2 h3
    obtain ⟨a, b, c⟩ := x
    obtain ⟨a', b', c'⟩ := y
    dsimp only at h1 h2 this
    subst h1; subst h2; subst this
    exact hy
  · intro hx
    exact ⟨x, hx, idxT_at hf, rfl⟩
theorem numT_in {N : List Txt} {s : Txt} (h : s ∈ N) : numT N s = (idxT N s : Int) + 1 := by unfold numT; rw [if_pos (inB_iff.2 h)]
theorem numT_out {N : List Txt} {s : Txt} (h : s ∉ N) : numT N s = 0 := by unfold numT; rw [if_neg (fun e => h (inB_iff.1 e))]
set_option maxHeartbeats 4000000 in
set_option maxRecDepth 20000 in
theorem has_gr (w : World) (F : Nat → Prop) (p : Nat) (G : Gr) (h : GrS w F p G) (ok : GOk G) (x : Ed) (k0 : TxtOk x.fr) (k2 : TxtOk x.to) :
    Calls Tryz.prog 38 #[.pointer (some ⟨p, 0, none⟩), .string x.fr, .string x.lb, .string x.to] w (Sam w (.bool (decide (x ∈ G.X)))) := by
  obtain ⟨U, V, ⟨O, ⟨r, nv, ov, iv, fo, fi⟩, hg, -⟩, ho⟩ := h
  have q1 : w.cell? ⟨p, 1, none⟩ = some (.map (some r)) := hg.blk.cell 1
  have l0 := look_num hg.map x.fr k0
  have l1 := look_num hg.map x.to k2
  by_cases hf : x.fr ∈ G.N
  · rw [numT_in hf] at l0
    have hlf := idxT_lt hf
    have hN := ok.few.1
    obtain ⟨i, hi⟩ : ∃ i, idxT G.N x.fr = i := ⟨_, rfl⟩
    rw [hi] at l0 hlf
    have z0 : ((i : Int) + 1 == 0) = false := by simp; omega
    by_cases ht : x.to ∈ G.N
    · rw [numT_in ht] at l1
      have hlt := idxT_lt ht
      obtain ⟨j, hj⟩ : ∃ j, idxT G.N x.to = j := ⟨_, rfl⟩
      rw [hj] at l1 hlt
      have z1 : ((j : Int) + 1 == 0) = false := by simp; omega
      have w0 : IntKind.i64.wrap (i : Int) = (i : Int) := IntWalk.i64_in _ (by omega)
      have w1 : IntKind.i64.wrap (j : Int) = (j : Int) := IntWalk.i64_in _ (by omega)
      have hdec : decide ((⟨x.lb, (j : Int)⟩ : Hp) ∈ U i) = decide (x ∈ G.X) := by rw [← hi, ← hj]; exact decide_eq_decide.2 (ho.has ok.ends hf ht)
      obtain ⟨og, oc, eo, -, co, -⟩ := row_get hg.ro hlf
      dsimp only at eo co
      subst eo
      obtain ⟨A, cA, eA, -, -⟩ := own_form (hg.fo i)
      dsimp only at eA
      have hrow := hg.fo i
      dsimp only at hrow
      rw [eA] at co hrow
      have hUl := (ho.len i).1
      have hX := ok.few.2
      have hcon := fun W (hb : Below w.heap.size w W) => bsf_any W A cA (U i) ⟨x.lb, (j : Int)⟩ ((RowR.of_own hrow).below hb) (ho.up i) (by omega)
      rw [hdec] at hcon
      obtain ⟨m, hm⟩ : ∃ m, (U i).length = m := ⟨_, rfl⟩
      rw [hm] at hcon co
      obtain ⟨n, hn⟩ : ∃ n, G.N.length = n := ⟨_, rfl⟩
      have q2 : w.cell? ⟨p, 2, none⟩ = some (.slice (some ⟨og, 0, none⟩) n oc) := by rw [← hn]; exact hg.blk.cell 2
      rw [hn] at hlf hlt hN
      have SR := Lib.hid (show ∀ W, Below w.heap.size w W → W.cell? ⟨p, 1, none⟩ = some (.map (some r)) ∧ W.cell? ⟨p, 2, none⟩ = some (.slice (some ⟨og, 0, none⟩) n oc) ∧ W.cell? ⟨og, i, none⟩ = some (.slice A m cA) ∧ (Instr.lookup 95 (.map (some r)) (.string x.fr) false).run Tryz.prog W = .ok (.int .i64 ((i : Int) + 1)) W ∧ (Instr.lookup 95 (.map (some r)) (.string x.to) false).run Tryz.prog W = .ok (.int .i64 ((j : Int) + 1)) W from fun W hb => by
        have hu := Upd.of_below hb (fun _ => False)
        have hm' := hg.map.upd hu id
        have hblk := hg.blk.upd hu id
        have lo := World.block_lt_of_cell? w _ co
        refine ⟨hblk.cell 1, by rw [← hn]; exact hblk.cell 2, by rw [hu.cell (p := ⟨og, i, none⟩) lo id]; exact co, ?_, ?_⟩
        · have := look_num hm' x.fr k0
          rwa [numT_in hf, hi] at this
        · have := look_num hm' x.to k2
          rwa [numT_in ht, hj] at this)
      have hS := SR.out w.drew (Below.refl _ w).drew
      clear hg ho hrow hUl hX eA hi hj hm hn hdec ok
      have hlfI : (i : Int) < (n : Int) := by omega
      go_enter Tryz.func38, Tryz.ntmps38
      go_wp2_with fail
      refine (is_any w p r q1).mono ?_
      rintro e w' ⟨rfl, hw⟩
      subst w'
      go_upto_region 3 with (fail)
      clear q1 q2 co l0 l1
      have HB := Lib.hid (show Below w.heap.size w w.drew from (Below.refl _ w).drew)
      refine wp_region_ord (fun W => W.cell? ⟨p, 1, none⟩ = some (.map (some r)) ∧ W.cell? ⟨p, 2, none⟩ = some (.slice (some ⟨og, 0, none⟩) n oc) ∧ W.cell? ⟨og, i, none⟩ = some (.slice A m cA) ∧ (Instr.lookup 95 (.map (some r)) (.string x.fr) false).run Tryz.prog W = .ok (.int .i64 ((i : Int) + 1)) W ∧ (Instr.lookup 95 (.map (some r)) (.string x.to) false).run Tryz.prog W = .ok (.int .i64 ((j : Int) + 1)) W) 28 [(0, true), (1, true), (2, true), (3, true), (4, true), (5, true), (6, true), (7, true), (8, true), (9, true), (10, true), (11, true), (12, true), (13, true), (14, true), (15, true), (16, true), (17, true), (18, true), (19, true), (20, true), (21, true), (22, false), (23, true), (24, true), (25, true), (26, true), (27, true)] (by kernel_rfl) (by kernel_rfl) (fun _ _ d _ _ h => by cases d <;> exact h) hS ?_
      generalize w.drew = W1 at HB hS ⊢
      iterate 22 (refine ord_take (v := ?_) rfl (by first | with_reducible rfl | kernel_rfl) ?_ ?_; rotate_left; (focus (intro wS hS; (try dsimp only at hS); go_split_ands; go_simp; (try with_reducible rfl); done)); (try simp only [Act.put, List.getElem_toArray, List.getElem_cons_succ, List.getElem_cons_zero, List.setIfInBounds_toArray, List.set_cons_zero, List.set_cons_succ]))
      refine ord_do rfl rfl (fun K hK => ?_)
      have hc := hcon W1 HB.out
      unfold Hp.agg at hc
      dsimp only at hc
      go_simp
      refine hc.mono ?_
      rintro e W2 ⟨rfl, b2⟩
      have HB2 := Lib.hid (HB.out.trans (b2.mono HB.out.size))
      refine hK _ _ (fun _ => SR.out _ HB2.out) ?_
      clear hK K hS hc hcon b2
      (try simp only [Act.put, List.getElem_toArray, List.getElem_cons_succ, List.getElem_cons_zero, List.setIfInBounds_toArray, List.set_cons_zero, List.set_cons_succ])
      iterate 5 (refine ord_take (v := ?_) rfl (by first | with_reducible rfl | kernel_rfl) ?_ ?_; rotate_left; (focus (intro wS hS; (try dsimp only at hS); go_split_ands; go_simp; (try with_reducible rfl); done)); (try simp only [Act.put, List.getElem_toArray, List.getElem_cons_succ, List.getElem_cons_zero, List.setIfInBounds_toArray, List.set_cons_zero, List.set_cons_succ]))
      refine ord_done ?_
      go_wp2
      go_ret
      exact ⟨rfl, HB2.out⟩
    · rw [numT_out ht] at l1
      have hx : decide (x ∈ G.X) = false := decide_eq_false fun hx => ht (ok.ends x hx).2
      rw [hx]
      clear hg ho hi ok
      go_enter Tryz.func38, Tryz.ntmps38
      go_wp2_with fail
      refine (is_any w p r q1).mono ?_
      rintro e w' ⟨rfl, hw⟩
      subst w'
      go_wp2
      go_ret
      exact ⟨rfl, Below.refl _ _⟩
  · rw [numT_out hf] at l0
    have hx : decide (x ∈ G.X) = false := decide_eq_false fun hx => hf (ok.ends x hx).1
    rw [hx]
    clear hg ho ok l1
    go_enter Tryz.func38, Tryz.ntmps38
    go_wp2_with fail
    refine (is_any w p r q1).mono ?_
    rintro e w' ⟨rfl, hw⟩
    subst w'
    go_wp2
    go_ret
    exact ⟨rfl, Below.refl _ _⟩
end Go.Proofs.YthmkgnifcbnkpaaGreat
namespace Go.Proofs.YthmkgnifcbnkpaaGreat
open Go.RowKit

def NewH (w : World) (L : List Hp) (e : Ending) (w' : World) : Prop := ∃ v, e = .returned v ∧ w'.ownsRow w.heap.size 92 2 v L.length (hpCells L) ∧ Below w.heap.size w w'
set_option maxHeartbeats 1000000 in
set_option maxRecDepth 20000 in
theorem clone_hp (w : World) (A : Option Addr) (c : Nat) (L : List Hp) (h : RowR w A (hpCells L)) (hl : L.length * 24 ≤ 140737488355328) :
    Calls Tryz.prog 69 #[.slice A L.length c] w (NewH w L) := by
  have heq := fun (A : Option Addr) (n c n' c' : Nat) (w : World) => Lib.run_eql_slice_nil (P := Tryz.prog) w 88 92 A n c n' c' Tryz.underlying88
  rcases A with _ | ⟨gb, go, sp⟩
  · have hL : L = [] := by
      cases L with
      | nil => rfl
      | cons s L => obtain ⟨b, o, e, -⟩ := h 0 (.string s.lb) rfl; cases e
    subst hL
    clear h hl
    go_enter Tryz.func69, Tryz.ntmps69
    go_wp2
    go_ret
    exact ⟨_, rfl, World.ownsRow_nil _ _ _ _, Below.refl _ _⟩
  · obtain ⟨i0, hi0, hz0, hz1, hz2⟩ := info_parts info_hop
    have b1 : Below w.heap.size w (w.alloc (.cells #[] 92)) := (Below.refl _ _).alloc (Nat.le_refl _) _
    have hr := (h.below b1).reads (hpCells_len L) (by decide)
    have own : (w.alloc (.cells #[] 92)).ownsRow w.heap.size 92 2 (.slice (some ⟨w.heap.size, 0, none⟩) 0 0) 0 [] := ⟨rfl, .inr ⟨w.heap.size, 0, #[], rfl, Nat.le_refl _, heap_alloc_new w _, Nat.le_refl _, by decide, rfl, rfl⟩⟩
    obtain ⟨v', w', happ, own', gr, -, -⟩ := run_append_own_at (P := Tryz.prog) (w.alloc (.cells #[] 92)) w.heap.size 88 88 92 i0 _ 2 24 Tryz.underlying88 hi0 hz0 hz1 hz2 rfl (by decide) (.slice (some ⟨w.heap.size, 0, none⟩) 0 0) 0 [] own ⟨gb, go, sp⟩ L.length c (hpCells L) (hpCells_len L) (hr.2.2 _ rfl) (one_hp L) (by unfold maxLen; omega) (by omega) (by simp)
    have fin : NewH w L (.returned v') w' := ⟨v', rfl, by simpa using own', b1.grown gr (by simp) (fun k hk => by simp [Value.ownBlock] at hk; omega)⟩
    have FIN := Lib.hid fin
    clear fin own own' gr hr b1 hi0 hz0 hz1 hz2 h
    go_enter Tryz.func69, Tryz.ntmps69
    go_wp2_with (at_builtin; refine wpList_append_run rfl _ _ _ rfl rfl rfl happ ?_)
    go_ret
    exact FIN.out

/-- A graph that was made since. -/
def Fresh (B : Nat) (p : Nat) (G : Gr) (w' : World) : Prop := ∃ F, GrS w' F p G ∧ (∀ k, F k → B ≤ k)
theorem Fresh.step {B p : Nat} {G' : Gr} {w w' : World} {F : Nat → Prop} (hF : ∀ k, F k → B ≤ k) (hB : B ≤ w.heap.size) (h : GrTo w F p G' w') : Fresh B p G' w' ∧ Below B w w' := by
  obtain ⟨F', g, u, n⟩ := h
  refine ⟨⟨F', g, fun k hk => ?_⟩, u.below (fun i _ hi => hF i hi) hB⟩
  rcases n k hk with h | h
  · exact hF k h
  · omega
theorem Fresh.below {B p : Nat} {G : Gr} {w w' : World} (h : Fresh B p G w) (hb : Below w.heap.size w w') : Fresh B p G w' := by
  obtain ⟨F, g, n⟩ := h
  exact ⟨F, g.below hb, n⟩
theorem Fresh.is {B p : Nat} {G : Gr} {w : World} (h : Fresh B p G w) : ∃ r, w.cell? ⟨p, 1, none⟩ = some (.map (some r)) := by
  obtain ⟨F, ⟨U, V, ⟨O, ⟨r, nv, ov, iv, fo, fi⟩, hg, -⟩, -⟩, -⟩ := h
  exact ⟨r, hg.blk.cell 1⟩
def GMade (w : World) (G : Gr) (f : Value → Value) (e : Ending) (w' : World) : Prop := ∃ p, e = .returned (f (.pointer (some ⟨p, 0, none⟩))) ∧ Fresh w.heap.size p G w' ∧ Below w.heap.size w w'
theorem new_fin (w : World) : Fresh w.heap.size (w.heap.size + 1) ⟨[], []⟩ ((w.alloc (.map #[] 0)).alloc (.cells #[.slice none 0 0, .map (some w.heap.size), .slice none 0 0, .slice none 0 0, .int .i64 0] 98)) := by
  have k1 := Blk.new (w.alloc (.map #[] 0)) 98 #[.slice none 0 0, .map (some w.heap.size), .slice none 0 0, .slice none 0 0, .int .i64 0]
  have hz : (w.alloc (.map #[] 0)).heap.size = w.heap.size + 1 := by simp
  rw [hz] at k1
  refine ⟨fun k => (if k = w.heap.size + 1 then some Ro.p else if k = w.heap.size then some Ro.m else none) ≠ none, ⟨fun _ => [], fun _ => [], ⟨fun k => if k = w.heap.size + 1 then some Ro.p else if k = w.heap.size then some Ro.m else none, ⟨w.heap.size, .slice none 0 0, .slice none 0 0, .slice none 0 0, fun _ => .slice none 0 0, fun _ => .slice none 0 0⟩, ⟨k1, (MapIs.made w _ _).alloc _, World.ownsRow_nil _ _ _ _, World.ownsRow_nil _ _ _ _, World.ownsRow_nil _ _ _ _, fun _ => World.ownsRow_nil _ _ _ _, fun _ => World.ownsRow_nil _ _ _ _, if_pos rfl, ?_, ?_, ?_, ?_, ?_, ?_, ?_, fun _ _ => ⟨rfl, rfl⟩⟩, rfl⟩, HopsOK.new⟩, ?_⟩
  · show (if w.heap.size = w.heap.size + 1 then some Ro.p else if w.heap.size = w.heap.size then some Ro.m else none) = some Ro.m
    rw [if_neg (by omega), if_pos rfl]
  · intro k hk; simp [Value.ownBlock] at hk
  · intro k hk; simp [Value.ownBlock] at hk
  · intro k hk; simp [Value.ownBlock] at hk
  · intro j k hk; simp [Value.ownBlock] at hk
  · intro j k hk; simp [Value.ownBlock] at hk
  · intro k hk
    simp only [World.size_alloc] at *
    split at hk
    · omega
    split at hk
    · omega
    · exact absurd rfl hk
  · intro k hk
    split at hk
    · omega
    split at hk
    · omega
    · exact absurd rfl hk
set_option maxHeartbeats 1000000 in
set_option maxRecDepth 20000 in
theorem new_gr (w : World) : Calls Tryz.prog 62 #[] w (GMade w ⟨[], []⟩ id) := by
  have FIN := Lib.hid (new_fin w)
  have HB := Lib.hid (show Below w.heap.size w ((w.alloc (.map #[] 0)).alloc (.cells #[.slice none 0 0, .map (some w.heap.size), .slice none 0 0, .slice none 0 0, .int .i64 0] 98)) from ((Below.refl _ _).alloc (Nat.le_refl _) _).alloc (by simp) _)
  have hmm := @run_makeMap Tryz.prog
  go_enter Tryz.func62, Tryz.ntmps62
  go_wp2
  go_ret
  exact ⟨_, rfl, FIN.out, HB.out⟩
set_option maxHeartbeats 1000000 in
set_option maxRecDepth 20000 in
theorem nodes_gr (w : World) (F : Nat → Prop) (p : Nat) (G : Gr) (h : GrS w F p G) (ok : GOk G) : Calls Tryz.prog 33 #[.pointer (some ⟨p, 0, none⟩)] w (NewT w G.N) := by
  obtain ⟨U, V, ⟨O, ⟨r, nv, ov, iv, fo, fi⟩, hg, -⟩, -⟩ := h
  have hN := ok.few.1
  have q1 : w.cell? ⟨p, 1, none⟩ = some (.map (some r)) := hg.blk.cell 1
  obtain ⟨nA, nc, e1, -, -⟩ := own_form hg.rn
  dsimp only at e1
  subst e1
  have hcon := clone_txt w nA nc G.N (RowR.of_own hg.rn) (by omega)
  obtain ⟨n, hn⟩ : ∃ n, G.N.length = n := ⟨_, rfl⟩
  have q0 : w.cell? ⟨p, 0, none⟩ = some (.slice nA n nc) := by rw [← hn]; exact hg.blk.cell 0
  rw [hn] at hcon
  clear hg hn hN
  go_enter Tryz.func33, Tryz.ntmps33
  go_wp2_with fail
  refine (is_any w p r q1).mono ?_
  rintro e w' ⟨rfl, hw⟩
  subst w'
  go_wp2_with fail
  refine hcon.mono ?_
  rintro e w' ⟨v, rfl, o, b⟩
  have FIN := Lib.hid (show NewT w G.N (.returned v) w' from ⟨v, rfl, o, b⟩)
  clear o b hcon
  go_wp2
  go_ret
  exact FIN.out
def numI (N : List Txt) (s : Txt) : Value := if inB s N = true then .tuple #[.int .i64 (idxT N s), .int .i64 0] else .tuple #[.int .i64 0, .int .i64 4]
set_option maxHeartbeats 1000000 in
set_option maxRecDepth 20000 in
theorem node_gr (w : World) (F : Nat → Prop) (p : Nat) (G : Gr) (h : GrS w F p G) (ok : GOk G) (s : Txt) (hk : TxtOk s) : Calls Tryz.prog 34 #[.pointer (some ⟨p, 0, none⟩), .string s] w (Only w (numI G.N s)) := by
  obtain ⟨U, V, ⟨O, ⟨r, nv, ov, iv, fo, fi⟩, hg, -⟩, -⟩ := h
  have hN := ok.few.1
  have q1 : w.cell? ⟨p, 1, none⟩ = some (.map (some r)) := hg.blk.cell 1
  have l0 := look_num hg.map s hk
  unfold numI
  by_cases hs : s ∈ G.N
  · rw [if_pos (inB_iff.2 hs)]
    have hlt := idxT_lt hs
    rw [numT_in hs] at l0
    generalize idxT G.N s = i at l0 hlt ⊢
    have z0 : ((i : Int) + 1 == 0) = false := by simp; omega
    have w0 : IntKind.i64.wrap (i : Int) = (i : Int) := IntWalk.i64_in _ (by omega)
    clear hg
    go_enter Tryz.func34, Tryz.ntmps34
    go_wp2_with fail
    refine (is_any w p r q1).mono ?_
    rintro e w' ⟨rfl, hw⟩
    subst w'
    go_wp2
    refine bodyPost_ret (v := .tuple #[.int .i64 (i : Int), .int .i64 0]) (by simp [results, Tryz.f34, go_sem]) rfl ⟨rfl, rfl⟩
  · rw [if_neg (fun e => hs (inB_iff.1 e))]
    rw [numT_out hs] at l0
    clear hg
    go_enter Tryz.func34, Tryz.ntmps34
    go_wp2_with fail
    refine (is_any w p r q1).mono ?_
    rintro e w' ⟨rfl, hw⟩
    subst w'
    go_wp2
    refine bodyPost_ret (v := .tuple #[.int .i64 0, .int .i64 4]) (by simp [results, Tryz.f34, go_sem]) rfl ⟨rfl, rfl⟩
set_option maxHeartbeats 1000000 in
set_option maxRecDepth 20000 in
theorem clone_map (w : World) (b : Nat) (es : Array MapEntry) (clock : Nat) (hb : w.heap[b]? = some (.map es clock)) :
    Calls Tryz.prog 68 #[.map (some b)] w fun e w' => e = .returned (.map (some w.heap.size)) ∧ w' = w.alloc (.map es clock) := by
  have hq := fun w => run_eql_map_nil_sl (P := Tryz.prog) w 95 _ _ (some b) Tryz.underlying95
  go_enter Tryz.func68, Tryz.ntmps68
  go_wp2
  rw [run_callFunc_extern Tryz.func104 (by kernel_rfl) (by kernel_rfl) (by kernel_rfl) (e := Extern.MapsClone.clone) (by kernel_rfl), run_maps_clone_sl w 95 hb]
  simp only [Result.andThen]
  rw [Oper.upon_value]
  go_wp2
  rw [run_typeAssert_map_sl _ 95 20 _ _ _ Tryz.underlying95]
  simp only [Result.andThen]
  rw [Oper.upon_value]
  go_wp2
  go_ret
  exact ⟨rfl, rfl⟩
end Go.Proofs.YthmkgnifcbnkpaaGreat
