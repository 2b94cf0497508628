/- GssNodes: the walk where more than 200 come. -/
import Derived.Test.YtbppbgdmoihooaaLawB
namespace Go.Proofs.Ytbppbgdmoihooaa
open Go.RowKit

set_option maxHeartbeats 4000000 in
set_option maxRecDepth 20000 in
theorem nodes_big (w : World) (A : Option Addr) (lb lo n c : Nat) (hA : 0 < n → A = some ⟨lb, lo, none⟩) (xs : List (Int × Int)) (hl : xs.length = n) (hc : ∀ (i : Nat) (x : Int × Int), xs[i]? = some x → w.cell? ⟨lb, lo + i * 2, none⟩ = some (.int .i64 x.1) ∧ w.cell? ⟨lb, lo + i * 2 + 1, none⟩ = some (.int .i64 x.2))
    (hwf : ∀ x ∈ xs, Wf x.1 ∧ Wf x.2) (hb : 200 < n) (hnc : n ≤ c) :
    Calls Try.prog 3 #[.slice A n c] w fun e w' => e = .returned (.bool true) ∧ Below w.heap.size w w' := by
  have H : Hid _ := Lib.hid (And.intro hl (And.intro hc hwf))
  clear hl hc hwf
  have heq := eql_pair
  have hdec : decide ((200 : Int) < (n : Int)) = true := by simp; omega
  obtain rfl := hA (by omega)
  clear hA
  have hnc' : (200 : Int) ≤ (c : Int) := by omega
  go_enter Try.func3, Try.ntmps3
  go_wp2_with fail
  refine (new_any _).mono ?_
  rintro e w1 hn
  obtain ⟨b, F1, rfl, M1⟩ := Mine.new hn
  have H1 : Hid _ := Lib.hid M1
  clear hn M1
  go_wp2
  go_loopw [4, 5] (fun v i wr => ∃ k : Nat, k ≤ 200 ∧ i = .int .i64 k ∧ NodesInv w.heap.size w k b v wr) (fun _ i _ => 200 - (intOf i).toNat)
  case atStart => exact ⟨0, Nat.zero_le _, rfl, F1, [], H1.out, World.ownsRow_nil _ _ _ _, by simp [Value.ownBlock], by simp, Nat.le_refl _⟩
  case round =>
    obtain ⟨k, hk, rfl, F, N, M, row, dis, nd, hN⟩ := hrel
    obtain ⟨A', c', rfl, hc', -⟩ := own_form row
    by_cases hlt : k < 200
    · obtain ⟨x, hx⟩ : ∃ x, xs[k]? = some x := ⟨xs[k]'(by rw [H.out.1]; omega), List.getElem?_eq_getElem _⟩
      obtain ⟨p, q⟩ := x
      obtain ⟨c0, c1⟩ := H.out.2.1 k _ hx
      obtain ⟨wfp, wfq⟩ := H.out.2.2 _ (List.mem_of_getElem? hx)
      have l0 := World.block_lt_of_cell? w _ c0
      have r0 : wr.cell? ⟨lb, lo + k * 2, none⟩ = some (.int .i64 p) := (M.below.cell (p := ⟨lb, lo + k * 2, none⟩) l0).trans c0
      have r1 : wr.cell? ⟨lb, lo + k * 2 + 1, none⟩ = some (.int .i64 q) := (M.below.cell (p := ⟨lb, lo + k * 2 + 1, none⟩) l0).trans c1
      have HH : Hid _ := Lib.hid (And.intro M (And.intro row (And.intro dis (And.intro nd (And.intro hN (And.intro wfp (And.intro wfq (And.intro c0 (And.intro c1 (And.intro l0 hc'))))))))))
      have hNk : N.length ≤ k := hN
      clear M row dis nd hN hx c0 c1 l0 H1 wfp wfq hc'
      go_wp2
      refine wp_region_ord (fun w' => w'.cell? ⟨lb, lo + k * 2, none⟩ = some (.int .i64 p) ∧ w'.cell? ⟨lb, lo + k * 2 + 1, none⟩ = some (.int .i64 q)) 17 [(0, true), (1, true), (2, true), (3, true), (4, true), (5, true), (6, true), (7, true), (8, true), (9, true), (10, true), (11, false), (12, true), (13, true), (14, true), (15, true), (16, true)] (by kernel_rfl) (by kernel_rfl) (fun _ _ d _ _ h => by cases d <;> exact h) ⟨r0, r1⟩ ?_
      have r20 : wr.drew.cell? ⟨lb, lo + k * 2, none⟩ = some (.int .i64 p) := r0
      have r21 : wr.drew.cell? ⟨lb, lo + k * 2 + 1, none⟩ = some (.int .i64 q) := r1
      have HH2 := HH.out
      have M2 := HH2.1.keep (Below.drew (Below.refl _ wr))
      have row2 := HH2.2.1.drew
      obtain ⟨-, -, dis, nd, hN, wfp, wfq, c0, c1, l0, hc'⟩ := HH2
      clear HH r0 r1
      generalize wr.drew = w2 at M2 row2 r20 r21 ⊢
      have HH : Hid _ := Lib.hid (And.intro M2 (And.intro row2 (And.intro dis (And.intro nd (And.intro hN (And.intro wfp (And.intro wfq (And.intro c0 (And.intro c1 (And.intro l0 hc'))))))))))
      clear M2 row2 dis nd hN wfp wfq c0 c1 l0 hc'
      repeat (refine ord_take (v := ?_) rfl rfl ?_ ?_; rotate_left; focus (intro wS hS; (try dsimp only at hS); go_split_ands; go_simp; (try with_reducible rfl)); (try simp only [Act.put, List.setIfInBounds_toArray, List.set_cons_zero, List.set_cons_succ]))
      refine ord_do rfl rfl (fun K hK => ?_)
      go_simp
      by_cases hex : ∃ j, AtNode N p q j
      · obtain ⟨j, hj⟩ := hex
        refine (node_old w2 F b N p q j HH.out.2.2.2.2.2.1 HH.out.2.2.2.2.2.2.1 HH.out.1.at_ hj).mono ?_
        rintro e w3 ⟨rfl, hbel⟩
        obtain ⟨M2, row2, dis, nd, hN, wfp, wfq, c0, c1, l0, hc'⟩ := HH.out
        have M3 := M2.keep hbel
        have r30 : w3.cell? ⟨lb, lo + k * 2, none⟩ = some (.int .i64 p) := (M3.below.cell (p := ⟨lb, lo + k * 2, none⟩) l0).trans c0
        have r31 : w3.cell? ⟨lb, lo + k * 2 + 1, none⟩ = some (.int .i64 q) := (M3.below.cell (p := ⟨lb, lo + k * 2 + 1, none⟩) l0).trans c1
        have ROW3 := ownsRow_upd row2 (Upd.of_below hbel (fun _ => False)) (fun _ _ => id)
        have hc2 : (N.length : Int) ≤ (c' : Int) := by omega
        refine hK _ _ (fun _ => ⟨r30, r31⟩) ?_
        clear hK K r20 r21
        have HH3 : Hid _ := Lib.hid (And.intro M3 (And.intro ROW3 (And.intro dis (And.intro nd (And.intro hN (And.intro c0 (And.intro c1 (And.intro l0 hj))))))))
        clear M2 row2 dis nd hN wfp wfq c0 c1 l0 hc' hbel M3 HH hj
        have ROW3' := Lib.hid ROW3
        clear ROW3
        repeat (refine ord_take (v := ?_) rfl rfl ?_ ?_; rotate_left; focus (intro wS hS; (try dsimp only at hS); go_split_ands; go_simp; (try with_reducible rfl)); (try simp only [Act.put, List.setIfInBounds_toArray, List.set_cons_zero, List.set_cons_succ]))
        refine ord_done ?_
        go_wp2
        -- the inner loop
        go_loopw [8, 9] (fun wv jv wq => ∃ k2 t nq : Nat, k2 ≤ N.length ∧ jv = .int .i64 k2 ∧ wv = .int .i64 t ∧ Want N p q k2 t ∧ wq = w3.drewN nq) (fun _ jv _ => N.length - (intOf jv).toNat)
        case atStart => exact ⟨0, N.length, 0, Nat.zero_le _, rfl, rfl, .inl ⟨by intro i hi; omega, rfl⟩, rfl⟩
        case round =>
          obtain ⟨k2, t, nq, hk2, rfl, rfl, hW, rfl⟩ := hrel
          have HW := Lib.hid hW
          clear hW
          by_cases hlt2 : k2 < N.length
          · obtain ⟨y, hy⟩ : ∃ y, N[k2]? = some y := ⟨N[k2], List.getElem?_eq_getElem hlt2⟩
            obtain ⟨mg, mc, hv, -, hmc, -, -, hmcell⟩ := own_cells ROW3'.out (by omega)
            injection hv with hA hn hc2
            subst hA
            have hyk : (N.map keyOf)[k2]? = some (keyOf y) := by rw [List.getElem?_map, hy]; rfl
            have s0 : w3.cell? ⟨mg, k2 * 2, none⟩ = some (.int .i64 y.mark) := (hmcell _ _ (flat_get (fun p : Int × Int => [Value.int .i64 p.1, .int .i64 p.2]) 2 (fun _ => rfl) _ k2 0 _ hyk (by omega))).1
            have s1 : w3.cell? ⟨mg, k2 * 2 + 1, none⟩ = some (.int .i64 y.place) := (hmcell _ _ (flat_get (fun p : Int × Int => [Value.int .i64 p.1, .int .i64 p.2]) 2 (fun _ => rfl) _ k2 1 _ hyk (by omega))).1
            obtain ⟨ym, hym⟩ : ∃ ym, y.mark = ym := ⟨_, rfl⟩
            obtain ⟨yp, hyp⟩ : ∃ yp, y.place = yp := ⟨_, rfl⟩
            rw [hym] at s0
            rw [hyp] at s1
            have HY : Hid _ := Lib.hid (And.intro hy (And.intro hym hyp))
            clear hmcell hyk hy hym hyp hn hc2
            by_cases hkey : ym = p ∧ yp = q
            · have hb2 : (ym == p && yp == q) = true := by simp [hkey.1, hkey.2]
              have HK := Lib.hid hkey
              clear hkey
              go_wp2
              go_quiet (fail)
              go_wp2
              go_roundw
              case rel => exact ⟨k2 + 1, k2, _, by omega, by go_num, rfl, Want.hit (HY.out.1) (HY.out.2.1.trans HK.out.1) (HY.out.2.2.trans HK.out.2), rfl⟩
              case measure => simp [intOf]; omega
            · have hb2 : (ym == p && yp == q) = false := by
                cases h1 : ym == p <;> cases h2 : yp == q <;> simp_all
              have HK := Lib.hid hkey
              clear hkey
              go_wp2
              go_quiet (fail)
              go_wp2
              go_roundw
              case rel => exact ⟨k2 + 1, t, _, by omega, by go_num, rfl, HW.out.miss (HY.out.1) (fun h1 h2 => HK.out ⟨HY.out.2.1.symm.trans h1, HY.out.2.2.symm.trans h2⟩), rfl⟩
              case measure => simp [intOf]; omega
          · obtain rfl : k2 = N.length := by omega
            obtain rfl : t = j := HW.out.old HH3.out.2.2.2.1 HH3.out.2.2.2.2.2.2.2.2
            have htj : t < N.length := by obtain ⟨x, hx, _⟩ := HH3.out.2.2.2.2.2.2.2.2; exact (List.getElem?_eq_some_iff.1 hx).1
            have e1 : ((t : Int) == (N.length : Int)) = false := by simp; omega
            have e2 : ((t : Int) != (t : Int)) = false := by simp
            clear HW
            go_wp2_with fail
            obtain ⟨M3, row3, dis, nd, hN, c0, c1, l0, ⟨x, hx, rfl, rfl⟩⟩ := HH3.out
            have hbd : Below w3.heap.size w3 (w3.drewN nq) := below_drewN (Below.refl _ _) nq
            have M4 := M3.keep hbd
            refine (at_yes (w3.drewN nq) F b N t x M4.at_ hx).mono ?_
            rintro e w5 ⟨rfl, hb5⟩
            have M5 := M4.keep hb5
            have r50 : w5.cell? ⟨lb, lo + k * 2, none⟩ = some (.int .i64 x.mark) := (M5.below.cell (p := ⟨lb, lo + k * 2, none⟩) l0).trans c0
            have r51 : w5.cell? ⟨lb, lo + k * 2 + 1, none⟩ = some (.int .i64 x.place) := (M5.below.cell (p := ⟨lb, lo + k * 2 + 1, none⟩) l0).trans c1
            have row5 := ownsRow_upd (ownsRow_upd row3 (Upd.of_below hbd (fun _ => False)) (fun _ _ => id)) (Upd.of_below hb5 (fun _ => False)) (fun _ _ => id)
            have fin : NodesInv w.heap.size w (k + 1) b (.slice A' N.length c') w5 := ⟨F, N, M5, row5, dis, nd, by omega⟩
            have FIN := Lib.hid fin
            obtain ⟨xm, hxm⟩ : ∃ xm, x.mark = xm := ⟨_, rfl⟩
            obtain ⟨xp, hxp⟩ : ∃ xp, x.place = xp := ⟨_, rfl⟩
            rw [hxm] at r50
            rw [hxp] at r51
            rw [hxm, hxp]
            clear M3 row3 dis nd hN c0 c1 l0 hx hbd M4 hb5 M5 row5 fin r30 r31 HH3 ROW3' hxm hxp
            go_wp2
            go_roundw
            case rel => exact ⟨k + 1, by omega, by go_num, FIN.out⟩
            case measure => simp [intOf]; omega
      · have hnone : ∀ j, ¬ AtNode N p q j := fun j hj => hex ⟨j, hj⟩
        refine (node_new w2 F b N p q HH.out.2.2.2.2.2.1 HH.out.2.2.2.2.2.2.1 HH.out.1.at_ (by omega) hnone).mono ?_
        rintro e w3 ⟨rfl, hn⟩
        obtain ⟨M2, row2, dis, nd, hN, wfp, wfq, c0, c1, l0, hc'⟩ := HH.out
        obtain ⟨F', M3, x3, u3⟩ := M2.next hn
        have r30 : w3.cell? ⟨lb, lo + k * 2, none⟩ = some (.int .i64 p) := (M3.below.cell (p := ⟨lb, lo + k * 2, none⟩) l0).trans c0
        have r31 : w3.cell? ⟨lb, lo + k * 2 + 1, none⟩ = some (.int .i64 q) := (M3.below.cell (p := ⟨lb, lo + k * 2 + 1, none⟩) l0).trans c1
        have ROW3 := ownsRow_upd row2 u3 dis
        have dis3 : ∀ z, Value.ownBlock (.slice A' N.length c') = some z → ¬ F' z := by
          intro z hz hf
          rcases x3 z hf with h4 | h4
          · exact dis z hz h4
          · have := (row2.lt z hz).2
            omega
        have hc2 : (N.length : Int) ≤ (c' : Int) := by omega
        refine hK _ _ (fun _ => ⟨r30, r31⟩) ?_
        clear hK K r20 r21
        have HH3 : Hid _ := Lib.hid (And.intro M3 (And.intro ROW3 (And.intro dis3 (And.intro nd (And.intro hN (And.intro c0 (And.intro c1 (And.intro l0 hnone))))))))
        have ROW3' := Lib.hid ROW3
        clear M2 row2 dis nd hN wfp wfq c0 c1 l0 hc' hn M3 HH hnone x3 u3 ROW3 dis3 hex
        repeat (refine ord_take (v := ?_) rfl rfl ?_ ?_; rotate_left; focus (intro wS hS; (try dsimp only at hS); go_split_ands; go_simp; (try with_reducible rfl)); (try simp only [Act.put, List.setIfInBounds_toArray, List.set_cons_zero, List.set_cons_succ]))
        refine ord_done ?_
        go_wp2
        -- the inner loop
        go_loopw [8, 9] (fun wv jv wq => ∃ k2 t nq : Nat, k2 ≤ N.length ∧ jv = .int .i64 k2 ∧ wv = .int .i64 t ∧ Want N p q k2 t ∧ wq = w3.drewN nq) (fun _ jv _ => N.length - (intOf jv).toNat)
        case atStart => exact ⟨0, N.length, 0, Nat.zero_le _, rfl, rfl, .inl ⟨by intro i hi; omega, rfl⟩, rfl⟩
        case round =>
          obtain ⟨k2, t, nq, hk2, rfl, rfl, hW, rfl⟩ := hrel
          have HW := Lib.hid hW
          clear hW
          by_cases hlt2 : k2 < N.length
          · obtain ⟨y, hy⟩ : ∃ y, N[k2]? = some y := ⟨N[k2], List.getElem?_eq_getElem hlt2⟩
            obtain ⟨mg, mc, hv, -, hmc, -, -, hmcell⟩ := own_cells ROW3'.out (by omega)
            injection hv with hA hn hc2
            subst hA
            have hyk : (N.map keyOf)[k2]? = some (keyOf y) := by rw [List.getElem?_map, hy]; rfl
            have s0 : w3.cell? ⟨mg, k2 * 2, none⟩ = some (.int .i64 y.mark) := (hmcell _ _ (flat_get (fun p : Int × Int => [Value.int .i64 p.1, .int .i64 p.2]) 2 (fun _ => rfl) _ k2 0 _ hyk (by omega))).1
            have s1 : w3.cell? ⟨mg, k2 * 2 + 1, none⟩ = some (.int .i64 y.place) := (hmcell _ _ (flat_get (fun p : Int × Int => [Value.int .i64 p.1, .int .i64 p.2]) 2 (fun _ => rfl) _ k2 1 _ hyk (by omega))).1
            obtain ⟨ym, hym⟩ : ∃ ym, y.mark = ym := ⟨_, rfl⟩
            obtain ⟨yp, hyp⟩ : ∃ yp, y.place = yp := ⟨_, rfl⟩
            rw [hym] at s0
            rw [hyp] at s1
            have HY : Hid _ := Lib.hid (And.intro hy (And.intro hym hyp))
            clear hmcell hyk hy hym hyp hn hc2
            by_cases hkey : ym = p ∧ yp = q
            · have hb2 : (ym == p && yp == q) = true := by simp [hkey.1, hkey.2]
              have HK := Lib.hid hkey
              clear hkey
              go_wp2
              go_quiet (fail)
              go_wp2
              go_roundw
              case rel => exact ⟨k2 + 1, k2, _, by omega, by go_num, rfl, Want.hit (HY.out.1) (HY.out.2.1.trans HK.out.1) (HY.out.2.2.trans HK.out.2), rfl⟩
              case measure => simp [intOf]; omega
            · have hb2 : (ym == p && yp == q) = false := by
                cases h1 : ym == p <;> cases h2 : yp == q <;> simp_all
              have HK := Lib.hid hkey
              clear hkey
              go_wp2
              go_quiet (fail)
              go_wp2
              go_roundw
              case rel => exact ⟨k2 + 1, t, _, by omega, by go_num, rfl, HW.out.miss (HY.out.1) (fun h1 h2 => HK.out ⟨HY.out.2.1.symm.trans h1, HY.out.2.2.symm.trans h2⟩), rfl⟩
              case measure => simp [intOf]; omega
          · obtain rfl : k2 = N.length := by omega
            obtain rfl : t = N.length := HW.out.new HH3.out.2.2.2.2.2.2.2.2
            have e1 : ((N.length : Int) == (N.length : Int)) = true := by simp
            have e2 : ((N.length : Int) != (N.length : Int)) = false := by simp
            obtain ⟨M3, row3, dis3, nd, hN, c0, c1, l0, hnone⟩ := HH3.out
            have hbd : Below w3.heap.size w3 (w3.drewN nq) := below_drewN (Below.refl _ _) nq
            have M4 := M3.keep hbd
            have row4 := ownsRow_upd row3 (Upd.of_below hbd (fun _ => False)) (fun _ _ => id)
            have r40 : (w3.drewN nq).cell? ⟨lb, lo + k * 2, none⟩ = some (.int .i64 p) := r30
            have r41 : (w3.drewN nq).cell? ⟨lb, lo + k * 2 + 1, none⟩ = some (.int .i64 q) := r31
            clear hbd r30 r31 HW HH3 ROW3' M3 row3 H
            generalize w3.drewN nq = w4 at M4 row4 r40 r41 ⊢
            obtain ⟨i0, hi0, hz0, hz1, hz2⟩ := info_parts info_pair
            obtain ⟨v5, w5, happ, own5, gr5, -, pl5⟩ := run_append_own_at (P := Try.prog) (w4.alloc (.cells #[.int .i64 p, .int .i64 q] 27)) w.heap.size 22 22 27 i0 _ 2 16 Try.underlying22 hi0 hz0 hz1 hz2 rfl (by decide) _ N.length _ (row4.alloc _) ⟨w4.heap.size, 0, none⟩ 1 1
              [.int .i64 p, .int .i64 q] rfl (by
                intro j u hu
                match j, hu with
                | 0, hu => simp [Addr.add] at hu ⊢; exact hu
                | 1, hu => simp [Addr.add] at hu ⊢; exact hu
                | j + 2, hu => simp at hu) (by simp [Value.oneCell']) (by unfold maxLen; omega) (by omega) (by have := M4.size; simp; omega)
            obtain ⟨A5, c5, rfl, -, -⟩ := own_form own5
            have U5 : Upd (fun z => Value.ownBlock (.slice A' N.length c') = some z) w4 w5 := ((Upd.refl _ w4).alloc _).grown gr5 (fun z hz => .inl hz)
            have M5 := M4.upd U5 (fun z hz hg => dis3 z hg hz) (fun z hz => (row4.lt z hz).1)
            have dis5 : ∀ z, Value.ownBlock (.slice A5 (N.length + 1) c5) = some z → ¬ F' z := by
              intro z hz hf
              rcases pl5 with h5 | h5
              · rw [h5] at hz
                exact dis3 z hz hf
              · rw [h5] at hz
                injection hz with hz
                have := M4.at_.lt z hf
                simp at hz
                omega
            have hkeys : (N ++ [(⟨p, q, [], []⟩ : GNode)]).map keyOf = N.map keyOf ++ [(p, q)] := by simp [keyOf]
            have nd5 : ((N ++ [(⟨p, q, [], []⟩ : GNode)]).map keyOf).Nodup := by
              rw [hkeys, List.nodup_append]
              refine ⟨nd, by simp, ?_⟩
              intro a ha b' hb' e
              obtain rfl := List.mem_singleton.1 hb'
              subst e
              obtain ⟨i, hi⟩ := List.mem_iff_getElem?.1 ha
              rw [List.getElem?_map] at hi
              obtain ⟨x, hx, he⟩ := Option.map_eq_some_iff.1 hi
              simp only [keyOf, Prod.mk.injEq] at he
              exact hnone i ⟨x, hx, he.1, he.2⟩
            have hxn : (N ++ [(⟨p, q, [], []⟩ : GNode)])[N.length]? = some ⟨p, q, [], []⟩ := by simp
            have HF : Hid _ := Lib.hid (And.intro M5 (And.intro own5 (And.intro dis5 (And.intro nd5 (And.intro hN (And.intro c0 (And.intro c1 (And.intro l0 hxn))))))))
            clear M4 row4 own5 gr5 pl5 U5 dis3 dis5 nd nd5 hkeys hnone hN c0 c1 l0 hi0 hz0 hz1 hz2 M5 hxn
            go_wp2_with (at_builtin; refine wpList_append_run rfl _ _ _ rfl rfl rfl happ ?_)
            refine (at_yes w5 F' b _ N.length _ HF.out.1.at_ HF.out.2.2.2.2.2.2.2.2).mono ?_
            rintro e w6 ⟨rfl, hb6⟩
            obtain ⟨M5, own5, dis5, nd5, hN, c0, c1, l0, hxn⟩ := HF.out
            have M6 := M5.keep hb6
            have r60 : w6.cell? ⟨lb, lo + k * 2, none⟩ = some (.int .i64 p) := (M6.below.cell (p := ⟨lb, lo + k * 2, none⟩) l0).trans c0
            have r61 : w6.cell? ⟨lb, lo + k * 2 + 1, none⟩ = some (.int .i64 q) := (M6.below.cell (p := ⟨lb, lo + k * 2 + 1, none⟩) l0).trans c1
            have fin : NodesInv w.heap.size w (k + 1) b (.slice A5 (N.length + 1) c5) w6 := by
              refine ⟨F', _, M6, ?_, dis5, nd5, by simp; omega⟩
              have := ownsRow_upd own5 (Upd.of_below hb6 (fun _ => False)) (fun _ _ => id)
              simpa [pairCells, keyOf] using this
            have FIN := Lib.hid fin
            clear M5 own5 dis5 nd5 hN c0 c1 l0 hxn hb6 M6 fin HF happ
            go_wp2
            go_roundw
            case rel => exact ⟨k + 1, by omega, by go_num, FIN.out⟩
            case measure => simp [intOf]; omega
    · have HM := Lib.hid M
      have HN : N.length ≤ k := hN
      clear M row dis nd hN
      go_wp2_with (first | (go_at_call 14; refine (len_any _ _ b N HM.out.at_).mono ?_; rintro e w' ⟨rfl, rfl⟩) | (go_at_call 15; refine (awake_any _).mono ?_; rintro e w' ⟨rfl, hba⟩))
      go_ret
      exact ⟨rfl, HM.out.below.trans (hba.mono HM.out.size)⟩
end Go.Proofs.Ytbppbgdmoihooaa
