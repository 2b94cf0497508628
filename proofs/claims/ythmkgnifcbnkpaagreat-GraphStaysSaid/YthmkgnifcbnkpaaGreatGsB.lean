/- GraphStays: the walk. -/
import Derived.Test.YthmkgnifcbnkpaaGreatGm6
namespace Go.Proofs.YthmkgnifcbnkpaaGreat
open Go.RowKit

set_option maxHeartbeats 16000000 in
set_option maxRecDepth 20000 in
theorem gstays_B (w : World) (A : Option Addr) (c : Nat) (B : Option Addr) (d : Nat) (M : List Txt) (L : List Ed) (x : Ed) (s : Txt) (h : ForG w A c B d M L) (hx : EdOk x) (hs : TxtOk s) (hcase : (addEdge (grwN (grwE L).1 M) x).2.1 = false ∧ (addEdge (grwN (grwE L).1 M) x).2.2 = 0) :
    Calls Tryz.prog 8 #[.slice A M.length c, .slice B L.length d, x.agg, .string s] w (Sam w (.bool true)) := by
  have okG := grwN_ok M _ (grwE_ok L)
  have hgr := fun W (hW : ForG W A c B d M L) => grown_any W A c B d M L hW
  obtain ⟨G, hG⟩ : ∃ G, grwN (grwE L).1 M = G := ⟨_, rfl⟩
  rw [hG] at okG hgr
  generalize (grwE L).2 = cn at hgr
  rw [hG] at hcase
  clear hG
  obtain ⟨⟨G1, m1, e1⟩, hr1⟩ : ∃ r, addEdge G x = r := ⟨_, rfl⟩
  obtain ⟨⟨G2, m2, e2⟩, hr2⟩ : ∃ r, addNode G1 s = r := ⟨_, rfl⟩
  have ST : Stays G G1 G2 m1 m2 e1 e2 x s := by
    have := stays okG x s
    rw [hr1] at this
    dsimp only at this
    rw [hr2] at this
    exact this
  have ok1 : GOk G1 := by have := okG.edge x; rw [hr1] at this; exact this
  have ok2 : GOk G2 := by have := ok1.node s; rw [hr2] at this; exact this
  rw [hr1] at hcase
  dsimp only at hcase
  obtain ⟨rfl, rfl⟩ := hcase
  obtain ⟨e3, he3, hi3⟩ := ST.again
  obtain ⟨e4, he4, hi4⟩ := ST.twice
  have f1 := ST.fair.1
  have f2 := ST.fair.2
  obtain ⟨l1, hl1⟩ : ∃ q, (datN G).length = q := ⟨_, rfl⟩
  obtain ⟨l2, hl2⟩ : ∃ q, (datE G).length = q := ⟨_, rfl⟩
  obtain ⟨l3, hl3⟩ : ∃ q, (datN G2).length = q := ⟨_, rfl⟩
  obtain ⟨l4, hl4⟩ : ∃ q, (datE G2).length = q := ⟨_, rfl⟩
  obtain ⟨n1, hn1⟩ : ∃ q, G.N.length = q := ⟨_, rfl⟩
  obtain ⟨n2, hn2⟩ : ∃ q, G2.N.length = q := ⟨_, rfl⟩
  have hn12 : n1 ≤ n2 := by obtain ⟨Q, hQ⟩ := ST.more; rw [← hn1, ← hn2, hQ, List.length_append]; omega
  have hn2b : n2 ≤ 32 := by rw [← hn2]; exact ok2.few.1
  obtain ⟨n, hn⟩ : ∃ q, M.length = q := ⟨_, rfl⟩
  obtain ⟨m, hm⟩ : ∃ q, L.length = q := ⟨_, rfl⟩
  have HN := Lib.hid (And.intro hn1 hn2)
  have HST := Lib.hid (And.intro ST (And.intro okG (And.intro ok1 (And.intro ok2 (And.intro hr1 (And.intro hr2 (And.intro he3 he4)))))))
  have HL := Lib.hid (And.intro hl1 (And.intro hl2 (And.intro hl3 hl4)))
  have HXS := Lib.hid (And.intro hx hs)
  have HIM := Lib.hid (And.intro f1 (And.intro f2 (And.intro hi3 hi4)))
  clear ST okG ok1 ok2 hr1 hr2 he3 he4 hl1 hl2 hl3 hl4 hn1 hn2 hx hs f1 f2 hi3 hi4
  obtain ⟨x0, x1, x2⟩ := x
  have kx := Blk.new w 39 #[.string x0, .string x1, .string x2]
  have bx : Below w.heap.size w (w.alloc (.cells #[.string x0, .string x1, .string x2] 39)) := (Below.refl _ _).alloc (Nat.le_refl _) _
  have H := Lib.hid (And.intro (h.below bx) (And.intro kx bx))
  rw [hn, hm] at hgr ⊢
  clear h kx bx hn hm
  unfold Ed.agg
  dsimp only
  go_enter Tryz.func8, Tryz.ntmps8
  go_upto_region 1 with (fail)
  generalize w.alloc (.cells #[.string x0, .string x1, .string x2] 39) = W0 at H ⊢
  by_cases hbig : m ≤ 300 ∧ n ≤ 100
  rotate_left
  · clear hgr
    by_cases hm3 : m ≤ 300
    · have h100 : ¬ (n ≤ 100) := fun e => hbig ⟨hm3, e⟩
      have t1 : ¬ ((300 : Int) < (m : Int)) := by omega
      have t2 : (100 : Int) < (n : Int) := by omega
      go_wp2_with fail
      refine (gawake_any W0).mono ?_
      rintro e W9 ⟨rfl, b9⟩
      have FIN := Lib.hid (H.out.2.2.trans (b9.mono H.out.2.2.size))
      clear b9
      go_wp2
      go_ret
      exact ⟨rfl, FIN.out⟩
    · have t1 : (300 : Int) < (m : Int) := by omega
      go_wp2_with fail
      refine (gawake_any W0).mono ?_
      rintro e W9 ⟨rfl, b9⟩
      have FIN := Lib.hid (H.out.2.2.trans (b9.mono H.out.2.2.size))
      clear b9
      go_wp2
      go_ret
      exact ⟨rfl, FIN.out⟩
  obtain ⟨hm3, hn1⟩ := hbig
  have t1 : ¬ ((300 : Int) < (m : Int)) := by omega
  have t2 : ¬ ((100 : Int) < (n : Int)) := by omega
  go_wp2_with fail
  refine (hgr W0 H.out.1).mono ?_
  clear hgr
  rintro e W1 ⟨p, rfl, ⟨F1, g1, -⟩, b1⟩
  have H1 := Lib.hid (And.intro g1 (And.intro (H.out.2.1.upd (Upd.of_below b1 (fun _ => False)) id) (H.out.2.2.trans (b1.mono H.out.2.2.size))))
  clear g1 b1
  have hcon := data_gr W1 F1 p G H1.out.1 HST.out.2.1
  unfold DatP twoV at hcon
  rw [HL.out.1, HL.out.2.1] at hcon
  go_wp2_with fail
  refine hcon.mono ?_
  clear hcon
  rintro e W2 ⟨A1, c1, B1, d1, rfl, o1, o2, b2⟩
  have hcon := nodes_gr W2 F1 p G (H1.out.1.below b2) HST.out.2.1
  have HO := Lib.hid (And.intro o1 o2)
  have HB2 := Lib.hid b2
  clear o1 o2 b2
  go_wp2_with fail
  refine hcon.mono ?_
  clear hcon
  rintro e W3 ⟨v, rfl, o3, b3⟩
  rw [HN.out.1] at o3
  obtain ⟨NA, Nc, rfl, -, -⟩ := own_form o3
  have k4 := Blk.new W3 25 #[.slice A1 l1 c1, .slice B1 l2 d1]
  have b34 : Below W3.heap.size W3 (W3.alloc (.cells #[.slice A1 l1 c1, .slice B1 l2 d1] 25)) := (Below.refl _ _).alloc (Nat.le_refl _) _
  have u23 := Upd.of_below b3 (fun _ => False)
  have b24 := b3.trans (b34.mono b3.size)
  have H4 := Lib.hid (show GrS (W3.alloc (.cells #[.slice A1 l1 c1, .slice B1 l2 d1] 25)) F1 p G ∧ Blk (W3.alloc (.cells #[.slice A1 l1 c1, .slice B1 l2 d1] 25)) w.heap.size 39 #[.string x0, .string x1, .string x2] ∧ Blk (W3.alloc (.cells #[.slice A1 l1 c1, .slice B1 l2 d1] 25)) W3.heap.size 25 #[.slice A1 l1 c1, .slice B1 l2 d1] ∧ ForG (W3.alloc (.cells #[.slice A1 l1 c1, .slice B1 l2 d1] 25)) A1 c1 B1 d1 (datN G) (datE G) ∧ RowR (W3.alloc (.cells #[.slice A1 l1 c1, .slice B1 l2 d1] 25)) NA (txtCells G.N) ∧ Below w.heap.size w (W3.alloc (.cells #[.slice A1 l1 c1, .slice B1 l2 d1] 25)) from by
    have b14 := HB2.out.trans (b24.mono HB2.out.size)
    refine ⟨H1.out.1.below b14, H1.out.2.1.upd (Upd.of_below b14 (fun _ => False)) id, k4, ?_, (RowR.of_own o3).below b34, H1.out.2.2.trans (b14.mono H1.out.2.2.size)⟩
    have o1 := HO.out.1
    have o2 := HO.out.2
    rw [← HL.out.1] at o1
    rw [← HL.out.2.1] at o2
    exact (dat_for (w := w) HST.out.2.1 o1 o2).below b24)
  clear k4 b34 u23 b24 o3 b3 HO HB2 H1 H
  generalize hgx : w.heap.size = gx at H4
  go_upto_region 7 with (fail)
  generalize hgw : W3.heap.size = gw at H4
  generalize W3.alloc (.cells #[.slice A1 l1 c1, .slice B1 l2 d1] 25) = W4 at H4 ⊢
  (try rw [hgx])
  (try rw [hgw])
  have HGX := Lib.hid hgx
  clear hgx hgw
  have UP4 := Lib.hid (show ∀ W, Below W4.heap.size W4 W → GrS W F1 p G ∧ Blk W gx 39 #[.string x0, .string x1, .string x2] ∧ Blk W gw 25 #[.slice A1 l1 c1, .slice B1 l2 d1] ∧ ForG W A1 c1 B1 d1 (datN G) (datE G) ∧ RowR W NA (txtCells G.N) ∧ Below w.heap.size w W from fun W hb =>
    ⟨H4.out.1.below hb, H4.out.2.1.upd (Upd.of_below hb (fun _ => False)) id, H4.out.2.2.1.upd (Upd.of_below hb (fun _ => False)) id, H4.out.2.2.2.1.below hb, H4.out.2.2.2.2.1.below hb, by
      rw [HGX.out]
      exact H4.out.2.2.2.2.2.trans (hb.mono (by have := H4.out.2.2.2.2.2.size; have := HGX.out; omega))⟩)
  go_wp2_with fail
  refine (copy_gr W4 F1 p G H4.out.1 HST.out.2.1).mono ?_
  rintro e W5 ⟨pc, rfl, ⟨F5, g5, n5⟩, b5⟩
  have hu := UP4.out W5 b5
  have q0 : W5.cell? ⟨gx, 0, none⟩ = some (.string x0) := hu.2.1.cell 0
  have q1 : W5.cell? ⟨gx, 1, none⟩ = some (.string x1) := hu.2.1.cell 1
  have q2 : W5.cell? ⟨gx, 2, none⟩ = some (.string x2) := hu.2.1.cell 2
  have hcon := addEdge_gr W5 F5 pc G g5 HST.out.2.1 ⟨x0, x1, x2⟩ HXS.out.1
  rw [HST.out.2.2.2.2.1] at hcon
  have HB5 := Lib.hid (And.intro b5 n5)
  clear hu g5 b5 n5 H4
  go_wp2_with fail
  refine hcon.mono ?_
  clear hcon q0 q1 q2
  rintro e W6 ⟨rfl, gto⟩
  obtain ⟨⟨F6, g6, n6⟩, b6⟩ := Fresh.step HB5.out.2 HB5.out.1.size gto
  have HB6 := Lib.hid (And.intro (HB5.out.1.trans b6) n6)
  have hcon := addNode_gr W6 F6 pc G1 g6 HST.out.2.2.1 s HXS.out.2
  rw [HST.out.2.2.2.2.2.1] at hcon
  clear gto n6 b6 g6 HB5
  go_wp2_with fail
  refine hcon.mono ?_
  clear hcon
  rintro e W7 ⟨rfl, gto⟩
  obtain ⟨⟨F2, g7, n7⟩, b7⟩ := Fresh.step HB6.out.2 HB6.out.1.size gto
  have HB7 := Lib.hid (And.intro (HB6.out.1.trans b7) (And.intro n7 g7.lt))
  have HG7 := Lib.hid g7
  have hcon := data_gr W7 F2 pc G2 g7 HST.out.2.2.2.1
  clear gto n7 b7 g7 HB6
  unfold DatP twoV at hcon
  rw [HL.out.2.2.1, HL.out.2.2.2] at hcon
  go_wp2_with fail
  refine hcon.mono ?_
  clear hcon
  rintro e W8 ⟨A2, c2, B2, d2, rfl, o1, o2, b8⟩
  have k9 := Blk.new W8 25 #[.slice A2 l3 c2, .slice B2 l4 d2]
  have b89 : Below W8.heap.size W8 (W8.alloc (.cells #[.slice A2 l3 c2, .slice B2 l4 d2] 25)) := (Below.refl _ _).alloc (Nat.le_refl _) _
  have HC9 := Lib.hid (HG7.out.below (b8.trans (b89.mono b8.size)))
  have HBD := Lib.hid (HB7.out.1.trans ((b8.trans (b89.mono b8.size)).mono HB7.out.1.size))
  have HRO := Lib.hid (show Blk (W8.alloc (.cells #[.slice A2 l3 c2, .slice B2 l4 d2] 25)) W8.heap.size 25 #[.slice A2 l3 c2, .slice B2 l4 d2] ∧ W7.heap.size ≤ W8.heap.size ∧ (W8.alloc (.cells #[.slice A2 l3 c2, .slice B2 l4 d2] 25)).ownsRow W7.heap.size 9 1 (.slice A2 l3 c2) l3 (txtCells (datN G2)) ∧ (W8.alloc (.cells #[.slice A2 l3 c2, .slice B2 l4 d2] 25)).ownsRow W7.heap.size 39 3 (.slice B2 l4 d2) l4 (edCells (datE G2)) from ⟨k9, b8.size, o1.alloc _, o2.alloc _⟩)
  clear k9 b89 b8 o1 o2 HG7
  go_upto_region 11 with (fail)
  generalize hgn : W8.heap.size = gn at HRO
  generalize W8.alloc (.cells #[.slice A2 l3 c2, .slice B2 l4 d2] 25) = W9 at HC9 HBD HRO ⊢
  (try rw [hgn])
  clear hgn
  have ALL := Lib.hid (show ∀ W, Upd F2 W9 W → (GrS W F1 p G ∧ Blk W gx 39 #[.string x0, .string x1, .string x2] ∧ Blk W gw 25 #[.slice A1 l1 c1, .slice B1 l2 d1] ∧ ForG W A1 c1 B1 d1 (datN G) (datE G) ∧ RowR W NA (txtCells G.N) ∧ Below w.heap.size w W) ∧ Blk W gn 25 #[.slice A2 l3 c2, .slice B2 l4 d2] ∧ ForG W A2 c2 B2 d2 (datN G2) (datE G2) from fun W hu => by
    have hlt := HB7.out.2.2
    have o1 := ownsRow_upd HRO.out.2.2.1 hu (fun k hk e => by have := (HRO.out.2.2.1.lt k hk).1; have := hlt k e; omega)
    have o2 := ownsRow_upd HRO.out.2.2.2 hu (fun k hk e => by have := (HRO.out.2.2.2.lt k hk).1; have := hlt k e; omega)
    rw [← HL.out.2.2.1] at o1
    rw [← HL.out.2.2.2] at o2
    refine ⟨UP4.out W (HBD.out.trans (hu.below (fun k _ hk => HB7.out.2.1 k hk) HBD.out.size)), HRO.out.1.upd hu (fun e => by have := hlt _ e; have := HRO.out.2.1; omega), dat_for (w := w) HST.out.2.2.2.1 o1 o2⟩)
  have SR := Lib.hid (show ∀ W, Upd F2 W9 W → (fun W => W.cell? ⟨gn, 0, none⟩ = some (.slice A2 l3 c2) ∧ W.cell? ⟨gn, 1, none⟩ = some (.slice B2 l4 d2) ∧ W.cell? ⟨gw, 0, none⟩ = some (.slice A1 l1 c1) ∧ W.cell? ⟨gw, 1, none⟩ = some (.slice B1 l2 d1)) W from fun W hu => by
    have ha := ALL.out W hu
    exact ⟨ha.2.1.cell 0, ha.2.1.cell 1, ha.1.2.2.1.cell 0, ha.1.2.2.1.cell 1⟩)
  have hsame := fun V (hu : Upd F2 W9 V) => esame_any V A2 c2 B2 d2 (datN G2) (datE G2) A1 c1 B1 d1 (datN G) (datE G) (ALL.out V hu).2.2 (ALL.out V hu).1.2.2.2.1
  have hdatg := fun V (hu : Upd F2 W9 V) => dat_is V F1 p G (ALL.out V hu).1.1 HST.out.2.1 rfl rfl
  have hsamg := fun V (hu : Upd F2 W9 V) A5 c5 B5 d5 (hf : ForG V A5 c5 B5 d5 (datN G) (datE G)) => same_is V hf (ALL.out V hu).1.2.2.2.1
  unfold twoV at hsame
  rw [HST.out.1.same, HL.out.2.2.1, HL.out.2.2.2, HL.out.1, HL.out.2.1] at hsame
  rw [HL.out.1, HL.out.2.1] at hdatg hsamg
  have hS := SR.out W9.drew (Upd.refl F2 W9).drew
  have HX := HXS
  clear UP4 HRO HXS
  go_cut [95] from 25 (fun s95 wc => s95 = .bool false ∧ Hid (Below W9.heap.size W9 wc))
  case first =>
    have B0 := Lib.hid (show Below W9.heap.size W9 W9.drew from (Below.refl _ _).drew)
    refine wp_region_ord (fun W => W.cell? ⟨gn, 0, none⟩ = some (.slice A2 l3 c2) ∧ W.cell? ⟨gn, 1, none⟩ = some (.slice B2 l4 d2) ∧ W.cell? ⟨gw, 0, none⟩ = some (.slice A1 l1 c1) ∧ W.cell? ⟨gw, 1, none⟩ = some (.slice B1 l2 d1)) 29 [(0, true), (1, true), (2, true), (3, true), (4, true), (5, true), (6, false), (7, true), (8, true), (9, true), (10, true), (11, true), (12, true), (13, true), (14, true), (15, true), (16, true), (17, true), (18, true), (19, true), (20, true), (21, true), (22, true), (23, true), (25, true), (24, false), (26, false), (27, true), (28, true)] (by kernel_rfl) (by kernel_rfl) (fun _ _ d _ _ h => by cases d <;> exact h) hS ?_
    generalize W9.drew = V0 at B0 hS ⊢
    clear HC9 HBD HB7 HX HL HN HST
    cases m2 with
    | true =>
      obtain rfl := HIM.out.2.1 (by trivial)
      (refine ord_take (v := ?_) rfl (by first | with_reducible rfl | kernel_rfl) ?_ ?_; rotate_left; (focus (intro wS hS; (try dsimp only at hS); go_split_ands; go_simp; (try with_reducible rfl); done)); (try simp only [Act.put, List.getElem_toArray, List.getElem_cons_succ, List.getElem_cons_zero, List.setIfInBounds_toArray, List.set_cons_zero, List.set_cons_succ]))
      (refine ord_take (v := ?_) rfl (by first | with_reducible rfl | kernel_rfl) ?_ ?_; rotate_left; (focus (intro wS hS; (try dsimp only at hS); go_split_ands; go_simp; (try with_reducible rfl); done)); (try simp only [Act.put, List.getElem_toArray, List.getElem_cons_succ, List.getElem_cons_zero, List.setIfInBounds_toArray, List.set_cons_zero, List.set_cons_succ]))
      (refine ord_take (v := ?_) rfl (by first | with_reducible rfl | kernel_rfl) ?_ ?_; rotate_left; (focus (intro wS hS; (try dsimp only at hS); go_split_ands; go_simp; (try with_reducible rfl); done)); (try simp only [Act.put, List.getElem_toArray, List.getElem_cons_succ, List.getElem_cons_zero, List.setIfInBounds_toArray, List.set_cons_zero, List.set_cons_succ]))
      (refine ord_take (v := ?_) rfl (by first | with_reducible rfl | kernel_rfl) ?_ ?_; rotate_left; (focus (intro wS hS; (try dsimp only at hS); go_split_ands; go_simp; (try with_reducible rfl); done)); (try simp only [Act.put, List.getElem_toArray, List.getElem_cons_succ, List.getElem_cons_zero, List.setIfInBounds_toArray, List.set_cons_zero, List.set_cons_succ]))
      (refine ord_take (v := ?_) rfl (by first | with_reducible rfl | kernel_rfl) ?_ ?_; rotate_left; (focus (intro wS hS; (try dsimp only at hS); go_split_ands; go_simp; (try with_reducible rfl); done)); (try simp only [Act.put, List.getElem_toArray, List.getElem_cons_succ, List.getElem_cons_zero, List.setIfInBounds_toArray, List.set_cons_zero, List.set_cons_succ]))
      (refine ord_take (v := ?_) rfl (by first | with_reducible rfl | kernel_rfl) ?_ ?_; rotate_left; (focus (intro wS hS; (try dsimp only at hS); go_split_ands; go_simp; (try with_reducible rfl); done)); (try simp only [Act.put, List.getElem_toArray, List.getElem_cons_succ, List.getElem_cons_zero, List.setIfInBounds_toArray, List.set_cons_zero, List.set_cons_succ]))
      refine ord_do rfl rfl (fun K hK => ?_)
      go_simp
      have hcon := hsame V0 (Upd.of_below B0.out F2)
      refine hcon.mono ?_
      clear hcon
      rintro e V1 ⟨rfl, b5⟩
      have B1 := Lib.hid (B0.out.trans (b5.mono B0.out.size))
      have hS := SR.out _ (Upd.of_below B1.out F2)
      refine hK _ _ (fun _ => hS) ?_
      clear hK K b5
      (try simp only [Act.put, List.getElem_toArray, List.getElem_cons_succ, List.getElem_cons_zero, List.setIfInBounds_toArray, List.set_cons_zero, List.set_cons_succ])
      (refine ord_take (v := ?_) rfl (by first | with_reducible rfl | kernel_rfl) ?_ ?_; rotate_left; (focus (intro wS hS; (try dsimp only at hS); go_split_ands; go_simp; (try with_reducible rfl); done)); (try simp only [Act.put, List.getElem_toArray, List.getElem_cons_succ, List.getElem_cons_zero, List.setIfInBounds_toArray, List.set_cons_zero, List.set_cons_succ]))
      (refine ord_take (v := ?_) rfl (by first | with_reducible rfl | kernel_rfl) ?_ ?_; rotate_left; (focus (intro wS hS; (try dsimp only at hS); go_split_ands; go_simp; (try with_reducible rfl); done)); (try simp only [Act.put, List.getElem_toArray, List.getElem_cons_succ, List.getElem_cons_zero, List.setIfInBounds_toArray, List.set_cons_zero, List.set_cons_succ]))
      (refine ord_take (v := ?_) rfl (by first | with_reducible rfl | kernel_rfl) ?_ ?_; rotate_left; (focus (intro wS hS; (try dsimp only at hS); go_split_ands; go_simp; (try with_reducible rfl); done)); (try simp only [Act.put, List.getElem_toArray, List.getElem_cons_succ, List.getElem_cons_zero, List.setIfInBounds_toArray, List.set_cons_zero, List.set_cons_succ]))
      (refine ord_take (v := ?_) rfl (by first | with_reducible rfl | kernel_rfl) ?_ ?_; rotate_left; (focus (intro wS hS; (try dsimp only at hS); go_split_ands; go_simp; (try with_reducible rfl); done)); (try simp only [Act.put, List.getElem_toArray, List.getElem_cons_succ, List.getElem_cons_zero, List.setIfInBounds_toArray, List.set_cons_zero, List.set_cons_succ]))
      (refine ord_take (v := ?_) rfl (by first | with_reducible rfl | kernel_rfl) ?_ ?_; rotate_left; (focus (intro wS hS; (try dsimp only at hS); go_split_ands; go_simp; (try with_reducible rfl); done)); (try simp only [Act.put, List.getElem_toArray, List.getElem_cons_succ, List.getElem_cons_zero, List.setIfInBounds_toArray, List.set_cons_zero, List.set_cons_succ]))
      (refine ord_skip rfl (by kernel_rfl) ?_; (try simp only [Act.put, List.getElem_toArray, List.getElem_cons_succ, List.getElem_cons_zero, List.setIfInBounds_toArray, List.set_cons_zero, List.set_cons_succ]))
      (refine ord_take (v := ?_) rfl (by first | with_reducible rfl | kernel_rfl) ?_ ?_; rotate_left; (focus (intro wS hS; (try dsimp only at hS); go_split_ands; go_simp; (try with_reducible rfl); done)); (try simp only [Act.put, List.getElem_toArray, List.getElem_cons_succ, List.getElem_cons_zero, List.setIfInBounds_toArray, List.set_cons_zero, List.set_cons_succ]))
      (refine ord_take (v := ?_) rfl (by first | with_reducible rfl | kernel_rfl) ?_ ?_; rotate_left; (focus (intro wS hS; (try dsimp only at hS); go_split_ands; go_simp; (try with_reducible rfl); done)); (try simp only [Act.put, List.getElem_toArray, List.getElem_cons_succ, List.getElem_cons_zero, List.setIfInBounds_toArray, List.set_cons_zero, List.set_cons_succ]))
      (refine ord_take (v := ?_) rfl (by first | with_reducible rfl | kernel_rfl) ?_ ?_; rotate_left; (focus (intro wS hS; (try dsimp only at hS); go_split_ands; go_simp; (try with_reducible rfl); done)); (try simp only [Act.put, List.getElem_toArray, List.getElem_cons_succ, List.getElem_cons_zero, List.setIfInBounds_toArray, List.set_cons_zero, List.set_cons_succ]))
      (refine ord_take (v := ?_) rfl (by first | with_reducible rfl | kernel_rfl) ?_ ?_; rotate_left; (focus (intro wS hS; (try dsimp only at hS); go_split_ands; go_simp; (try with_reducible rfl); done)); (try simp only [Act.put, List.getElem_toArray, List.getElem_cons_succ, List.getElem_cons_zero, List.setIfInBounds_toArray, List.set_cons_zero, List.set_cons_succ]))
      (refine ord_take (v := ?_) rfl (by first | with_reducible rfl | kernel_rfl) ?_ ?_; rotate_left; (focus (intro wS hS; (try dsimp only at hS); go_split_ands; go_simp; (try with_reducible rfl); done)); (try simp only [Act.put, List.getElem_toArray, List.getElem_cons_succ, List.getElem_cons_zero, List.setIfInBounds_toArray, List.set_cons_zero, List.set_cons_succ]))
      (refine ord_take (v := ?_) rfl (by first | with_reducible rfl | kernel_rfl) ?_ ?_; rotate_left; (focus (intro wS hS; (try dsimp only at hS); go_split_ands; go_simp; (try with_reducible rfl); done)); (try simp only [Act.put, List.getElem_toArray, List.getElem_cons_succ, List.getElem_cons_zero, List.setIfInBounds_toArray, List.set_cons_zero, List.set_cons_succ]))
      (refine ord_skip rfl (by kernel_rfl) ?_; (try simp only [Act.put, List.getElem_toArray, List.getElem_cons_succ, List.getElem_cons_zero, List.setIfInBounds_toArray, List.set_cons_zero, List.set_cons_succ]))
      (refine ord_take (v := ?_) rfl (by first | with_reducible rfl | kernel_rfl) ?_ ?_; rotate_left; (focus (intro wS hS; (try dsimp only at hS); go_split_ands; go_simp; (try with_reducible rfl); done)); (try simp only [Act.put, List.getElem_toArray, List.getElem_cons_succ, List.getElem_cons_zero, List.setIfInBounds_toArray, List.set_cons_zero, List.set_cons_succ]))
      (refine ord_take (v := ?_) rfl (by first | with_reducible rfl | kernel_rfl) ?_ ?_; rotate_left; (focus (intro wS hS; (try dsimp only at hS); go_split_ands; go_simp; (try with_reducible rfl); done)); (try simp only [Act.put, List.getElem_toArray, List.getElem_cons_succ, List.getElem_cons_zero, List.setIfInBounds_toArray, List.set_cons_zero, List.set_cons_succ]))
      (refine ord_take (v := ?_) rfl (by first | with_reducible rfl | kernel_rfl) ?_ ?_; rotate_left; (focus (intro wS hS; (try dsimp only at hS); go_split_ands; go_simp; (try with_reducible rfl); done)); (try simp only [Act.put, List.getElem_toArray, List.getElem_cons_succ, List.getElem_cons_zero, List.setIfInBounds_toArray, List.set_cons_zero, List.set_cons_succ]))
      (refine ord_take (v := ?_) rfl (by first | with_reducible rfl | kernel_rfl) ?_ ?_; rotate_left; (focus (intro wS hS; (try dsimp only at hS); go_split_ands; go_simp; (try with_reducible rfl); done)); (try simp only [Act.put, List.getElem_toArray, List.getElem_cons_succ, List.getElem_cons_zero, List.setIfInBounds_toArray, List.set_cons_zero, List.set_cons_succ]))
      (refine ord_take (v := ?_) rfl (by first | with_reducible rfl | kernel_rfl) ?_ ?_; rotate_left; (focus (intro wS hS; (try dsimp only at hS); go_split_ands; go_simp; (try with_reducible rfl); done)); (try simp only [Act.put, List.getElem_toArray, List.getElem_cons_succ, List.getElem_cons_zero, List.setIfInBounds_toArray, List.set_cons_zero, List.set_cons_succ]))
      (refine ord_dog rfl (by first | with_reducible rfl | kernel_rfl) (fun K hK => ?_); go_simp)
      have hcon := hdatg V1 (Upd.of_below B1.out F2)
      refine hcon.mono ?_
      clear hcon
      rintro e V2 ⟨A5, c5, B5, d5, rfl, hf5, b5⟩
      have B2 := Lib.hid (B1.out.trans (b5.mono B1.out.size))
      refine hK _ _ (fun _ => SR.out _ (Upd.of_below B2.out F2)) ?_
      clear hK K b5
      (try simp only [Act.put, List.getElem_toArray, List.getElem_cons_succ, List.getElem_cons_zero, List.setIfInBounds_toArray, List.set_cons_zero, List.set_cons_succ])
      (refine ord_dog rfl (by first | with_reducible rfl | kernel_rfl) (fun K hK => ?_); go_simp)
      have hcon := hsamg V2 (Upd.of_below B2.out F2) A5 c5 B5 d5 hf5
      refine hcon.mono ?_
      clear hcon
      rintro e V3 ⟨rfl, b5⟩
      have B3 := Lib.hid (B2.out.trans (b5.mono B2.out.size))
      have hS := SR.out _ (Upd.of_below B3.out F2)
      refine hK _ _ (fun _ => hS) ?_
      clear hK K b5
      (try simp only [Act.put, List.getElem_toArray, List.getElem_cons_succ, List.getElem_cons_zero, List.setIfInBounds_toArray, List.set_cons_zero, List.set_cons_succ])
      (refine ord_take (v := ?_) rfl (by first | with_reducible rfl | kernel_rfl) ?_ ?_; rotate_left; (focus (intro wS hS; (try dsimp only at hS); go_split_ands; go_simp; (try with_reducible rfl); done)); (try simp only [Act.put, List.getElem_toArray, List.getElem_cons_succ, List.getElem_cons_zero, List.setIfInBounds_toArray, List.set_cons_zero, List.set_cons_succ]))
      (refine ord_take (v := ?_) rfl (by first | with_reducible rfl | kernel_rfl) ?_ ?_; rotate_left; (focus (intro wS hS; (try dsimp only at hS); go_split_ands; go_simp; (try with_reducible rfl); done)); (try simp only [Act.put, List.getElem_toArray, List.getElem_cons_succ, List.getElem_cons_zero, List.setIfInBounds_toArray, List.set_cons_zero, List.set_cons_succ]))
      refine ord_done ?_
      clear hS SR
      go_wp2
      go_meet
      case rel => exact ⟨rfl, B3⟩
    | false =>
      by_cases h2 : e2 = 0
      · subst h2
        (refine ord_take (v := ?_) rfl (by first | with_reducible rfl | kernel_rfl) ?_ ?_; rotate_left; (focus (intro wS hS; (try dsimp only at hS); go_split_ands; go_simp; (try with_reducible rfl); done)); (try simp only [Act.put, List.getElem_toArray, List.getElem_cons_succ, List.getElem_cons_zero, List.setIfInBounds_toArray, List.set_cons_zero, List.set_cons_succ]))
        (refine ord_take (v := ?_) rfl (by first | with_reducible rfl | kernel_rfl) ?_ ?_; rotate_left; (focus (intro wS hS; (try dsimp only at hS); go_split_ands; go_simp; (try with_reducible rfl); done)); (try simp only [Act.put, List.getElem_toArray, List.getElem_cons_succ, List.getElem_cons_zero, List.setIfInBounds_toArray, List.set_cons_zero, List.set_cons_succ]))
        (refine ord_take (v := ?_) rfl (by first | with_reducible rfl | kernel_rfl) ?_ ?_; rotate_left; (focus (intro wS hS; (try dsimp only at hS); go_split_ands; go_simp; (try with_reducible rfl); done)); (try simp only [Act.put, List.getElem_toArray, List.getElem_cons_succ, List.getElem_cons_zero, List.setIfInBounds_toArray, List.set_cons_zero, List.set_cons_succ]))
        (refine ord_take (v := ?_) rfl (by first | with_reducible rfl | kernel_rfl) ?_ ?_; rotate_left; (focus (intro wS hS; (try dsimp only at hS); go_split_ands; go_simp; (try with_reducible rfl); done)); (try simp only [Act.put, List.getElem_toArray, List.getElem_cons_succ, List.getElem_cons_zero, List.setIfInBounds_toArray, List.set_cons_zero, List.set_cons_succ]))
        (refine ord_take (v := ?_) rfl (by first | with_reducible rfl | kernel_rfl) ?_ ?_; rotate_left; (focus (intro wS hS; (try dsimp only at hS); go_split_ands; go_simp; (try with_reducible rfl); done)); (try simp only [Act.put, List.getElem_toArray, List.getElem_cons_succ, List.getElem_cons_zero, List.setIfInBounds_toArray, List.set_cons_zero, List.set_cons_succ]))
        (refine ord_take (v := ?_) rfl (by first | with_reducible rfl | kernel_rfl) ?_ ?_; rotate_left; (focus (intro wS hS; (try dsimp only at hS); go_split_ands; go_simp; (try with_reducible rfl); done)); (try simp only [Act.put, List.getElem_toArray, List.getElem_cons_succ, List.getElem_cons_zero, List.setIfInBounds_toArray, List.set_cons_zero, List.set_cons_succ]))
        refine ord_do rfl rfl (fun K hK => ?_)
        go_simp
        have hcon := hsame V0 (Upd.of_below B0.out F2)
        refine hcon.mono ?_
        clear hcon
        rintro e V1 ⟨rfl, b5⟩
        have B1 := Lib.hid (B0.out.trans (b5.mono B0.out.size))
        have hS := SR.out _ (Upd.of_below B1.out F2)
        refine hK _ _ (fun _ => hS) ?_
        clear hK K b5
        (try simp only [Act.put, List.getElem_toArray, List.getElem_cons_succ, List.getElem_cons_zero, List.setIfInBounds_toArray, List.set_cons_zero, List.set_cons_succ])
        (refine ord_take (v := ?_) rfl (by first | with_reducible rfl | kernel_rfl) ?_ ?_; rotate_left; (focus (intro wS hS; (try dsimp only at hS); go_split_ands; go_simp; (try with_reducible rfl); done)); (try simp only [Act.put, List.getElem_toArray, List.getElem_cons_succ, List.getElem_cons_zero, List.setIfInBounds_toArray, List.set_cons_zero, List.set_cons_succ]))
        (refine ord_take (v := ?_) rfl (by first | with_reducible rfl | kernel_rfl) ?_ ?_; rotate_left; (focus (intro wS hS; (try dsimp only at hS); go_split_ands; go_simp; (try with_reducible rfl); done)); (try simp only [Act.put, List.getElem_toArray, List.getElem_cons_succ, List.getElem_cons_zero, List.setIfInBounds_toArray, List.set_cons_zero, List.set_cons_succ]))
        (refine ord_take (v := ?_) rfl (by first | with_reducible rfl | kernel_rfl) ?_ ?_; rotate_left; (focus (intro wS hS; (try dsimp only at hS); go_split_ands; go_simp; (try with_reducible rfl); done)); (try simp only [Act.put, List.getElem_toArray, List.getElem_cons_succ, List.getElem_cons_zero, List.setIfInBounds_toArray, List.set_cons_zero, List.set_cons_succ]))
        (refine ord_take (v := ?_) rfl (by first | with_reducible rfl | kernel_rfl) ?_ ?_; rotate_left; (focus (intro wS hS; (try dsimp only at hS); go_split_ands; go_simp; (try with_reducible rfl); done)); (try simp only [Act.put, List.getElem_toArray, List.getElem_cons_succ, List.getElem_cons_zero, List.setIfInBounds_toArray, List.set_cons_zero, List.set_cons_succ]))
        (refine ord_take (v := ?_) rfl (by first | with_reducible rfl | kernel_rfl) ?_ ?_; rotate_left; (focus (intro wS hS; (try dsimp only at hS); go_split_ands; go_simp; (try with_reducible rfl); done)); (try simp only [Act.put, List.getElem_toArray, List.getElem_cons_succ, List.getElem_cons_zero, List.setIfInBounds_toArray, List.set_cons_zero, List.set_cons_succ]))
        (refine ord_skip rfl (by kernel_rfl) ?_; (try simp only [Act.put, List.getElem_toArray, List.getElem_cons_succ, List.getElem_cons_zero, List.setIfInBounds_toArray, List.set_cons_zero, List.set_cons_succ]))
        (refine ord_take (v := ?_) rfl (by first | with_reducible rfl | kernel_rfl) ?_ ?_; rotate_left; (focus (intro wS hS; (try dsimp only at hS); go_split_ands; go_simp; (try with_reducible rfl); done)); (try simp only [Act.put, List.getElem_toArray, List.getElem_cons_succ, List.getElem_cons_zero, List.setIfInBounds_toArray, List.set_cons_zero, List.set_cons_succ]))
        (refine ord_take (v := ?_) rfl (by first | with_reducible rfl | kernel_rfl) ?_ ?_; rotate_left; (focus (intro wS hS; (try dsimp only at hS); go_split_ands; go_simp; (try with_reducible rfl); done)); (try simp only [Act.put, List.getElem_toArray, List.getElem_cons_succ, List.getElem_cons_zero, List.setIfInBounds_toArray, List.set_cons_zero, List.set_cons_succ]))
        (refine ord_take (v := ?_) rfl (by first | with_reducible rfl | kernel_rfl) ?_ ?_; rotate_left; (focus (intro wS hS; (try dsimp only at hS); go_split_ands; go_simp; (try with_reducible rfl); done)); (try simp only [Act.put, List.getElem_toArray, List.getElem_cons_succ, List.getElem_cons_zero, List.setIfInBounds_toArray, List.set_cons_zero, List.set_cons_succ]))
        (refine ord_take (v := ?_) rfl (by first | with_reducible rfl | kernel_rfl) ?_ ?_; rotate_left; (focus (intro wS hS; (try dsimp only at hS); go_split_ands; go_simp; (try with_reducible rfl); done)); (try simp only [Act.put, List.getElem_toArray, List.getElem_cons_succ, List.getElem_cons_zero, List.setIfInBounds_toArray, List.set_cons_zero, List.set_cons_succ]))
        (refine ord_take (v := ?_) rfl (by first | with_reducible rfl | kernel_rfl) ?_ ?_; rotate_left; (focus (intro wS hS; (try dsimp only at hS); go_split_ands; go_simp; (try with_reducible rfl); done)); (try simp only [Act.put, List.getElem_toArray, List.getElem_cons_succ, List.getElem_cons_zero, List.setIfInBounds_toArray, List.set_cons_zero, List.set_cons_succ]))
        (refine ord_take (v := ?_) rfl (by first | with_reducible rfl | kernel_rfl) ?_ ?_; rotate_left; (focus (intro wS hS; (try dsimp only at hS); go_split_ands; go_simp; (try with_reducible rfl); done)); (try simp only [Act.put, List.getElem_toArray, List.getElem_cons_succ, List.getElem_cons_zero, List.setIfInBounds_toArray, List.set_cons_zero, List.set_cons_succ]))
        (refine ord_skip rfl (by kernel_rfl) ?_; (try simp only [Act.put, List.getElem_toArray, List.getElem_cons_succ, List.getElem_cons_zero, List.setIfInBounds_toArray, List.set_cons_zero, List.set_cons_succ]))
        (refine ord_take (v := ?_) rfl (by first | with_reducible rfl | kernel_rfl) ?_ ?_; rotate_left; (focus (intro wS hS; (try dsimp only at hS); go_split_ands; go_simp; (try with_reducible rfl); done)); (try simp only [Act.put, List.getElem_toArray, List.getElem_cons_succ, List.getElem_cons_zero, List.setIfInBounds_toArray, List.set_cons_zero, List.set_cons_succ]))
        (refine ord_take (v := ?_) rfl (by first | with_reducible rfl | kernel_rfl) ?_ ?_; rotate_left; (focus (intro wS hS; (try dsimp only at hS); go_split_ands; go_simp; (try with_reducible rfl); done)); (try simp only [Act.put, List.getElem_toArray, List.getElem_cons_succ, List.getElem_cons_zero, List.setIfInBounds_toArray, List.set_cons_zero, List.set_cons_succ]))
        (refine ord_take (v := ?_) rfl (by first | with_reducible rfl | kernel_rfl) ?_ ?_; rotate_left; (focus (intro wS hS; (try dsimp only at hS); go_split_ands; go_simp; (try with_reducible rfl); done)); (try simp only [Act.put, List.getElem_toArray, List.getElem_cons_succ, List.getElem_cons_zero, List.setIfInBounds_toArray, List.set_cons_zero, List.set_cons_succ]))
        (refine ord_take (v := ?_) rfl (by first | with_reducible rfl | kernel_rfl) ?_ ?_; rotate_left; (focus (intro wS hS; (try dsimp only at hS); go_split_ands; go_simp; (try with_reducible rfl); done)); (try simp only [Act.put, List.getElem_toArray, List.getElem_cons_succ, List.getElem_cons_zero, List.setIfInBounds_toArray, List.set_cons_zero, List.set_cons_succ]))
        (refine ord_take (v := ?_) rfl (by first | with_reducible rfl | kernel_rfl) ?_ ?_; rotate_left; (focus (intro wS hS; (try dsimp only at hS); go_split_ands; go_simp; (try with_reducible rfl); done)); (try simp only [Act.put, List.getElem_toArray, List.getElem_cons_succ, List.getElem_cons_zero, List.setIfInBounds_toArray, List.set_cons_zero, List.set_cons_succ]))
        (refine ord_dog rfl (by first | with_reducible rfl | kernel_rfl) (fun K hK => ?_); go_simp)
        have hcon := hdatg V1 (Upd.of_below B1.out F2)
        refine hcon.mono ?_
        clear hcon
        rintro e V2 ⟨A5, c5, B5, d5, rfl, hf5, b5⟩
        have B2 := Lib.hid (B1.out.trans (b5.mono B1.out.size))
        refine hK _ _ (fun _ => SR.out _ (Upd.of_below B2.out F2)) ?_
        clear hK K b5
        (try simp only [Act.put, List.getElem_toArray, List.getElem_cons_succ, List.getElem_cons_zero, List.setIfInBounds_toArray, List.set_cons_zero, List.set_cons_succ])
        (refine ord_dog rfl (by first | with_reducible rfl | kernel_rfl) (fun K hK => ?_); go_simp)
        have hcon := hsamg V2 (Upd.of_below B2.out F2) A5 c5 B5 d5 hf5
        refine hcon.mono ?_
        clear hcon
        rintro e V3 ⟨rfl, b5⟩
        have B3 := Lib.hid (B2.out.trans (b5.mono B2.out.size))
        have hS := SR.out _ (Upd.of_below B3.out F2)
        refine hK _ _ (fun _ => hS) ?_
        clear hK K b5
        (try simp only [Act.put, List.getElem_toArray, List.getElem_cons_succ, List.getElem_cons_zero, List.setIfInBounds_toArray, List.set_cons_zero, List.set_cons_succ])
        (refine ord_take (v := ?_) rfl (by first | with_reducible rfl | kernel_rfl) ?_ ?_; rotate_left; (focus (intro wS hS; (try dsimp only at hS); go_split_ands; go_simp; (try with_reducible rfl); done)); (try simp only [Act.put, List.getElem_toArray, List.getElem_cons_succ, List.getElem_cons_zero, List.setIfInBounds_toArray, List.set_cons_zero, List.set_cons_succ]))
        (refine ord_take (v := ?_) rfl (by first | with_reducible rfl | kernel_rfl) ?_ ?_; rotate_left; (focus (intro wS hS; (try dsimp only at hS); go_split_ands; go_simp; (try with_reducible rfl); done)); (try simp only [Act.put, List.getElem_toArray, List.getElem_cons_succ, List.getElem_cons_zero, List.setIfInBounds_toArray, List.set_cons_zero, List.set_cons_succ]))
        refine ord_done ?_
        clear hS SR
        go_wp2
        go_meet
        case rel => exact ⟨rfl, B3⟩
      · have h2I : (e2 == 0) = false := by simpa using h2
        have h2J : (e2 != 0) = true := by simpa using h2
        have h2K : (!(e2 == 0)) = true := by simpa using h2
        (refine ord_take (v := ?_) rfl (by first | with_reducible rfl | kernel_rfl) ?_ ?_; rotate_left; (focus (intro wS hS; (try dsimp only at hS); go_split_ands; go_simp; (try with_reducible rfl); done)); (try simp only [Act.put, List.getElem_toArray, List.getElem_cons_succ, List.getElem_cons_zero, List.setIfInBounds_toArray, List.set_cons_zero, List.set_cons_succ]))
        (refine ord_take (v := ?_) rfl (by first | with_reducible rfl | kernel_rfl) ?_ ?_; rotate_left; (focus (intro wS hS; (try dsimp only at hS); go_split_ands; go_simp; (try with_reducible rfl); done)); (try simp only [Act.put, List.getElem_toArray, List.getElem_cons_succ, List.getElem_cons_zero, List.setIfInBounds_toArray, List.set_cons_zero, List.set_cons_succ]))
        (refine ord_take (v := ?_) rfl (by first | with_reducible rfl | kernel_rfl) ?_ ?_; rotate_left; (focus (intro wS hS; (try dsimp only at hS); go_split_ands; go_simp; (try with_reducible rfl); done)); (try simp only [Act.put, List.getElem_toArray, List.getElem_cons_succ, List.getElem_cons_zero, List.setIfInBounds_toArray, List.set_cons_zero, List.set_cons_succ]))
        (refine ord_take (v := ?_) rfl (by first | with_reducible rfl | kernel_rfl) ?_ ?_; rotate_left; (focus (intro wS hS; (try dsimp only at hS); go_split_ands; go_simp; (try with_reducible rfl); done)); (try simp only [Act.put, List.getElem_toArray, List.getElem_cons_succ, List.getElem_cons_zero, List.setIfInBounds_toArray, List.set_cons_zero, List.set_cons_succ]))
        (refine ord_take (v := ?_) rfl (by first | with_reducible rfl | kernel_rfl) ?_ ?_; rotate_left; (focus (intro wS hS; (try dsimp only at hS); go_split_ands; go_simp; (try with_reducible rfl); done)); (try simp only [Act.put, List.getElem_toArray, List.getElem_cons_succ, List.getElem_cons_zero, List.setIfInBounds_toArray, List.set_cons_zero, List.set_cons_succ]))
        (refine ord_take (v := ?_) rfl (by first | with_reducible rfl | kernel_rfl) ?_ ?_; rotate_left; (focus (intro wS hS; (try dsimp only at hS); go_split_ands; go_simp; (try with_reducible rfl); done)); (try simp only [Act.put, List.getElem_toArray, List.getElem_cons_succ, List.getElem_cons_zero, List.setIfInBounds_toArray, List.set_cons_zero, List.set_cons_succ]))
        refine ord_do rfl rfl (fun K hK => ?_)
        go_simp
        have hcon := hsame V0 (Upd.of_below B0.out F2)
        refine hcon.mono ?_
        clear hcon
        rintro e V1 ⟨rfl, b5⟩
        have B1 := Lib.hid (B0.out.trans (b5.mono B0.out.size))
        have hS := SR.out _ (Upd.of_below B1.out F2)
        refine hK _ _ (fun _ => hS) ?_
        clear hK K b5
        (try simp only [Act.put, List.getElem_toArray, List.getElem_cons_succ, List.getElem_cons_zero, List.setIfInBounds_toArray, List.set_cons_zero, List.set_cons_succ])
        (refine ord_take (v := ?_) rfl (by first | with_reducible rfl | kernel_rfl) ?_ ?_; rotate_left; (focus (intro wS hS; (try dsimp only at hS); go_split_ands; go_simp; (try with_reducible rfl); done)); (try simp only [Act.put, List.getElem_toArray, List.getElem_cons_succ, List.getElem_cons_zero, List.setIfInBounds_toArray, List.set_cons_zero, List.set_cons_succ]))
        (refine ord_take (v := ?_) rfl (by first | with_reducible rfl | kernel_rfl) ?_ ?_; rotate_left; (focus (intro wS hS; (try dsimp only at hS); go_split_ands; go_simp; (try with_reducible rfl); done)); (try simp only [Act.put, List.getElem_toArray, List.getElem_cons_succ, List.getElem_cons_zero, List.setIfInBounds_toArray, List.set_cons_zero, List.set_cons_succ]))
        (refine ord_take (v := ?_) rfl (by first | with_reducible rfl | kernel_rfl) ?_ ?_; rotate_left; (focus (intro wS hS; (try dsimp only at hS); go_split_ands; go_simp; (try with_reducible rfl); done)); (try simp only [Act.put, List.getElem_toArray, List.getElem_cons_succ, List.getElem_cons_zero, List.setIfInBounds_toArray, List.set_cons_zero, List.set_cons_succ]))
        (refine ord_take (v := ?_) rfl (by first | with_reducible rfl | kernel_rfl) ?_ ?_; rotate_left; (focus (intro wS hS; (try dsimp only at hS); go_split_ands; go_simp; (try with_reducible rfl); done)); (try simp only [Act.put, List.getElem_toArray, List.getElem_cons_succ, List.getElem_cons_zero, List.setIfInBounds_toArray, List.set_cons_zero, List.set_cons_succ]))
        (refine ord_take (v := ?_) rfl (by first | with_reducible rfl | kernel_rfl) ?_ ?_; rotate_left; (focus (intro wS hS; (try dsimp only at hS); go_split_ands; go_simp; (try with_reducible rfl); done)); (try simp only [Act.put, List.getElem_toArray, List.getElem_cons_succ, List.getElem_cons_zero, List.setIfInBounds_toArray, List.set_cons_zero, List.set_cons_succ]))
        (refine ord_skip rfl (by kernel_rfl) ?_; (try simp only [Act.put, List.getElem_toArray, List.getElem_cons_succ, List.getElem_cons_zero, List.setIfInBounds_toArray, List.set_cons_zero, List.set_cons_succ]))
        (refine ord_take (v := ?_) rfl (by first | with_reducible rfl | kernel_rfl) ?_ ?_; rotate_left; (focus (intro wS hS; (try dsimp only at hS); go_split_ands; go_simp; (try with_reducible rfl); done)); (try simp only [Act.put, List.getElem_toArray, List.getElem_cons_succ, List.getElem_cons_zero, List.setIfInBounds_toArray, List.set_cons_zero, List.set_cons_succ]))
        (refine ord_take (v := ?_) rfl (by first | with_reducible rfl | kernel_rfl) ?_ ?_; rotate_left; (focus (intro wS hS; (try dsimp only at hS); go_split_ands; go_simp; (try with_reducible rfl); done)); (try simp only [Act.put, List.getElem_toArray, List.getElem_cons_succ, List.getElem_cons_zero, List.setIfInBounds_toArray, List.set_cons_zero, List.set_cons_succ]))
        (refine ord_take (v := ?_) rfl (by first | with_reducible rfl | kernel_rfl) ?_ ?_; rotate_left; (focus (intro wS hS; (try dsimp only at hS); go_split_ands; go_simp; (try with_reducible rfl); done)); (try simp only [Act.put, List.getElem_toArray, List.getElem_cons_succ, List.getElem_cons_zero, List.setIfInBounds_toArray, List.set_cons_zero, List.set_cons_succ]))
        (refine ord_take (v := ?_) rfl (by first | with_reducible rfl | kernel_rfl) ?_ ?_; rotate_left; (focus (intro wS hS; (try dsimp only at hS); go_split_ands; go_simp; (try with_reducible rfl); done)); (try simp only [Act.put, List.getElem_toArray, List.getElem_cons_succ, List.getElem_cons_zero, List.setIfInBounds_toArray, List.set_cons_zero, List.set_cons_succ]))
        (refine ord_take (v := ?_) rfl (by first | with_reducible rfl | kernel_rfl) ?_ ?_; rotate_left; (focus (intro wS hS; (try dsimp only at hS); go_split_ands; go_simp; (try with_reducible rfl); done)); (try simp only [Act.put, List.getElem_toArray, List.getElem_cons_succ, List.getElem_cons_zero, List.setIfInBounds_toArray, List.set_cons_zero, List.set_cons_succ]))
        (refine ord_take (v := ?_) rfl (by first | with_reducible rfl | kernel_rfl) ?_ ?_; rotate_left; (focus (intro wS hS; (try dsimp only at hS); go_split_ands; go_simp; (try with_reducible rfl); done)); (try simp only [Act.put, List.getElem_toArray, List.getElem_cons_succ, List.getElem_cons_zero, List.setIfInBounds_toArray, List.set_cons_zero, List.set_cons_succ]))
        (refine ord_take (v := ?_) rfl (by first | with_reducible rfl | kernel_rfl) ?_ ?_; rotate_left; (focus (intro wS hS; (try dsimp only at hS); go_split_ands; go_simp; (try with_reducible rfl); done)); (try simp only [Act.put, List.getElem_toArray, List.getElem_cons_succ, List.getElem_cons_zero, List.setIfInBounds_toArray, List.set_cons_zero, List.set_cons_succ]))
        (refine ord_take (v := ?_) rfl (by first | with_reducible rfl | kernel_rfl) ?_ ?_; rotate_left; (focus (intro wS hS; (try dsimp only at hS); go_split_ands; go_simp; (try with_reducible rfl); done)); (try simp only [Act.put, List.getElem_toArray, List.getElem_cons_succ, List.getElem_cons_zero, List.setIfInBounds_toArray, List.set_cons_zero, List.set_cons_succ]))
        (refine ord_take (v := ?_) rfl (by first | with_reducible rfl | kernel_rfl) ?_ ?_; rotate_left; (focus (intro wS hS; (try dsimp only at hS); go_split_ands; go_simp; (try with_reducible rfl); done)); (try simp only [Act.put, List.getElem_toArray, List.getElem_cons_succ, List.getElem_cons_zero, List.setIfInBounds_toArray, List.set_cons_zero, List.set_cons_succ]))
        (refine ord_take (v := ?_) rfl (by first | with_reducible rfl | kernel_rfl) ?_ ?_; rotate_left; (focus (intro wS hS; (try dsimp only at hS); go_split_ands; go_simp; (try with_reducible rfl); done)); (try simp only [Act.put, List.getElem_toArray, List.getElem_cons_succ, List.getElem_cons_zero, List.setIfInBounds_toArray, List.set_cons_zero, List.set_cons_succ]))
        (refine ord_take (v := ?_) rfl (by first | with_reducible rfl | kernel_rfl) ?_ ?_; rotate_left; (focus (intro wS hS; (try dsimp only at hS); go_split_ands; go_simp; (try with_reducible rfl); done)); (try simp only [Act.put, List.getElem_toArray, List.getElem_cons_succ, List.getElem_cons_zero, List.setIfInBounds_toArray, List.set_cons_zero, List.set_cons_succ]))
        (refine ord_take (v := ?_) rfl (by first | with_reducible rfl | kernel_rfl) ?_ ?_; rotate_left; (focus (intro wS hS; (try dsimp only at hS); go_split_ands; go_simp; (try with_reducible rfl); done)); (try simp only [Act.put, List.getElem_toArray, List.getElem_cons_succ, List.getElem_cons_zero, List.setIfInBounds_toArray, List.set_cons_zero, List.set_cons_succ]))
        (refine ord_dog rfl (by first | with_reducible rfl | kernel_rfl) (fun K hK => ?_); go_simp)
        have hcon := hdatg V1 (Upd.of_below B1.out F2)
        refine hcon.mono ?_
        clear hcon
        rintro e V2 ⟨A5, c5, B5, d5, rfl, hf5, b5⟩
        have B2 := Lib.hid (B1.out.trans (b5.mono B1.out.size))
        refine hK _ _ (fun _ => SR.out _ (Upd.of_below B2.out F2)) ?_
        clear hK K b5
        (try simp only [Act.put, List.getElem_toArray, List.getElem_cons_succ, List.getElem_cons_zero, List.setIfInBounds_toArray, List.set_cons_zero, List.set_cons_succ])
        (refine ord_dog rfl (by first | with_reducible rfl | kernel_rfl) (fun K hK => ?_); go_simp)
        have hcon := hsamg V2 (Upd.of_below B2.out F2) A5 c5 B5 d5 hf5
        refine hcon.mono ?_
        clear hcon
        rintro e V3 ⟨rfl, b5⟩
        have B3 := Lib.hid (B2.out.trans (b5.mono B2.out.size))
        have hS := SR.out _ (Upd.of_below B3.out F2)
        refine hK _ _ (fun _ => hS) ?_
        clear hK K b5
        (try simp only [Act.put, List.getElem_toArray, List.getElem_cons_succ, List.getElem_cons_zero, List.setIfInBounds_toArray, List.set_cons_zero, List.set_cons_succ])
        (refine ord_take (v := ?_) rfl (by first | with_reducible rfl | kernel_rfl) ?_ ?_; rotate_left; (focus (intro wS hS; (try dsimp only at hS); go_split_ands; go_simp; (try with_reducible rfl); done)); (try simp only [Act.put, List.getElem_toArray, List.getElem_cons_succ, List.getElem_cons_zero, List.setIfInBounds_toArray, List.set_cons_zero, List.set_cons_succ]))
        (refine ord_take (v := ?_) rfl (by first | with_reducible rfl | kernel_rfl) ?_ ?_; rotate_left; (focus (intro wS hS; (try dsimp only at hS); go_split_ands; go_simp; (try with_reducible rfl); done)); (try simp only [Act.put, List.getElem_toArray, List.getElem_cons_succ, List.getElem_cons_zero, List.setIfInBounds_toArray, List.set_cons_zero, List.set_cons_succ]))
        refine ord_done ?_
        clear hS SR
        go_wp2
        go_meet
        case rel => exact ⟨rfl, B3⟩
  case rest =>
    obtain ⟨rfl, hb⟩ := hcut
    clear hsame hdatg hsamg hS SR
    go_upto_region 13 with (fail)
    go_cut [108] from 25 (fun s108 wc => s108 = .bool false ∧ Hid (Below W9.heap.size W9 wc))
    case first =>
      have hu := ALL.out wc (Upd.of_below hb.out F2)
      have q0 : wc.cell? ⟨gx, 0, none⟩ = some (.string x0) := hu.1.2.1.cell 0
      have q1 : wc.cell? ⟨gx, 1, none⟩ = some (.string x1) := hu.1.2.1.cell 1
      have q2 : wc.cell? ⟨gx, 2, none⟩ = some (.string x2) := hu.1.2.1.cell 2
      have hcon := has_gr wc F2 pc G2 (HC9.out.below hb.out) HST.out.2.2.2.1 ⟨x0, x1, x2⟩ HX.out.1.1 HX.out.1.2.2
      rw [decide_eq_true (HST.out.1.has rfl)] at hcon
      clear hu
      go_wp2_with fail
      refine hcon.mono ?_
      clear hcon q0 q1 q2
      rintro e V2 ⟨rfl, b5⟩
      have HB := Lib.hid (hb.out.trans (b5.mono hb.out.size))
      clear b5
      go_wp2
      go_meet
      case rel => exact ⟨rfl, HB⟩
    case rest =>
      clear hb
      obtain ⟨rfl, hb⟩ := hcut
      have hu := ALL.out wc (Upd.of_below hb.out F2)
      have q0 : wc.cell? ⟨gx, 0, none⟩ = some (.string x0) := hu.1.2.1.cell 0
      have q1 : wc.cell? ⟨gx, 1, none⟩ = some (.string x1) := hu.1.2.1.cell 1
      have q2 : wc.cell? ⟨gx, 2, none⟩ = some (.string x2) := hu.1.2.1.cell 2
      have hcon := addEdge_gr wc F2 pc G2 (HC9.out.below hb.out) HST.out.2.2.2.1 ⟨x0, x1, x2⟩ HX.out.1
      rw [HST.out.2.2.2.2.2.2.1] at hcon
      clear hu
      go_wp2_with fail
      refine hcon.mono ?_
      clear hcon q0 q1 q2
      rintro e V1 ⟨rfl, F3, g3, u3, n3⟩
      have U1 := Lib.hid (show Upd F2 W9 V1 from (Upd.of_below hb.out F2).trans u3 (fun _ h => .inl h))
      have N1 := Lib.hid (show ∀ k, F3 k → F2 k ∨ W9.heap.size ≤ k from fun k hk => (n3 k hk).imp id fun h => Nat.le_trans hb.out.size h)
      have hcon := addNode_gr V1 F3 pc G2 g3 HST.out.2.2.2.1 s HX.out.2
      rw [HST.out.2.2.2.2.2.2.2] at hcon
      clear g3 u3 n3 hb
      go_wp2_with fail
      refine hcon.mono ?_
      clear hcon
      rintro e V2 ⟨rfl, F4, g4, u4, n4⟩
      have U2 := Lib.hid (show Upd F2 W9 V2 from U1.out.trans u4 N1.out)
      have hcon := nodes_gr V2 F4 pc G2 g4 HST.out.2.2.2.1
      have HG4 := Lib.hid g4
      clear g4 u4 n4 U1 N1
      go_wp2_with fail
      refine hcon.mono ?_
      clear hcon
      rintro e V3 ⟨v, rfl, o3, b3⟩
      rw [HN.out.2] at o3
      obtain ⟨NB, Nd, rfl, -, -⟩ := own_form o3
      have U3 := Lib.hid (show Upd F2 W9 V3 from U2.out.trans (Upd.of_below b3 F2) (fun _ h => .inl h))
      have HG3 := Lib.hid (HG4.out.below b3)
      have HR3 := Lib.hid (RowR.of_own o3)
      clear o3 b3 U2 HG4
      have UA := Lib.hid (show ∀ W, Below V3.heap.size V3 W → Upd F2 W9 W from fun W hb => U3.out.trans (Upd.of_below hb F2) (fun _ h => .inl h))
      have SR := Lib.hid (show ∀ W, Below V3.heap.size V3 W → (fun W => W.cell? ⟨gn, 0, none⟩ = some (.slice A2 l3 c2) ∧ W.cell? ⟨gn, 1, none⟩ = some (.slice B2 l4 d2)) W from fun W hb => by
        have ha := ALL.out W (UA.out W hb)
        exact ⟨ha.2.1.cell 0, ha.2.1.cell 1⟩)
      have hdatc := fun V (hb : Below V3.heap.size V3 V) => dat_is V F4 pc G2 (HG3.out.below hb) HST.out.2.2.2.1 rfl rfl
      have hsamc := fun V (hb : Below V3.heap.size V3 V) A5 c5 B5 d5 (hf : ForG V A5 c5 B5 d5 (datN G2) (datE G2)) => same_is V hf (ALL.out V (UA.out V hb)).2.2
      rw [HL.out.2.2.1, HL.out.2.2.2] at hdatc hsamc
      have hS := SR.out V3.drew (Below.refl _ V3).drew
      have hlt : ¬ ((n2 : Int) < (n1 : Int)) := by omega
      go_upto_region 18 with (fail)
      go_cut [161] from 25 (fun s161 wc => s161 = .bool false ∧ Hid (Below V3.heap.size V3 wc))
      case first =>
        have B0 := Lib.hid (show Below V3.heap.size V3 V3.drew from (Below.refl _ _).drew)
        refine wp_region_ord (fun W => W.cell? ⟨gn, 0, none⟩ = some (.slice A2 l3 c2) ∧ W.cell? ⟨gn, 1, none⟩ = some (.slice B2 l4 d2)) 34 [(0, true), (1, true), (2, true), (3, true), (4, true), (5, true), (6, true), (7, true), (8, true), (9, true), (10, true), (11, true), (12, true), (13, true), (14, true), (15, true), (16, true), (17, true), (18, true), (19, true), (20, true), (21, true), (23, true), (22, false), (24, false), (25, true), (26, true), (27, true), (28, true), (29, true), (30, true), (31, true), (32, true), (33, true)] (by kernel_rfl) (by kernel_rfl) (fun _ _ d _ _ h => by cases d <;> exact h) hS ?_
        generalize V3.drew = V0 at B0 hS ⊢
        clear HC9 HBD HB7 HX HL HN HST HG3 HR3
        obtain rfl := HIM.out.2.2.1 (by trivial)
        by_cases h2 : e2 = 0
        · subst h2
          obtain rfl := HIM.out.2.2.2 (by trivial)
          (refine ord_take (v := ?_) rfl (by first | with_reducible rfl | kernel_rfl) ?_ ?_; rotate_left; (focus (intro wS hS; (try dsimp only at hS); go_split_ands; go_simp; (try with_reducible rfl); done)); (try simp only [Act.put, List.getElem_toArray, List.getElem_cons_succ, List.getElem_cons_zero, List.setIfInBounds_toArray, List.set_cons_zero, List.set_cons_succ]))
          (refine ord_take (v := ?_) rfl (by first | with_reducible rfl | kernel_rfl) ?_ ?_; rotate_left; (focus (intro wS hS; (try dsimp only at hS); go_split_ands; go_simp; (try with_reducible rfl); done)); (try simp only [Act.put, List.getElem_toArray, List.getElem_cons_succ, List.getElem_cons_zero, List.setIfInBounds_toArray, List.set_cons_zero, List.set_cons_succ]))
          (refine ord_take (v := ?_) rfl (by first | with_reducible rfl | kernel_rfl) ?_ ?_; rotate_left; (focus (intro wS hS; (try dsimp only at hS); go_split_ands; go_simp; (try with_reducible rfl); done)); (try simp only [Act.put, List.getElem_toArray, List.getElem_cons_succ, List.getElem_cons_zero, List.setIfInBounds_toArray, List.set_cons_zero, List.set_cons_succ]))
          (refine ord_take (v := ?_) rfl (by first | with_reducible rfl | kernel_rfl) ?_ ?_; rotate_left; (focus (intro wS hS; (try dsimp only at hS); go_split_ands; go_simp; (try with_reducible rfl); done)); (try simp only [Act.put, List.getElem_toArray, List.getElem_cons_succ, List.getElem_cons_zero, List.setIfInBounds_toArray, List.set_cons_zero, List.set_cons_succ]))
          (refine ord_take (v := ?_) rfl (by first | with_reducible rfl | kernel_rfl) ?_ ?_; rotate_left; (focus (intro wS hS; (try dsimp only at hS); go_split_ands; go_simp; (try with_reducible rfl); done)); (try simp only [Act.put, List.getElem_toArray, List.getElem_cons_succ, List.getElem_cons_zero, List.setIfInBounds_toArray, List.set_cons_zero, List.set_cons_succ]))
          (refine ord_take (v := ?_) rfl (by first | with_reducible rfl | kernel_rfl) ?_ ?_; rotate_left; (focus (intro wS hS; (try dsimp only at hS); go_split_ands; go_simp; (try with_reducible rfl); done)); (try simp only [Act.put, List.getElem_toArray, List.getElem_cons_succ, List.getElem_cons_zero, List.setIfInBounds_toArray, List.set_cons_zero, List.set_cons_succ]))
          (refine ord_take (v := ?_) rfl (by first | with_reducible rfl | kernel_rfl) ?_ ?_; rotate_left; (focus (intro wS hS; (try dsimp only at hS); go_split_ands; go_simp; (try with_reducible rfl); done)); (try simp only [Act.put, List.getElem_toArray, List.getElem_cons_succ, List.getElem_cons_zero, List.setIfInBounds_toArray, List.set_cons_zero, List.set_cons_succ]))
          (refine ord_take (v := ?_) rfl (by first | with_reducible rfl | kernel_rfl) ?_ ?_; rotate_left; (focus (intro wS hS; (try dsimp only at hS); go_split_ands; go_simp; (try with_reducible rfl); done)); (try simp only [Act.put, List.getElem_toArray, List.getElem_cons_succ, List.getElem_cons_zero, List.setIfInBounds_toArray, List.set_cons_zero, List.set_cons_succ]))
          (refine ord_take (v := ?_) rfl (by first | with_reducible rfl | kernel_rfl) ?_ ?_; rotate_left; (focus (intro wS hS; (try dsimp only at hS); go_split_ands; go_simp; (try with_reducible rfl); done)); (try simp only [Act.put, List.getElem_toArray, List.getElem_cons_succ, List.getElem_cons_zero, List.setIfInBounds_toArray, List.set_cons_zero, List.set_cons_succ]))
          (refine ord_take (v := ?_) rfl (by first | with_reducible rfl | kernel_rfl) ?_ ?_; rotate_left; (focus (intro wS hS; (try dsimp only at hS); go_split_ands; go_simp; (try with_reducible rfl); done)); (try simp only [Act.put, List.getElem_toArray, List.getElem_cons_succ, List.getElem_cons_zero, List.setIfInBounds_toArray, List.set_cons_zero, List.set_cons_succ]))
          (refine ord_take (v := ?_) rfl (by first | with_reducible rfl | kernel_rfl) ?_ ?_; rotate_left; (focus (intro wS hS; (try dsimp only at hS); go_split_ands; go_simp; (try with_reducible rfl); done)); (try simp only [Act.put, List.getElem_toArray, List.getElem_cons_succ, List.getElem_cons_zero, List.setIfInBounds_toArray, List.set_cons_zero, List.set_cons_succ]))
          (refine ord_take (v := ?_) rfl (by first | with_reducible rfl | kernel_rfl) ?_ ?_; rotate_left; (focus (intro wS hS; (try dsimp only at hS); go_split_ands; go_simp; (try with_reducible rfl); done)); (try simp only [Act.put, List.getElem_toArray, List.getElem_cons_succ, List.getElem_cons_zero, List.setIfInBounds_toArray, List.set_cons_zero, List.set_cons_succ]))
          (refine ord_take (v := ?_) rfl (by first | with_reducible rfl | kernel_rfl) ?_ ?_; rotate_left; (focus (intro wS hS; (try dsimp only at hS); go_split_ands; go_simp; (try with_reducible rfl); done)); (try simp only [Act.put, List.getElem_toArray, List.getElem_cons_succ, List.getElem_cons_zero, List.setIfInBounds_toArray, List.set_cons_zero, List.set_cons_succ]))
          (refine ord_take (v := ?_) rfl (by first | with_reducible rfl | kernel_rfl) ?_ ?_; rotate_left; (focus (intro wS hS; (try dsimp only at hS); go_split_ands; go_simp; (try with_reducible rfl); done)); (try simp only [Act.put, List.getElem_toArray, List.getElem_cons_succ, List.getElem_cons_zero, List.setIfInBounds_toArray, List.set_cons_zero, List.set_cons_succ]))
          (refine ord_take (v := ?_) rfl (by first | with_reducible rfl | kernel_rfl) ?_ ?_; rotate_left; (focus (intro wS hS; (try dsimp only at hS); go_split_ands; go_simp; (try with_reducible rfl); done)); (try simp only [Act.put, List.getElem_toArray, List.getElem_cons_succ, List.getElem_cons_zero, List.setIfInBounds_toArray, List.set_cons_zero, List.set_cons_succ]))
          (refine ord_take (v := ?_) rfl (by first | with_reducible rfl | kernel_rfl) ?_ ?_; rotate_left; (focus (intro wS hS; (try dsimp only at hS); go_split_ands; go_simp; (try with_reducible rfl); done)); (try simp only [Act.put, List.getElem_toArray, List.getElem_cons_succ, List.getElem_cons_zero, List.setIfInBounds_toArray, List.set_cons_zero, List.set_cons_succ]))
          (refine ord_take (v := ?_) rfl (by first | with_reducible rfl | kernel_rfl) ?_ ?_; rotate_left; (focus (intro wS hS; (try dsimp only at hS); go_split_ands; go_simp; (try with_reducible rfl); done)); (try simp only [Act.put, List.getElem_toArray, List.getElem_cons_succ, List.getElem_cons_zero, List.setIfInBounds_toArray, List.set_cons_zero, List.set_cons_succ]))
          (refine ord_take (v := ?_) rfl (by first | with_reducible rfl | kernel_rfl) ?_ ?_; rotate_left; (focus (intro wS hS; (try dsimp only at hS); go_split_ands; go_simp; (try with_reducible rfl); done)); (try simp only [Act.put, List.getElem_toArray, List.getElem_cons_succ, List.getElem_cons_zero, List.setIfInBounds_toArray, List.set_cons_zero, List.set_cons_succ]))
          (refine ord_take (v := ?_) rfl (by first | with_reducible rfl | kernel_rfl) ?_ ?_; rotate_left; (focus (intro wS hS; (try dsimp only at hS); go_split_ands; go_simp; (try with_reducible rfl); done)); (try simp only [Act.put, List.getElem_toArray, List.getElem_cons_succ, List.getElem_cons_zero, List.setIfInBounds_toArray, List.set_cons_zero, List.set_cons_succ]))
          (refine ord_take (v := ?_) rfl (by first | with_reducible rfl | kernel_rfl) ?_ ?_; rotate_left; (focus (intro wS hS; (try dsimp only at hS); go_split_ands; go_simp; (try with_reducible rfl); done)); (try simp only [Act.put, List.getElem_toArray, List.getElem_cons_succ, List.getElem_cons_zero, List.setIfInBounds_toArray, List.set_cons_zero, List.set_cons_succ]))
          (refine ord_take (v := ?_) rfl (by first | with_reducible rfl | kernel_rfl) ?_ ?_; rotate_left; (focus (intro wS hS; (try dsimp only at hS); go_split_ands; go_simp; (try with_reducible rfl); done)); (try simp only [Act.put, List.getElem_toArray, List.getElem_cons_succ, List.getElem_cons_zero, List.setIfInBounds_toArray, List.set_cons_zero, List.set_cons_succ]))
          (refine ord_take (v := ?_) rfl (by first | with_reducible rfl | kernel_rfl) ?_ ?_; rotate_left; (focus (intro wS hS; (try dsimp only at hS); go_split_ands; go_simp; (try with_reducible rfl); done)); (try simp only [Act.put, List.getElem_toArray, List.getElem_cons_succ, List.getElem_cons_zero, List.setIfInBounds_toArray, List.set_cons_zero, List.set_cons_succ]))
          (refine ord_take (v := ?_) rfl (by first | with_reducible rfl | kernel_rfl) ?_ ?_; rotate_left; (focus (intro wS hS; (try dsimp only at hS); go_split_ands; go_simp; (try with_reducible rfl); done)); (try simp only [Act.put, List.getElem_toArray, List.getElem_cons_succ, List.getElem_cons_zero, List.setIfInBounds_toArray, List.set_cons_zero, List.set_cons_succ]))
          (refine ord_dog rfl (by first | with_reducible rfl | kernel_rfl) (fun K hK => ?_); go_simp)
          have hcon := hdatc V0 B0.out
          refine hcon.mono ?_
          clear hcon
          rintro e V1 ⟨A5, c5, B5, d5, rfl, hf5, b5⟩
          have B1 := Lib.hid (B0.out.trans (b5.mono B0.out.size))
          refine hK _ _ (fun _ => SR.out _ B1.out) ?_
          clear hK K b5
          (try simp only [Act.put, List.getElem_toArray, List.getElem_cons_succ, List.getElem_cons_zero, List.setIfInBounds_toArray, List.set_cons_zero, List.set_cons_succ])
          (refine ord_dog rfl (by first | with_reducible rfl | kernel_rfl) (fun K hK => ?_); go_simp)
          have hcon := hsamc V1 B1.out A5 c5 B5 d5 hf5
          refine hcon.mono ?_
          clear hcon
          rintro e V2 ⟨rfl, b5⟩
          have B2 := Lib.hid (B1.out.trans (b5.mono B1.out.size))
          have hS := SR.out _ B2.out
          refine hK _ _ (fun _ => hS) ?_
          clear hK K b5
          (try simp only [Act.put, List.getElem_toArray, List.getElem_cons_succ, List.getElem_cons_zero, List.setIfInBounds_toArray, List.set_cons_zero, List.set_cons_succ])
          (refine ord_take (v := ?_) rfl (by first | with_reducible rfl | kernel_rfl) ?_ ?_; rotate_left; (focus (intro wS hS; (try dsimp only at hS); go_split_ands; go_simp; (try with_reducible rfl); done)); (try simp only [Act.put, List.getElem_toArray, List.getElem_cons_succ, List.getElem_cons_zero, List.setIfInBounds_toArray, List.set_cons_zero, List.set_cons_succ]))
          (refine ord_take (v := ?_) rfl (by first | with_reducible rfl | kernel_rfl) ?_ ?_; rotate_left; (focus (intro wS hS; (try dsimp only at hS); go_split_ands; go_simp; (try with_reducible rfl); done)); (try simp only [Act.put, List.getElem_toArray, List.getElem_cons_succ, List.getElem_cons_zero, List.setIfInBounds_toArray, List.set_cons_zero, List.set_cons_succ]))
          (refine ord_take (v := ?_) rfl (by first | with_reducible rfl | kernel_rfl) ?_ ?_; rotate_left; (focus (intro wS hS; (try dsimp only at hS); go_split_ands; go_simp; (try with_reducible rfl); done)); (try simp only [Act.put, List.getElem_toArray, List.getElem_cons_succ, List.getElem_cons_zero, List.setIfInBounds_toArray, List.set_cons_zero, List.set_cons_succ]))
          (refine ord_take (v := ?_) rfl (by first | with_reducible rfl | kernel_rfl) ?_ ?_; rotate_left; (focus (intro wS hS; (try dsimp only at hS); go_split_ands; go_simp; (try with_reducible rfl); done)); (try simp only [Act.put, List.getElem_toArray, List.getElem_cons_succ, List.getElem_cons_zero, List.setIfInBounds_toArray, List.set_cons_zero, List.set_cons_succ]))
          (refine ord_take (v := ?_) rfl (by first | with_reducible rfl | kernel_rfl) ?_ ?_; rotate_left; (focus (intro wS hS; (try dsimp only at hS); go_split_ands; go_simp; (try with_reducible rfl); done)); (try simp only [Act.put, List.getElem_toArray, List.getElem_cons_succ, List.getElem_cons_zero, List.setIfInBounds_toArray, List.set_cons_zero, List.set_cons_succ]))
          (refine ord_take (v := ?_) rfl (by first | with_reducible rfl | kernel_rfl) ?_ ?_; rotate_left; (focus (intro wS hS; (try dsimp only at hS); go_split_ands; go_simp; (try with_reducible rfl); done)); (try simp only [Act.put, List.getElem_toArray, List.getElem_cons_succ, List.getElem_cons_zero, List.setIfInBounds_toArray, List.set_cons_zero, List.set_cons_succ]))
          (refine ord_take (v := ?_) rfl (by first | with_reducible rfl | kernel_rfl) ?_ ?_; rotate_left; (focus (intro wS hS; (try dsimp only at hS); go_split_ands; go_simp; (try with_reducible rfl); done)); (try simp only [Act.put, List.getElem_toArray, List.getElem_cons_succ, List.getElem_cons_zero, List.setIfInBounds_toArray, List.set_cons_zero, List.set_cons_succ]))
          (refine ord_take (v := ?_) rfl (by first | with_reducible rfl | kernel_rfl) ?_ ?_; rotate_left; (focus (intro wS hS; (try dsimp only at hS); go_split_ands; go_simp; (try with_reducible rfl); done)); (try simp only [Act.put, List.getElem_toArray, List.getElem_cons_succ, List.getElem_cons_zero, List.setIfInBounds_toArray, List.set_cons_zero, List.set_cons_succ]))
          (refine ord_take (v := ?_) rfl (by first | with_reducible rfl | kernel_rfl) ?_ ?_; rotate_left; (focus (intro wS hS; (try dsimp only at hS); go_split_ands; go_simp; (try with_reducible rfl); done)); (try simp only [Act.put, List.getElem_toArray, List.getElem_cons_succ, List.getElem_cons_zero, List.setIfInBounds_toArray, List.set_cons_zero, List.set_cons_succ]))
          refine ord_done ?_
          clear hS SR
          go_wp2
          go_meet
          case rel => exact ⟨by first | rfl | exact congrArg Value.bool (decide_eq_false (by omega)), B2⟩
        · have h2I : (e2 == 0) = false := by simpa using h2
          (refine ord_take (v := ?_) rfl (by first | with_reducible rfl | kernel_rfl) ?_ ?_; rotate_left; (focus (intro wS hS; (try dsimp only at hS); go_split_ands; go_simp; (try with_reducible rfl); done)); (try simp only [Act.put, List.getElem_toArray, List.getElem_cons_succ, List.getElem_cons_zero, List.setIfInBounds_toArray, List.set_cons_zero, List.set_cons_succ]))
          (refine ord_take (v := ?_) rfl (by first | with_reducible rfl | kernel_rfl) ?_ ?_; rotate_left; (focus (intro wS hS; (try dsimp only at hS); go_split_ands; go_simp; (try with_reducible rfl); done)); (try simp only [Act.put, List.getElem_toArray, List.getElem_cons_succ, List.getElem_cons_zero, List.setIfInBounds_toArray, List.set_cons_zero, List.set_cons_succ]))
          (refine ord_take (v := ?_) rfl (by first | with_reducible rfl | kernel_rfl) ?_ ?_; rotate_left; (focus (intro wS hS; (try dsimp only at hS); go_split_ands; go_simp; (try with_reducible rfl); done)); (try simp only [Act.put, List.getElem_toArray, List.getElem_cons_succ, List.getElem_cons_zero, List.setIfInBounds_toArray, List.set_cons_zero, List.set_cons_succ]))
          (refine ord_take (v := ?_) rfl (by first | with_reducible rfl | kernel_rfl) ?_ ?_; rotate_left; (focus (intro wS hS; (try dsimp only at hS); go_split_ands; go_simp; (try with_reducible rfl); done)); (try simp only [Act.put, List.getElem_toArray, List.getElem_cons_succ, List.getElem_cons_zero, List.setIfInBounds_toArray, List.set_cons_zero, List.set_cons_succ]))
          (refine ord_take (v := ?_) rfl (by first | with_reducible rfl | kernel_rfl) ?_ ?_; rotate_left; (focus (intro wS hS; (try dsimp only at hS); go_split_ands; go_simp; (try with_reducible rfl); done)); (try simp only [Act.put, List.getElem_toArray, List.getElem_cons_succ, List.getElem_cons_zero, List.setIfInBounds_toArray, List.set_cons_zero, List.set_cons_succ]))
          (refine ord_take (v := ?_) rfl (by first | with_reducible rfl | kernel_rfl) ?_ ?_; rotate_left; (focus (intro wS hS; (try dsimp only at hS); go_split_ands; go_simp; (try with_reducible rfl); done)); (try simp only [Act.put, List.getElem_toArray, List.getElem_cons_succ, List.getElem_cons_zero, List.setIfInBounds_toArray, List.set_cons_zero, List.set_cons_succ]))
          (refine ord_take (v := ?_) rfl (by first | with_reducible rfl | kernel_rfl) ?_ ?_; rotate_left; (focus (intro wS hS; (try dsimp only at hS); go_split_ands; go_simp; (try with_reducible rfl); done)); (try simp only [Act.put, List.getElem_toArray, List.getElem_cons_succ, List.getElem_cons_zero, List.setIfInBounds_toArray, List.set_cons_zero, List.set_cons_succ]))
          (refine ord_take (v := ?_) rfl (by first | with_reducible rfl | kernel_rfl) ?_ ?_; rotate_left; (focus (intro wS hS; (try dsimp only at hS); go_split_ands; go_simp; (try with_reducible rfl); done)); (try simp only [Act.put, List.getElem_toArray, List.getElem_cons_succ, List.getElem_cons_zero, List.setIfInBounds_toArray, List.set_cons_zero, List.set_cons_succ]))
          (refine ord_take (v := ?_) rfl (by first | with_reducible rfl | kernel_rfl) ?_ ?_; rotate_left; (focus (intro wS hS; (try dsimp only at hS); go_split_ands; go_simp; (try with_reducible rfl); done)); (try simp only [Act.put, List.getElem_toArray, List.getElem_cons_succ, List.getElem_cons_zero, List.setIfInBounds_toArray, List.set_cons_zero, List.set_cons_succ]))
          (refine ord_take (v := ?_) rfl (by first | with_reducible rfl | kernel_rfl) ?_ ?_; rotate_left; (focus (intro wS hS; (try dsimp only at hS); go_split_ands; go_simp; (try with_reducible rfl); done)); (try simp only [Act.put, List.getElem_toArray, List.getElem_cons_succ, List.getElem_cons_zero, List.setIfInBounds_toArray, List.set_cons_zero, List.set_cons_succ]))
          (refine ord_take (v := ?_) rfl (by first | with_reducible rfl | kernel_rfl) ?_ ?_; rotate_left; (focus (intro wS hS; (try dsimp only at hS); go_split_ands; go_simp; (try with_reducible rfl); done)); (try simp only [Act.put, List.getElem_toArray, List.getElem_cons_succ, List.getElem_cons_zero, List.setIfInBounds_toArray, List.set_cons_zero, List.set_cons_succ]))
          (refine ord_take (v := ?_) rfl (by first | with_reducible rfl | kernel_rfl) ?_ ?_; rotate_left; (focus (intro wS hS; (try dsimp only at hS); go_split_ands; go_simp; (try with_reducible rfl); done)); (try simp only [Act.put, List.getElem_toArray, List.getElem_cons_succ, List.getElem_cons_zero, List.setIfInBounds_toArray, List.set_cons_zero, List.set_cons_succ]))
          (refine ord_take (v := ?_) rfl (by first | with_reducible rfl | kernel_rfl) ?_ ?_; rotate_left; (focus (intro wS hS; (try dsimp only at hS); go_split_ands; go_simp; (try with_reducible rfl); done)); (try simp only [Act.put, List.getElem_toArray, List.getElem_cons_succ, List.getElem_cons_zero, List.setIfInBounds_toArray, List.set_cons_zero, List.set_cons_succ]))
          (refine ord_take (v := ?_) rfl (by first | with_reducible rfl | kernel_rfl) ?_ ?_; rotate_left; (focus (intro wS hS; (try dsimp only at hS); go_split_ands; go_simp; (try with_reducible rfl); done)); (try simp only [Act.put, List.getElem_toArray, List.getElem_cons_succ, List.getElem_cons_zero, List.setIfInBounds_toArray, List.set_cons_zero, List.set_cons_succ]))
          (refine ord_take (v := ?_) rfl (by first | with_reducible rfl | kernel_rfl) ?_ ?_; rotate_left; (focus (intro wS hS; (try dsimp only at hS); go_split_ands; go_simp; (try with_reducible rfl); done)); (try simp only [Act.put, List.getElem_toArray, List.getElem_cons_succ, List.getElem_cons_zero, List.setIfInBounds_toArray, List.set_cons_zero, List.set_cons_succ]))
          (refine ord_take (v := ?_) rfl (by first | with_reducible rfl | kernel_rfl) ?_ ?_; rotate_left; (focus (intro wS hS; (try dsimp only at hS); go_split_ands; go_simp; (try with_reducible rfl); done)); (try simp only [Act.put, List.getElem_toArray, List.getElem_cons_succ, List.getElem_cons_zero, List.setIfInBounds_toArray, List.set_cons_zero, List.set_cons_succ]))
          (refine ord_skip rfl (by kernel_rfl) ?_; (try simp only [Act.put, List.getElem_toArray, List.getElem_cons_succ, List.getElem_cons_zero, List.setIfInBounds_toArray, List.set_cons_zero, List.set_cons_succ]))
          (refine ord_skip rfl (by kernel_rfl) ?_; (try simp only [Act.put, List.getElem_toArray, List.getElem_cons_succ, List.getElem_cons_zero, List.setIfInBounds_toArray, List.set_cons_zero, List.set_cons_succ]))
          (refine ord_take (v := ?_) rfl (by first | with_reducible rfl | kernel_rfl) ?_ ?_; rotate_left; (focus (intro wS hS; (try dsimp only at hS); go_split_ands; go_simp; (try with_reducible rfl); done)); (try simp only [Act.put, List.getElem_toArray, List.getElem_cons_succ, List.getElem_cons_zero, List.setIfInBounds_toArray, List.set_cons_zero, List.set_cons_succ]))
          (refine ord_take (v := ?_) rfl (by first | with_reducible rfl | kernel_rfl) ?_ ?_; rotate_left; (focus (intro wS hS; (try dsimp only at hS); go_split_ands; go_simp; (try with_reducible rfl); done)); (try simp only [Act.put, List.getElem_toArray, List.getElem_cons_succ, List.getElem_cons_zero, List.setIfInBounds_toArray, List.set_cons_zero, List.set_cons_succ]))
          (refine ord_take (v := ?_) rfl (by first | with_reducible rfl | kernel_rfl) ?_ ?_; rotate_left; (focus (intro wS hS; (try dsimp only at hS); go_split_ands; go_simp; (try with_reducible rfl); done)); (try simp only [Act.put, List.getElem_toArray, List.getElem_cons_succ, List.getElem_cons_zero, List.setIfInBounds_toArray, List.set_cons_zero, List.set_cons_succ]))
          (refine ord_take (v := ?_) rfl (by first | with_reducible rfl | kernel_rfl) ?_ ?_; rotate_left; (focus (intro wS hS; (try dsimp only at hS); go_split_ands; go_simp; (try with_reducible rfl); done)); (try simp only [Act.put, List.getElem_toArray, List.getElem_cons_succ, List.getElem_cons_zero, List.setIfInBounds_toArray, List.set_cons_zero, List.set_cons_succ]))
          (refine ord_take (v := ?_) rfl (by first | with_reducible rfl | kernel_rfl) ?_ ?_; rotate_left; (focus (intro wS hS; (try dsimp only at hS); go_split_ands; go_simp; (try with_reducible rfl); done)); (try simp only [Act.put, List.getElem_toArray, List.getElem_cons_succ, List.getElem_cons_zero, List.setIfInBounds_toArray, List.set_cons_zero, List.set_cons_succ]))
          (refine ord_dog rfl (by first | with_reducible rfl | kernel_rfl) (fun K hK => ?_); go_simp)
          have hcon := hdatc V0 B0.out
          refine hcon.mono ?_
          clear hcon
          rintro e V1 ⟨A5, c5, B5, d5, rfl, hf5, b5⟩
          have B1 := Lib.hid (B0.out.trans (b5.mono B0.out.size))
          refine hK _ _ (fun _ => SR.out _ B1.out) ?_
          clear hK K b5
          (try simp only [Act.put, List.getElem_toArray, List.getElem_cons_succ, List.getElem_cons_zero, List.setIfInBounds_toArray, List.set_cons_zero, List.set_cons_succ])
          (refine ord_dog rfl (by first | with_reducible rfl | kernel_rfl) (fun K hK => ?_); go_simp)
          have hcon := hsamc V1 B1.out A5 c5 B5 d5 hf5
          refine hcon.mono ?_
          clear hcon
          rintro e V2 ⟨rfl, b5⟩
          have B2 := Lib.hid (B1.out.trans (b5.mono B1.out.size))
          have hS := SR.out _ B2.out
          refine hK _ _ (fun _ => hS) ?_
          clear hK K b5
          (try simp only [Act.put, List.getElem_toArray, List.getElem_cons_succ, List.getElem_cons_zero, List.setIfInBounds_toArray, List.set_cons_zero, List.set_cons_succ])
          (refine ord_take (v := ?_) rfl (by first | with_reducible rfl | kernel_rfl) ?_ ?_; rotate_left; (focus (intro wS hS; (try dsimp only at hS); go_split_ands; go_simp; (try with_reducible rfl); done)); (try simp only [Act.put, List.getElem_toArray, List.getElem_cons_succ, List.getElem_cons_zero, List.setIfInBounds_toArray, List.set_cons_zero, List.set_cons_succ]))
          (refine ord_take (v := ?_) rfl (by first | with_reducible rfl | kernel_rfl) ?_ ?_; rotate_left; (focus (intro wS hS; (try dsimp only at hS); go_split_ands; go_simp; (try with_reducible rfl); done)); (try simp only [Act.put, List.getElem_toArray, List.getElem_cons_succ, List.getElem_cons_zero, List.setIfInBounds_toArray, List.set_cons_zero, List.set_cons_succ]))
          (refine ord_take (v := ?_) rfl (by first | with_reducible rfl | kernel_rfl) ?_ ?_; rotate_left; (focus (intro wS hS; (try dsimp only at hS); go_split_ands; go_simp; (try with_reducible rfl); done)); (try simp only [Act.put, List.getElem_toArray, List.getElem_cons_succ, List.getElem_cons_zero, List.setIfInBounds_toArray, List.set_cons_zero, List.set_cons_succ]))
          (refine ord_take (v := ?_) rfl (by first | with_reducible rfl | kernel_rfl) ?_ ?_; rotate_left; (focus (intro wS hS; (try dsimp only at hS); go_split_ands; go_simp; (try with_reducible rfl); done)); (try simp only [Act.put, List.getElem_toArray, List.getElem_cons_succ, List.getElem_cons_zero, List.setIfInBounds_toArray, List.set_cons_zero, List.set_cons_succ]))
          (refine ord_take (v := ?_) rfl (by first | with_reducible rfl | kernel_rfl) ?_ ?_; rotate_left; (focus (intro wS hS; (try dsimp only at hS); go_split_ands; go_simp; (try with_reducible rfl); done)); (try simp only [Act.put, List.getElem_toArray, List.getElem_cons_succ, List.getElem_cons_zero, List.setIfInBounds_toArray, List.set_cons_zero, List.set_cons_succ]))
          (refine ord_take (v := ?_) rfl (by first | with_reducible rfl | kernel_rfl) ?_ ?_; rotate_left; (focus (intro wS hS; (try dsimp only at hS); go_split_ands; go_simp; (try with_reducible rfl); done)); (try simp only [Act.put, List.getElem_toArray, List.getElem_cons_succ, List.getElem_cons_zero, List.setIfInBounds_toArray, List.set_cons_zero, List.set_cons_succ]))
          (refine ord_take (v := ?_) rfl (by first | with_reducible rfl | kernel_rfl) ?_ ?_; rotate_left; (focus (intro wS hS; (try dsimp only at hS); go_split_ands; go_simp; (try with_reducible rfl); done)); (try simp only [Act.put, List.getElem_toArray, List.getElem_cons_succ, List.getElem_cons_zero, List.setIfInBounds_toArray, List.set_cons_zero, List.set_cons_succ]))
          (refine ord_take (v := ?_) rfl (by first | with_reducible rfl | kernel_rfl) ?_ ?_; rotate_left; (focus (intro wS hS; (try dsimp only at hS); go_split_ands; go_simp; (try with_reducible rfl); done)); (try simp only [Act.put, List.getElem_toArray, List.getElem_cons_succ, List.getElem_cons_zero, List.setIfInBounds_toArray, List.set_cons_zero, List.set_cons_succ]))
          (refine ord_take (v := ?_) rfl (by first | with_reducible rfl | kernel_rfl) ?_ ?_; rotate_left; (focus (intro wS hS; (try dsimp only at hS); go_split_ands; go_simp; (try with_reducible rfl); done)); (try simp only [Act.put, List.getElem_toArray, List.getElem_cons_succ, List.getElem_cons_zero, List.setIfInBounds_toArray, List.set_cons_zero, List.set_cons_succ]))
          refine ord_done ?_
          clear hS SR
          go_wp2
          go_meet
          case rel => exact ⟨by first | rfl | exact congrArg Value.bool (decide_eq_false (by omega)), B2⟩
      case rest =>
        obtain ⟨rfl, hb⟩ := hcut
        have ha := ALL.out wc (UA.out wc hb.out)
        have HA := Lib.hid ha
        have HRB := Lib.hid (HR3.out.below hb.out)
        clear ha SR hdatc hsamc hS hb
        go_wp2_with fail
        go_loopw [24] (fun i wr => ∃ j : Nat, j ≤ n1 ∧ i = .int .i64 j ∧ Hid (Below wc.heap.size wc wr)) (fun i _ => n1 - (intOf i).toNat)
        case atStart => exact ⟨0, Nat.zero_le _, rfl, Lib.hid (Below.refl _ _)⟩
        case round =>
          obtain ⟨j, hj, rfl, hq⟩ := hrel
          by_cases hjt : j < n1
          · have hjtI : (j : Int) < (n1 : Int) := by omega
            have hjt2 : (j : Int) < (n2 : Int) := by omega
            have hjw : IntKind.i64.wrap ((j : Int) + 1) = (j : Int) + 1 := IntWalk.i64_in _ (by omega)
            obtain ⟨t, ht⟩ : ∃ s, G.N[j]? = some s := ⟨G.N[j]'(by rw [HN.out.1]; exact hjt), List.getElem?_eq_getElem _⟩
            have ht2 : G2.N[j]? = some t := by
              obtain ⟨Q, hQ⟩ := HST.out.1.more
              rw [hQ, List.getElem?_append_left (List.getElem?_eq_some_iff.1 ht).1]
              exact ht
            obtain ⟨ab, ao, rfl, y0⟩ := (HA.out.1.2.2.2.2.1.below hq.out).txt ht
            obtain ⟨nb, no, rfl, y1⟩ := (HRB.out.below hq.out).txt ht2
            clear ht ht2
            go_upto_region 23 with (fail)
            go_quiet (fail)
            go_wp2
            go_roundw
            case rel => exact ⟨j + 1, by omega, by go_num, Lib.hid (((Upd.of_below hq.out (fun _ => False)).drewN _).below (fun _ _ h => h.elim) (Nat.le_refl _))⟩
            case measure => simp [intOf]; omega
          · obtain rfl : j = n1 := by omega
            have hkb := HA.out.2.1.upd (Upd.of_below hq.out (fun _ => False)) id
            have q0 : wr.cell? ⟨gn, 0, none⟩ = some (.slice A2 l3 c2) := hkb.cell 0
            have q1 : wr.cell? ⟨gn, 1, none⟩ = some (.slice B2 l4 d2) := hkb.cell 1
            have HWB := Lib.hid (HA.out.1.2.2.2.2.2.trans (hq.out.mono HA.out.1.2.2.2.2.2.size))
            have hcon := echeck_any wr A2 c2 B2 d2 (datN G2) (datE G2) (HA.out.2.2.below hq.out)
            clear hkb
            unfold twoV at hcon
            rw [HL.out.2.2.1, HL.out.2.2.2, HST.out.1.may] at hcon
            go_wp2_with fail
            refine hcon.mono ?_
            clear hcon q0 q1
            rintro e V5 ⟨rfl, b5⟩
            have HB5 := Lib.hid (HWB.out.trans (b5.mono HWB.out.size))
            clear b5
            go_wp2_with fail
            refine (gawake_any V5).mono ?_
            rintro e V6 ⟨rfl, b6⟩
            have FIN := Lib.hid (HB5.out.trans (b6.mono HB5.out.size))
            clear b6
            go_wp2
            go_ret
            exact ⟨rfl, FIN.out⟩
end Go.Proofs.YthmkgnifcbnkpaaGreat
