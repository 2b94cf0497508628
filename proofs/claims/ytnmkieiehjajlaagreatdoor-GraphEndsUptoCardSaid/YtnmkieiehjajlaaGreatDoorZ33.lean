/- Graphs: some answers that the document fixes (the walk); Graphs: a graph that grows edge by edge (the statements' own helper). -/
import Derived.Test.YtnmkieiehjajlaaGreatDoorZ32
import Derived.Test.YtnmkieiehjajlaaGreatDoorZ31
set_option linter.unusedVariables false
set_option linter.unusedSimpArgs false
namespace Go.Proofs.YtnmkieiehjajlaaGreatDoor
open Go.RowKit

theorem out_w {L : List Hp} (h : OutOf grW 0 L) : L = [⟨tX, 1⟩] := by
  have hm : ∀ y, y ∈ L ↔ y ∈ ([⟨tX, 1⟩] : List Hp) := fun y => by
    rw [h.mem]
    have hi : (idxT grW.N tA : Int) = 1 := by decide +kernel
    constructor
    · rintro ⟨x, hx, -, rfl⟩
      simp only [grW, List.mem_singleton] at hx
      subst hx
      show (⟨tX, (idxT grW.N tA : Int)⟩ : Hp) ∈ _
      rw [hi]
      simp
    · intro hy
      rw [List.mem_singleton] at hy
      subst hy
      exact ⟨edW, by simp [grW], rfl, by show _ = (⟨tX, (idxT grW.N tA : Int)⟩ : Hp); rw [hi]⟩
  exact (SetOf.is stoH ⟨h.up, fun y => Iff.rfl⟩).trans ((SetOf.is stoH ⟨(by unfold Rises; simp : Rises ltH [(⟨tX, 1⟩ : Hp)]), fun y => (hm y).symm⟩).symm)
set_option maxHeartbeats 4000000 in
set_option maxRecDepth 20000 in
theorem gawake_any (w : World) : Calls Tryz.prog 8 #[] w (Sam w (.bool true)) := by
  have kW : EdOk edW := by unfold EdOk TxtOk; decide
  have okW : GOk grW := by have := GOk.new.edge edW; rw [aw_e1] at this; exact this
  go_enter Tryz.func8, Tryz.ntmps8
  go_wp2_with fail
  refine (new_gr w).mono ?_
  rintro e W1 ⟨p, rfl, ⟨F1, g1, n1⟩, b1⟩
  have hc := addEdge_gr W1 F1 p ⟨[], []⟩ g1 GOk.new edW kW
  rw [aw_e1] at hc
  have HB1 := Lib.hid b1
  have HF1 := Lib.hid n1
  clear b1 n1 g1
  unfold edW tB tX tA at hc
  dsimp only at hc
  go_wp2_with fail
  refine hc.mono ?_
  clear hc
  rintro e W2 ⟨rfl, F2, g2, u2, n2⟩
  have hb2 := Fresh.step HF1.out HB1.out.size ⟨F2, g2, u2, n2⟩
  obtain ⟨⟨F3, g3, n3⟩, b3⟩ := hb2
  have HB2 := Lib.hid (HB1.out.trans b3)
  have HF2 := Lib.hid n3
  clear g2 u2 n2 b3 n3
  have hc := addEdge_gr W2 F3 p grW g3 okW edW kW
  rw [aw_e2] at hc
  clear g3
  unfold edW tB tX tA at hc
  dsimp only at hc
  go_wp2_with fail
  refine hc.mono ?_
  clear hc
  rintro e W3 ⟨rfl, F4, g4, u4, n4⟩
  obtain ⟨⟨F5, g5, n5⟩, b5⟩ := Fresh.step HF2.out HB2.out.size ⟨F4, g4, u4, n4⟩
  have HB3 := Lib.hid (HB2.out.trans b5)
  have HF3 := Lib.hid n5
  clear g4 u4 n4 b5 n5
  have hc := node_gr W3 F5 p grW g5 okW tA (by unfold TxtOk; decide)
  have hni : numI grW.N tA = .tuple #[.int .i64 1, .int .i64 0] := by
    unfold numI
    have h1 : inB tA grW.N = true := by decide +kernel
    have h2 : (idxT grW.N tA : Int) = 1 := by decide +kernel
    rw [h1, h2]
    rfl
  rw [hni] at hc
  unfold tA at hc
  go_wp2_with fail
  refine hc.mono ?_
  clear hc
  rintro e w' ⟨rfl, hw⟩
  subst w'
  have hc := addNode_gr W3 F5 p grW g5 okW ⟨#[]⟩ (by unfold TxtOk; decide)
  rw [aw_n] at hc
  clear g5
  go_wp2_with fail
  refine hc.mono ?_
  clear hc
  rintro e W4 ⟨rfl, F6, g6, u6, n6⟩
  obtain ⟨⟨F7, g7, n7⟩, b7⟩ := Fresh.step HF3.out HB3.out.size ⟨F6, g6, u6, n6⟩
  have HB4 := Lib.hid (HB3.out.trans b7)
  clear g6 u6 n6 b7 n7
  have hc := out_gr W4 F7 p grW g7 okW 0 (by decide)
  have HG7 := Lib.hid g7
  clear g7
  go_wp2_with fail
  refine hc.mono ?_
  clear hc
  rintro e W5 ⟨v, L, hL, rfl, o, b⟩
  obtain rfl := out_w hL
  have HB5 := Lib.hid (HB4.out.trans (b.mono HB4.out.size))
  obtain ⟨g, c, rfl, -, -, -, -, hc⟩ := own_cells o (by decide)
  have y0 : W5.cell? ⟨g, 0, none⟩ = some (.string tX) := (hc 0 _ rfl).1
  have y1 : W5.cell? ⟨g, 1, none⟩ = some (.int .i64 1) := (hc 1 _ rfl).1
  have g8 := HG7.out.below b
  have h1 := has_gr W5 F7 p grW g8 okW edW kW.1 kW.2.2
  rw [decide_eq_true (by simp [grW])] at h1
  have HG8 := Lib.hid g8
  clear g8 hc o b hL
  unfold edW tB tX tA at h1
  dsimp only at h1
  unfold tX at y0
  go_wp2_with fail
  refine h1.mono ?_
  clear h1 y0 y1
  rintro e W6 ⟨rfl, b6⟩
  have HB6 := Lib.hid (HB5.out.trans (b6.mono HB5.out.size))
  have h2 := has_gr W6 F7 p grW (HG8.out.below b6) okW ⟨tA, tX, tB⟩ (by unfold TxtOk; decide) (by unfold TxtOk; decide)
  have hno : decide ((⟨tA, tX, tB⟩ : Ed) ∈ grW.X) = false := by decide +kernel
  rw [hno] at h2
  clear b6 HG8 hno
  unfold tB tX tA at h2
  dsimp only at h2
  go_wp2_with fail
  refine h2.mono ?_
  clear h2
  rintro e W7 ⟨rfl, b7⟩
  have HB7 := Lib.hid (HB6.out.trans (b7.mono HB6.out.size))
  clear b7
  go_wp2
  go_ret
  exact ⟨rfl, HB7.out⟩
end Go.Proofs.YtnmkieiehjajlaaGreatDoor
namespace Go.Proofs.YtnmkieiehjajlaaGreatDoor
open Go.RowKit

set_option maxHeartbeats 4000000 in
set_option maxRecDepth 20000 in
theorem grown_any (w : World) (A : Option Addr) (c : Nat) (B : Option Addr) (d : Nat) (M : List Txt) (L : List Ed) (h : ForG w A c B d M L) :
    Calls Tryz.prog 9 #[.slice A M.length c, .slice B L.length d] w (GMade w (grwN (grwE L).1 M) (fun v => .tuple #[v, .int .i64 ((grwE L).2 : Nat)])) := by
  obtain ⟨n, hn⟩ : ∃ n, M.length = n := ⟨_, rfl⟩
  obtain ⟨m, hm⟩ : ∃ m, L.length = m := ⟨_, rfl⟩
  have hfn := h.fit.n
  have hfe := h.fit.e
  have H := Lib.hid (And.intro h (And.intro hn hm))
  have HCN := Lib.hid (show ∀ k, (grwE (L.take k)).2 ≤ k from fun k => by
    have := grwE_cnt (L.take k) (⟨[], []⟩, 0)
    rw [List.length_take] at this
    unfold grwE
    have h2 := Nat.min_le_left k L.length
    omega)
  rw [hn] at hfn ⊢
  rw [hm] at hfe ⊢
  clear h hn hm
  go_enter Tryz.func9, Tryz.ntmps9
  go_wp2_with fail
  refine (new_gr w).mono ?_
  rintro e W1 ⟨p, rfl, fr1, b1⟩
  have HF1 := Lib.hid fr1
  have HB1 := Lib.hid b1
  clear fr1 b1
  go_wp2_with fail
  go_loopw [7, 8] (fun t i wr => ∃ k : Nat, k ≤ m ∧ i = .int .i64 k ∧ t = .int .i64 ((grwE (L.take k)).2 : Nat) ∧ Hid (Fresh w.heap.size p (grwE (L.take k)).1 wr) ∧ Hid (Below w.heap.size w wr)) (fun _ i _ => m - (intOf i).toNat)
  case atStart => exact ⟨0, Nat.zero_le _, rfl, rfl, HF1, HB1⟩
  case round =>
    obtain ⟨k, hk, rfl, rfl, hfr, hbw⟩ := hrel
    by_cases hlt : k < m
    · have hltI : (k : Int) < (m : Int) := by omega
      have hkw : IntKind.i64.wrap ((k : Int) + 1) = (k : Int) + 1 := IntWalk.i64_in _ (by omega)
      obtain ⟨x, hx⟩ : ∃ x, L[k]? = some x := ⟨L[k]'(by rw [H.out.2.2]; exact hlt), List.getElem?_eq_getElem _⟩
      have hxk := H.out.1.fit.te x (List.mem_of_getElem? hx)
      have hst := grwE_take hx
      have hcn := HCN.out k
      obtain ⟨G, hG⟩ : ∃ G, grwE (L.take k) = G := ⟨_, rfl⟩
      rw [hG] at hst hfr hcn ⊢
      have okG : GOk G.1 := by rw [← hG]; exact grwE_ok _
      obtain ⟨s0, s1, s2⟩ := x
      obtain ⟨ab, ao, rfl, y0, y1, y2⟩ := ((H.out.1.re.below hbw.out).ed hx)
      dsimp only at y0 y1 y2
      have SR := Lib.hid (show ∀ W, Below w.heap.size wr W → W.cell? ⟨ab, ao + k * 3, none⟩ = some (.string s0) ∧ W.cell? ⟨ab, ao + k * 3 + 1, none⟩ = some (.string s1) ∧ W.cell? ⟨ab, ao + k * 3 + 2, none⟩ = some (.string s2) from fun W hb => by
        obtain ⟨ab', ao', e, z0, z1, z2⟩ := ((H.out.1.re.below (hbw.out.trans hb)).ed hx)
        injection e with e
        injection e with e e2
        subst e; subst e2
        exact ⟨z0, z1, z2⟩)
      have hS := SR.out wr.drew (Below.refl _ wr).drew
      obtain ⟨F, g, nF⟩ := hfr.out.below (show Below wr.heap.size wr wr.drew from (Below.refl _ _).drew)
      have hcon := addEdge_gr wr.drew F p G.1 g okG ⟨s0, s1, s2⟩ hxk
      have HK := Lib.hid (And.intro hst (And.intro hG (And.intro nF okG)))
      have hcw : IntKind.i64.wrap (((G.2 : Nat) : Int) + 1) = ((G.2 + 1 : Nat) : Int) := by rw [IntKind.wrap_i64]; omega
      have HB2 := Lib.hid (show Below w.heap.size w wr.drew from hbw.out.drew)
      clear hst hG okG hx hxk y0 y1 y2 g nF hfr
      obtain ⟨more, hmore⟩ : ∃ b, (addEdge G.1 ⟨s0, s1, s2⟩).2.1 = b := ⟨_, rfl⟩
      obtain ⟨er, her⟩ : ∃ b, (addEdge G.1 ⟨s0, s1, s2⟩).2.2 = b := ⟨_, rfl⟩
      unfold AddP at hcon
      rw [hmore, her] at hcon
      have HMO := Lib.hid hmore
      clear hmore her
      go_upto_region 6 with (fail)
      refine wp_region_ord (fun W => W.cell? ⟨ab, ao + k * 3, none⟩ = some (.string s0) ∧ W.cell? ⟨ab, ao + k * 3 + 1, none⟩ = some (.string s1) ∧ W.cell? ⟨ab, ao + k * 3 + 2, none⟩ = some (.string s2)) 22 [(0, true), (1, true), (2, true), (3, true), (4, true), (5, true), (6, true), (7, true), (8, true), (9, true), (10, true), (11, true), (12, true), (13, true), (14, true), (15, true), (16, false), (17, true), (18, true), (19, true), (20, true), (21, true)] (by kernel_rfl) (by kernel_rfl) (fun _ _ d _ _ h => by cases d <;> exact h) hS ?_
      have Z1 := Lib.hid (show Below w.heap.size wr wr.drew from (Below.refl _ _).drew)
      generalize wr.drew = V1 at hS hcon HB2 Z1 ⊢
      iterate 16 (refine ord_take (v := ?_) rfl (by first | with_reducible rfl | kernel_rfl) ?_ ?_; rotate_left; (focus (intro wS hS; (try dsimp only at hS); go_split_ands; go_simp; (try with_reducible rfl); done)); (try simp only [Act.put, List.getElem_toArray, List.getElem_cons_succ, List.getElem_cons_zero, List.setIfInBounds_toArray, List.set_cons_zero, List.set_cons_succ]))
      refine ord_do rfl rfl (fun K hK => ?_)
      go_simp
      refine hcon.mono ?_
      clear hcon
      rintro e V2 ⟨rfl, gto⟩
      obtain ⟨f2, b2⟩ := Fresh.step HK.out.2.2.1 HB2.out.size gto
      have HB3 := Lib.hid (HB2.out.trans b2)
      have HF3 := Lib.hid f2
      refine hK _ _ (fun _ => SR.out _ (Z1.out.trans b2)) ?_
      clear hK K hS f2 gto
      have hS := SR.out _ (Z1.out.trans b2)
      clear b2
      (try simp only [Act.put, List.getElem_toArray, List.getElem_cons_succ, List.getElem_cons_zero, List.setIfInBounds_toArray, List.set_cons_zero, List.set_cons_succ])
      iterate 5 (refine ord_take (v := ?_) rfl (by first | with_reducible rfl | kernel_rfl) ?_ ?_; rotate_left; (focus (intro wS hS; (try dsimp only at hS); go_split_ands; go_simp; (try with_reducible rfl); done)); (try simp only [Act.put, List.getElem_toArray, List.getElem_cons_succ, List.getElem_cons_zero, List.setIfInBounds_toArray, List.set_cons_zero, List.set_cons_succ]))
      refine ord_done ?_
      clear hS SR
      cases more with
      | true =>
        go_wp2
        go_roundw
        case rel => exact ⟨k + 1, by omega, by go_num, by rw [HK.out.1]; unfold stepC; rw [HMO.out]; rfl, Lib.hid (by rw [HK.out.1]; exact HF3.out), HB3⟩
        case measure => simp [intOf]; omega
      | false =>
        go_wp2
        go_roundw
        case rel => exact ⟨k + 1, by omega, by go_num, by rw [HK.out.1]; unfold stepC; rw [HMO.out]; rfl, Lib.hid (by rw [HK.out.1]; exact HF3.out), HB3⟩
        case measure => simp [intOf]; omega
    · obtain rfl : k = m := by omega
      have e1 : L.take k = L := by rw [← H.out.2.2, List.take_length]
      rw [e1] at hfr ⊢
      have hcn := HCN.out k
      rw [e1] at hcn
      have okG := grwE_ok L
      obtain ⟨G, hGL⟩ : ∃ G, grwE L = G := ⟨_, rfl⟩
      rw [hGL] at hfr hcn okG ⊢
      have HGL := Lib.hid hGL
      clear hGL
      go_wp2_with fail
      generalize wr = W4 at hfr hbw ⊢
      go_loopw [11] (fun i wr => ∃ j : Nat, j ≤ n ∧ i = .int .i64 j ∧ Hid (Fresh w.heap.size p (grwN G.1 (M.take j)) wr) ∧ Hid (Below w.heap.size w wr)) (fun i _ => n - (intOf i).toNat)
      case atStart => exact ⟨0, Nat.zero_le _, rfl, hfr, hbw⟩
      case round =>
        obtain ⟨j, hj, rfl, hfr, hbz⟩ := hrel
        by_cases hjt : j < n
        · have hjtI : (j : Int) < (n : Int) := by omega
          have hjw : IntKind.i64.wrap ((j : Int) + 1) = (j : Int) + 1 := IntWalk.i64_in _ (by omega)
          obtain ⟨s, hs⟩ : ∃ s, M[j]? = some s := ⟨M[j]'(by rw [H.out.2.1]; exact hjt), List.getElem?_eq_getElem _⟩
          have hsk := H.out.1.fit.tn s (List.mem_of_getElem? hs)
          obtain ⟨ab, ao, rfl, y0⟩ := ((H.out.1.rn.below hbz.out).txt hs)
          obtain ⟨F, g, nF⟩ := hfr.out
          have hcon := addNode_gr wr F p _ g (grwN_ok _ _ okG) s hsk
          have HK := Lib.hid (And.intro (grwN_take (G := G.1) hs) nF)
          clear hs hsk g nF hfr
          unfold AddP at hcon
          go_wp2_with fail
          refine hcon.mono ?_
          clear hcon y0
          rintro e V2 ⟨rfl, gto⟩
          obtain ⟨f2, b2⟩ := Fresh.step HK.out.2 hbz.out.size gto
          have HB3 := Lib.hid (hbz.out.trans b2)
          have HF3 := Lib.hid f2
          clear f2 b2 gto
          go_wp2
          go_roundw
          case rel => exact ⟨j + 1, by omega, by go_num, Lib.hid (by rw [HK.out.1]; exact HF3.out), HB3⟩
          case measure => simp [intOf]; omega
        · obtain rfl : j = n := by omega
          have e2 : M.take j = M := by rw [← H.out.2.1, List.take_length]
          rw [e2] at hfr
          have FIN := Lib.hid (show GMade w (grwN G.1 M) (fun v => .tuple #[v, .int .i64 (G.2 : Nat)]) (.returned (.tuple #[.pointer (some ⟨p, 0, none⟩), .int .i64 (G.2 : Nat)])) wr from ⟨p, rfl, hfr.out, hbz.out⟩)
          clear hfr hbz
          go_wp2
          refine bodyPost_ret (v := .tuple #[.pointer (some ⟨p, 0, none⟩), .int .i64 (G.2 : Nat)]) (by simp [results, Tryz.f9, go_sem]) rfl (by rw [HGL.out]; exact FIN.out)
end Go.Proofs.YtnmkieiehjajlaaGreatDoor
