/- GraphOrder: the walk. -/
import Derived.Test.YthmkgnifcbnkpaaGreatGm5
import Derived.Test.YthmkgnifcbnkpaaGreatGm3
namespace Go.Proofs.YthmkgnifcbnkpaaGreat
open Go.RowKit

theorem out_w {L : List Hp} (h : OutOf grW 0 L) : L = [⟨tX, 1⟩] := by
  have hm : ∀ y, y ∈ L ↔ y ∈ ([⟨tX, 1⟩] : List Hp) := fun y => by
    rw [h.mem]
    have hi : (idxT grW.N tA : Int) = 1 := by decide +kernel
    constructor
    · rintro ⟨x, hx, -, rfl⟩
      simp only [grW, List.mem_singleton] at hx
      subst hx
      show (⟨tX, (idxT grW.N tA : Int)⟩ : Hp) ∈ _
      rw [hi]
      simp
    · intro hy
      rw [List.mem_singleton] at hy
      subst hy
      exact ⟨edW, by simp [grW], rfl, by show _ = (⟨tX, (idxT grW.N tA : Int)⟩ : Hp); rw [hi]⟩
  exact (SetOf.is stoH ⟨h.up, fun y => Iff.rfl⟩).trans ((SetOf.is stoH ⟨(by unfold Rises; simp : Rises ltH [(⟨tX, 1⟩ : Hp)]), fun y => (hm y).symm⟩).symm)
set_option maxHeartbeats 4000000 in
set_option maxRecDepth 20000 in
theorem gawake_any (w : World) : Calls Tryz.prog 29 #[] w (Sam w (.bool true)) := by
  have kW : EdOk edW := by unfold EdOk TxtOk; decide
  have okW : GOk grW := by have := GOk.new.edge edW; rw [aw_e1] at this; exact this
  go_enter Tryz.func29, Tryz.ntmps29
  go_wp2_with fail
  refine (new_gr w).mono ?_
  rintro e W1 ⟨p, rfl, ⟨F1, g1, n1⟩, b1⟩
  have hc := addEdge_gr W1 F1 p ⟨[], []⟩ g1 GOk.new edW kW
  rw [aw_e1] at hc
  have HB1 := Lib.hid b1
  have HF1 := Lib.hid n1
  clear b1 n1 g1
  unfold edW tB tX tA at hc
  dsimp only at hc
  go_wp2_with fail
  refine hc.mono ?_
  clear hc
  rintro e W2 ⟨rfl, F2, g2, u2, n2⟩
  have hb2 := Fresh.step HF1.out HB1.out.size ⟨F2, g2, u2, n2⟩
  obtain ⟨⟨F3, g3, n3⟩, b3⟩ := hb2
  have HB2 := Lib.hid (HB1.out.trans b3)
  have HF2 := Lib.hid n3
  clear g2 u2 n2 b3 n3
  have hc := addEdge_gr W2 F3 p grW g3 okW edW kW
  rw [aw_e2] at hc
  clear g3
  unfold edW tB tX tA at hc
  dsimp only at hc
  go_wp2_with fail
  refine hc.mono ?_
  clear hc
  rintro e W3 ⟨rfl, F4, g4, u4, n4⟩
  obtain ⟨⟨F5, g5, n5⟩, b5⟩ := Fresh.step HF2.out HB2.out.size ⟨F4, g4, u4, n4⟩
  have HB3 := Lib.hid (HB2.out.trans b5)
  have HF3 := Lib.hid n5
  clear g4 u4 n4 b5 n5
  have hc := node_gr W3 F5 p grW g5 okW tA (by unfold TxtOk; decide)
  have hni : numI grW.N tA = .tuple #[.int .i64 1, .int .i64 0] := by
    unfold numI
    have h1 : inB tA grW.N = true := by decide +kernel
    have h2 : (idxT grW.N tA : Int) = 1 := by decide +kernel
    rw [h1, h2]
    rfl
  rw [hni] at hc
  unfold tA at hc
  go_wp2_with fail
  refine hc.mono ?_
  clear hc
  rintro e w' ⟨rfl, hw⟩
  subst w'
  have hc := addNode_gr W3 F5 p grW g5 okW ⟨#[]⟩ (by unfold TxtOk; decide)
  rw [aw_n] at hc
  clear g5
  go_wp2_with fail
  refine hc.mono ?_
  clear hc
  rintro e W4 ⟨rfl, F6, g6, u6, n6⟩
  obtain ⟨⟨F7, g7, n7⟩, b7⟩ := Fresh.step HF3.out HB3.out.size ⟨F6, g6, u6, n6⟩
  have HB4 := Lib.hid (HB3.out.trans b7)
  clear g6 u6 n6 b7 n7
  have hc := out_gr W4 F7 p grW g7 okW 0 (by decide)
  have HG7 := Lib.hid g7
  clear g7
  go_wp2_with fail
  refine hc.mono ?_
  clear hc
  rintro e W5 ⟨v, L, hL, rfl, o, b⟩
  obtain rfl := out_w hL
  have HB5 := Lib.hid (HB4.out.trans (b.mono HB4.out.size))
  obtain ⟨g, c, rfl, -, -, -, -, hc⟩ := own_cells o (by decide)
  have y0 : W5.cell? ⟨g, 0, none⟩ = some (.string tX) := (hc 0 _ rfl).1
  have y1 : W5.cell? ⟨g, 1, none⟩ = some (.int .i64 1) := (hc 1 _ rfl).1
  have g8 := HG7.out.below b
  have h1 := has_gr W5 F7 p grW g8 okW edW kW.1 kW.2.2
  rw [decide_eq_true (by simp [grW])] at h1
  have HG8 := Lib.hid g8
  clear g8 hc o b hL
  unfold edW tB tX tA at h1
  dsimp only at h1
  unfold tX at y0
  go_wp2_with fail
  refine h1.mono ?_
  clear h1 y0 y1
  rintro e W6 ⟨rfl, b6⟩
  have HB6 := Lib.hid (HB5.out.trans (b6.mono HB5.out.size))
  have h2 := has_gr W6 F7 p grW (HG8.out.below b6) okW ⟨tA, tX, tB⟩ (by unfold TxtOk; decide) (by unfold TxtOk; decide)
  have hno : decide ((⟨tA, tX, tB⟩ : Ed) ∈ grW.X) = false := by decide +kernel
  rw [hno] at h2
  clear b6 HG8 hno
  unfold tB tX tA at h2
  dsimp only at h2
  go_wp2_with fail
  refine h2.mono ?_
  clear h2
  rintro e W7 ⟨rfl, b7⟩
  have HB7 := Lib.hid (HB6.out.trans (b7.mono HB6.out.size))
  clear b7
  go_wp2
  go_ret
  exact ⟨rfl, HB7.out⟩
end Go.Proofs.YthmkgnifcbnkpaaGreat
namespace Go.Proofs.YthmkgnifcbnkpaaGreat
open Go.RowKit

set_option maxHeartbeats 4000000 in
set_option maxRecDepth 20000 in
theorem grown_any (w : World) (A : Option Addr) (c : Nat) (B : Option Addr) (d : Nat) (M : List Txt) (L : List Ed) (h : ForG w A c B d M L) :
    Calls Tryz.prog 31 #[.slice A M.length c, .slice B L.length d] w (GMade w (grwN (grwE L).1 M) (fun v => .tuple #[v, .int .i64 ((grwE L).2 : Nat)])) := by
  obtain ⟨n, hn⟩ : ∃ n, M.length = n := ⟨_, rfl⟩
  obtain ⟨m, hm⟩ : ∃ m, L.length = m := ⟨_, rfl⟩
  have hfn := h.fit.n
  have hfe := h.fit.e
  have H := Lib.hid (And.intro h (And.intro hn hm))
  have HCN := Lib.hid (show ∀ k, (grwE (L.take k)).2 ≤ k from fun k => by
    have := grwE_cnt (L.take k) (⟨[], []⟩, 0)
    rw [List.length_take] at this
    unfold grwE
    have h2 := Nat.min_le_left k L.length
    omega)
  rw [hn] at hfn ⊢
  rw [hm] at hfe ⊢
  clear h hn hm
  go_enter Tryz.func31, Tryz.ntmps31
  go_wp2_with fail
  refine (new_gr w).mono ?_
  rintro e W1 ⟨p, rfl, fr1, b1⟩
  have HF1 := Lib.hid fr1
  have HB1 := Lib.hid b1
  clear fr1 b1
  go_wp2_with fail
  go_loopw [7, 8] (fun t i wr => ∃ k : Nat, k ≤ m ∧ i = .int .i64 k ∧ t = .int .i64 ((grwE (L.take k)).2 : Nat) ∧ Hid (Fresh w.heap.size p (grwE (L.take k)).1 wr) ∧ Hid (Below w.heap.size w wr)) (fun _ i _ => m - (intOf i).toNat)
  case atStart => exact ⟨0, Nat.zero_le _, rfl, rfl, HF1, HB1⟩
  case round =>
    obtain ⟨k, hk, rfl, rfl, hfr, hbw⟩ := hrel
    by_cases hlt : k < m
    · have hltI : (k : Int) < (m : Int) := by omega
      have hkw : IntKind.i64.wrap ((k : Int) + 1) = (k : Int) + 1 := IntWalk.i64_in _ (by omega)
      obtain ⟨x, hx⟩ : ∃ x, L[k]? = some x := ⟨L[k]'(by rw [H.out.2.2]; exact hlt), List.getElem?_eq_getElem _⟩
      have hxk := H.out.1.fit.te x (List.mem_of_getElem? hx)
      have hst := grwE_take hx
      have hcn := HCN.out k
      obtain ⟨G, hG⟩ : ∃ G, grwE (L.take k) = G := ⟨_, rfl⟩
      rw [hG] at hst hfr hcn ⊢
      have okG : GOk G.1 := by rw [← hG]; exact grwE_ok _
      obtain ⟨s0, s1, s2⟩ := x
      obtain ⟨ab, ao, rfl, y0, y1, y2⟩ := ((H.out.1.re.below hbw.out).ed hx)
      dsimp only at y0 y1 y2
      have SR := Lib.hid (show ∀ W, Below w.heap.size wr W → W.cell? ⟨ab, ao + k * 3, none⟩ = some (.string s0) ∧ W.cell? ⟨ab, ao + k * 3 + 1, none⟩ = some (.string s1) ∧ W.cell? ⟨ab, ao + k * 3 + 2, none⟩ = some (.string s2) from fun W hb => by
        obtain ⟨ab', ao', e, z0, z1, z2⟩ := ((H.out.1.re.below (hbw.out.trans hb)).ed hx)
        injection e with e
        injection e with e e2
        subst e; subst e2
        exact ⟨z0, z1, z2⟩)
      have hS := SR.out wr.drew (Below.refl _ wr).drew
      obtain ⟨F, g, nF⟩ := hfr.out.below (show Below wr.heap.size wr wr.drew from (Below.refl _ _).drew)
      have hcon := addEdge_gr wr.drew F p G.1 g okG ⟨s0, s1, s2⟩ hxk
      have HK := Lib.hid (And.intro hst (And.intro hG (And.intro nF okG)))
      have hcw : IntKind.i64.wrap (((G.2 : Nat) : Int) + 1) = ((G.2 + 1 : Nat) : Int) := by rw [IntKind.wrap_i64]; omega
      have HB2 := Lib.hid (show Below w.heap.size w wr.drew from hbw.out.drew)
      clear hst hG okG hx hxk y0 y1 y2 g nF hfr
      obtain ⟨more, hmore⟩ : ∃ b, (addEdge G.1 ⟨s0, s1, s2⟩).2.1 = b := ⟨_, rfl⟩
      obtain ⟨er, her⟩ : ∃ b, (addEdge G.1 ⟨s0, s1, s2⟩).2.2 = b := ⟨_, rfl⟩
      unfold AddP at hcon
      rw [hmore, her] at hcon
      have HMO := Lib.hid hmore
      clear hmore her
      go_upto_region 6 with (fail)
      refine wp_region_ord (fun W => W.cell? ⟨ab, ao + k * 3, none⟩ = some (.string s0) ∧ W.cell? ⟨ab, ao + k * 3 + 1, none⟩ = some (.string s1) ∧ W.cell? ⟨ab, ao + k * 3 + 2, none⟩ = some (.string s2)) 22 [(0, true), (1, true), (2, true), (3, true), (4, true), (5, true), (6, true), (7, true), (8, true), (9, true), (10, true), (11, true), (12, true), (13, true), (14, true), (15, true), (16, false), (17, true), (18, true), (19, true), (20, true), (21, true)] (by kernel_rfl) (by kernel_rfl) (fun _ _ d _ _ h => by cases d <;> exact h) hS ?_
      have Z1 := Lib.hid (show Below w.heap.size wr wr.drew from (Below.refl _ _).drew)
      generalize wr.drew = V1 at hS hcon HB2 Z1 ⊢
      iterate 16 (refine ord_take (v := ?_) rfl (by first | with_reducible rfl | kernel_rfl) ?_ ?_; rotate_left; (focus (intro wS hS; (try dsimp only at hS); go_split_ands; go_simp; (try with_reducible rfl); done)); (try simp only [Act.put, List.getElem_toArray, List.getElem_cons_succ, List.getElem_cons_zero, List.setIfInBounds_toArray, List.set_cons_zero, List.set_cons_succ]))
      refine ord_do rfl rfl (fun K hK => ?_)
      go_simp
      refine hcon.mono ?_
      clear hcon
      rintro e V2 ⟨rfl, gto⟩
      obtain ⟨f2, b2⟩ := Fresh.step HK.out.2.2.1 HB2.out.size gto
      have HB3 := Lib.hid (HB2.out.trans b2)
      have HF3 := Lib.hid f2
      refine hK _ _ (fun _ => SR.out _ (Z1.out.trans b2)) ?_
      clear hK K hS f2 gto
      have hS := SR.out _ (Z1.out.trans b2)
      clear b2
      (try simp only [Act.put, List.getElem_toArray, List.getElem_cons_succ, List.getElem_cons_zero, List.setIfInBounds_toArray, List.set_cons_zero, List.set_cons_succ])
      iterate 5 (refine ord_take (v := ?_) rfl (by first | with_reducible rfl | kernel_rfl) ?_ ?_; rotate_left; (focus (intro wS hS; (try dsimp only at hS); go_split_ands; go_simp; (try with_reducible rfl); done)); (try simp only [Act.put, List.getElem_toArray, List.getElem_cons_succ, List.getElem_cons_zero, List.setIfInBounds_toArray, List.set_cons_zero, List.set_cons_succ]))
      refine ord_done ?_
      clear hS SR
      cases more with
      | true =>
        go_wp2
        go_roundw
        case rel => exact ⟨k + 1, by omega, by go_num, by rw [HK.out.1]; unfold stepC; rw [HMO.out]; rfl, Lib.hid (by rw [HK.out.1]; exact HF3.out), HB3⟩
        case measure => simp [intOf]; omega
      | false =>
        go_wp2
        go_roundw
        case rel => exact ⟨k + 1, by omega, by go_num, by rw [HK.out.1]; unfold stepC; rw [HMO.out]; rfl, Lib.hid (by rw [HK.out.1]; exact HF3.out), HB3⟩
        case measure => simp [intOf]; omega
    · obtain rfl : k = m := by omega
      have e1 : L.take k = L := by rw [← H.out.2.2, List.take_length]
      rw [e1] at hfr ⊢
      have hcn := HCN.out k
      rw [e1] at hcn
      have okG := grwE_ok L
      obtain ⟨G, hGL⟩ : ∃ G, grwE L = G := ⟨_, rfl⟩
      rw [hGL] at hfr hcn okG ⊢
      have HGL := Lib.hid hGL
      clear hGL
      go_wp2_with fail
      generalize wr = W4 at hfr hbw ⊢
      go_loopw [11] (fun i wr => ∃ j : Nat, j ≤ n ∧ i = .int .i64 j ∧ Hid (Fresh w.heap.size p (grwN G.1 (M.take j)) wr) ∧ Hid (Below w.heap.size w wr)) (fun i _ => n - (intOf i).toNat)
      case atStart => exact ⟨0, Nat.zero_le _, rfl, hfr, hbw⟩
      case round =>
        obtain ⟨j, hj, rfl, hfr, hbz⟩ := hrel
        by_cases hjt : j < n
        · have hjtI : (j : Int) < (n : Int) := by omega
          have hjw : IntKind.i64.wrap ((j : Int) + 1) = (j : Int) + 1 := IntWalk.i64_in _ (by omega)
          obtain ⟨s, hs⟩ : ∃ s, M[j]? = some s := ⟨M[j]'(by rw [H.out.2.1]; exact hjt), List.getElem?_eq_getElem _⟩
          have hsk := H.out.1.fit.tn s (List.mem_of_getElem? hs)
          obtain ⟨ab, ao, rfl, y0⟩ := ((H.out.1.rn.below hbz.out).txt hs)
          obtain ⟨F, g, nF⟩ := hfr.out
          have hcon := addNode_gr wr F p _ g (grwN_ok _ _ okG) s hsk
          have HK := Lib.hid (And.intro (grwN_take (G := G.1) hs) nF)
          clear hs hsk g nF hfr
          unfold AddP at hcon
          go_wp2_with fail
          refine hcon.mono ?_
          clear hcon y0
          rintro e V2 ⟨rfl, gto⟩
          obtain ⟨f2, b2⟩ := Fresh.step HK.out.2 hbz.out.size gto
          have HB3 := Lib.hid (hbz.out.trans b2)
          have HF3 := Lib.hid f2
          clear f2 b2 gto
          go_wp2
          go_roundw
          case rel => exact ⟨j + 1, by omega, by go_num, Lib.hid (by rw [HK.out.1]; exact HF3.out), HB3⟩
          case measure => simp [intOf]; omega
        · obtain rfl : j = n := by omega
          have e2 : M.take j = M := by rw [← H.out.2.1, List.take_length]
          rw [e2] at hfr
          have FIN := Lib.hid (show GMade w (grwN G.1 M) (fun v => .tuple #[v, .int .i64 (G.2 : Nat)]) (.returned (.tuple #[.pointer (some ⟨p, 0, none⟩), .int .i64 (G.2 : Nat)])) wr from ⟨p, rfl, hfr.out, hbz.out⟩)
          clear hfr hbz
          go_wp2
          refine bodyPost_ret (v := .tuple #[.pointer (some ⟨p, 0, none⟩), .int .i64 (G.2 : Nat)]) (by simp [results, Tryz.f31, go_sem]) rfl (by rw [HGL.out]; exact FIN.out)
end Go.Proofs.YthmkgnifcbnkpaaGreat
namespace Go.Proofs.YthmkgnifcbnkpaaGreat
open Go.RowKit

theorem rev_at {α : Type} {E : List α} {k : Nat} (hk : k < E.length) : E.reverse[k]? = E[E.length - 1 - k]? := by
  rw [List.getElem?_reverse hk]
theorem nodup_rev {α : Type} {L : List α} (h : L.Nodup) : L.reverse.Nodup := List.pairwise_reverse.2 (List.Pairwise.imp (fun h => Ne.symm h) h)
theorem numI_at {N : List Txt} (hd : N.Nodup) {i : Nat} {s : Txt} (h : N[i]? = some s) : numI N s = .tuple #[.int .i64 (i : Int), .int .i64 0] := by
  unfold numI
  rw [if_pos (inB_iff.2 (List.mem_of_getElem? h)), idxT_is hd h]
/-- What Data tells may be held against another one. -/
theorem dat_for {w w' : World} {G : Gr} {A : Option Addr} {c : Nat} {B : Option Addr} {d : Nat} {base : Nat} (ok : GOk G) (o1 : w'.ownsRow base 9 1 (.slice A (datN G).length c) (datN G).length (txtCells (datN G))) (o2 : w'.ownsRow base 39 3 (.slice B (datE G).length d) (datE G).length (edCells (datE G))) : ForG w' A c B d (datN G) (datE G) := by
  have hc := check_made ok.may
  have hs := Short.of (check_caps hc).2.1
  have hcap := caps_le (check_caps hc).2.2
  refine ⟨RowR.of_own o1, RowR.of_own o2, own_le o1, own_le o2, ⟨by have := hcap.1; unfold datN; omega, by have := hcap.2.2.1; unfold datE; omega, fun t ht => by have := hs.n t ht; unfold TxtOk; omega, fun x hx => ?_⟩⟩
  have := hs.e x hx
  unfold EdOk TxtOk
  omega
/-- Data held against the graph that it must be. -/
theorem dat_is (w : World) (F : Nat → Prop) (p : Nat) (G : Gr) (h : GrS w F p G) (ok : GOk G) {N : List Txt} {E : List Ed} (e1 : datN G = N) (e2 : datE G = E) : Calls Tryz.prog 32 #[.pointer (some ⟨p, 0, none⟩)] w (fun e w' => ∃ A c B d, e = .returned (.agg #[.slice A N.length c, .slice B E.length d]) ∧ ForG w' A c B d N E ∧ Below w.heap.size w w') := by
  refine (data_gr w F p G h ok).mono ?_
  rintro e w' ⟨A, c, B, d, rfl, o1, o2, b⟩
  have hf := dat_for (w := w) ok o1 o2
  subst e1
  subst e2
  exact ⟨A, c, B, d, rfl, hf, b⟩
theorem same_is (w : World) {A : Option Addr} {c : Nat} {B : Option Addr} {d : Nat} {A' : Option Addr} {c' : Nat} {B' : Option Addr} {d' : Nat} {N : List Txt} {E : List Ed} (h : ForG w A c B d N E) (h' : ForG w A' c' B' d' N E) : Calls Tryz.prog 19 #[.agg #[.slice A N.length c, .slice B E.length d], .agg #[.slice A' N.length c', .slice B' E.length d']] w (Sam w (.bool true)) := by
  have := esame_any w A c B d N E A' c' B' d' N E h h'
  rw [show sameB N E N E = true by simp [sameB]] at this
  exact this
set_option maxHeartbeats 4000000 in
set_option maxRecDepth 20000 in
theorem gorder_any (w : World) (A : Option Addr) (c : Nat) (B : Option Addr) (d : Nat) (N : List Txt) (E : List Ed) (h : ForG w A c B d N E) :
    Calls Tryz.prog 7 #[twoV A N.length c B E.length d] w (Sam w (.bool true)) := by
  have k0 := Blk.new w 25 #[.slice A N.length c, .slice B E.length d]
  have u0 : Below w.heap.size w (w.alloc (.cells #[.slice A N.length c, .slice B E.length d] 25)) := (Below.refl _ _).alloc (Nat.le_refl _) _
  have H := Lib.hid (And.intro (h.below u0) (And.intro k0 u0))
  clear h k0 u0
  obtain ⟨z, hz⟩ : ∃ z, checkI N E = z := ⟨_, rfl⟩
  have hche := fun W hG => echeck_any W A c B d N E hG
  have hofg := fun W hG => ofg_any W A c B d N E hG
  have hsam := fun {W : World} {A2 : Option Addr} {c2 : Nat} {B2 : Option Addr} {d2 : Nat} (h1 : ForG W A2 c2 B2 d2 N E) (h2 : ForG W A c B d N E) => same_is W h1 h2
  have hdat := fun (W : World) (F : Nat → Prop) (p : Nat) (G : Gr) (h : GrS W F p G) (ok : GOk G) (e1 : datN G = N) (e2 : datE G = E) => dat_is W F p G h ok e1 e2
  have hgr := fun (W : World) (B' : Option Addr) (d' : Nat) (L : List Ed) (h : ForG W A c B' d' N L) => grown_any W A c B' d' N L h
  obtain ⟨n, hn⟩ : ∃ n, N.length = n := ⟨_, rfl⟩
  obtain ⟨m, hm⟩ : ∃ m, E.length = m := ⟨_, rfl⟩
  unfold twoV at hche hofg ⊢
  rw [hn, hm] at H hche hofg hsam hdat ⊢
  rw [hn] at hgr
  rw [hz] at hche
  have HL := Lib.hid (And.intro hn (And.intro hm hz))
  clear hn hm hz
  go_enter Tryz.func7, Tryz.ntmps7
  go_upto_region 1 with (fail)
  generalize w.alloc (.cells #[.slice A n c, .slice B m d] 25) = W0 at H ⊢
  have q0 : W0.cell? ⟨w.heap.size, 0, none⟩ = some (.slice A n c) := H.out.2.1.cell 0
  have q1 : W0.cell? ⟨w.heap.size, 1, none⟩ = some (.slice B m d) := H.out.2.1.cell 1
  have hcon := hche W0 H.out.1
  go_wp2_with fail
  refine hcon.mono ?_
  clear hcon hche q0 q1
  rintro e W1 ⟨rfl, b1⟩
  have H1 := Lib.hid (And.intro (H.out.1.below b1) (And.intro (H.out.2.1.upd (Upd.of_below b1 (fun _ => False)) id) (H.out.2.2.trans (b1.mono H.out.2.2.size))))
  clear b1
  by_cases h0 : z = 0
  rotate_left
  · have h0I : (z == 0) = false := by simpa using h0
    clear hofg hsam hdat hgr
    go_wp2_with fail
    refine (gawake_any W1).mono ?_
    rintro e W9 ⟨rfl, b9⟩
    have FIN := Lib.hid (H1.out.2.2.trans (b9.mono H1.out.2.2.size))
    clear b9
    go_wp2
    go_ret
    exact ⟨rfl, FIN.out⟩
  subst h0
  have hcap := caps_le (check_caps HL.out.2.2).2.2
  have hform := form_iff (check_caps HL.out.2.2).1
  have hn32 : n ≤ 32 := by rw [← HL.out.1]; exact hcap.1
  have hm256 : m ≤ 256 := by rw [← HL.out.2.1]; exact hcap.2.2.1
  have HF := Lib.hid (And.intro (hform.1.nodup stoT) (And.intro (hform.2.1.nodup stoE) H.out.1.fit))
  clear hcap hform
  have UP := Lib.hid (show ∀ W, Below W1.heap.size W1 W → ForG W A c B d N E ∧ Blk W w.heap.size 25 #[.slice A n c, .slice B m d] ∧ Below w.heap.size w W from fun W hb => ⟨H1.out.1.below hb, H1.out.2.1.upd (Upd.of_below hb (fun _ => False)) id, H1.out.2.2.trans (hb.mono H1.out.2.2.size)⟩)
  have q1 : W1.cell? ⟨w.heap.size, 1, none⟩ = some (.slice B m d) := H1.out.2.1.cell 1
  have hw1 : IntKind.i64.wrap ((m : Int) - 1) = (m : Int) - 1 := by rw [IntKind.wrap_i64]; omega
  go_wp2_with fail
  clear q1
  go_loopw [3, 4] (fun v i wr => ∃ k : Nat, k ≤ m ∧ i = .int .i64 ((m : Int) - 1 - k) ∧ Hid (wr.ownsRow W1.heap.size 39 3 v (E.reverse.take k).length (edCells (E.reverse.take k))) ∧ Hid (Below W1.heap.size W1 wr)) (fun _ i _ => (intOf i + 1).toNat)
  case atStart => exact ⟨0, Nat.zero_le _, by simp, Lib.hid (World.ownsRow_nil _ _ _ _), Lib.hid (Below.refl _ _)⟩
  case round =>
    obtain ⟨k, hk, rfl, hown, hbw⟩ := hrel
    by_cases hlt : k < m
    · obtain ⟨i, hi⟩ : ∃ i : Nat, (m : Int) - 1 - (k : Int) = (i : Int) := ⟨m - 1 - k, by omega⟩
      have him : i < m := by omega
      have hge : (0 : Int) ≤ (i : Int) := by omega
      have hiI : (i : Int) < (m : Int) := by omega
      have hiw : IntKind.i64.wrap ((i : Int) - 1) = (i : Int) - 1 := by rw [IntKind.wrap_i64]; omega
      obtain ⟨x, hx⟩ : ∃ x, E[i]? = some x := ⟨E[i]'(by rw [HL.out.2.1]; exact him), List.getElem?_eq_getElem _⟩
      have hrx : E.reverse[k]? = some x := by
        rw [rev_at (by rw [HL.out.2.1]; exact hlt), HL.out.2.1]
        have : m - 1 - k = i := by omega
        rw [this]
        exact hx
      obtain ⟨s0, s1, s2⟩ := x
      have hu := UP.out wr hbw.out
      obtain ⟨ab, ao, rfl, y0, y1, y2⟩ := hu.1.re.ed hx
      dsimp only at y0 y1 y2
      have q1 : wr.cell? ⟨w.heap.size, 1, none⟩ = some (.slice (some ⟨ab, ao, none⟩) m d) := hu.2.1.cell 1
      obtain ⟨v7, W7, happ, own7, up7, pl7⟩ := push_ed wr W1.heap.size _ _ hown.out ⟨s0, s1, s2⟩ (by rw [List.length_take]; omega) hbw.out.size
      dsimp only at happ
      have HF7 := Lib.hid (And.intro own7 (show Below W1.heap.size W1 W7 from hbw.out.trans (up7.below (fun b _ hb => (hown.out.lt b hb).1) hbw.out.size)))
      have etk : E.reverse.take k ++ [⟨s0, s1, s2⟩] = E.reverse.take (k + 1) := by rw [List.take_add_one, hrx]; rfl
      rw [etk] at HF7
      obtain ⟨A8, c8, rfl, -, -⟩ := own_form own7
      obtain ⟨A9, c9, rfl, -, -⟩ := own_form hown.out
      clear own7 up7 pl7 hown hx hrx etk hu
      rw [hi]
      go_wp2_with (at_builtin; refine wpList_append_run rfl _ _ _ rfl rfl rfl happ ?_)
      clear y0 y1 y2 q1 happ
      go_roundw
      case rel => exact ⟨k + 1, by omega, by congr 1; omega, Lib.hid (by simpa using HF7.out.1), Lib.hid HF7.out.2⟩
      case measure => simp [intOf] <;> omega
    · obtain rfl : k = m := by omega
      have e1 : E.reverse.take k = E.reverse := by rw [← HL.out.2.1, ← List.length_reverse, List.take_length]
      have hz : (k : Int) - 1 - (k : Int) = -1 := by omega
      rw [hz]
      have own5 := hown.out
      rw [e1, List.length_reverse, HL.out.2.1] at own5
      obtain ⟨RA, Rc, rfl, hRc, -⟩ := own_form own5
      have HR := Lib.hid own5
      clear own5 hown
      have hc0 := HL.out.2.2
      have hu := UP.out wr hbw.out
      have q0 : wr.cell? ⟨w.heap.size, 0, none⟩ = some (.slice A n c) := hu.2.1.cell 0
      have q1 : wr.cell? ⟨w.heap.size, 1, none⟩ = some (.slice B k d) := hu.2.1.cell 1
      have hcon := hofg wr hu.1
      clear hu hz
      go_wp2_with fail
      refine hcon.mono ?_
      clear hcon hofg q0 q1
      rintro e W2 (⟨hne, -, -⟩ | ⟨-, p, rfl, ⟨F2, g2, n2⟩, b2⟩)
      · exact absurd hc0 hne
      have hs0 := same_of hc0 (fun _ => Iff.rfl) (fun _ => Iff.rfl)
      have hok0 : GOk ⟨N, E⟩ := ⟨HF.out.1, HF.out.2.1, (form_iff (check_caps hc0).1).2.2, hs0.1⟩
      have HB2 := Lib.hid (hbw.out.trans (b2.mono hbw.out.size))
      have HR2 := Lib.hid (ownsRow_upd HR.out (Upd.of_below b2 (fun _ => False)) (fun _ _ h => h))
      have HG2 := Lib.hid (And.intro g2 (And.intro hok0 (And.intro hs0.2.1 hs0.2.2)))
      clear b2 g2 n2 hok0 hs0 HR hbw
      have hu := UP.out W2 HB2.out
      have q0 : W2.cell? ⟨w.heap.size, 0, none⟩ = some (.slice A n c) := hu.2.1.cell 0
      have q1 : W2.cell? ⟨w.heap.size, 1, none⟩ = some (.slice B k d) := hu.2.1.cell 1
      obtain ⟨a1, a2, a3, a4, -⟩ := grown_same hc0 HF.out.2.1 (fun _ => Iff.rfl)
      have hcon := hgr W2 B d E hu.1
      rw [HL.out.2.1, a1, HL.out.2.1] at hcon
      clear hu a1
      go_wp2_with fail
      refine hcon.mono ?_
      clear hcon q0 q1
      rintro e W3 ⟨pa, rfl, ⟨F3, g3, n3⟩, b3⟩
      have HB3 := Lib.hid (HB2.out.trans (b3.mono HB2.out.size))
      have HR3 := Lib.hid (ownsRow_upd HR2.out (Upd.of_below b3 (fun _ => False)) (fun _ _ h => h))
      have HG3 := Lib.hid (And.intro (HG2.out.1.below b3) HG2.out.2)
      have HA3 := Lib.hid (And.intro g3 (And.intro a2 (And.intro a3 a4)))
      clear b3 g3 n3 a2 a3 a4 HG2 HR2 HB2
      have hu := UP.out W3 HB3.out
      have q0 : W3.cell? ⟨w.heap.size, 0, none⟩ = some (.slice A n c) := hu.2.1.cell 0
      obtain ⟨a1, a2, a3, a4, a5⟩ := grown_same hc0 (L := E.reverse) (nodup_rev HF.out.2.1) (fun _ => List.mem_reverse)
      have hrl : E.reverse.length = k := by rw [List.length_reverse, HL.out.2.1]
      have hcon := hgr W3 RA Rc E.reverse ⟨hu.1.rn, RowR.of_own HR3.out, hu.1.hc, by rw [hrl]; exact hRc, ⟨HF.out.2.2.n, by rw [List.length_reverse]; exact HF.out.2.2.e, HF.out.2.2.tn, fun x hx => HF.out.2.2.te x (List.mem_reverse.1 hx)⟩⟩
      rw [a1, hrl] at hcon
      clear hu a1 hgr
      rw [HL.out.1] at a5
      go_wp2_with fail
      refine hcon.mono ?_
      clear hcon q0
      rintro e W4 ⟨pb, rfl, ⟨F4, g4, n4⟩, b4⟩
      have HB4 := Lib.hid (HB3.out.trans (b4.mono HB3.out.size))
      have HG4 := Lib.hid (And.intro (HG3.out.1.below b4) HG3.out.2)
      have HA4 := Lib.hid (And.intro (HA3.out.1.below b4) HA3.out.2)
      have HE4 := Lib.hid (And.intro g4 (And.intro a2 (And.intro a3 a4)))
      have HN := Lib.hid a5
      clear b4 g4 n4 a2 a3 a4 a5 HG3 HA3 HB3 HR3
      generalize grwN (grwE E).1 N = Ga at HA4
      generalize grwN (grwE E.reverse).1 N = Gb at HE4 HN
      go_upto_region 11 with (fail)
      have HB0 := Lib.hid (show Below W1.heap.size W1 W4.drew from HB4.out.drew)
      have Hg := Lib.hid (And.intro (HG4.out.1.below (show Below W4.heap.size W4 W4.drew from (Below.refl _ _).drew)) HG4.out.2)
      have Ha := Lib.hid (And.intro (HA4.out.1.below (show Below W4.heap.size W4 W4.drew from (Below.refl _ _).drew)) HA4.out.2)
      have Hb := Lib.hid (And.intro (HE4.out.1.below (show Below W4.heap.size W4 W4.drew from (Below.refl _ _).drew)) HE4.out.2)
      clear HB4 HG4 HA4 HE4
      have hS : W4.drew.cell? ⟨w.heap.size, 0, none⟩ = some (.slice A n c) ∧ W4.drew.cell? ⟨w.heap.size, 1, none⟩ = some (.slice B k d) := ⟨(UP.out _ HB0.out).2.1.cell 0, (UP.out _ HB0.out).2.1.cell 1⟩
      refine wp_region_ord (fun W => W.cell? ⟨w.heap.size, 0, none⟩ = some (.slice A n c) ∧ W.cell? ⟨w.heap.size, 1, none⟩ = some (.slice B k d)) 47 [(0, true), (1, true), (2, true), (3, true), (4, true), (5, true), (6, true), (7, true), (8, true), (9, true), (10, true), (11, true), (12, true), (13, true), (14, true), (15, true), (16, true), (17, true), (18, true), (19, true), (20, true), (21, true), (22, true), (23, true), (24, true), (25, true), (26, true), (27, true), (29, true), (28, false), (30, false), (31, true), (32, true), (33, true), (34, true), (36, true), (35, false), (37, false), (38, true), (39, true), (40, true), (41, true), (43, true), (42, false), (44, false), (45, true), (46, true)] (by kernel_rfl) (by kernel_rfl) (fun _ _ d _ _ h => by cases d <;> exact h) hS ?_
      generalize W4.drew = V0 at HB0 Hg Ha Hb hS ⊢
      have SR := Lib.hid (show ∀ W, Below V0.heap.size V0 W → W.cell? ⟨w.heap.size, 0, none⟩ = some (.slice A n c) ∧ W.cell? ⟨w.heap.size, 1, none⟩ = some (.slice B k d) from fun W hb => by
        have hu := UP.out W (HB0.out.trans (hb.mono HB0.out.size))
        exact ⟨hu.2.1.cell 0, hu.2.1.cell 1⟩)
      have B0 := Lib.hid (Below.refl V0.heap.size V0)
      iterate 29 (refine ord_take (v := ?_) rfl (by first | with_reducible rfl | kernel_rfl) ?_ ?_; rotate_left; (focus (intro wS hS; (try dsimp only at hS); go_split_ands; go_simp; (try with_reducible rfl); done)); (try simp only [Act.put, List.getElem_toArray, List.getElem_cons_succ, List.getElem_cons_zero, List.setIfInBounds_toArray, List.set_cons_zero, List.set_cons_succ]))
      (refine ord_dog rfl (by first | with_reducible rfl | kernel_rfl) (fun K hK => ?_); go_simp)
      have hcon := hdat V0 _ _ _ (Hg.out.1.below B0.out) Hg.out.2.1 Hg.out.2.2.1 Hg.out.2.2.2
      refine hcon.mono ?_
      clear hcon
      rintro e V1 ⟨A5, c5, B5, d5, rfl, hf5, b5⟩
      have B1 := Lib.hid (B0.out.trans (b5.mono B0.out.size))
      refine hK _ _ (fun _ => SR.out _ B1.out) ?_
      clear hK K b5
      (try simp only [Act.put, List.getElem_toArray, List.getElem_cons_succ, List.getElem_cons_zero, List.setIfInBounds_toArray, List.set_cons_zero, List.set_cons_succ])
      (refine ord_dog rfl (by first | with_reducible rfl | kernel_rfl) (fun K hK => ?_); go_simp)
      have hcon := hsam hf5 (UP.out _ (HB0.out.trans (B1.out.mono HB0.out.size))).1
      refine hcon.mono ?_
      clear hcon hf5
      rintro e V2 ⟨rfl, b5⟩
      have B2 := Lib.hid (B1.out.trans (b5.mono B1.out.size))
      have hS := SR.out _ B2.out
      refine hK _ _ (fun _ => hS) ?_
      clear hK K b5
      (try simp only [Act.put, List.getElem_toArray, List.getElem_cons_succ, List.getElem_cons_zero, List.setIfInBounds_toArray, List.set_cons_zero, List.set_cons_succ])
      iterate 5 (refine ord_take (v := ?_) rfl (by first | with_reducible rfl | kernel_rfl) ?_ ?_; rotate_left; (focus (intro wS hS; (try dsimp only at hS); go_split_ands; go_simp; (try with_reducible rfl); done)); (try simp only [Act.put, List.getElem_toArray, List.getElem_cons_succ, List.getElem_cons_zero, List.setIfInBounds_toArray, List.set_cons_zero, List.set_cons_succ]))
      (refine ord_dog rfl (by first | with_reducible rfl | kernel_rfl) (fun K hK => ?_); go_simp)
      have hcon := hdat V2 _ _ _ (Ha.out.1.below B2.out) Ha.out.2.1 Ha.out.2.2.1 Ha.out.2.2.2
      refine hcon.mono ?_
      clear hcon
      rintro e V3 ⟨A5, c5, B5, d5, rfl, hf5, b5⟩
      have B3 := Lib.hid (B2.out.trans (b5.mono B2.out.size))
      refine hK _ _ (fun _ => SR.out _ B3.out) ?_
      clear hK K b5
      (try simp only [Act.put, List.getElem_toArray, List.getElem_cons_succ, List.getElem_cons_zero, List.setIfInBounds_toArray, List.set_cons_zero, List.set_cons_succ])
      (refine ord_dog rfl (by first | with_reducible rfl | kernel_rfl) (fun K hK => ?_); go_simp)
      have hcon := hsam hf5 (UP.out _ (HB0.out.trans (B3.out.mono HB0.out.size))).1
      refine hcon.mono ?_
      clear hcon hf5
      rintro e V4 ⟨rfl, b5⟩
      have B4 := Lib.hid (B3.out.trans (b5.mono B3.out.size))
      have hS := SR.out _ B4.out
      refine hK _ _ (fun _ => hS) ?_
      clear hK K b5
      (try simp only [Act.put, List.getElem_toArray, List.getElem_cons_succ, List.getElem_cons_zero, List.setIfInBounds_toArray, List.set_cons_zero, List.set_cons_succ])
      iterate 5 (refine ord_take (v := ?_) rfl (by first | with_reducible rfl | kernel_rfl) ?_ ?_; rotate_left; (focus (intro wS hS; (try dsimp only at hS); go_split_ands; go_simp; (try with_reducible rfl); done)); (try simp only [Act.put, List.getElem_toArray, List.getElem_cons_succ, List.getElem_cons_zero, List.setIfInBounds_toArray, List.set_cons_zero, List.set_cons_succ]))
      (refine ord_dog rfl (by first | with_reducible rfl | kernel_rfl) (fun K hK => ?_); go_simp)
      have hcon := hdat V4 _ _ _ (Hb.out.1.below B4.out) Hb.out.2.1 Hb.out.2.2.1 Hb.out.2.2.2
      refine hcon.mono ?_
      clear hcon
      rintro e V5 ⟨A5, c5, B5, d5, rfl, hf5, b5⟩
      have B5 := Lib.hid (B4.out.trans (b5.mono B4.out.size))
      refine hK _ _ (fun _ => SR.out _ B5.out) ?_
      clear hK K b5
      (try simp only [Act.put, List.getElem_toArray, List.getElem_cons_succ, List.getElem_cons_zero, List.setIfInBounds_toArray, List.set_cons_zero, List.set_cons_succ])
      (refine ord_dog rfl (by first | with_reducible rfl | kernel_rfl) (fun K hK => ?_); go_simp)
      have hcon := hsam hf5 (UP.out _ (HB0.out.trans (B5.out.mono HB0.out.size))).1
      refine hcon.mono ?_
      clear hcon hf5
      rintro e V6 ⟨rfl, b5⟩
      have B6 := Lib.hid (B5.out.trans (b5.mono B5.out.size))
      have hS := SR.out _ B6.out
      refine hK _ _ (fun _ => hS) ?_
      clear hK K b5
      (try simp only [Act.put, List.getElem_toArray, List.getElem_cons_succ, List.getElem_cons_zero, List.setIfInBounds_toArray, List.set_cons_zero, List.set_cons_succ])
      iterate 2 (refine ord_take (v := ?_) rfl (by first | with_reducible rfl | kernel_rfl) ?_ ?_; rotate_left; (focus (intro wS hS; (try dsimp only at hS); go_split_ands; go_simp; (try with_reducible rfl); done)); (try simp only [Act.put, List.getElem_toArray, List.getElem_cons_succ, List.getElem_cons_zero, List.setIfInBounds_toArray, List.set_cons_zero, List.set_cons_succ]))
      refine ord_done ?_
      clear hS SR hsam hdat
      have HB6 := Lib.hid (HB0.out.trans (B6.out.mono HB0.out.size))
      have Hg6 := Lib.hid (And.intro (Hg.out.1.below B6.out) Hg.out.2)
      have Hb6 := Lib.hid (And.intro (Hb.out.1.below B6.out) Hb.out.2)
      clear B0 B1 B2 B3 B4 B5 B6 Hg Ha Hb HB0
      have hcon := nodes_gr V6 _ pb Gb Hb6.out.1 Hb6.out.2.1
      go_wp2_with fail
      refine hcon.mono ?_
      clear hcon
      rintro e W5 ⟨v, rfl, o5, b5⟩
      rw [HN.out] at o5
      obtain ⟨NA, Nc, rfl, -, -⟩ := own_form o5
      have HB5 := Lib.hid (HB6.out.trans (b5.mono HB6.out.size))
      have Hg5 := Lib.hid (And.intro (Hg6.out.1.below b5) Hg6.out.2)
      have Hb5 := Lib.hid (And.intro (Hb6.out.1.below b5) Hb6.out.2)
      have HO5 := Lib.hid (RowR.of_own o5)
      clear o5 b5 HB6 Hg6 Hb6
      have hu := UP.out W5 HB5.out
      have q0 : W5.cell? ⟨w.heap.size, 0, none⟩ = some (.slice A n c) := hu.2.1.cell 0
      have hRN := Lib.hid hu.1.rn
      have HFIN := Lib.hid hu.2.2
      clear hu
      go_wp2_with fail
      go_loopw [12] (fun i wr => ∃ j : Nat, j ≤ n ∧ i = .int .i64 j ∧ wr = W5) (fun i _ => n - (intOf i).toNat)
      case atStart => exact ⟨0, Nat.zero_le _, rfl, rfl⟩
      case round =>
        obtain ⟨j, hj, rfl, hwr⟩ := hrel
        subst hwr
        by_cases hjt : j < n
        · have hjtI : (j : Int) < (n : Int) := by omega
          have hjw : IntKind.i64.wrap ((j : Int) + 1) = (j : Int) + 1 := IntWalk.i64_in _ (by omega)
          obtain ⟨s, hs⟩ : ∃ s, N[j]? = some s := ⟨N[j]'(by rw [HL.out.1]; exact hjt), List.getElem?_eq_getElem _⟩
          obtain ⟨t, ht⟩ : ∃ s, Gb.N[j]? = some s := ⟨Gb.N[j]'(by rw [HN.out]; exact hjt), List.getElem?_eq_getElem _⟩
          have htk : TxtOk t := HF.out.2.2.tn t (by
            have := (datN_mem Hb5.out.2.1).2 (List.mem_of_getElem? ht)
            rwa [Hb5.out.2.2.1] at this)
          obtain ⟨ab, ao, rfl, y0⟩ := hRN.out.txt hs
          obtain ⟨nb, no, rfl, y1⟩ := HO5.out.txt ht
          have hc1 := node_gr wr _ pb Gb Hb5.out.1 Hb5.out.2.1 t htk
          have hc2 := node_gr wr _ p ⟨N, E⟩ Hg5.out.1 Hg5.out.2.1 s (HF.out.2.2.tn s (List.mem_of_getElem? hs))
          rw [numI_at Hb5.out.2.1.nd ht] at hc1
          rw [numI_at HF.out.1 hs] at hc2
          clear hs ht htk
          go_wp2_with fail
          refine hc1.mono ?_
          clear hc1
          rintro e w' ⟨rfl, hw⟩
          subst w'
          go_wp2_with fail
          refine hc2.mono ?_
          clear hc2
          rintro e w' ⟨rfl, hw⟩
          subst w'
          go_wp2
          go_roundw
          case rel => exact ⟨j + 1, by omega, by go_num, by first | rfl | trivial⟩
          case measure => simp [intOf]; omega
        · obtain rfl : j = n := by omega
          clear q0
          go_wp2_with fail
          refine (gawake_any wr).mono ?_
          rintro e W9 ⟨rfl, b9⟩
          have FIN := Lib.hid (HFIN.out.trans (b9.mono HFIN.out.size))
          clear b9
          go_wp2
          go_ret
          exact ⟨rfl, FIN.out⟩
end Go.Proofs.YthmkgnifcbnkpaaGreat
