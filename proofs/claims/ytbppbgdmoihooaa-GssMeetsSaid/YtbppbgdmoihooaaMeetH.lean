/- GssMeets: the walk, of a list that is cut. -/
import Derived.Test.YtbppbgdmoihooaaMeetF
namespace Go.Proofs.Ytbppbgdmoihooaa
open Go.RowKit

set_option maxHeartbeats 16000000 in
set_option maxRecDepth 20000 in
theorem meets_big (w : World) (nodes : Int) (lb lo len c : Nat) (evs : List Ev) (hm : evs.length = 60) (hb : 60 < len) (hlc : len ≤ c)
    (hev : ∀ (i : Nat) (e : Ev), evs[i]? = some e → w.cell? ⟨lb, lo + i * 4, none⟩ = some (.int .i64 e.n) ∧ w.cell? ⟨lb, lo + i * 4 + 1, none⟩ = some (.int .i64 e.a) ∧ w.cell? ⟨lb, lo + i * 4 + 2, none⟩ = some (.int .i64 e.b) ∧ w.cell? ⟨lb, lo + i * 4 + 3, none⟩ = some (.bool e.pop) ∧ Wf e.n ∧ Wf e.a ∧ Wf e.b) :
    Calls Try.prog 4 #[.int .i64 nodes, .slice (some ⟨lb, lo, none⟩) len c] w fun e w' => e = .returned (.bool true) ∧ Below w.heap.size w w' := by
  obtain ⟨n, hn7, hn1, hn8⟩ := seven nodes
  have hm60 : (60 : Nat) ≤ 60 := Nat.le_refl _
  have H : Hid _ := Lib.hid (And.intro hm (And.intro (fun (_ : 0 < 60) => (rfl : some (⟨lb, lo, none⟩ : Addr) = some ⟨lb, lo, none⟩)) (And.intro hev hlc)))
  have hdec : decide ((60 : Int) < (len : Int)) = true := by simp; omega
  have hmc : 60 ≤ c := by omega
  have hmc' : (60 : Int) ≤ (c : Int) := by omega
  clear hm hev hb hlc
  go_enter Try.func4, Try.ntmps4
  go_wp2_with fail
  refine (made_any w n hn8).mono ?_
  rintro e w1 ⟨b1, F1, rfl, M1⟩
  have HM := Lib.hid M1
  clear M1
  go_wp2_with fail
  refine (made_any w1 n hn8).mono ?_
  rintro e w2 ⟨b2, F2, rfl, M2⟩
  have M1' := HM.out.keep M2.below
  have HS := Lib.hid (And.intro M1' (And.intro M2 (And.intro (fun k (h1 : F1 k) (h2 : F2 k) => (Nat.lt_irrefl _ (Nat.lt_of_lt_of_le (HM.out.at_.lt k h1) (M2.own k h2)) : False)) HM.out.size)))
  have hlen : (madeNodes n).length = n := madeNodes_len n
  clear HM M2 M1'
  go_wp2_with (go_at_call 14; refine (len_any _ _ b1 _ HS.out.1.at_).mono ?_; rintro e w' ⟨rfl, rfl⟩)
  go_loopw [8, 9] (fun v i wr => ∃ (k : Nat) (z : Int), k ≤ 60 ∧ i = .int .i64 z ∧ z + k + 1 = (60 : Int) ∧ wr.ownsRow w2.heap.size 37 4 v k (evCells (evs.reverse.take k)) ∧ Below w2.heap.size w2 wr) (fun _ i _ => (intOf i + 1).toNat)
  case atStart => exact ⟨0, (60 : Int) - 1, Nat.zero_le _, rfl, by omega, World.ownsRow_nil _ _ _ _, Below.refl _ _⟩
  case round =>
    obtain ⟨k, z, hk, rfl, hz, row, hbel⟩ := hrel
    obtain ⟨A', c', rfl, hc', -⟩ := own_form row
    by_cases hlt : k < 60
    · obtain ⟨j, rfl⟩ : ∃ j : Nat, z = (j : Int) := ⟨z.toNat, by omega⟩
      obtain ⟨hm, hA, hev, -⟩ := H.out
      obtain ⟨e, he⟩ : ∃ e, evs[j]? = some e := ⟨evs[j]'(by omega), List.getElem?_eq_getElem _⟩
      obtain ⟨e0, e1, e2, e3, -⟩ := hev j e he
      have up : ∀ j u, w.cell? ⟨lb, j, none⟩ = some u → wr.cell? ⟨lb, j, none⟩ = some u := fun j u hu => by
        have hl := World.block_lt_of_cell? w _ hu
        exact (hbel.cell (p := ⟨lb, j, none⟩) (Nat.lt_of_lt_of_le hl HS.out.1.size)).trans ((HS.out.1.below.cell (p := ⟨lb, j, none⟩) hl).trans hu)
      have r0 := up _ _ e0
      have r1 := up _ _ e1
      have r2 := up _ _ e2
      have r3 := up _ _ e3
      have hrev : evs.reverse[k]? = some e := rev_at (by omega) (by rw [show evs.length - 1 - k = j by omega]; exact he)
      have htk := take_snoc hrev
      obtain ⟨en, ea, eb, ep⟩ := e
      obtain ⟨i0, hi0, hz0, hz1, hz2⟩ := info_parts info_come
      obtain ⟨v8, w8, happ, own8, gr8, -, pl8⟩ := run_append_own_at (P := Try.prog) (wr.alloc (.cells #[.int .i64 en, .int .i64 ea, .int .i64 eb, .bool ep] 37)) w2.heap.size 34 34 37 i0 _ 4 32 Try.underlying34 hi0 hz0 hz1 hz2 rfl (by decide) _ k _ (row.alloc _) ⟨wr.heap.size, 0, none⟩ 1 1
        (evCells [⟨en, ea, eb, ep⟩]) rfl (by
          intro j u hu
          match j, hu with
          | 0, hu => simp [Addr.add, evCells] at hu ⊢; exact hu
          | 1, hu => simp [Addr.add, evCells] at hu ⊢; exact hu
          | 2, hu => simp [Addr.add, evCells] at hu ⊢; exact hu
          | 3, hu => simp [Addr.add, evCells] at hu ⊢; exact hu
          | j + 4, hu => simp [evCells] at hu) (by simp [Value.oneCell', evCells]) (by unfold maxLen; omega) (by omega) (by have := hbel.size; simp; omega)
      have U8 : Upd (fun z => Value.ownBlock (.slice A' k c') = some z) wr w8 := ((Upd.refl _ wr).alloc _).grown gr8 (fun z hz => .inl hz)
      have B8 := hbel.trans (U8.below (fun i _ hi => (row.lt i hi).1) hbel.size)
      rw [← evCells_app, ← htk] at own8
      have fin := Lib.hid (And.intro own8 B8)
      clear row hbel hc' hm hA hev he e0 e1 e2 e3 up hrev htk hi0 hz0 hz1 hz2 own8 gr8 pl8 U8 B8
      go_wp2_with (at_builtin; refine wpList_append_run rfl _ _ _ rfl rfl rfl happ ?_)
      go_roundw
      case rel => exact ⟨k + 1, (j : Int) - 1, by omega, by go_num, by omega, fin.out.1, fin.out.2⟩
      case measure => simp [intOf]
    · obtain rfl : 60 = k := by omega
      obtain rfl : z = -1 := by omega
      have hFC : Hid _ := Lib.hid (And.intro row (And.intro hbel hc'))
      clear row hbel hc'
      go_wp2_with fail
      obtain ⟨hm, hA, hev, -⟩ := H.out
      refine (meet_any wr F1 b1 (madeNodes n) (some ⟨lb, lo, none⟩) lb lo 60 c n evs (HS.out.1.at_.below hFC.out.2.1) hlen hn1 hn8 hm hm60 (made_empty n) (fun h => by
        obtain ⟨e, he⟩ : ∃ e, evs[0]? = some e := ⟨evs[0]'(by omega), List.getElem?_eq_getElem _⟩
        have hl := World.block_lt_of_cell? w _ (hev 0 e he).1
        have h1 := HS.out.1.size
        have h2 := hFC.out.2.1.size
        refine ⟨rfl, Nat.lt_of_lt_of_le hl (Nat.le_trans h1 h2), fun hf => ?_⟩
        have := HS.out.1.own _ hf
        simp at hl
        omega) (fun i e he => by
        obtain ⟨e0, e1, e2, e3, wf⟩ := hev i e he
        have up : ∀ j u, w.cell? ⟨lb, j, none⟩ = some u → wr.cell? ⟨lb, j, none⟩ = some u := fun j u hu => by
          have hl := World.block_lt_of_cell? w _ hu
          exact (hFC.out.2.1.cell (p := ⟨lb, j, none⟩) (Nat.lt_of_lt_of_le hl HS.out.1.size)).trans ((HS.out.1.below.cell (p := ⟨lb, j, none⟩) hl).trans hu)
        exact ⟨up _ _ e0, up _ _ e1, up _ _ e2, up _ _ e3, wf⟩)).mono ?_
      rintro e w4 ⟨v1, F1', rfl, S1, U1, hF1, row1, d1⟩
      have FA := facts_of n evs (by omega)
      obtain ⟨⟨Ns, L1⟩, hP1⟩ : ∃ p, runP n (madeNodes n) evs = p := ⟨_, rfl⟩
      rw [hP1] at S1 row1 FA
      dsimp only at S1 row1 FA
      obtain ⟨A1, c1, rfl, hc1, -⟩ := own_form row1
      obtain ⟨row, hbel, hc'⟩ := hFC.out
      rw [List.take_of_length_le (by simp; omega)] at row
      have row4 := ownsRow_upd row U1 (fun q hq h1 => by have := (row.lt q hq).1; have := HS.out.1.at_.lt q h1; omega)
      obtain ⟨g, hg⟩ : ∃ g, 0 < 60 → A' = some ⟨g, 0, none⟩ ∧ g < w4.heap.size ∧ w2.heap.size ≤ g ∧ ∀ j u, (evCells evs.reverse)[j]? = some u → w4.cell? ⟨g, j, none⟩ = some u := by
        by_cases h : 0 < 60
        · obtain ⟨g, cc, hv, -, -, hgs, hgb, hcell⟩ := own_cells row4 h
          injection hv with hv
          exact ⟨g, fun _ => ⟨hv, hgs, hgb, fun j u hu => (hcell j u hu).1⟩⟩
        · exact ⟨0, fun h' => absurd h' h⟩
      have U1s := U1.size
      have Hm : Hid _ := Lib.hid (And.intro S1 (And.intro U1 (And.intro hF1 (And.intro row1 (And.intro d1 (And.intro hg (And.intro hm (And.intro hev (And.intro hbel (And.intro hA (And.intro hc1 FA)))))))))))
      have hsz : w2.heap.size ≤ w4.heap.size := Nat.le_trans hbel.size U1s
      clear S1 U1 hF1 row1 d1 row row4 hg hm hev hA hFC hbel U1s hc1 hc' H FA
      go_wp2_with fail
      obtain ⟨S1, U1, hF1, row1, d1, hg, hm, hev, hbel, hA, hc1, FA⟩ := Hm.out
      refine (meet_any w4 F2 b2 (madeNodes n) A' g 0 60 c' n evs.reverse ((HS.out.2.1.at_.below hbel).upd U1 (fun k h2 h1 => HS.out.2.2.1 k h1 h2)) hlen hn1 hn8 (by simp [hm]) hm60 (made_empty n) (fun h => by
        obtain ⟨h1, h2, h3, -⟩ := hg h
        refine ⟨h1, h2, fun hf => ?_⟩
        have := HS.out.2.1.at_.lt _ hf
        omega) (fun i e he => by
        have hi := (List.getElem?_eq_some_iff.1 he).1
        rw [List.length_reverse] at hi
        obtain ⟨h1, h2, h3, h4⟩ := hg (by omega)
        have hq := fun j (hj : j < 4) => flat_get (fun e : Ev => [Value.int .i64 e.n, .int .i64 e.a, .int .i64 e.b, .bool e.pop]) 4 (fun _ => rfl) evs.reverse i j e he hj
        obtain ⟨i', hi'⟩ := List.mem_iff_getElem?.1 (List.mem_reverse.1 (List.mem_of_getElem? he))
        obtain ⟨-, -, -, -, wf⟩ := hev i' e hi'
        rw [Nat.zero_add]
        exact ⟨h4 _ _ (hq 0 (by omega)), h4 _ _ (hq 1 (by omega)), h4 _ _ (hq 2 (by omega)), h4 _ _ (hq 3 (by omega)), wf⟩)).mono ?_
      rintro e w5 ⟨v2, F2', rfl, S2, U2, hF2, row2, d2⟩
      obtain ⟨⟨Nt, L2⟩, hP2⟩ : ∃ p, runP n (madeNodes n) evs.reverse = p := ⟨_, rfl⟩
      rw [hP2] at S2 row2 FA
      dsimp only at S2 row2 FA
      have tw : Two w.heap.size w Ns Nt L1 L2 b1 b2 F1' F2' (.slice A1 L1.length c1) v2 w5 := by
        have a1 := HS.out.1.size
        have a2 := hbel.size
        have a3 := U1.size
        refine ⟨S1.upd U2 (fun k h1 h2 => ?_), S2, ownsRow_base (ownsRow_upd row1 U2 (fun q hq h2 => ?_)) (fun q hq => ?_), ownsRow_base row2 (fun q hq => ?_), ?_, ?_⟩
        · rcases hF1 k h1 with h | h
          · exact HS.out.2.2.1 k h h2
          · have := HS.out.2.1.at_.lt k h2
            omega
        · have := (row1.lt q hq).1
          have := HS.out.2.1.at_.lt q h2
          omega
        · have := (row1.lt q hq).1
          omega
        · have := (row2.lt q hq).1
          omega
        · have h3 := HS.out.1.below.trans (hbel.mono a1)
          have h4 := h3.trans (U1.below (fun i _ hi => HS.out.1.own i hi) (by omega))
          exact h4.trans (U2.below (fun i _ hi => Nat.le_trans HS.out.2.2.2 (HS.out.2.1.own i hi)) (by omega))
        · have := U2.size
          omega
      obtain ⟨A2, c2, rfl, hc2, -⟩ := own_form row2
      have hLL := FA.len
      have hL1 := FA.few
      have HT : Hid _ := Lib.hid (And.intro tw FA)
      rw [hLL]
      clear Hm S1 U1 hF1 row1 d1 hg hm hev hbel hA S2 U2 hF2 row2 d2 HS hP1 hP2 tw FA hsz hlen hlt hk hz hmc hmc' hdec hLL hc2
      have hne : ((L1.length : Int) != (L1.length : Int)) = false := by simp
      go_wp2
      go_loopw [14, 15] (fun cv kv wr => ∃ k cnt : Nat, k ≤ n ∧ kv = .int .i64 k ∧ cv = .int .i64 cnt ∧ cnt ≤ k * 3600 ∧ cnt = total (Ns.take k) ∧ Below w5.heap.size w5 wr) (fun _ kv _ => n - (intOf kv).toNat)
      case atStart => exact ⟨0, 0, Nat.zero_le _, rfl, rfl, Nat.le_refl _, rfl, Below.refl _ _⟩
      case round =>
        obtain ⟨k, cnt, hk, rfl, rfl, hcl, hct, hB⟩ := hrel
        obtain ⟨wo, rfl⟩ : ∃ wo : World, wo = wr := ⟨_, rfl⟩
        by_cases hlt : k < n
        · obtain ⟨x, y, hx, hy, hyf, hyp, hxf, hxp, hone⟩ := HT.out.2.each k hlt
          have T0 := HT.out.1.below hB
          have HX : Hid _ := Lib.hid (And.intro hx (And.intro hy (And.intro hone (And.intro hct (And.intro hB T0)))))
          clear hx hy hone hct hB T0
          go_wp2_with fail
          refine (frames_yes wo F1' b1 Ns k x HX.out.2.2.2.2.2.s HX.out.1).mono ?_
          rintro e w6 ⟨vf, rfl, rf6, hb6⟩
          obtain ⟨Af, cf, rfl, hcf, -⟩ := own_form rf6
          have T6 := HX.out.2.2.2.2.2.below hb6
          have H6 : Hid _ := Lib.hid (And.intro T6 (And.intro rf6 hb6))
          clear T6 rf6 hb6
          go_wp2_with fail
          refine (pops_yes w6 F1' b1 Ns k x H6.out.1.s HX.out.1).mono ?_
          rintro e w7 ⟨vp, rfl, rp7, hb7⟩
          obtain ⟨Ap, cp, rfl, hcp, -⟩ := own_form rp7
          have T7 := H6.out.1.below hb7
          have rf7 := row_below H6.out.2.1 hb7
          have hB7 := (HX.out.2.2.2.2.1.trans (H6.out.2.2.mono HX.out.2.2.2.2.1.size)).trans (hb7.mono (Nat.le_trans HX.out.2.2.2.2.1.size H6.out.2.2.size))
          have H7 : Hid _ := Lib.hid (And.intro T7 (And.intro rf7 (And.intro rp7 hB7)))
          clear T7 rf7 rp7 hb7 hB7 H6
          go_wp2_with fail
          refine (frames_yes w7 F2' b2 Nt k y H7.out.1.t HX.out.2.1).mono ?_
          rintro e w8 ⟨vf2, rfl, rf8, hb8⟩
          obtain ⟨Af2, cf2, rfl, -, -⟩ := own_form rf8
          rw [hyf]
          have T8 := H7.out.1.below hb8
          have H8 : Hid _ := Lib.hid (And.intro T8 (And.intro (row_below H7.out.2.1 hb8) (And.intro (row_below H7.out.2.2.1 hb8) (H7.out.2.2.2.trans (hb8.mono H7.out.2.2.2.size)))))
          clear T8 rf8 hb8 H7
          go_wp2_with fail
          refine (pops_yes w8 F2' b2 Nt k y H8.out.1.t HX.out.2.1).mono ?_
          rintro e w9 ⟨vp2, rfl, rf9, hb9⟩
          obtain ⟨Ap2, cp2, rfl, -, -⟩ := own_form rf9
          rw [hyp]
          have T9 := H8.out.1.below hb9
          have H9 : Hid _ := Lib.hid (And.intro T9 (And.intro (row_below H8.out.2.1 hb9) (And.intro (row_below H8.out.2.2.1 hb9) (H8.out.2.2.2.trans (hb9.mono H8.out.2.2.2.size)))))
          clear T9 rf9 hb9 H8 hyf hyp
          have hnf : ((x.frames.length : Int) != (x.frames.length : Int)) = false := by simp
          have hnp : ((x.pops.length : Int) != (x.pops.length : Int)) = false := by simp
          go_wp2
          go_loopw [14, 24] (fun cv kv wq => ∃ k4 c4 : Nat, k4 ≤ x.frames.length ∧ kv = .int .i64 k4 ∧ cv = .int .i64 c4 ∧ c4 ≤ cnt + k4 * 60 ∧ c4 = cnt + k4 * x.pops.length ∧ Below w9.heap.size w9 wq) (fun _ kv _ => x.frames.length - (intOf kv).toNat)
          case atStart => exact ⟨0, cnt, Nat.zero_le _, rfl, rfl, by omega, by omega, Below.refl _ _⟩
          case round =>
            obtain ⟨k4, c4, hk4, rfl, rfl, hc4, hc4e, hB4⟩ := hrel
            obtain ⟨wq, rfl⟩ : ∃ wo : World, wo = wr := ⟨_, rfl⟩
            have HB4 := Lib.hid (And.intro hc4e hB4)
            clear hc4e hB4
            by_cases hlt4 : k4 < x.frames.length
            · obtain ⟨⟨f1, f2⟩, hf⟩ : ∃ f, x.frames[k4]? = some f := ⟨x.frames[k4], List.getElem?_eq_getElem hlt4⟩
              have HF := Lib.hid hf
              clear hf
              go_wp2
              go_loopw [14, 25] (fun cv kv wz => ∃ k6 c6 : Nat, k6 ≤ x.pops.length ∧ kv = .int .i64 k6 ∧ cv = .int .i64 c6 ∧ c6 = c4 + k6 ∧ Below w9.heap.size w9 wz) (fun _ kv _ => x.pops.length - (intOf kv).toNat)
              case atStart => exact ⟨0, c4, Nat.zero_le _, rfl, rfl, rfl, HB4.out.2⟩
              case round =>
                obtain ⟨k6, c6, hk6, rfl, rfl, rfl, hB6⟩ := hrel
                obtain ⟨wz, rfl⟩ : ∃ wo : World, wo = wr := ⟨_, rfl⟩
                by_cases hlt6 : k6 < x.pops.length
                · obtain ⟨p, hp⟩ : ∃ p, x.pops[k6]? = some p := ⟨x.pops[k6], List.getElem?_eq_getElem hlt6⟩
                  obtain ⟨gf, cf', hvf, -, hcff, -, -, hcellf⟩ := own_cells (row_below H9.out.2.1 hB6) (by omega)
                  injection hvf with hAf _ hcf'
                  subst hAf
                  obtain ⟨gp, cp', hvp, -, hcpp, -, -, hcellp⟩ := own_cells (row_below H9.out.2.2.1 hB6) (by omega)
                  injection hvp with hAp _ hcp'
                  subst hAp
                  have s0 : wz.cell? ⟨gf, k4 * 2, none⟩ = some (.int .i64 f1) := (hcellf _ _ (flat_get (fun p : Int × Int => [Value.int .i64 p.1, .int .i64 p.2]) 2 (fun _ => rfl) _ k4 0 _ HF.out (by omega))).1
                  have s1 : wz.cell? ⟨gf, k4 * 2 + 1, none⟩ = some (.int .i64 f2) := (hcellf _ _ (flat_get (fun p : Int × Int => [Value.int .i64 p.1, .int .i64 p.2]) 2 (fun _ => rfl) _ k4 1 _ HF.out (by omega))).1
                  have s2 : wz.cell? ⟨gp, k6, none⟩ = some (.int .i64 p) := (hcellp k6 _ (by simp [popCells, hp])).1
                  obtain ⟨o1, o2⟩ := HX.out.2.2.1 (f1, f2) (List.mem_of_getElem? HF.out) p (List.mem_of_getElem? hp)
                  have HZ : Hid _ := Lib.hid (And.intro hB6 (And.intro o1 o2))
                  have hcf2 : (x.frames.length : Int) ≤ (cf : Int) := by omega
                  have hcp2 : (x.pops.length : Int) ≤ (cp : Int) := by omega
                  clear hB6 o1 o2 hp hcellf hcellp hcff hcpp hcf' hcp' hcf hcp
                  have hne1 : ((1 : Int) != (1 : Int)) = false := by simp
                  go_wp2
                  refine wp_region_ord (fun w' => w'.cell? ⟨gf, k4 * 2, none⟩ = some (.int .i64 f1) ∧ w'.cell? ⟨gf, k4 * 2 + 1, none⟩ = some (.int .i64 f2) ∧ w'.cell? ⟨gp, k6, none⟩ = some (.int .i64 p)) 11 [(0, true), (1, true), (2, true), (3, true), (4, true), (5, true), (6, true), (7, true), (8, true), (9, true), (10, false), (11, false)] (by kernel_rfl) (by kernel_rfl) (fun _ _ d _ _ h => by cases d <;> exact h) ⟨s0, s1, s2⟩ ?_
                  have d0 : wz.drew.cell? ⟨gf, k4 * 2, none⟩ = some (.int .i64 f1) := s0
                  have d1 : wz.drew.cell? ⟨gf, k4 * 2 + 1, none⟩ = some (.int .i64 f2) := s1
                  have d2 : wz.drew.cell? ⟨gp, k6, none⟩ = some (.int .i64 p) := s2
                  have hBd := HZ.out.1.drew
                  have HZ2 := Lib.hid (And.intro hBd HZ.out.2)
                  clear s0 s1 s2 HZ hBd
                  generalize wz.drew = wd at d0 d1 d2 HZ2 ⊢
                  have lg := World.block_lt_of_cell? wd _ d0
                  have lp := World.block_lt_of_cell? wd _ d2
                  repeat (refine ord_take (v := ?_) rfl rfl ?_ ?_; rotate_left; focus (intro wS hS; (try dsimp only at hS); go_split_ands; go_simp; (try with_reducible rfl); done); (try simp only [Act.put, List.setIfInBounds_toArray, List.set_cons_zero, List.set_cons_succ]))
                  refine ord_do rfl rfl (fun K hK => ?_)
                  go_simp
                  refine hK _ _ (fun _ => ⟨(World.cell?_alloc_lt _ _ ⟨gf, k4 * 2, none⟩ lg).trans d0, (World.cell?_alloc_lt _ _ ⟨gf, k4 * 2 + 1, none⟩ lg).trans d1, (World.cell?_alloc_lt _ _ ⟨gp, k6, none⟩ lp).trans d2⟩) ?_
                  clear hK K
                  refine ord_do rfl rfl (fun K hK => ?_)
                  go_simp
                  refine hK _ _ (fun h => absurd rfl h) ?_
                  clear hK K d0 d1 d2 lg lp
                  refine ord_done ?_
                  have kb := Blk.new wd 50 #[.int .i64 (k : Int), .int .i64 p, .int .i64 f1, .int .i64 f2]
                  have bA : Below wd.heap.size wd (wd.alloc (.cells #[.int .i64 (k : Int), .int .i64 p, .int .i64 f1, .int .i64 f2] 50)) := (Below.refl _ _).alloc (Nat.le_refl _) _
                  have hBa := HZ2.out.1.trans (bA.mono HZ2.out.1.size)
                  have q0 := kb.cell 0
                  have q1 := kb.cell 1
                  have q2 := kb.cell 2
                  have q3 := kb.cell 3
                  simp only [List.getElem?_toArray, List.getElem?_cons_succ, List.getElem?_cons_zero] at q0 q1 q2 q3
                  obtain ⟨xb, hxb⟩ : ∃ xb, wd.heap.size = xb := ⟨_, rfl⟩
                  rw [hxb] at q0 q1 q2 q3
                  rw [hxb]
                  have HZ3 := Lib.hid (And.intro hBa HZ2.out.2)
                  clear kb bA hBa HZ2
                  generalize wd.alloc (.cells #[.int .i64 (k : Int), .int .i64 p, .int .i64 f1, .int .i64 f2] 50) = wa at q0 q1 q2 q3 HZ3 ⊢
                  clear hxb
                  go_wp2_with fail
                  have T1 := H9.out.1.below HZ3.out.1
                  refine (has_any wa w.heap.size _ L1 k p f1 f2 T1.m (by omega)).mono ?_
                  rintro e wb ⟨rfl, hbb⟩
                  rw [HZ3.out.2.1]
                  have r0 := (hbb.cell (p := ⟨xb, 0, none⟩) (World.block_lt_of_cell? wa _ q0)).trans q0
                  have r1 := (hbb.cell (p := ⟨xb, 1, none⟩) (World.block_lt_of_cell? wa _ q1)).trans q1
                  have r2 := (hbb.cell (p := ⟨xb, 2, none⟩) (World.block_lt_of_cell? wa _ q2)).trans q2
                  have r3 := (hbb.cell (p := ⟨xb, 3, none⟩) (World.block_lt_of_cell? wa _ q3)).trans q3
                  have HZ4 := Lib.hid (And.intro (HZ3.out.1.trans (hbb.mono HZ3.out.1.size)) HZ3.out.2)
                  clear T1 hbb q0 q1 q2 q3 HZ3
                  go_wp2_with fail
                  have T1 := H9.out.1.below HZ4.out.1
                  have m2 := T1.m2
                  refine (has_any wb w.heap.size _ L2 k p f1 f2 (by have := HT.out.2.len; rw [this]; rw [this] at m2; exact m2) (by have := HT.out.2.len; omega)).mono ?_
                  rintro e wc ⟨rfl, hbc⟩
                  rw [HZ4.out.2.2]
                  have HZ5 := Lib.hid (HZ4.out.1.trans (hbc.mono HZ4.out.1.size))
                  clear T1 m2 hbc r0 r1 r2 r3 HZ4
                  go_wp2
                  go_roundw
                  case rel => exact ⟨k6 + 1, c4 + k6 + 1, by omega, by go_num, by go_num, by omega, HZ5.out⟩
                  case measure => simp [intOf]; omega
                · obtain rfl : x.pops.length = k6 := by omega
                  have HB6 := Lib.hid hB6
                  clear hB6
                  go_wp2
                  go_roundw
                  case rel => exact ⟨k4 + 1, c4 + x.pops.length, by omega, by go_num, by go_num, by omega, by rw [HB4.out.1, Nat.add_mul]; omega, HB6.out⟩
                  case measure => simp [intOf]; omega
            · obtain rfl : x.frames.length = k4 := by omega
              go_wp2
              go_roundw
              case rel =>
                refine ⟨k + 1, c4, by omega, by go_num, rfl, by omega, ?_, H9.out.2.2.2.trans (HB4.out.2.mono H9.out.2.2.2.size)⟩
                rw [total_take Ns k x HX.out.1, HB4.out.1, HX.out.2.2.2.1]
              case measure => simp [intOf]; omega
        · obtain rfl : cnt = L1.length := by
            rw [hct, List.take_of_length_le (by have := HT.out.2.ls; omega)]
            exact HT.out.2.tot
          have HB := Lib.hid hB
          have hee : ((L1.length : Int) == (L1.length : Int)) = true := by simp
          clear hct hB
          go_wp2_with (go_at_call 15; refine (awake_any _).mono ?_; rintro e w' ⟨rfl, hba⟩)
          go_ret
          have T0 := HT.out.1.below HB.out
          exact ⟨rfl, T0.bel.trans (hba.mono T0.size)⟩
end Go.Proofs.Ytbppbgdmoihooaa
