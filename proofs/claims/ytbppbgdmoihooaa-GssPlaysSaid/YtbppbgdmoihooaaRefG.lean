/- GssPlays: look. -/
import Derived.Test.YtbppbgdmoihooaaRefF
namespace Go.Proofs.Ytbppbgdmoihooaa
open Go.RowKit

set_option maxHeartbeats 1600000 in
set_option maxRecDepth 20000 in
theorem rlook_no (w : World) (F G : Nat → Prop) (b : Nat) (v : Value) (N : List GNode) (n : Int) (h : Both w F G b v N) (hn : ¬ (0 ≤ n ∧ n < (N.length : Int))) :
    Calls Try.prog 24 #[.pointer (some ⟨b, 0, none⟩), v, .int .i64 n] w (Same w (.bool true)) := by
  obtain ⟨A, c, rfl⟩ : ∃ A c, v = .slice A N.length c := by
    obtain ⟨O, D, hs, rfl⟩ := h.r
    obtain ⟨A, c, e, -, -⟩ := own_form hs.row
    exact ⟨A, c, e⟩
  have H := Lib.hid h
  have HN := Lib.hid hn
  clear h hn
  go_enter Try.func24, Try.ntmps24
  go_wp2_with fail
  refine (at_no w F b N n H.out.s HN.out).mono ?_
  rintro e w2 ⟨rfl, hb2⟩
  have HB := Lib.hid hb2
  clear hb2
  go_wp2_with fail
  refine (frames_no w2 F b N n (H.out.s.below HB.out) HN.out).mono ?_
  rintro e w3 ⟨rfl, hb3⟩
  have HB3 := Lib.hid (HB.out.trans (hb3.mono HB.out.size))
  clear hb3 HB
  go_wp2_with fail
  refine (pops_no w3 F b N n (H.out.s.below HB3.out) HN.out).mono ?_
  rintro e w4 ⟨rfl, hb4⟩
  have HB4 := Lib.hid (HB3.out.trans (hb4.mono HB3.out.size))
  clear hb4 HB3
  go_wp2_with fail
  refine (in_no _ _ _ _ _ HN.out).mono ?_
  rintro e w' ⟨rfl, rfl⟩
  go_wp2
  go_ret
  exact ⟨rfl, HB4.out⟩

set_option maxHeartbeats 4000000 in
set_option maxRecDepth 20000 in
theorem rlook_yes (w : World) (F G : Nat → Prop) (b : Nat) (v : Value) (N : List GNode) (i : Nat) (x : GNode) (h : Both w F G b v N) (hi : N[i]? = some x) (hx : x.pops.length ≤ 1000000) (hxf : x.frames.length ≤ 1000000) :
    Calls Try.prog 24 #[.pointer (some ⟨b, 0, none⟩), v, .int .i64 i] w (Same w (.bool true)) := by
  have hlt := (List.getElem?_eq_some_iff.1 hi).1
  obtain ⟨O, D, hs, rfl⟩ := h.r
  obtain ⟨g, c, rfl, hc, hg, n0, n1, n2, n3, -⟩ := ref_cells hs hi
  have hc' : (N.length : Int) ≤ (c : Int) := by omega
  have hin : 0 ≤ (i : Int) ∧ (i : Int) < (N.length : Int) := by omega
  have H := Lib.hid (And.intro h (And.intro hs (And.intro hi hin)))
  have HC := Lib.hid (And.intro n0 (And.intro n1 (And.intro n2 n3)))
  clear h hi hs n0 n1 n2 n3 hg hc hin
  go_enter Try.func24, Try.ntmps24
  go_wp2_with fail
  refine (at_yes w F b N i x H.out.1.s H.out.2.2.1).mono ?_
  rintro e w2 ⟨rfl, hb2⟩
  have HB := Lib.hid hb2
  clear hb2
  go_wp2_with fail
  refine (frames_yes w2 F b N i x (H.out.1.s.below HB.out) H.out.2.2.1).mono ?_
  rintro e w3 ⟨vf, rfl, rf, hb3⟩
  obtain ⟨Af, cf, rfl, hcf, -⟩ := own_form rf
  have HB3 := Lib.hid (And.intro (HB.out.trans (hb3.mono HB.out.size)) (And.intro rf HB.out.size))
  clear hb3 HB rf
  go_wp2_with fail
  refine (pops_yes w3 F b N i x (H.out.1.s.below HB3.out.1) H.out.2.2.1).mono ?_
  rintro e w4 ⟨vp, rfl, rp, hb4⟩
  obtain ⟨Ap, cp, rfl, hcp, -⟩ := own_form rp
  have hb := HB3.out.1.trans (hb4.mono HB3.out.1.size)
  have up : ∀ j u, w.cell? ⟨g, j, none⟩ = some u → w4.cell? ⟨g, j, none⟩ = some u := fun j u hu => (hb.cell (p := ⟨g, j, none⟩) (World.block_lt_of_cell? w _ hu)).trans hu
  obtain ⟨n0, n1, n2, n3⟩ := HC.out
  have m0 := up _ _ n0
  have m1 := up _ _ n1
  have m2 := up _ _ n2
  have m3 := up _ _ n3
  have dis : ∀ q, Value.ownBlock (.slice Ap x.pops.length cp) = some q → Value.ownBlock (.slice Af x.frames.length cf) ≠ some q := by
    intro q hq hq'
    have h1 := (rp.lt q hq).1
    have h2 := (HB3.out.2.1.lt q hq').2
    omega
  have HB4 := Lib.hid (And.intro hb (And.intro (row_below HB3.out.2.1 hb4) (And.intro rp (And.intro dis (And.intro HB3.out.2.2 HB3.out.1.size)))))
  have hs4 := H.out.2.1.upd (Upd.of_below hb (fun _ => False)) (fun _ _ => id)
  have HS := Lib.hid (And.intro (hs4.rowF i x H.out.2.2.1) (hs4.rowP i x H.out.2.2.1))
  have hmm : (x.mark == x.mark) = true := by simp
  have hpp : (x.place == x.place) = true := by simp
  clear hb4 HB3 rp hb up n0 n1 n2 n3 dis hs4
  go_wp2_with fail
  refine (in_yes _ _ _ _ _ H.out.2.2.2).mono ?_
  rintro e w' ⟨rfl, rfl⟩
  go_wp2_with fail
  refine (sameFrames_same w4 _ 0 _ _ x.frames HB4.out.2.1 HS.out.1 hxf).mono ?_
  rintro e w5 ⟨rfl, hb5⟩
  have up : ∀ j u, w4.cell? ⟨g, j, none⟩ = some u → w5.cell? ⟨g, j, none⟩ = some u := fun j u hu => (hb5.cell (p := ⟨g, j, none⟩) (World.block_lt_of_cell? w4 _ hu)).trans hu
  have q3 := up _ _ m3
  have HB5 := Lib.hid hb5
  clear up hb5 m0 m1 m2 m3
  go_wp2_with fail
  refine (sameInts_same w5 _ 0 _ _ x.pops (row_below HB4.out.2.2.1 HB5.out) (row_below HS.out.2 HB5.out) hx).mono ?_
  rintro e w6 ⟨rfl, hb6⟩
  have b46 := HB5.out.trans (hb6.mono HB5.out.size)
  have HB6 := Lib.hid (And.intro b46 (And.intro (row_below HB4.out.2.1 b46) (row_below HB4.out.2.2.1 b46)))
  have hcf' : (x.frames.length : Int) ≤ (cf : Int) := by omega
  have hcp' : (x.pops.length : Int) ≤ (cp : Int) := by omega
  clear q3 HB5 hb6 b46 hmm hpp
  go_wp2
  go_loopw [15] (fun iv wr => ∃ (k : Nat) (xs : List Value), k ≤ x.frames.length ∧ iv = .int .i64 k ∧ xs.length = x.frames.length * 2 ∧ wr.ownsRow w2.heap.size 48 2 (.slice Af x.frames.length cf) x.frames.length xs ∧ Upd (fun q => Value.ownBlock (.slice Af x.frames.length cf) = some q) w6 wr) (fun iv _ => x.frames.length - (intOf iv).toNat)
  case atStart => exact ⟨0, frameCells x.frames, Nat.zero_le _, rfl, flat_len (fun p : Int × Int => [Value.int .i64 p.1, .int .i64 p.2]) 2 (fun _ => rfl) x.frames, HB6.out.2.1, Upd.refl _ _⟩
  case round =>
    obtain ⟨k, xs, hk, rfl, hxs, row, hu⟩ := hrel
    by_cases hlt2 : k < x.frames.length
    · obtain ⟨gl, cc, hv, hob, -, -, -, hcell⟩ := own_cells row (by omega)
      injection hv with hA _ hcc
      subst hA
      obtain ⟨u0, hu0⟩ : ∃ u, xs[k * 2]? = some u := ⟨xs[k * 2]'(by omega), List.getElem?_eq_getElem _⟩
      obtain ⟨u1, hu1⟩ : ∃ u, xs[k * 2 + 1]? = some u := ⟨xs[k * 2 + 1]'(by omega), List.getElem?_eq_getElem _⟩
      obtain ⟨r0, r1⟩ := hcell _ u0 hu0
      obtain ⟨r2, r3⟩ := hcell _ u1 hu1
      have row' := ((row.stored (k * 2) (.int .i64 66)).1.stored (k * 2 + 1) (.int .i64 0)).1
      have hu' := (hu.setCell (p := ⟨gl, k * 2, none⟩) (.inl hob) (.int .i64 66)).setCell (p := ⟨gl, k * 2 + 1, none⟩) (.inl hob) (.int .i64 0)
      have fin := Lib.hid (And.intro row' hu')
      have hxs' : ((xs.set (k * 2) (.int .i64 66)).set (k * 2 + 1) (.int .i64 0)).length = x.frames.length * 2 := by rw [List.length_set, List.length_set]; exact hxs
      have HX := Lib.hid hxs'
      clear hcell hu0 hu1 row hu hxs hxs' hob hcc row' hu'
      go_wp2
      go_roundw
      case rel => exact ⟨k + 1, _, by omega, by go_num, HX.out, fin.out.1, fin.out.2⟩
      case measure => simp [intOf]; omega
    · obtain ⟨wo, rfl⟩ : ∃ wo : World, wo = wr := ⟨_, rfl⟩
      have rowp := ownsRow_upd HB6.out.2.2 hu HB4.out.2.2.2.1
      have HL := Lib.hid (And.intro hu (And.intro row rowp))
      clear hu row rowp
      go_wp2
      go_loopw [16] (fun iv wr => ∃ (k : Nat) (xs : List Value), k ≤ x.pops.length ∧ iv = .int .i64 k ∧ xs.length = x.pops.length ∧ wr.ownsRow w3.heap.size 3 1 (.slice Ap x.pops.length cp) x.pops.length xs ∧ Upd (fun q => Value.ownBlock (.slice Ap x.pops.length cp) = some q) wo wr) (fun iv _ => x.pops.length - (intOf iv).toNat)
      case atStart => exact ⟨0, popCells x.pops, Nat.zero_le _, rfl, by simp [popCells], HL.out.2.2, Upd.refl _ _⟩
      case round =>
        obtain ⟨k2, ys, hk2, rfl, hys, row, hu⟩ := hrel
        by_cases hlt3 : k2 < x.pops.length
        · obtain ⟨gl, cc, hv, hob, -, -, -, hcell⟩ := own_cells row (by omega)
          injection hv with hA _ hcc
          subst hA
          obtain ⟨u, hu0⟩ : ∃ u, ys[k2]? = some u := ⟨ys[k2], List.getElem?_eq_getElem (by omega)⟩
          obtain ⟨r0, r1⟩ := hcell k2 u hu0
          have fin := Lib.hid (And.intro ((row.stored k2 (.int .i64 66)).1) (hu.setCell (p := ⟨gl, k2, none⟩) (.inl hob) (.int .i64 66)))
          have hys' : (ys.set k2 (.int .i64 66)).length = x.pops.length := by rw [List.length_set]; exact hys
          have HX := Lib.hid hys'
          clear hcell hu0 row hu hys hys' hob hcc
          go_wp2
          go_roundw
          case rel => exact ⟨k2 + 1, ys.set k2 (.int .i64 66), by omega, by go_num, HX.out, fin.out.1, fin.out.2⟩
          case measure => simp [intOf]; omega
        · have HM := Lib.hid hu
          clear hu row
          go_wp2
          go_ret
          obtain ⟨b4, rf4, rp4, -, z1, z2⟩ := HB4.out
          have b6 := b4.trans (HB6.out.1.mono b4.size)
          have b7 := b6.trans (HL.out.1.below (fun q _ hq => Nat.le_trans z1 (rf4.lt q hq).1) b6.size)
          have b8 := b7.trans (HM.out.below (fun q _ hq => Nat.le_trans z2 (rp4.lt q hq).1) b7.size)
          exact ⟨rfl, b8⟩
end Go.Proofs.Ytbppbgdmoihooaa
