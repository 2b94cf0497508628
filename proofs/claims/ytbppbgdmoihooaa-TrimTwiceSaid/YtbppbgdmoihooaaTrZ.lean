/- Forests: trim.cut. -/
import Derived.Test.YtbppbgdmoihooaaTrY
namespace Go.Proofs.Ytbppbgdmoihooaa
open Go.RowKit

/-- In the midst of the spots. -/
structure Cut1 (bo bm : Nat) (W3 wr : World) (S : List Fct) (I : List Bool) (k : Nat) (v : Value) : Prop where
  o : Blk wr (bo) 75 #[v, .slice none 0 0]
  m : MapIs wr Try.prog 3 (bm) (kvTo I k)
  r : wr.ownsRow W3.heap.size 101 3 v (cnt I k) (factCells (spotsTo S I k))
  u : Upd (fun q => q = bo ∨ q = bm) W3 wr
  z : bo < W3.heap.size ∧ bm < W3.heap.size ∧ bo ≠ bm
theorem Cut1.below {bo bm : Nat} {W3 wr w' : World} {S : List Fct} {I : List Bool} {k : Nat} {v : Value} (h : Cut1 bo bm W3 wr S I k v) (hb : Below wr.heap.size wr w') : Cut1 bo bm W3 w' S I k v :=
  ⟨h.o.upd (Upd.of_below hb (fun _ => False)) id, h.m.upd (Upd.of_below hb (fun _ => False)) id, ownsRow_upd h.r (Upd.of_below hb (fun _ => False)) (fun _ _ => id), h.u.trans (Upd.of_below hb (fun _ => False)) (fun _ h => h.elim), h.z⟩
theorem Cut1.miss {bo bm : Nat} {W3 wr : World} {S : List Fct} {I : List Bool} {k : Nat} {v : Value} (h : Cut1 bo bm W3 wr S I k v) (hb : atB I (k : Int) = false) : Cut1 bo bm W3 wr S I (k + 1) v := by
  obtain ⟨ho, hm, hr, hu, hz⟩ := h
  rw [← kvTo_miss hb] at hm
  rw [← spotsTo_miss (S := S) hb] at hr
  have : cnt I (k + 1) = cnt I k := by rw [cnt, if_neg (by simp [hb])]
  rw [← this] at hr
  exact ⟨ho, hm, hr, hu, hz⟩
theorem factCells_app (l l' : List Fct) : factCells (l ++ l') = factCells l ++ factCells l' := by simp [factCells]
set_option maxRecDepth 20000 in
theorem Cut1.step {bo bm : Nat} {W3 W1 : World} {S : List Fct} {I : List Bool} {k : Nat} {v : Value} (h : Cut1 bo bm W3 W1 S I k v) {f : Fct} (hf : S[k]? = some f) (hb : atB I (k : Int) = true) (hS : S.length * 24 ≤ 140737488355328) :
    ∃ w2 v' w3, (Instr.mapUpdate 138 (.map (some (bm))) (.int .i64 (k : Int)) (.int .i64 (cnt I k : Int))).run Try.prog W1 = .ok () w2 ∧
      (Builtin.append_ #[72, 72] 72 #[v, .slice (some ⟨w2.heap.size, 0, none⟩) 1 1]).run Try.prog (w2.alloc (.cells f.cells.toArray 101)) = .ok v' w3 ∧
      Cut1 bo bm W3 (w3.setCell ⟨bo, 0, none⟩ v') S I (k + 1) v' ∧ Blk w2 (bo) 75 #[v, .slice none 0 0] ∧ Blk w3 (bo) 75 #[v, .slice none 0 0] ∧ Upd (fun q => q = bm) W1 w2 := by
  have hk := (List.getElem?_eq_some_iff.1 hf).1
  have hcn := cnt_le I k
  have hz := h.z
  have hkey : ∃ l, keyOf Try.prog 3 (.int .i64 (k : Int)) = some l := ⟨_, Maps.keyOf_int_mk Try.underlying3 (WalkArith.wf_i64 (by omega))⟩
  obtain ⟨w2, hput, hm2, hg2, hs2⟩ := h.m.put_miss int_law Try.underlying138 (.int .i64 (cnt I k : Int)) hkey (kvTo_new I k)
  have u2 := (Upd.of_grown hg2).mono (F' := fun q => q = bm) (fun i _ e => by injection e with e; exact e.symm)
  have o2 := h.o.upd u2 (by omega)
  have own2 := ownsRow_upd h.r u2 (fun q hq e => by have := (h.r.lt q hq).1; omega)
  obtain ⟨v', w3, happ, own3, u3, pl⟩ := push_own w2 W3.heap.size 72 101 3 24 _ Try.underlying72 info_fact rfl (by decide) v (cnt I k) _ own2 f.cells 1 rfl (by have := one_fact [f]; simpa [factCells] using this) (by omega) (by unfold maxLen; omega) (by have := h.u.size; rw [hs2]; exact this)
  have o3 := o2.upd u3 (fun e => by have := (own2.lt _ e).1; omega)
  have hm3 := hm2.upd u3 (fun e => by have := (own2.lt _ e).1; omega)
  have us : Upd (fun q => q = bo) w3 (w3.setCell ⟨bo, 0, none⟩ v') := (Upd.refl (fun q => q = bo) w3).setCell (p := ⟨bo, 0, none⟩) (.inl rfl) _
  have oF := o3.set 0 v'
  simp only [List.setIfInBounds_toArray, List.set_cons_zero] at oF
  refine ⟨w2, v', w3, hput, happ, ⟨oF, ?_, ?_, ?_, hz⟩, o2, o3, u2⟩
  · rw [kvTo_hit hb]
    exact hm3.upd us (by omega)
  · rw [spotsTo_hit hf hb, factCells_app, show cnt I (k + 1) = cnt I k + 1 by rw [cnt, if_pos hb]]
    exact ownsRow_upd (by simpa [factCells] using own3) us (fun q hq e => by
      have := (own3.lt q hq).1
      omega)
  · refine ((h.u.trans u2 (fun i e => .inl (.inr e))).trans u3 (fun i e => .inr (own2.lt i e).1)).trans us (fun i e => .inl (.inl e))

/-- In the midst of the packs. -/
structure Cut2 (bo bm : Nat) (Wm wr : World) (P : List Pk) (I : List Bool) (k : Nat) (v1 v2 : Value) : Prop where
  o : Blk wr (bo) 75 #[v1, v2]
  r : wr.ownsRow Wm.heap.size 125 5 v2 (packsTo P I k).length (packCells (packsTo P I k))
  u : Upd (fun q => q = bo) Wm wr
  z : bo < Wm.heap.size ∧ bm < Wm.heap.size ∧ bo ≠ bm
theorem Cut2.below {bo bm : Nat} {Wm wr w' : World} {P : List Pk} {I : List Bool} {k : Nat} {v1 v2 : Value} (h : Cut2 bo bm Wm wr P I k v1 v2) (hb : Below wr.heap.size wr w') : Cut2 bo bm Wm w' P I k v1 v2 :=
  ⟨h.o.upd (Upd.of_below hb (fun _ => False)) id, ownsRow_upd h.r (Upd.of_below hb (fun _ => False)) (fun _ _ => id), h.u.trans (Upd.of_below hb (fun _ => False)) (fun _ h => h.elim), h.z⟩
theorem Cut2.miss {bo bm : Nat} {Wm wr : World} {P : List Pk} {I : List Bool} {k : Nat} {v1 v2 : Value} (h : Cut2 bo bm Wm wr P I k v1 v2) {p : Pk} (hp : P[k]? = some p) (hb : keep I p = false) : Cut2 bo bm Wm wr P I (k + 1) v1 v2 := by
  obtain ⟨ho, hr, hu, hz⟩ := h
  rw [← packsTo_miss hp hb] at hr
  exact ⟨ho, hr, hu, hz⟩
theorem Cut2.step {bo bm : Nat} {Wm W1 : World} {P : List Pk} {I : List Bool} {k : Nat} {v1 v2 : Value} (h : Cut2 bo bm Wm W1 P I k v1 v2) {p : Pk} (hp : P[k]? = some p) (hb : keep I p = true) (hP : P.length * 40 ≤ 140737488355328) :
    ∃ v' w3, (Builtin.append_ #[73, 73] 73 #[v2, .slice (some ⟨W1.heap.size, 0, none⟩) 1 1]).run Try.prog (W1.alloc (.cells (moved I p).cells.toArray 125)) = .ok v' w3 ∧
      Cut2 bo bm Wm (w3.setCell ⟨bo, 1, none⟩ v') P I (k + 1) v1 v' ∧ Blk w3 (bo) 75 #[v1, v2] := by
  have hk := (List.getElem?_eq_some_iff.1 hp).1
  have hcn := packsTo_len P I k
  have hz := h.z
  obtain ⟨v', w3, happ, own3, u3, pl⟩ := push_own W1 Wm.heap.size 73 125 5 40 _ Try.underlying73 info_pack rfl (by decide) v2 _ _ h.r (moved I p).cells 1 rfl (by have := one_pack [moved I p]; simpa [packCells] using this) (by omega) (by unfold maxLen; omega) h.u.size
  have o3 := h.o.upd u3 (fun e => by have := (h.r.lt _ e).1; omega)
  have us : Upd (fun q => q = bo) w3 (w3.setCell ⟨bo, 1, none⟩ v') := (Upd.refl (fun q => q = bo) w3).setCell (p := ⟨bo, 1, none⟩) (.inl rfl) _
  have oF := o3.set 1 v'
  simp only [List.setIfInBounds_toArray, List.set_cons_zero, List.set_cons_succ] at oF
  refine ⟨v', w3, happ, ⟨oF, ?_, ?_, hz⟩, o3⟩
  · rw [packsTo_hit hp hb, packCells_app, List.length_append, List.length_singleton]
    exact ownsRow_upd (by simpa [packCells] using own3) us (fun q hq e => by have := (own3.lt q hq).1; omega)
  · exact (h.u.trans u3 (fun i e => .inr (h.r.lt i e).1)).trans us (fun i e => .inl e)

theorem leaf_pack {S : List Fct} {p : Pk} (hg : p.goes S = true) : (p.left = -1 ∧ p.right = -1) ∨ (0 ≤ p.left ∧ 0 ≤ p.right) := by
  unfold Pk.goes inB at hg
  split at hg
  · split at hg
    · rename_i h; exact .inl h
    · split at hg
      · rename_i h
        simp at h
        exact .inr ⟨h.1.1, h.2.1⟩
      · cases hg
  · cases hg

set_option maxHeartbeats 4000000 in
set_option maxRecDepth 20000 in
theorem cut_any (w : World) (A : Option Addr) (c : Nat) (B : Option Addr) (d : Nat) (S : List Fct) (P : List Pk) (I : List Bool) (gi : Nat) (h : ForR w A c B d S P) (hP : ∀ p ∈ P, p.goes S = true) (hI : I.length = S.length) (hg : Blk w gi 4 (bools I)) :
    Calls Try.prog 61 #[forV A S.length c B P.length d, .slice (some ⟨gi, 0, none⟩) S.length S.length] w (NewFor w (cutS S I) (cutP P I)) := by
  have hcI : (S.length : Int) ≤ (c : Int) := by have := h.hc; omega
  have hdI : (P.length : Int) ≤ (d : Int) := by have := h.hd; omega
  have hS8 : S.length * 24 ≤ 140737488355328 := h.fit.s
  have hP8 : P.length * 40 ≤ 140737488355328 := h.fit.p
  have hgl := hg.lt
  have k0 := (((Blk.new w 75 #[.slice A S.length c, .slice B P.length d]).alloc (.cells #[.slice none 0 0, .slice none 0 0] 75)).alloc (.cells #[.slice none 0 0, .slice none 0 0] 75)).alloc (.map #[] 0)
  have k1 := ((Blk.new (w.alloc (.cells #[.slice A S.length c, .slice B P.length d] 75)) 75 #[.slice none 0 0, .slice none 0 0]).alloc (.cells #[.slice none 0 0, .slice none 0 0] 75)).alloc (.map #[] 0)
  have k2 := (Blk.new ((w.alloc (.cells #[.slice A S.length c, .slice B P.length d] 75)).alloc (.cells #[.slice none 0 0, .slice none 0 0] 75)) 75 #[.slice none 0 0, .slice none 0 0]).alloc (.map #[] 0)
  have m0 := MapIs.made (((w.alloc (.cells #[.slice A S.length c, .slice B P.length d] 75)).alloc (.cells #[.slice none 0 0, .slice none 0 0] 75)).alloc (.cells #[.slice none 0 0, .slice none 0 0] 75)) Try.prog 3
  simp only [World.size_alloc] at k1 k2 m0
  obtain ⟨w4, hput, m4, hg4, hs4⟩ := m0.put_miss int_law Try.underlying138 (key := .int .i64 (-1)) (.int .i64 (-1)) ⟨_, Maps.keyOf_int_mk Try.underlying3 (wf_lit (by omega))⟩ (by simp)
  have u4 := (Upd.of_grown hg4).mono (F' := fun q => q = w.heap.size + 1 + 1 + 1) (fun i _ e => by injection e with e; exact e.symm)
  have b4 : Below w.heap.size w w4 := by
    have b : Below w.heap.size w ((((w.alloc (.cells #[.slice A S.length c, .slice B P.length d] 75)).alloc (.cells #[.slice none 0 0, .slice none 0 0] 75)).alloc (.cells #[.slice none 0 0, .slice none 0 0] 75)).alloc (.map #[] 0)) := by (repeat (first | exact Below.refl _ _ | apply Below.drew | refine Below.alloc ?_ (by first | exact Nat.le_refl _ | (simp; done) | (simp; omega)) _ | refine Below.setCell ?_ (by first | exact Nat.le_refl _ | (simp; done) | (simp; omega)) _))
    exact b.trans (u4.below (fun q _ e => by omega) b.size)
  simp only [World.size_alloc] at hs4
  have k0 := k0.upd u4 (by omega)
  have k1 := k1.upd u4 (by omega)
  have k2 := k2.upd u4 (by omega)
  have hw4 : w4.heap.size = w.heap.size + 1 + 1 + 1 + 1 := hs4
  have C0 : Cut1 (w.heap.size + 1 + 1) (w.heap.size + 1 + 1 + 1) w4 w4 S I 0 (.slice none 0 0) := ⟨k2, by simpa [kvTo] using m4, World.ownsRow_nil _ _ _ _, Upd.refl _ _, by omega, by omega, by omega⟩
  have hmm := @run_makeMap Try.prog
  have H := Lib.hid (And.intro h (And.intro hP (And.intro hI (And.intro hg (And.intro b4 (And.intro k0 (And.intro k1 (And.intro C0 hw4))))))))
  clear h hP hI hg b4 k0 k1 k2 m0 m4 u4 hg4 hs4 C0 hw4
  go_enter Try.func61, Try.ntmps61
  unfold forV
  go_upto_region 3 with (fail)
  clear hmm hput
  have q0 : w4.cell? ⟨w.heap.size, 0, none⟩ = some (.slice A S.length c) := H.out.2.2.2.2.2.1.cell 0
  go_wp2_with fail
  clear q0
  go_loopw [22] (fun iv wr => ∃ (k : Nat) (v : Value), k ≤ S.length ∧ iv = .int .i64 k ∧ Cut1 (w.heap.size + 1 + 1) (w.heap.size + 1 + 1 + 1) w4 wr S I k v) (fun iv _ => S.length - (intOf iv).toNat)
  case atStart => exact ⟨0, _, Nat.zero_le _, rfl, H.out.2.2.2.2.2.2.2.1⟩
  case round =>
    obtain ⟨k, v, hk, rfl, hC⟩ := hrel
    have bb : Below w.heap.size w wr := H.out.2.2.2.2.1.trans (hC.u.below (fun q _ e => by omega) H.out.2.2.2.2.1.size)
    have F := H.out.1.below bb
    by_cases hlt : k < S.length
    · have hltI : (k : Int) < (S.length : Int) := by omega
      obtain ⟨A9, c9, rfl, -, -⟩ := own_form hC.r
      obtain ⟨⟨f0, f1, f2⟩, hf⟩ : ∃ f, S[k]? = some f := ⟨S[k], List.getElem?_eq_getElem hlt⟩
      obtain ⟨fb, fo, rfl, a0, a1, a2⟩ := F.rs.fact hf
      have g0 := (H.out.2.2.2.1.upd (Upd.of_below bb (fun _ => False)) id).cell k
      obtain ⟨b, hb⟩ : ∃ b, atB I (k : Int) = b := ⟨_, rfl⟩
      rw [bools_get (atB_get (by rw [H.out.2.2.1]; exact hlt)), hb] at g0
      have lg : gi < wr.heap.size := World.block_lt_of_cell? wr _ g0
      have kx := Blk.new wr 101 #[.int .i64 f0, .int .i64 f1, .int .i64 f2]
      have bx : Below wr.heap.size wr (wr.alloc (.cells #[.int .i64 f0, .int .i64 f1, .int .i64 f2] 101)) := (Below.refl _ _).alloc (Nat.le_refl _) _
      have g0 := (bx.cell (p := ⟨gi, k, none⟩) lg).trans g0
      have HK := Lib.hid (And.intro hC (And.intro hf (And.intro hb (And.intro kx bx))))
      have HG := Lib.hid g0
      clear hC hf hb kx bx F bb g0
      go_upto_region 6 with (fail)
      clear a0 a1 a2
      generalize wr.alloc (.cells #[.int .i64 f0, .int .i64 f1, .int .i64 f2] 101) = W1 at HK HG ⊢
      have g0 := HG.out
      cases b with
      | true =>
        obtain ⟨w2, v', w3, hput, happ, hC2, o2, o3, u2⟩ := (HK.out.1.below HK.out.2.2.2.2).step HK.out.2.1 HK.out.2.2.1 hS8
        obtain ⟨A8, c8, rfl, -, -⟩ := own_form hC2.r
        simp only [Fct.cells] at happ
        have d0 : W1.cell? ⟨w.heap.size + 1 + 1, 0, none⟩ = some (.slice A9 (cnt I k) c9) := (HK.out.1.o.upd (Upd.of_below HK.out.2.2.2.2 (fun _ => False)) id).cell 0
        have d1 : w2.cell? ⟨w.heap.size + 1 + 1, 0, none⟩ = some (.slice A9 (cnt I k) c9) := o2.cell 0
        have d2 : w3.cell? ⟨w.heap.size + 1 + 1, 0, none⟩ = some (.slice A9 (cnt I k) c9) := o3.cell 0
        have d3 : w3.frozen? ⟨w.heap.size + 1 + 1, 0, none⟩ = false := o3.frozen 0
        have x2 := HK.out.2.2.2.1.upd u2 (by have := HK.out.1.u.size; have := HK.out.1.z.2.1; omega)
        have x20 : w2.cell? ⟨wr.heap.size, 0, none⟩ = some (.int .i64 f0) := x2.cell 0
        have x21 : w2.cell? ⟨wr.heap.size, 1, none⟩ = some (.int .i64 f1) := x2.cell 1
        have x22 : w2.cell? ⟨wr.heap.size, 2, none⟩ = some (.int .i64 f2) := x2.cell 2
        clear o2 o3 u2 x2
        have HN := Lib.hid hC2
        clear hC2
        go_wp2_with (at_builtin; refine wpList_append_run rfl _ _ _ rfl rfl rfl happ ?_)
        go_roundw
        case rel => exact ⟨k + 1, _, by omega, by go_num, HN.out⟩
        case measure => simp [intOf]; omega
      | false =>
        have hC2 := (HK.out.1.below HK.out.2.2.2.2).miss HK.out.2.2.1
        have HN := Lib.hid hC2
        clear hC2
        go_wp2
        go_roundw
        case rel => exact ⟨k + 1, _, by omega, by go_num, HN.out⟩
        case measure => simp [intOf]; omega
    · obtain rfl : k = S.length := by omega
      have F' := H.out.1
      have kb := H.out.2.2.2.2.2.1.upd hC.u (by omega)
      have kr := H.out.2.2.2.2.2.2.1.upd hC.u (by omega)
      obtain ⟨A1, c1, rfl, -, -⟩ := own_form hC.r
      have D0 : Cut2 (w.heap.size + 1 + 1) (w.heap.size + 1 + 1 + 1) wr wr P I 0 (.slice A1 (cnt I S.length) c1) (.slice none 0 0) := ⟨hC.o, World.ownsRow_nil _ _ _ _, Upd.refl _ _, by have := hC.u.size; have := H.out.2.2.2.2.2.2.2.2; omega, by have := hC.u.size; have := H.out.2.2.2.2.2.2.2.2; omega, by omega⟩
      have q1 : wr.cell? ⟨w.heap.size, 1, none⟩ = some (.slice B P.length d) := kb.cell 1
      have HC := Lib.hid (And.intro hC (And.intro bb (And.intro kb (And.intro kr D0))))
      clear hC F F' kb kr D0 bb
      obtain ⟨wo, rfl⟩ : ∃ wo : World, wo = wr := ⟨_, rfl⟩
      clear hlt
      go_wp2_with fail
      clear q1
      go_loopw [46] (fun iv wr => ∃ (j : Nat) (v : Value), j ≤ P.length ∧ iv = .int .i64 j ∧ Cut2 (w.heap.size + 1 + 1) (w.heap.size + 1 + 1 + 1) wo wr P I j (.slice A1 (cnt I S.length) c1) v) (fun iv _ => P.length - (intOf iv).toNat)
      case atStart => exact ⟨0, _, Nat.zero_le _, rfl, HC.out.2.2.2.2⟩
      case round =>
        obtain ⟨j, v, hj, rfl, hD⟩ := hrel
        have bb : Below w.heap.size w wr := HC.out.2.1.trans (hD.u.below (fun q _ e => by omega) HC.out.2.1.size)
        obtain ⟨A2, c2, rfl, -, -⟩ := own_form hD.r
        by_cases hlt : j < P.length
        · have hltI : (j : Int) < (P.length : Int) := by omega
          obtain ⟨⟨p0, p1, p2, p3, p4⟩, hp⟩ : ∃ p, P[j]? = some p := ⟨P[j], List.getElem?_eq_getElem hlt⟩
          have hgo := H.out.2.1 _ (List.mem_of_getElem? hp)
          have hlf := leaf_pack hgo
          obtain ⟨⟨s, es, hs⟩, -⟩ := PkIn.of_goes hgo
          have hwf := H.out.1.fit.wf _ (List.mem_of_getElem? hp)
          dsimp only at es hlf hwf
          obtain ⟨fb, fo, rfl, a0, a1, a2, a3, a4⟩ := (H.out.1.below bb).rp.pack hp
          have mI := (HC.out.1.m.upd hD.u (by omega)).upd (Upd.of_below ((Below.refl wr.heap.size wr).alloc (Nat.le_refl _) (.cells #[.int .i64 p0, .int .i64 p1, .int .i64 p2, .int .i64 p3, .int .i64 p4] 125)) (fun _ => False)) id
          rw [← H.out.2.2.1] at mI
          have l0 := look_place mI hwf.1 (.inr (by omega))
          have l3 := look_place mI hwf.2.2.2.1 (by omega)
          have l4 := look_place mI hwf.2.2.2.2 (by omega)
          have kx := Blk.new wr 125 #[.int .i64 p0, .int .i64 p1, .int .i64 p2, .int .i64 p3, .int .i64 p4]
          have bx : Below wr.heap.size wr (wr.alloc (.cells #[.int .i64 p0, .int .i64 p1, .int .i64 p2, .int .i64 p3, .int .i64 p4] 125)) := (Below.refl _ _).alloc (Nat.le_refl _) _
          have HD1 := Lib.hid (And.intro (hD.below bx) (And.intro hp (And.intro kx (And.intro hlf es))))
          have HL := Lib.hid (And.intro l0 (And.intro l3 l4))
          clear hD hp kx bx hlf es hwf hgo mI l0 l3 l4 bb
          go_upto_region 13 with (fail)
          clear a0 a1 a2 a3 a4
          generalize wr.alloc (.cells #[.int .i64 p0, .int .i64 p1, .int .i64 p2, .int .i64 p3, .int .i64 p4] 125) = W1 at HD1 HL ⊢
          have x0 : W1.cell? ⟨wr.heap.size, 0, none⟩ = some (.int .i64 p0) := HD1.out.2.2.1.cell 0
          have x1 : W1.cell? ⟨wr.heap.size, 1, none⟩ = some (.int .i64 p1) := HD1.out.2.2.1.cell 1
          have x2 : W1.cell? ⟨wr.heap.size, 2, none⟩ = some (.int .i64 p2) := HD1.out.2.2.1.cell 2
          have x3 : W1.cell? ⟨wr.heap.size, 3, none⟩ = some (.int .i64 p3) := HD1.out.2.2.1.cell 3
          have x4 : W1.cell? ⟨wr.heap.size, 4, none⟩ = some (.int .i64 p4) := HD1.out.2.2.1.cell 4
          obtain ⟨l0, l3, l4⟩ := HL.out
          clear HL
          obtain ⟨s0, h0⟩ : ∃ b, stay I p0 = b := ⟨_, rfl⟩
          obtain ⟨s3, h3⟩ : ∃ b, stay I p3 = b := ⟨_, rfl⟩
          obtain ⟨s4, h4⟩ : ∃ b, stay I p4 = b := ⟨_, rfl⟩
          rw [h0] at l0
          rw [h3] at l3
          rw [h4] at l4
          have hk0 : keep I ⟨p0, p1, p2, p3, p4⟩ = (s0 && (s3 && s4)) := by
            have e : stay I p0 = atB I p0 := by
              have := HD1.out.2.2.2.2
              unfold stay
              rw [show decide (p0 < 0) = false by simp; omega]
              rfl
            unfold keep
            dsimp only
            rw [← e, h0, h3, h4]
          have HB := Lib.hid (And.intro hk0 (And.intro h0 (And.intro h3 h4)))
          clear hk0 h0 h3 h4
          cases s0 with
          | false =>
            go_wp2
            go_roundw
            case rel => exact ⟨j + 1, _, by omega, by go_num, HD1.out.1.miss HD1.out.2.1 (by rw [HB.out.1]; rfl)⟩
            case measure => simp [intOf]; omega
          | true =>
            cases s3 with
            | false =>
              go_wp2
              go_roundw
              case rel => exact ⟨j + 1, _, by omega, by go_num, HD1.out.1.miss HD1.out.2.1 (by rw [HB.out.1]; rfl)⟩
              case measure => simp [intOf]; omega
            | true =>
              cases s4 with
              | false =>
                go_wp2
                go_roundw
                case rel => exact ⟨j + 1, _, by omega, by go_num, HD1.out.1.miss HD1.out.2.1 (by rw [HB.out.1]; rfl)⟩
                case measure => simp [intOf]; omega
              | true =>
                obtain ⟨v', w3, happ, hD2, o3⟩ := HD1.out.1.step HD1.out.2.1 (by rw [HB.out.1]; rfl) hP8
                obtain ⟨A8, c8, rfl, -, -⟩ := own_form hD2.r
                have hmv : moved I ⟨p0, p1, p2, p3, p4⟩ = ⟨lookN I p0, p1, p2, lookN I p3, lookN I p4⟩ := by
                  obtain ⟨-, h0, h3, h4⟩ := HB.out
                  have := HD1.out.2.2.2.2
                  unfold moved lookN
                  rw [h0, h3, h4]
                  simp only [if_true]
                  unfold num
                  rw [if_neg (show ¬ p0 < 0 by omega)]
                rw [hmv] at happ
                simp only [Pk.cells] at happ
                have d0 : W1.cell? ⟨w.heap.size + 1 + 1, 1, none⟩ = some (.slice A2 (packsTo P I j).length c2) := HD1.out.1.o.cell 1
                have d1 : w3.cell? ⟨w.heap.size + 1 + 1, 1, none⟩ = some (.slice A2 (packsTo P I j).length c2) := o3.cell 1
                have d2 : w3.frozen? ⟨w.heap.size + 1 + 1, 1, none⟩ = false := o3.frozen 1
                have HN := Lib.hid hD2
                clear hD2 o3 hmv
                go_wp2_with (at_builtin; refine wpList_append_run rfl _ _ _ rfl rfl rfl happ ?_)
                go_roundw
                case rel => exact ⟨j + 1, _, by omega, by go_num, HN.out⟩
                case measure => simp [intOf]; omega
        · obtain rfl : j = P.length := by omega
          clear hlt
          have c4 : wr.cell? ⟨w.heap.size + 1 + 1, 0, none⟩ = some (.slice A1 (cnt I S.length) c1) := hD.o.cell 0
          have c5 : wr.cell? ⟨w.heap.size + 1 + 1, 1, none⟩ = some (.slice A2 (packsTo P I P.length).length c2) := hD.o.cell 1
          have k2 := HC.out.2.2.2.1.upd hD.u (by omega)
          have c6 : wr.cell? ⟨w.heap.size + 1, 0, none⟩ = some (.slice none 0 0) := k2.cell 0
          have c7 : wr.cell? ⟨w.heap.size + 1, 1, none⟩ = some (.slice none 0 0) := k2.cell 1
          have f6 := k2.frozen 0
          have f7 := k2.frozen 1
          have kF := (k2.set 0 (.slice A1 (cnt I S.length) c1)).set 1 (.slice A2 (packsTo P I P.length).length c2)
          have e0 := kF.cell 0
          have e1 := kF.cell 1
          simp only [List.setIfInBounds_toArray, List.set_cons_zero, List.set_cons_succ, List.getElem?_toArray, List.getElem?_cons_succ, List.getElem?_cons_zero] at e0 e1
          have V : Upd (fun q => q = w.heap.size + 1) wr ((wr.setCell ⟨w.heap.size + 1, 0, none⟩ (.slice A1 (cnt I S.length) c1)).setCell ⟨w.heap.size + 1, 1, none⟩ (.slice A2 (packsTo P I P.length).length c2)) := ((Upd.refl (fun q => q = w.heap.size + 1) wr).setCell (p := ⟨w.heap.size + 1, 0, none⟩) (.inl rfl) _).setCell (p := ⟨w.heap.size + 1, 1, none⟩) (.inl rfl) _
          have fin : NewFor w (cutS S I) (cutP P I) (.returned (forV A1 (cnt I S.length) c1 A2 (packsTo P I P.length).length c2)) ((wr.setCell ⟨w.heap.size + 1, 0, none⟩ (.slice A1 (cnt I S.length) c1)).setCell ⟨w.heap.size + 1, 1, none⟩ (.slice A2 (packsTo P I P.length).length c2)) := by
            obtain ⟨hC, hbb, -⟩ := HC.out
            have hw4 := H.out.2.2.2.2.2.2.2.2
            have z1 := hC.u.size
            have z2 := hD.u.size
            have hl : (cutS S I).length = cnt I S.length := spotsTo_len S I _ (Nat.le_refl _)
            refine ⟨A1, c1, A2, c2, by rw [hl]; rfl, ?_, ?_, bb.trans (V.below (fun q _ e => by omega) (by omega))⟩
            · rw [hl]
              exact ownsRow_base (ownsRow_upd (ownsRow_upd hC.r hD.u (fun q hq e => by have := (hC.r.lt q hq).1; omega)) V (fun q hq e => by have := (hC.r.lt q hq).1; omega)) (fun q hq => by have := (hC.r.lt q hq).1; omega)
            · exact ownsRow_base (ownsRow_upd hD.r V (fun q hq e => by have := (hD.r.lt q hq).1; omega)) (fun q hq => by have := (hD.r.lt q hq).1; omega)
          have FIN := Lib.hid fin
          have HE := Lib.hid (And.intro e0 e1)
          clear fin V kF k2 hD e0 e1 bb
          go_wp2
          obtain ⟨e0, e1⟩ := HE.out
          refine bodyPost_ret (v := forV A1 (cnt I S.length) c1 A2 (packsTo P I P.length).length c2) (by simp [results, Try.f61, go_sem, forV, e0, e1]) rfl FIN.out
end Go.Proofs.Ytbppbgdmoihooaa
