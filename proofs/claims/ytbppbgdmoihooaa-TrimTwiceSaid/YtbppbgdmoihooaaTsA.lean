/- Forests: bywayref29.Cut. -/
import Derived.Test.YtbppbgdmoihooaaTrZ
namespace Go.Proofs.Ytbppbgdmoihooaa
open Go.RowKit

/-- In the midst of the spots. -/
structure Cut3 (bo bm : Nat) (W3 wr : World) (S : List Fct) (I : List Bool) (k : Nat) (v : Value) (Q : List Int) : Prop where
  o : Blk wr bo 75 #[v, .slice none 0 0]
  m : Blk wr bm 3 (ints Q)
  l : Q.length = S.length
  q : ∀ j : Nat, j < k → atB I (j : Int) = true → at0 Q (j : Int) = (cnt I j : Int)
  r : wr.ownsRow W3.heap.size 101 3 v (cnt I k) (factCells (spotsTo S I k))
  u : Upd (fun q => q = bo ∨ q = bm) W3 wr
  z : bo < W3.heap.size ∧ bm < W3.heap.size ∧ bo ≠ bm
theorem Cut3.below {bo bm : Nat} {W3 wr w' : World} {S : List Fct} {I : List Bool} {k : Nat} {v : Value} {Q : List Int} (h : Cut3 bo bm W3 wr S I k v Q) (hb : Below wr.heap.size wr w') : Cut3 bo bm W3 w' S I k v Q :=
  ⟨h.o.upd (Upd.of_below hb (fun _ => False)) id, h.m.upd (Upd.of_below hb (fun _ => False)) id, h.l, h.q, ownsRow_upd h.r (Upd.of_below hb (fun _ => False)) (fun _ _ => id), h.u.trans (Upd.of_below hb (fun _ => False)) (fun _ h => h.elim), h.z⟩
theorem Cut3.miss {bo bm : Nat} {W3 wr : World} {S : List Fct} {I : List Bool} {k : Nat} {v : Value} {Q : List Int} (h : Cut3 bo bm W3 wr S I k v Q) (hb : atB I (k : Int) = false) : Cut3 bo bm W3 wr S I (k + 1) v Q := by
  obtain ⟨ho, hm, hl, hq, hr, hu, hz⟩ := h
  rw [← spotsTo_miss (S := S) hb] at hr
  have : cnt I (k + 1) = cnt I k := by rw [cnt, if_neg (by simp [hb])]
  rw [← this] at hr
  refine ⟨ho, hm, hl, fun j hj hj2 => hq j ?_ hj2, hr, hu, hz⟩
  rcases Nat.lt_succ_iff_lt_or_eq.1 hj with h | rfl
  · exact h
  · rw [hb] at hj2; cases hj2
theorem Cut3.put {bo bm : Nat} {W3 wr : World} {S : List Fct} {I : List Bool} {k : Nat} {v : Value} {Q : List Int} (h : Cut3 bo bm W3 wr S I k v Q) (hk : k < S.length) : Cut3 bo bm W3 (wr.setCell ⟨bm, k, none⟩ (.int .i64 (cnt I k : Int))) S I k v (Q.set k (cnt I k : Int)) := by
  have us : Upd (fun q => q = bm) wr (wr.setCell ⟨bm, k, none⟩ (.int .i64 (cnt I k : Int))) := (Upd.refl (fun q => q = bm) wr).setCell (p := ⟨bm, k, none⟩) (.inl rfl) _
  have hz := h.z
  have ms := h.m.set k (.int .i64 (cnt I k : Int))
  rw [ints_set] at ms
  refine ⟨h.o.upd us (by omega), ms, by rw [List.length_set]; exact h.l, fun j hj hj2 => ?_, ownsRow_upd h.r us (fun q hq e => by have := (h.r.lt q hq).1; omega), h.u.trans us (fun i e => .inl (.inr e)), hz⟩
  rw [at0_set (by rw [h.l]; exact hk), if_neg (by omega)]
  exact h.q j hj hj2
theorem Cut3.step {bo bm : Nat} {W3 W1 : World} {S : List Fct} {I : List Bool} {k : Nat} {v : Value} {Q : List Int} (h : Cut3 bo bm W3 W1 S I k v Q) (hQ : at0 Q (k : Int) = (cnt I k : Int)) {f : Fct} (hf : S[k]? = some f) (hb : atB I (k : Int) = true) (hS : S.length * 24 ≤ 140737488355328) :
    ∃ v' w3, (Builtin.append_ #[72, 72] 72 #[v, .slice (some ⟨W1.heap.size, 0, none⟩) 1 1]).run Try.prog (W1.alloc (.cells f.cells.toArray 101)) = .ok v' w3 ∧
      Cut3 bo bm W3 (w3.setCell ⟨bo, 0, none⟩ v') S I (k + 1) v' Q ∧ Blk w3 bo 75 #[v, .slice none 0 0] ∧ Upd (fun q => v.ownBlock = some q) W1 w3 ∧ ∀ q, v.ownBlock = some q → W3.heap.size ≤ q := by
  have hk := (List.getElem?_eq_some_iff.1 hf).1
  have hcn := cnt_le I k
  have hz := h.z
  obtain ⟨v', w3, happ, own3, u3, pl⟩ := push_own W1 W3.heap.size 72 101 3 24 _ Try.underlying72 info_fact rfl (by decide) v (cnt I k) _ h.r f.cells 1 rfl (by have := one_fact [f]; simpa [factCells] using this) (by omega) (by unfold maxLen; omega) h.u.size
  have o3 := h.o.upd u3 (fun e => by have := (h.r.lt _ e).1; omega)
  have m3 := h.m.upd u3 (fun e => by have := (h.r.lt _ e).1; omega)
  have us : Upd (fun q => q = bo) w3 (w3.setCell ⟨bo, 0, none⟩ v') := (Upd.refl (fun q => q = bo) w3).setCell (p := ⟨bo, 0, none⟩) (.inl rfl) _
  have oF := o3.set 0 v'
  simp only [List.setIfInBounds_toArray, List.set_cons_zero] at oF
  refine ⟨v', w3, happ, ⟨oF, m3.upd us (by omega), h.l, fun j hj hj2 => ?_, ?_, ?_, hz⟩, o3, u3, fun q hq => (h.r.lt q hq).1⟩
  · rcases Nat.lt_succ_iff_lt_or_eq.1 hj with h1 | rfl
    · exact h.q j h1 hj2
    · exact hQ
  · rw [spotsTo_hit hf hb, factCells_app, show cnt I (k + 1) = cnt I k + 1 by rw [cnt, if_pos hb]]
    exact ownsRow_upd (by simpa [factCells] using own3) us (fun q hq e => by have := (own3.lt q hq).1; omega)
  · exact (h.u.trans u3 (fun i e => .inr (h.r.lt i e).1)).trans us (fun i e => .inl (.inl e))

set_option maxHeartbeats 8000000 in
set_option maxRecDepth 20000 in
theorem rcut_any (w : World) (A : Option Addr) (c : Nat) (B : Option Addr) (d : Nat) (S : List Fct) (P : List Pk) (I : List Bool) (gi : Nat) (h : ForR w A c B d S P) (hP : ∀ p ∈ P, p.goes S = true) (hI : I.length = S.length) (hg : Blk w gi 4 (bools I)) :
    Calls Try.prog 36 #[forV A S.length c B P.length d, .slice (some ⟨gi, 0, none⟩) S.length S.length] w (NewFor w (cutS S I) (cutP P I)) := by
  have hcI : (S.length : Int) ≤ (c : Int) := by have := h.hc; omega
  have hdI : (P.length : Int) ≤ (d : Int) := by have := h.hd; omega
  have hS8 : S.length * 24 ≤ 140737488355328 := h.fit.s
  have hP8 : P.length * 40 ≤ 140737488355328 := h.fit.p
  have hgl := hg.lt
  have hmk := fun w : World => mk_ints w S.length (by omega)
  have k0 := (((Blk.new w 75 #[.slice A S.length c, .slice B P.length d]).alloc (.cells #[.slice none 0 0, .slice none 0 0] 75)).alloc (.cells #[.slice none 0 0, .slice none 0 0] 75)).alloc (.cells (ints (List.replicate S.length 0)) 3)
  have k1 := ((Blk.new (w.alloc (.cells #[.slice A S.length c, .slice B P.length d] 75)) 75 #[.slice none 0 0, .slice none 0 0]).alloc (.cells #[.slice none 0 0, .slice none 0 0] 75)).alloc (.cells (ints (List.replicate S.length 0)) 3)
  have k2 := (Blk.new ((w.alloc (.cells #[.slice A S.length c, .slice B P.length d] 75)).alloc (.cells #[.slice none 0 0, .slice none 0 0] 75)) 75 #[.slice none 0 0, .slice none 0 0]).alloc (.cells (ints (List.replicate S.length 0)) 3)
  have m0 := Blk.new (((w.alloc (.cells #[.slice A S.length c, .slice B P.length d] 75)).alloc (.cells #[.slice none 0 0, .slice none 0 0] 75)).alloc (.cells #[.slice none 0 0, .slice none 0 0] 75)) 3 (ints (List.replicate S.length 0))
  have b4 : Below w.heap.size w ((((w.alloc (.cells #[.slice A S.length c, .slice B P.length d] 75)).alloc (.cells #[.slice none 0 0, .slice none 0 0] 75)).alloc (.cells #[.slice none 0 0, .slice none 0 0] 75)).alloc (.cells (ints (List.replicate S.length 0)) 3)) := by (repeat (first | exact Below.refl _ _ | apply Below.drew | refine Below.alloc ?_ (by first | exact Nat.le_refl _ | (simp; done) | (simp; omega)) _ | refine Below.setCell ?_ (by first | exact Nat.le_refl _ | (simp; done) | (simp; omega)) _))
  have hw4 : ((((w.alloc (.cells #[.slice A S.length c, .slice B P.length d] 75)).alloc (.cells #[.slice none 0 0, .slice none 0 0] 75)).alloc (.cells #[.slice none 0 0, .slice none 0 0] 75)).alloc (.cells (ints (List.replicate S.length 0)) 3)).heap.size = w.heap.size + 1 + 1 + 1 + 1 := by simp only [World.size_alloc]
  simp only [World.size_alloc] at k1 k2 m0
  have H := Lib.hid (And.intro h (And.intro hP (And.intro hI (And.intro hg (And.intro b4 (And.intro k0 (And.intro k1 (And.intro k2 (And.intro m0 hw4)))))))))
  clear h hP hI hg b4 k0 k1 k2 m0 hw4
  go_enter Try.func36, Try.ntmps36
  unfold forV
  go_upto_region 3 with (fail)
  clear hmk
  generalize ((((w.alloc (.cells #[.slice A S.length c, .slice B P.length d] 75)).alloc (.cells #[.slice none 0 0, .slice none 0 0] 75)).alloc (.cells #[.slice none 0 0, .slice none 0 0] 75)).alloc (.cells (ints (List.replicate S.length 0)) 3)) = w4 at H ⊢
  have C0 : Cut3 (w.heap.size + 1 + 1) (w.heap.size + 1 + 1 + 1) w4 w4 S I 0 (.slice none 0 0) (List.replicate S.length 0) := by
    have := H.out.2.2.2.2.2.2.2.2.2
    exact ⟨H.out.2.2.2.2.2.2.2.1, H.out.2.2.2.2.2.2.2.2.1, by simp, fun j hj => by omega, World.ownsRow_nil _ _ _ _, Upd.refl _ _, by omega, by omega, by omega⟩
  have HC0 := Lib.hid C0
  clear C0
  go_wp2
  go_loopw [7] (fun iv wr => ∃ (k : Nat) (v : Value) (Q : List Int), k ≤ S.length ∧ iv = .int .i64 k ∧ Cut3 (w.heap.size + 1 + 1) (w.heap.size + 1 + 1 + 1) w4 wr S I k v Q) (fun iv _ => S.length - (intOf iv).toNat)
  case atStart => exact ⟨0, _, _, Nat.zero_le _, rfl, HC0.out⟩
  case round =>
    obtain ⟨k, v, Q, hk, rfl, hC⟩ := hrel
    have bb : Below w.heap.size w wr := H.out.2.2.2.2.1.trans (hC.u.below (fun q _ e => by omega) H.out.2.2.2.2.1.size)
    have F := H.out.1.below bb
    have kb := H.out.2.2.2.2.2.1.upd hC.u (by omega)
    by_cases hlt : k < S.length
    · have hltI : (k : Int) < (S.length : Int) := by omega
      obtain ⟨A9, c9, rfl, -, -⟩ := own_form hC.r
      obtain ⟨⟨f0, f1, f2⟩, hf⟩ : ∃ f, S[k]? = some f := ⟨S[k], List.getElem?_eq_getElem hlt⟩
      obtain ⟨fb, fo, rfl, a0, a1, a2⟩ := F.rs.fact hf
      have q0 : wr.cell? ⟨w.heap.size, 0, none⟩ = some (.slice (some ⟨fb, fo, none⟩) S.length c) := kb.cell 0
      have g0 := (H.out.2.2.2.1.upd (Upd.of_below bb (fun _ => False)) id).cell k
      obtain ⟨b, hb⟩ : ∃ b, atB I (k : Int) = b := ⟨_, rfl⟩
      rw [bools_get (atB_get (by rw [H.out.2.2.1]; exact hlt)), hb] at g0
      cases b with
      | true =>
        have d0 : wr.cell? ⟨w.heap.size + 1 + 1, 0, none⟩ = some (.slice A9 (cnt I k) c9) := hC.o.cell 0
        have d1 := hC.m.cell k
        rw [ints_get (at0_get (by rw [hC.l]; exact hlt))] at d1
        have d2 := hC.m.frozen k
        have hC1 := hC.put hlt
        have hQ : at0 (Q.set k (cnt I k : Int)) (k : Int) = (cnt I k : Int) := by rw [at0_set (by rw [hC.l]; exact hlt), if_pos (by simp)]
        have us : Upd (fun q => q = w.heap.size + 1 + 1 + 1) wr (wr.setCell ⟨w.heap.size + 1 + 1 + 1, k, none⟩ (.int .i64 (cnt I k : Int))) := (Upd.refl (fun q => q = w.heap.size + 1 + 1 + 1) wr).setCell (p := ⟨w.heap.size + 1 + 1 + 1, k, none⟩) (.inl rfl) _
        have lfb : fb < w.heap.size := by
          obtain ⟨b', o', e, h'⟩ := H.out.1.rs _ _ (flat_get Fct.cells 3 (fun _ => rfl) S k 0 _ hf (by omega))
          injection e with e; injection e with e e'
          rw [e]
          exact World.block_lt_of_cell? w _ h'
        have HK := Lib.hid (And.intro hC1 (And.intro hQ (And.intro hf (And.intro hb (And.intro us lfb)))))
        have HA := Lib.hid (And.intro a0 (And.intro a1 (And.intro a2 q0)))
        clear hC hC1 hQ hf hb us F bb kb lfb a0 a1 a2
        go_upto_region 8 with (fail)
        clear g0 d0 d1 d2 q0
        generalize wr.setCell ⟨w.heap.size + 1 + 1 + 1, k, none⟩ (.int .i64 (cnt I k : Int)) = W1 at HK ⊢
        have uu : ∀ {p : Addr} {u : Value}, wr.cell? p = some u → p.block ≠ w.heap.size + 1 + 1 + 1 → W1.cell? p = some u := fun {p u} h1 h2 => (HK.out.2.2.2.2.1.cell (World.block_lt_of_cell? wr _ h1) h2).trans h1
        have hlfb := HK.out.2.2.2.2.2
        have a0 := uu HA.out.1 (by show fb ≠ _; omega)
        have a1 := uu HA.out.2.1 (by show fb ≠ _; omega)
        have a2 := uu HA.out.2.2.1 (by show fb ≠ _; omega)
        have q0 := uu HA.out.2.2.2 (by show w.heap.size ≠ _; omega)
        have d0 : W1.cell? ⟨w.heap.size + 1 + 1, 0, none⟩ = some (.slice A9 (cnt I k) c9) := HK.out.1.o.cell 0
        obtain ⟨v', w3, happ, hC2, o3, u3, hn3⟩ := (HK.out.1.below (w' := W1.drew) (Below.refl _ _).drew).step HK.out.2.1 HK.out.2.2.1 HK.out.2.2.2.1 hS8
        obtain ⟨A8, c8, rfl, -, -⟩ := own_form hC2.r
        simp only [Fct.cells] at happ
        have hz4 := H.out.2.2.2.2.2.2.2.2.2
        have up1 : ∀ w', Below W1.heap.size W1 w' → w'.cell? ⟨w.heap.size, 0, none⟩ = some (.slice (some ⟨fb, fo, none⟩) S.length c) ∧ w'.cell? ⟨w.heap.size + 1 + 1, 0, none⟩ = some (.slice A9 (cnt I k) c9) ∧ w'.cell? ⟨fb, fo + k * 3, none⟩ = some (.int .i64 f0) ∧ w'.cell? ⟨fb, fo + k * 3 + 1, none⟩ = some (.int .i64 f1) ∧ w'.cell? ⟨fb, fo + k * 3 + 2, none⟩ = some (.int .i64 f2) := fun w' hb => by
          have g : ∀ {p : Addr} {u : Value}, W1.cell? p = some u → w'.cell? p = some u := fun {p u} h => (hb.cell (World.block_lt_of_cell? W1 _ h)).trans h
          exact ⟨g q0, g d0, g a0, g a1, g a2⟩
        have e3 : w3.cell? ⟨w.heap.size, 0, none⟩ = some (.slice (some ⟨fb, fo, none⟩) S.length c) ∧ w3.cell? ⟨w.heap.size + 1 + 1, 0, none⟩ = some (.slice A9 (cnt I k) c9) ∧ w3.cell? ⟨fb, fo + k * 3, none⟩ = some (.int .i64 f0) ∧ w3.cell? ⟨fb, fo + k * 3 + 1, none⟩ = some (.int .i64 f1) ∧ w3.cell? ⟨fb, fo + k * 3 + 2, none⟩ = some (.int .i64 f2) := by
          have g : ∀ {p : Addr} {u : Value}, W1.cell? p = some u → p.block < w.heap.size + 1 + 1 + 1 → w3.cell? p = some u := fun {p u} h h2 => (u3.cell (p := p) (w := W1.drew) (World.block_lt_of_cell? W1 _ h) (fun e => by have := hn3 _ e; omega)).trans h
          exact ⟨g q0 (by show w.heap.size < _; omega), g d0 (by show w.heap.size + 1 + 1 < _; omega), g a0 (by show fb < _; omega), g a1 (by show fb < _; omega), g a2 (by show fb < _; omega)⟩
        have f3 : w3.frozen? ⟨w.heap.size + 1 + 1, 0, none⟩ = false := o3.frozen 0
        have d3 : w3.cell? ⟨w.heap.size + 1 + 1, 0, none⟩ = some (.slice A9 (cnt I k) c9) := o3.cell 0
        have UP := Lib.hid (And.intro up1 e3)
        have HN := Lib.hid hC2
        clear hC2 o3 u3 hn3 up1 e3 uu hlfb hz4 a0 a1 a2 q0 d0
        go_wp2_with fail
        refine wp_region_ord (fun w' => w'.cell? ⟨w.heap.size, 0, none⟩ = some (.slice (some ⟨fb, fo, none⟩) S.length c) ∧ w'.cell? ⟨w.heap.size + 1 + 1, 0, none⟩ = some (.slice A9 (cnt I k) c9) ∧ w'.cell? ⟨fb, fo + k * 3, none⟩ = some (.int .i64 f0) ∧ w'.cell? ⟨fb, fo + k * 3 + 1, none⟩ = some (.int .i64 f1) ∧ w'.cell? ⟨fb, fo + k * 3 + 2, none⟩ = some (.int .i64 f2)) 10 [(0, true), (1, true), (2, true), (3, true), (4, true), (5, true), (6, true), (7, false), (8, false), (9, true), (10, false)] (by kernel_rfl) (by kernel_rfl) (fun _ _ d _ _ h => by cases d <;> exact h) (UP.out.1 _ (Below.refl _ _).drew) ?_
        iterate 7 (refine ord_take (v := ?_) rfl (by first | with_reducible rfl | kernel_rfl) ?_ ?_; rotate_left; (focus (intro wS hS; (try dsimp only at hS); go_split_ands; go_simp; (try with_reducible rfl); done)); (try simp only [Act.put, List.getElem_toArray, List.getElem_cons_succ, List.getElem_cons_zero, List.setIfInBounds_toArray, List.set_cons_zero, List.set_cons_succ]))
        refine ord_do rfl rfl (fun K hK => ?_)
        go_simp
        refine hK _ _ (fun _ => UP.out.1 _ (by (repeat (first | exact Below.refl _ _ | apply Below.drew | refine Below.alloc ?_ (by first | exact Nat.le_refl _ | (simp; done) | (simp; omega)) _ | refine Below.setCell ?_ (by first | exact Nat.le_refl _ | (simp; done) | (simp; omega)) _)))) ?_
        clear hK K
        refine ord_do rfl rfl (fun K hK => ?_)
        refine wp_append_run _ _ _ rfl rfl rfl happ ?_
        refine hK _ _ (fun _ => UP.out.2) ?_
        clear hK K happ
        (try simp only [Act.put, List.getElem_toArray, List.getElem_cons_succ, List.getElem_cons_zero, List.setIfInBounds_toArray, List.set_cons_zero, List.set_cons_succ])
        (refine ord_take (v := ?_) rfl (by first | with_reducible rfl | kernel_rfl) ?_ ?_; rotate_left; (focus (intro wS hS; (try dsimp only at hS); go_split_ands; go_simp; (try with_reducible rfl); done)); (try simp only [Act.put, List.getElem_toArray, List.getElem_cons_succ, List.getElem_cons_zero, List.setIfInBounds_toArray, List.set_cons_zero, List.set_cons_succ]))
        refine ord_do rfl rfl (fun K hK => ?_)
        go_simp
        refine hK _ _ (fun h => absurd rfl h) ?_
        clear hK K
        refine ord_done ?_
        go_wp2
        go_roundw
        case rel => exact ⟨k + 1, _, _, by omega, by go_num, HN.out⟩
        case measure => simp [intOf]; omega
      | false =>
        have hC2 := hC.miss hb
        have HN := Lib.hid hC2
        clear hC hC2 hf hb F bb kb a0 a1 a2
        go_wp2
        go_roundw
        case rel => exact ⟨k + 1, _, _, by omega, by go_num, HN.out⟩
        case measure => simp [intOf]; omega
    · obtain rfl : k = S.length := by omega
      have kr := H.out.2.2.2.2.2.2.1.upd hC.u (by omega)
      obtain ⟨A1, c1, rfl, -, -⟩ := own_form hC.r
      have hw4 := H.out.2.2.2.2.2.2.2.2.2
      have D0 : Cut2 (w.heap.size + 1 + 1) (w.heap.size + 1 + 1 + 1) wr wr P I 0 (.slice A1 (cnt I S.length) c1) (.slice none 0 0) := ⟨hC.o, World.ownsRow_nil _ _ _ _, Upd.refl _ _, by have := hC.u.size; omega, by have := hC.u.size; omega, by omega⟩
      have q0 : wr.cell? ⟨w.heap.size, 0, none⟩ = some (.slice A S.length c) := kb.cell 0
      have HC := Lib.hid (And.intro hC (And.intro bb (And.intro kb (And.intro kr D0))))
      clear hC F kb kr D0 bb hw4
      obtain ⟨wo, rfl⟩ : ∃ wo : World, wo = wr := ⟨_, rfl⟩
      clear hlt
      go_wp2_with fail
      clear q0
      go_loopw [8] (fun iv wr => ∃ (j : Nat) (v : Value), j ≤ P.length ∧ iv = .int .i64 j ∧ Cut2 (w.heap.size + 1 + 1) (w.heap.size + 1 + 1 + 1) wo wr P I j (.slice A1 (cnt I S.length) c1) v) (fun iv _ => P.length - (intOf iv).toNat)
      case atStart => exact ⟨0, _, Nat.zero_le _, rfl, HC.out.2.2.2.2⟩
      case round =>
        obtain ⟨j, v, hj, rfl, hD⟩ := hrel
        have bb : Below w.heap.size w wr := HC.out.2.1.trans (hD.u.below (fun q _ e => by omega) HC.out.2.1.size)
        have kb := HC.out.2.2.1.upd hD.u (by omega)
        obtain ⟨A2, c2, rfl, -, -⟩ := own_form hD.r
        by_cases hlt : j < P.length
        · have hltI : (j : Int) < (P.length : Int) := by omega
          obtain ⟨⟨p0, p1, p2, p3, p4⟩, hp⟩ : ∃ p, P[j]? = some p := ⟨P[j], List.getElem?_eq_getElem hlt⟩
          have hgo := H.out.2.1 _ (List.mem_of_getElem? hp)
          have hlf := leaf_pack hgo
          obtain ⟨⟨s, es, hs⟩, hlr⟩ := PkIn.of_goes hgo
          dsimp only at es hlf hlr
          subst es
          obtain ⟨fb, fo, rfl, a0, a1, a2, a3, a4⟩ := (H.out.1.below bb).rp.pack hp
          have q1 : wr.cell? ⟨w.heap.size, 1, none⟩ = some (.slice (some ⟨fb, fo, none⟩) P.length d) := kb.cell 1
          have kx := Blk.new wr 125 #[.int .i64 (s : Int), .int .i64 p1, .int .i64 p2, .int .i64 p3, .int .i64 p4]
          have bx : Below wr.heap.size wr (wr.alloc (.cells #[.int .i64 (s : Int), .int .i64 p1, .int .i64 p2, .int .i64 p3, .int .i64 p4] 125)) := (Below.refl _ _).alloc (Nat.le_refl _) _
          have mq : ∀ x : Nat, x < S.length → atB I (x : Int) = true → (wr.alloc (.cells #[.int .i64 (s : Int), .int .i64 p1, .int .i64 p2, .int .i64 p3, .int .i64 p4] 125)).cell? ⟨w.heap.size + 1 + 1 + 1, x, none⟩ = some (.int .i64 (cnt I x : Int)) := fun x hx hb => by
            rw [((HC.out.1.m.upd hD.u (by omega)).upd (Upd.of_below bx (fun _ => False)) id).cell x, ← HC.out.1.q x hx hb]
            exact ints_get (at0_get (by rw [HC.out.1.l]; exact hx))
          have gq : ∀ x : Nat, x < S.length → (wr.alloc (.cells #[.int .i64 (s : Int), .int .i64 p1, .int .i64 p2, .int .i64 p3, .int .i64 p4] 125)).cell? ⟨gi, x, none⟩ = some (.bool (atB I (x : Int))) := fun x hx => by
            rw [((H.out.2.2.2.1.upd (Upd.of_below bb (fun _ => False)) id).upd (Upd.of_below bx (fun _ => False)) id).cell x]
            exact bools_get (atB_get (by rw [H.out.2.2.1]; exact hx))
          have HD1 := Lib.hid (And.intro (hD.below bx) (And.intro hp (And.intro kx (And.intro mq gq))))
          clear hD hp kx bx hgo mq gq bb kb
          have hsI : (s : Int) < (S.length : Int) := by omega
          go_upto_region 13 with (fail)
          clear a0 a1 a2 a3 a4 q1
          generalize wr.alloc (.cells #[.int .i64 (s : Int), .int .i64 p1, .int .i64 p2, .int .i64 p3, .int .i64 p4] 125) = W1 at HD1 ⊢
          have x0 : W1.cell? ⟨wr.heap.size, 0, none⟩ = some (.int .i64 (s : Int)) := HD1.out.2.2.1.cell 0
          have x1 : W1.cell? ⟨wr.heap.size, 1, none⟩ = some (.int .i64 p1) := HD1.out.2.2.1.cell 1
          have x2 : W1.cell? ⟨wr.heap.size, 2, none⟩ = some (.int .i64 p2) := HD1.out.2.2.1.cell 2
          have x3 : W1.cell? ⟨wr.heap.size, 3, none⟩ = some (.int .i64 p3) := HD1.out.2.2.1.cell 3
          have x4 : W1.cell? ⟨wr.heap.size, 4, none⟩ = some (.int .i64 p4) := HD1.out.2.2.1.cell 4
          have g0 := HD1.out.2.2.2.2 s hs
          obtain ⟨b0, hb0⟩ : ∃ b, atB I (s : Int) = b := ⟨_, rfl⟩
          rw [hb0] at g0
          cases b0 with
          | false =>
            have HB := Lib.hid (show keep I ⟨(s : Int), p1, p2, p3, p4⟩ = false ∧ True from ⟨by simp [keep, hb0], trivial⟩)
            clear hb0 hlf hlr
            go_wp2
            go_roundw
            case rel => exact ⟨j + 1, _, by omega, by go_num, HD1.out.1.miss HD1.out.2.1 HB.out.1⟩
            case measure => simp [intOf]; omega
          | true =>
            have pl0 := HD1.out.2.2.2.1 s hs hb0
            rcases hlr with hl3 | ⟨l, r, el, er, hl, hr⟩
            · obtain ⟨el, er⟩ : p3 = -1 ∧ p4 = -1 := by omega
              subst el
              subst er
              have HB := Lib.hid (show keep I ⟨(s : Int), p1, p2, -1, -1⟩ = true ∧ moved I ⟨(s : Int), p1, p2, -1, -1⟩ = ⟨(cnt I s : Int), p1, p2, -1, -1⟩ from ⟨by simp [keep, stay, hb0], by simp [moved, num]⟩)
              clear hb0 hlf hl3
              have up : ∀ w', Below W1.heap.size W1 w' → w'.cell? ⟨wr.heap.size, 0, none⟩ = some (.int .i64 (s : Int)) ∧ w'.cell? ⟨wr.heap.size, 1, none⟩ = some (.int .i64 p1) ∧ w'.cell? ⟨wr.heap.size, 2, none⟩ = some (.int .i64 p2) ∧ w'.cell? ⟨w.heap.size + 1 + 1 + 1, s, none⟩ = some (.int .i64 (cnt I s : Int)) := fun w' hb => by
                have g : ∀ {p : Addr} {u : Value}, W1.cell? p = some u → w'.cell? p = some u := fun {p u} h => (hb.cell (World.block_lt_of_cell? W1 _ h)).trans h
                exact ⟨g x0, g x1, g x2, g pl0⟩
              have UP := Lib.hid up
              clear up
              go_upto_region 14 with (fail)
              refine wp_region_ord (fun w' => w'.cell? ⟨wr.heap.size, 0, none⟩ = some (.int .i64 (s : Int)) ∧ w'.cell? ⟨wr.heap.size, 1, none⟩ = some (.int .i64 p1) ∧ w'.cell? ⟨wr.heap.size, 2, none⟩ = some (.int .i64 p2) ∧ w'.cell? ⟨w.heap.size + 1 + 1 + 1, s, none⟩ = some (.int .i64 (cnt I s : Int))) 11 [(0, true), (1, true), (2, true), (3, true), (4, true), (5, true), (6, true), (7, true), (8, true), (9, true), (10, false), (11, false)] (by kernel_rfl) (by kernel_rfl) (fun _ _ d _ _ h => by cases d <;> exact h) (UP.out _ (Below.refl _ _).drew) ?_
              iterate 10 (refine ord_take (v := ?_) rfl (by first | with_reducible rfl | kernel_rfl) ?_ ?_; rotate_left; (focus (intro wS hS; (try dsimp only at hS); go_split_ands; go_simp; (try with_reducible rfl); done)); (try simp only [Act.put, List.getElem_toArray, List.getElem_cons_succ, List.getElem_cons_zero, List.setIfInBounds_toArray, List.set_cons_zero, List.set_cons_succ]))
              refine ord_do rfl rfl (fun K hK => ?_)
              go_simp
              refine hK _ _ (fun _ => UP.out _ (by (repeat (first | exact Below.refl _ _ | apply Below.drew | refine Below.alloc ?_ (by first | exact Nat.le_refl _ | (simp; done) | (simp; omega)) _ | refine Below.setCell ?_ (by first | exact Nat.le_refl _ | (simp; done) | (simp; omega)) _)))) ?_
              clear hK K
              refine ord_do rfl rfl (fun K hK => ?_)
              go_simp
              refine hK _ _ (fun h => absurd rfl h) ?_
              clear hK K
              refine ord_done ?_
              have ky := (Blk.new W1 125 #[.int .i64 (cnt I s : Int), .int .i64 p1, .int .i64 p2, .int .i64 (-1), .int .i64 (-1)]).drew
              have by1 : Below W1.heap.size W1 (W1.alloc (.cells #[.int .i64 (cnt I s : Int), .int .i64 p1, .int .i64 p2, .int .i64 (-1), .int .i64 (-1)] 125)).drew := by (repeat (first | exact Below.refl _ _ | apply Below.drew | refine Below.alloc ?_ (by first | exact Nat.le_refl _ | (simp; done) | (simp; omega)) _ | refine Below.setCell ?_ (by first | exact Nat.le_refl _ | (simp; done) | (simp; omega)) _))
              have HY := Lib.hid (And.intro ky by1)
              clear ky by1
              generalize (W1.alloc (.cells #[.int .i64 (cnt I s : Int), .int .i64 p1, .int .i64 p2, .int .i64 (-1), .int .i64 (-1)] 125)).drew = W2 at HY ⊢
              have ut := Upd.of_below HY.out.2 (fun _ => False)
              clear x0
              have x0 : W2.cell? ⟨wr.heap.size, 0, none⟩ = some (.int .i64 (s : Int)) := (HD1.out.2.2.1.upd ut id).cell 0
              clear x1
              have x1 : W2.cell? ⟨wr.heap.size, 1, none⟩ = some (.int .i64 p1) := (HD1.out.2.2.1.upd ut id).cell 1
              clear x2
              have x2 : W2.cell? ⟨wr.heap.size, 2, none⟩ = some (.int .i64 p2) := (HD1.out.2.2.1.upd ut id).cell 2
              clear x3
              have x3 : W2.cell? ⟨wr.heap.size, 3, none⟩ = some (.int .i64 (-1)) := (HD1.out.2.2.1.upd ut id).cell 3
              clear x4
              have x4 : W2.cell? ⟨wr.heap.size, 4, none⟩ = some (.int .i64 (-1)) := (HD1.out.2.2.1.upd ut id).cell 4
              have HS := Lib.hid (And.intro (HD1.out.1.below HY.out.2) HY.out.1)
              clear ut
              obtain ⟨v', w3, happ, hD2, o3⟩ := HS.out.1.step HD1.out.2.1 HB.out.1 hP8
              obtain ⟨A8, c8, rfl, -, -⟩ := own_form hD2.r
              have hmv : moved I ⟨(s : Int), p1, p2, (-1), (-1)⟩ = ⟨(cnt I s : Int), p1, p2, (-1), (-1)⟩ := HB.out.2
              rw [hmv] at happ
              simp only [Pk.cells] at happ
              have z0 : W2.cell? ⟨W1.heap.size, 0, none⟩ = some (.int .i64 (cnt I s : Int)) := HS.out.2.cell 0
              have z1 : W2.cell? ⟨W1.heap.size, 1, none⟩ = some (.int .i64 p1) := HS.out.2.cell 1
              have z2 : W2.cell? ⟨W1.heap.size, 2, none⟩ = some (.int .i64 p2) := HS.out.2.cell 2
              have z3 : W2.cell? ⟨W1.heap.size, 3, none⟩ = some (.int .i64 (-1)) := HS.out.2.cell 3
              have z4 : W2.cell? ⟨W1.heap.size, 4, none⟩ = some (.int .i64 (-1)) := HS.out.2.cell 4
              have d0 : W2.cell? ⟨w.heap.size + 1 + 1, 1, none⟩ = some (.slice A2 (packsTo P I j).length c2) := HS.out.1.o.cell 1
              have d1 : w3.cell? ⟨w.heap.size + 1 + 1, 1, none⟩ = some (.slice A2 (packsTo P I j).length c2) := o3.cell 1
              have d2 : w3.frozen? ⟨w.heap.size + 1 + 1, 1, none⟩ = false := o3.frozen 1
              have HN := Lib.hid hD2
              clear hD2 o3 hmv
              go_wp2_with (at_builtin; refine wpList_append_run rfl _ _ _ rfl rfl rfl happ ?_)
              go_roundw
              case rel => exact ⟨j + 1, _, by omega, by go_num, HN.out⟩
              case measure => simp [intOf]; omega
            · subst el
              subst er
              have hlI : (l : Int) < (S.length : Int) := by omega
              have hrI : (r : Int) < (S.length : Int) := by omega
              have n3 : decide ((0 : Int) ≤ (l : Int)) = true := by simp
              have g3 := HD1.out.2.2.2.2 l hl
              have g4 := HD1.out.2.2.2.2 r hr
              obtain ⟨b3, hb3⟩ : ∃ b, atB I (l : Int) = b := ⟨_, rfl⟩
              obtain ⟨b4, hb4⟩ : ∃ b, atB I (r : Int) = b := ⟨_, rfl⟩
              rw [hb3] at g3
              rw [hb4] at g4
              have hkp : keep I ⟨(s : Int), p1, p2, (l : Int), (r : Int)⟩ = (b3 && b4) := by
                have hn : ∀ x : Nat, decide ((x : Int) < 0) = false := fun x => decide_eq_false (by omega)
                unfold keep stay
                dsimp only
                rw [hb0, hb3, hb4, hn, hn]
                rfl
              cases b3 with
              | false =>
                have HB := Lib.hid (And.intro hkp True.intro)
                clear hb0 hlf hkp hb3 hb4
                go_wp2
                go_roundw
                case rel => exact ⟨j + 1, _, by omega, by go_num, HD1.out.1.miss HD1.out.2.1 HB.out.1⟩
                case measure => simp [intOf]; omega
              | true =>
                cases b4 with
                | false =>
                  have HB := Lib.hid (And.intro hkp True.intro)
                  clear hb0 hlf hkp hb3 hb4
                  go_wp2
                  go_roundw
                  case rel => exact ⟨j + 1, _, by omega, by go_num, HD1.out.1.miss HD1.out.2.1 HB.out.1⟩
                  case measure => simp [intOf]; omega
                | true =>
                  have pl3 := HD1.out.2.2.2.1 l hl hb3
                  have pl4 := HD1.out.2.2.2.1 r hr hb4
                  have HB := Lib.hid (And.intro hkp (show moved I ⟨(s : Int), p1, p2, (l : Int), (r : Int)⟩ = ⟨(cnt I s : Int), p1, p2, (cnt I l : Int), (cnt I r : Int)⟩ by simp only [moved, num, Int.toNat_natCast]; rw [if_neg (by omega), if_neg (by omega)]))
                  clear hb0 hlf hkp hb3 hb4
                  have up : ∀ w', Below W1.heap.size W1 w' → w'.cell? ⟨wr.heap.size, 0, none⟩ = some (.int .i64 (s : Int)) ∧ w'.cell? ⟨wr.heap.size, 1, none⟩ = some (.int .i64 p1) ∧ w'.cell? ⟨wr.heap.size, 2, none⟩ = some (.int .i64 p2) ∧ w'.cell? ⟨w.heap.size + 1 + 1 + 1, s, none⟩ = some (.int .i64 (cnt I s : Int)) := fun w' hb => by
                    have g : ∀ {p : Addr} {u : Value}, W1.cell? p = some u → w'.cell? p = some u := fun {p u} h => (hb.cell (World.block_lt_of_cell? W1 _ h)).trans h
                    exact ⟨g x0, g x1, g x2, g pl0⟩
                  have UP := Lib.hid up
                  clear up
                  go_upto_region 14 with (fail)
                  refine wp_region_ord (fun w' => w'.cell? ⟨wr.heap.size, 0, none⟩ = some (.int .i64 (s : Int)) ∧ w'.cell? ⟨wr.heap.size, 1, none⟩ = some (.int .i64 p1) ∧ w'.cell? ⟨wr.heap.size, 2, none⟩ = some (.int .i64 p2) ∧ w'.cell? ⟨w.heap.size + 1 + 1 + 1, s, none⟩ = some (.int .i64 (cnt I s : Int))) 11 [(0, true), (1, true), (2, true), (3, true), (4, true), (5, true), (6, true), (7, true), (8, true), (9, true), (10, false), (11, false)] (by kernel_rfl) (by kernel_rfl) (fun _ _ d _ _ h => by cases d <;> exact h) (UP.out _ (Below.refl _ _).drew) ?_
                  iterate 10 (refine ord_take (v := ?_) rfl (by first | with_reducible rfl | kernel_rfl) ?_ ?_; rotate_left; (focus (intro wS hS; (try dsimp only at hS); go_split_ands; go_simp; (try with_reducible rfl); done)); (try simp only [Act.put, List.getElem_toArray, List.getElem_cons_succ, List.getElem_cons_zero, List.setIfInBounds_toArray, List.set_cons_zero, List.set_cons_succ]))
                  refine ord_do rfl rfl (fun K hK => ?_)
                  go_simp
                  refine hK _ _ (fun _ => UP.out _ (by (repeat (first | exact Below.refl _ _ | apply Below.drew | refine Below.alloc ?_ (by first | exact Nat.le_refl _ | (simp; done) | (simp; omega)) _ | refine Below.setCell ?_ (by first | exact Nat.le_refl _ | (simp; done) | (simp; omega)) _)))) ?_
                  clear hK K
                  refine ord_do rfl rfl (fun K hK => ?_)
                  go_simp
                  refine hK _ _ (fun h => absurd rfl h) ?_
                  clear hK K
                  refine ord_done ?_
                  have ky := (Blk.new W1 125 #[.int .i64 (cnt I s : Int), .int .i64 p1, .int .i64 p2, .int .i64 (-1), .int .i64 (-1)]).drew
                  have by1 : Below W1.heap.size W1 (W1.alloc (.cells #[.int .i64 (cnt I s : Int), .int .i64 p1, .int .i64 p2, .int .i64 (-1), .int .i64 (-1)] 125)).drew := by (repeat (first | exact Below.refl _ _ | apply Below.drew | refine Below.alloc ?_ (by first | exact Nat.le_refl _ | (simp; done) | (simp; omega)) _ | refine Below.setCell ?_ (by first | exact Nat.le_refl _ | (simp; done) | (simp; omega)) _))
                  have HY := Lib.hid (And.intro ky by1)
                  clear ky by1
                  generalize (W1.alloc (.cells #[.int .i64 (cnt I s : Int), .int .i64 p1, .int .i64 p2, .int .i64 (-1), .int .i64 (-1)] 125)).drew = W2 at HY ⊢
                  have ut := Upd.of_below HY.out.2 (fun _ => False)
                  clear x0
                  have x0 : W2.cell? ⟨wr.heap.size, 0, none⟩ = some (.int .i64 (s : Int)) := (HD1.out.2.2.1.upd ut id).cell 0
                  clear x1
                  have x1 : W2.cell? ⟨wr.heap.size, 1, none⟩ = some (.int .i64 p1) := (HD1.out.2.2.1.upd ut id).cell 1
                  clear x2
                  have x2 : W2.cell? ⟨wr.heap.size, 2, none⟩ = some (.int .i64 p2) := (HD1.out.2.2.1.upd ut id).cell 2
                  clear x3
                  have x3 : W2.cell? ⟨wr.heap.size, 3, none⟩ = some (.int .i64 (l : Int)) := (HD1.out.2.2.1.upd ut id).cell 3
                  clear x4
                  have x4 : W2.cell? ⟨wr.heap.size, 4, none⟩ = some (.int .i64 (r : Int)) := (HD1.out.2.2.1.upd ut id).cell 4
                  have y3 : W2.cell? ⟨W1.heap.size, 3, none⟩ = some (.int .i64 (-1)) := HY.out.1.cell 3
                  have y4 : W2.cell? ⟨W1.heap.size, 4, none⟩ = some (.int .i64 (-1)) := HY.out.1.cell 4
                  have fy3 := HY.out.1.frozen 3
                  have fy4 := HY.out.1.frozen 4
                  have pl3' : W2.cell? ⟨w.heap.size + 1 + 1 + 1, l, none⟩ = some (.int .i64 (cnt I l : Int)) := (ut.cell (World.block_lt_of_cell? W1 _ pl3) id).trans pl3
                  have pl4' : W2.cell? ⟨w.heap.size + 1 + 1 + 1, r, none⟩ = some (.int .i64 (cnt I r : Int)) := (ut.cell (World.block_lt_of_cell? W1 _ pl4) id).trans pl4
                  have us : Upd (fun q => q = W1.heap.size) W2 (W2.setCell ⟨W1.heap.size, 3, none⟩ (.int .i64 (cnt I l : Int))) := (Upd.refl (fun q => q = W1.heap.size) W2).setCell (p := ⟨W1.heap.size, 3, none⟩) (.inl rfl) _
                  have x4s : (W2.setCell ⟨W1.heap.size, 3, none⟩ (.int .i64 (cnt I l : Int))).cell? ⟨wr.heap.size, 4, none⟩ = some (.int .i64 (r : Int)) := ((HD1.out.2.2.1.upd ut id).upd us (by have := HD1.out.2.2.1.lt; omega)).cell 4
                  have pl4s : (W2.setCell ⟨W1.heap.size, 3, none⟩ (.int .i64 (cnt I l : Int))).cell? ⟨w.heap.size + 1 + 1 + 1, r, none⟩ = some (.int .i64 (cnt I r : Int)) := (us.cell (World.block_lt_of_cell? W2 _ pl4') (by have := World.block_lt_of_cell? W1 _ pl4; show ¬ (w.heap.size + 1 + 1 + 1 = W1.heap.size); exact Nat.ne_of_lt this)).trans pl4'
                  have y4s : (W2.setCell ⟨W1.heap.size, 3, none⟩ (.int .i64 (cnt I l : Int))).cell? ⟨W1.heap.size, 4, none⟩ = some (.int .i64 (-1)) := (HY.out.1.set 3 (.int .i64 (cnt I l : Int))).cell 4
                  have fy4s := (HY.out.1.set 3 (.int .i64 (cnt I l : Int))).frozen 4
                  clear ut pl0 pl3 pl4 us
                  have kz := (HY.out.1.set 3 (.int .i64 (cnt I l : Int))).set 4 (.int .i64 (cnt I r : Int))
                  simp only [List.setIfInBounds_toArray, List.set_cons_zero, List.set_cons_succ] at kz
                  have bz : Below W1.heap.size W1 ((W2.setCell ⟨W1.heap.size, 3, none⟩ (.int .i64 (cnt I l : Int))).setCell ⟨W1.heap.size, 4, none⟩ (.int .i64 (cnt I r : Int))) := (HY.out.2.setCell (p := ⟨W1.heap.size, 3, none⟩) (Nat.le_refl _) _).setCell (p := ⟨W1.heap.size, 4, none⟩) (Nat.le_refl _) _
                  have HS := Lib.hid (And.intro (HD1.out.1.below bz) kz)
                  clear bz kz
                  go_upto_region 18 with (fail)
                  clear x0 x1 x2 x3 x4 y3 y4 fy3 fy4 pl3' pl4' x4s pl4s y4s fy4s
                  generalize (W2.setCell ⟨W1.heap.size, 3, none⟩ (.int .i64 (cnt I l : Int))).setCell ⟨W1.heap.size, 4, none⟩ (.int .i64 (cnt I r : Int)) = W3 at HS ⊢
                  obtain ⟨v', w3, happ, hD2, o3⟩ := HS.out.1.step HD1.out.2.1 HB.out.1 hP8
                  obtain ⟨A8, c8, rfl, -, -⟩ := own_form hD2.r
                  have hmv : moved I ⟨(s : Int), p1, p2, (l : Int), (r : Int)⟩ = ⟨(cnt I s : Int), p1, p2, (cnt I l : Int), (cnt I r : Int)⟩ := HB.out.2
                  rw [hmv] at happ
                  simp only [Pk.cells] at happ
                  have z0 : W3.cell? ⟨W1.heap.size, 0, none⟩ = some (.int .i64 (cnt I s : Int)) := HS.out.2.cell 0
                  have z1 : W3.cell? ⟨W1.heap.size, 1, none⟩ = some (.int .i64 p1) := HS.out.2.cell 1
                  have z2 : W3.cell? ⟨W1.heap.size, 2, none⟩ = some (.int .i64 p2) := HS.out.2.cell 2
                  have z3 : W3.cell? ⟨W1.heap.size, 3, none⟩ = some (.int .i64 (cnt I l : Int)) := HS.out.2.cell 3
                  have z4 : W3.cell? ⟨W1.heap.size, 4, none⟩ = some (.int .i64 (cnt I r : Int)) := HS.out.2.cell 4
                  have d0 : W3.cell? ⟨w.heap.size + 1 + 1, 1, none⟩ = some (.slice A2 (packsTo P I j).length c2) := HS.out.1.o.cell 1
                  have d1 : w3.cell? ⟨w.heap.size + 1 + 1, 1, none⟩ = some (.slice A2 (packsTo P I j).length c2) := o3.cell 1
                  have d2 : w3.frozen? ⟨w.heap.size + 1 + 1, 1, none⟩ = false := o3.frozen 1
                  have HN := Lib.hid hD2
                  clear hD2 o3 hmv
                  go_wp2_with (at_builtin; refine wpList_append_run rfl _ _ _ rfl rfl rfl happ ?_)
                  go_roundw
                  case rel => exact ⟨j + 1, _, by omega, by go_num, HN.out⟩
                  case measure => simp [intOf]; omega
        · obtain rfl : j = P.length := by omega
          clear hlt
          have q1 : wr.cell? ⟨w.heap.size, 1, none⟩ = some (.slice B P.length d) := kb.cell 1
          have c4 : wr.cell? ⟨w.heap.size + 1 + 1, 0, none⟩ = some (.slice A1 (cnt I S.length) c1) := hD.o.cell 0
          have c5 : wr.cell? ⟨w.heap.size + 1 + 1, 1, none⟩ = some (.slice A2 (packsTo P I P.length).length c2) := hD.o.cell 1
          have k2 := HC.out.2.2.2.1.upd hD.u (by omega)
          have c6 : wr.cell? ⟨w.heap.size + 1, 0, none⟩ = some (.slice none 0 0) := k2.cell 0
          have c7 : wr.cell? ⟨w.heap.size + 1, 1, none⟩ = some (.slice none 0 0) := k2.cell 1
          have f6 := k2.frozen 0
          have f7 := k2.frozen 1
          have kF := (k2.set 0 (.slice A1 (cnt I S.length) c1)).set 1 (.slice A2 (packsTo P I P.length).length c2)
          have e0 := kF.cell 0
          have e1 := kF.cell 1
          simp only [List.setIfInBounds_toArray, List.set_cons_zero, List.set_cons_succ, List.getElem?_toArray, List.getElem?_cons_succ, List.getElem?_cons_zero] at e0 e1
          have V : Upd (fun q => q = w.heap.size + 1) wr ((wr.setCell ⟨w.heap.size + 1, 0, none⟩ (.slice A1 (cnt I S.length) c1)).setCell ⟨w.heap.size + 1, 1, none⟩ (.slice A2 (packsTo P I P.length).length c2)) := ((Upd.refl (fun q => q = w.heap.size + 1) wr).setCell (p := ⟨w.heap.size + 1, 0, none⟩) (.inl rfl) _).setCell (p := ⟨w.heap.size + 1, 1, none⟩) (.inl rfl) _
          have fin : NewFor w (cutS S I) (cutP P I) (.returned (forV A1 (cnt I S.length) c1 A2 (packsTo P I P.length).length c2)) ((wr.setCell ⟨w.heap.size + 1, 0, none⟩ (.slice A1 (cnt I S.length) c1)).setCell ⟨w.heap.size + 1, 1, none⟩ (.slice A2 (packsTo P I P.length).length c2)) := by
            obtain ⟨hC, hbb, -⟩ := HC.out
            have hw4 := H.out.2.2.2.2.2.2.2.2.2
            have z1 := hC.u.size
            have z2 := hD.u.size
            have hl : (cutS S I).length = cnt I S.length := spotsTo_len S I _ (Nat.le_refl _)
            refine ⟨A1, c1, A2, c2, by rw [hl]; rfl, ?_, ?_, bb.trans (V.below (fun q _ e => by omega) (by omega))⟩
            · rw [hl]
              exact ownsRow_base (ownsRow_upd (ownsRow_upd hC.r hD.u (fun q hq e => by have := (hC.r.lt q hq).1; omega)) V (fun q hq e => by have := (hC.r.lt q hq).1; omega)) (fun q hq => by have := (hC.r.lt q hq).1; omega)
            · exact ownsRow_base (ownsRow_upd hD.r V (fun q hq e => by have := (hD.r.lt q hq).1; omega)) (fun q hq => by have := (hD.r.lt q hq).1; omega)
          have FIN := Lib.hid fin
          have HE := Lib.hid (And.intro e0 e1)
          clear fin V kF k2 hD e0 e1 bb kb
          go_wp2
          obtain ⟨e0, e1⟩ := HE.out
          refine bodyPost_ret (v := forV A1 (cnt I S.length) c1 A2 (packsTo P I P.length).length c2) (by simp [results, Try.f36, go_sem, forV, e0, e1]) rfl FIN.out
end Go.Proofs.Ytbppbgdmoihooaa
