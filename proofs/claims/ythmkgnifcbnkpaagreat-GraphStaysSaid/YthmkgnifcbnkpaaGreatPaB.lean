/- Edges: Parse. -/
import Derived.Test.YthmkgnifcbnkpaaGreatPaA
namespace Go.Proofs.YthmkgnifcbnkpaaGreat
open Go.RowKit Go.Shelf
attribute [local go_sem] Oper.semAt_some

theorem own_le {w : World} {base e size n c : Nat} {A : Option Addr} {xs : List Value} (h : w.ownsRow base e size (.slice A n c) n xs) : n ≤ c := by
  obtain ⟨A', c', hv, hc, -⟩ := own_form h
  injection hv with _ _ e
  omega

set_option maxHeartbeats 8000000 in
set_option maxRecDepth 100000 in
theorem parse_any (s : Txt) (w : World) (h63 : s.size ≤ 9223372036854775807) : Calls Tryz.prog 9 #[.string s] w (ParseP w s) := by
  have k0 := Blk.new w 25 #[.slice none 0 0, .slice none 0 0]
  have u0 : Below w.heap.size w (w.alloc (.cells #[.slice none 0 0, .slice none 0 0] 25)) := (Below.refl _ _).alloc (Nat.le_refl _) _
  have H := Lib.hid (And.intro k0 u0)
  clear k0 u0
  refine (callsIn_wide (n := 5)).1 ?_
  refine callsIn_of_wp_marks Tryz.func9 rfl trivial ?_ rfl
  simp only [Tryz.ntmps9, List.size_toArray, List.length_cons, List.length_nil, Nat.reduceAdd, Nat.reduceSub, Array.replicate_succ, Array.replicate_zero, List.push_toArray, List.append_toArray, List.nil_append, List.cons_append]
  refine wpIn_wide.2 ?_
  go_upto_region 1 with (fail)
  generalize w.alloc (.cells #[.slice none 0 0, .slice none 0 0] 25) = W0 at H ⊢
  have hz0 : w.heap.size + 1 ≤ W0.heap.size := H.out.1.lt
  -- the result's block is filled
  have fill : ∀ V : World, Blk V w.heap.size 25 #[.slice none 0 0, .slice none 0 0] → ∀ v0 v1 : Value, Blk ((V.setCell ⟨w.heap.size, 0, none⟩ v0).setCell ⟨w.heap.size, 1, none⟩ v1) w.heap.size 25 #[v0, v1] ∧ Upd (fun q => q = w.heap.size) V ((V.setCell ⟨w.heap.size, 0, none⟩ v0).setCell ⟨w.heap.size, 1, none⟩ v1) := fun V k v0 v1 =>
    ⟨(k.set 0 v0).set 1 v1, ((Upd.refl (fun q => q = w.heap.size) V).setCell (p := ⟨w.heap.size, 0, none⟩) (.inl rfl) v0).setCell (p := ⟨w.heap.size, 1, none⟩) (.inl rfl) v1⟩
  have FL := Lib.hid fill
  clear fill
  by_cases hs : 2048 < s.size
  · have hsI : (2048 : Int) < (s.size : Int) := by omega
    have c0 : W0.cell? ⟨w.heap.size, 0, none⟩ = some (.slice none 0 0) := H.out.1.cell 0
    have c1 : W0.cell? ⟨w.heap.size, 1, none⟩ = some (.slice none 0 0) := H.out.1.cell 1
    have f0 := H.out.1.frozen 0
    have f1 := H.out.1.frozen 1
    obtain ⟨kF, uF⟩ := FL.out W0 H.out.1 (.slice none 0 0) (.slice none 0 0)
    have e0 := kF.cell 0
    have e1 := kF.cell 1
    simp only [List.getElem?_toArray, List.getElem?_cons_succ, List.getElem?_cons_zero] at e0 e1
    have ho : parseO s = ⟨[], [], 0, 3⟩ := by rw [parseO, if_pos hs]
    have FIN := Lib.hid (ParseP.bad (p := 0) (z := 3) (by rw [ho]) (by rw [ho]) (H.out.2.trans (uF.below (fun q _ e => by omega) H.out.2.size)) (by rw [ho]) (by rw [ho]))
    clear kF uF ho
    go_wp2
    exact ⟨.tuple #[.agg #[.slice none 0 0, .slice none 0 0], .int .i64 0, .int .i64 3], by simp [results, Tryz.f9, go_sem, e0, e1], FIN.out⟩
  · have hsI : ¬ ((2048 : Int) < (s.size : Int)) := by omega
    obtain ⟨en, hen⟩ : ∃ en, enOf s = en := ⟨_, rfl⟩
    have hle : en ≤ s.size := by rw [← hen]; exact enOf_le s
    have hscan : Calls Tryz.prog 39 #[.string s] W0 fun e w' => ∃ v pl er, e = .returned (.tuple #[v, .int .i64 pl, .int .i64 er]) ∧ ((en < s.size ∧ pl = (en : Int) ∧ er = 160) ∨ (s.size = en ∧ pl = 0 ∧ er = 0)) ∧ Below W0.heap.size W0 w' := by
      refine (scan_any s W0 (by omega)).mono ?_
      rintro e w' ⟨v, rfl, hb⟩
      refine ⟨v, _, _, rfl, ?_, hb⟩
      rw [show (scan 0 s.data.toList).2 = en from hen]
      by_cases h : en < s.size
      · exact .inl ⟨h, by rw [if_pos h], by rw [if_pos h]⟩
      · exact .inr ⟨by omega, by rw [if_neg h], by rw [if_neg h]⟩
    have HEN := Lib.hid hen
    clear hen
    go_wp2_with fail
    refine hscan.mono ?_
    rintro e W1 ⟨v, pl, er, rfl, hc, b1⟩
    clear hscan
    have bW1 := H.out.2.trans (b1.mono H.out.2.size)
    have kR1 := H.out.1.upd (Upd.of_below b1 (fun _ => False)) id
    have hz1 : w.heap.size + 1 ≤ W1.heap.size := kR1.lt
    have H1 := Lib.hid (And.intro kR1 bW1)
    clear bW1 kR1 b1
    obtain ⟨hd, her⟩ : (er = 160 ∧ en < s.size ∨ er = 0 ∧ en = s.size) ∧ True := ⟨by rcases hc with ⟨a, -, b⟩ | ⟨a, -, b⟩; exact .inl ⟨b, a⟩; exact .inr ⟨b, a.symm⟩, trivial⟩
    have HD := Lib.hid hd
    clear hd her
    rcases hc with ⟨hlt, rfl, rfl⟩ | ⟨hlt, rfl, rfl⟩
    all_goals
      go_upto_region 7 with (fail)
      have kl := Blk.new W1 64 #[.slice none 0 0]
      have b2 : Below W1.heap.size W1 (W1.alloc (.cells #[.slice none 0 0] 64)) := (Below.refl _ _).alloc (Nat.le_refl _) _
      have H2 := Lib.hid (And.intro kl b2)
      clear kl b2
      generalize W1.alloc (.cells #[.slice none 0 0] 64) = W2 at H2 ⊢
      go_wp2_with fail
      refine (all_marks s W2).mono ?_
      rintro e W3 ⟨rfl, rfl⟩
      go_wp2
      have kb := Blk.new W2 9 #[.string s]
      have kl := H2.out.1.alloc (.cells #[.string s] 9)
      have b3 : Below W1.heap.size W1 (W2.alloc (.cells #[.string s] 9)) := H2.out.2.alloc H2.out.2.size _
      have HW := Lib.hid (And.intro kb (And.intro kl b3))
      have hz2 : W1.heap.size + 1 ≤ W2.heap.size := H2.out.1.lt
      have hz3 : W2.heap.size + 1 ≤ (W2.alloc (.cells #[.string s] 9)).heap.size := by simp
      clear kb kl b3
      generalize W2.alloc (.cells #[.string s] 9) = w0 at HW hz3 ⊢
      have hn0 : ∀ v, w0.cell? ⟨W1.heap.size, 0, none⟩ = some v → v = .slice none 0 0 := fun v hv => by
        have := HW.out.2.1.cell 0
        simp only [List.getElem?_toArray, List.getElem?_cons_zero] at this
        rw [this] at hv
        injection hv with hv
        exact hv.symm
      have HN0 := Lib.hid hn0
      clear hn0
      refine wp_range_end 5 (by omega) (gf := 74) (lb := #[.pointer (some ⟨W2.heap.size, 0, none⟩)]) rfl (enters_of Tryz.func74 (by kernel_rfl) rfl)
        (marks_stops (5 - 1) (by omega) W2.heap.size W1.heap.size (fun q => q = W1.heap.size) s (by omega) w0 HW.out.1 HW.out.2.1.lt (fun v q h1 h2 => by rw [HN0.out v h1] at h2; cases h2) (fun q hq => by omega) (fun v h1 => by rw [HN0.out v h1]; simp [Value.ownBlock]))
        KpL.trans (KpL.put HW.out.2.1.lt) (Below.refl _ _) (fun _ => rfl)
        (fun pre W => ∃ v, LstI w0 W W1.heap.size W1.heap.size (valM pre) v) (fun _ _ _ => False)
        ?hI ?hIx ?h0
        (fun T x b => (T.setIfInBounds 30 x.1.agg).setIfInBounds 9 (.pointer (some ⟨b, 0, none⟩)))
        (fun x b W => (∃ v, Blk W W1.heap.size 64 #[v] ∧ v.ownBlock ≠ some b) ∧ Blk W b 72 x.1.cells.toArray ∧ w0.heap.size ≤ b)
        ?hBx ?assign ?body (fun W => ∃ v, LstI w0 W W1.heap.size W1.heap.size (msOf s) v) ?done ?stop ?fine
      case hI =>
        rintro st X Y row ⟨v, h1⟩ hg hr
        exact ⟨v, h1.keep hg hr⟩
      case hIx => exact fun c st X Y row h hg hr => h
      case h0 => exact ⟨_, HW.out.2.1, World.ownsRow_nil _ _ _ _, by simp [Value.ownBlock], Upd.refl _ _⟩
      case hBx =>
        rintro x b st X Y row ⟨⟨v, h1, h2⟩, h3, h4⟩ hg hr
        exact ⟨⟨v, h1.keep hg hr, h2⟩, h3.keep hg hr, h4⟩
      case assign =>
        rintro l pre ⟨⟨q, a, t⟩, hx⟩ W K hi hK
        dsimp only [encM, Mk.agg]
        have HI := Lib.hid hi
        clear hi
        gi_wp2
        obtain ⟨v, h1⟩ := HI.out
        refine hK W.heap.size _ ((KeepsOthers.alloc W _).from _) (KpL.below ((Below.refl _ _).alloc (Nat.le_refl _) _) h1.b.lt) ?_ ⟨⟨v, h1.b.alloc _, fun e => ?_⟩, Blk.new W _ _, h1.u.size⟩
        · exact ⟨v, h1.b.alloc _, h1.own.alloc _, h1.ne, h1.u.alloc _⟩
        · have := (h1.own.lt _ e).2
          omega
      case done =>
        rintro xs W rfl hi
        rw [valM, msL_map] at hi
        exact hi
      case stop => exact fun c pre W _ h => h.elim
      case body =>
        rintro lp pre ⟨⟨q, a, t⟩, hx⟩ b W hlw hrw ⟨v, h1⟩ ⟨⟨v', hb1, hb2⟩, hb3, hb4⟩ hlt3
        obtain rfl : v = v' := by
          have e1 := h1.b.cell 0
          have e2 := hb1.cell 0
          rw [e1] at e2
          simpa using e2
        obtain ⟨v9, W9, happ, kb1, hL, hu, hk⟩ := h1.step ⟨q, a, t⟩ (len_ms hlt3 (Nat.le_trans (msL_le s) (by omega)))
        obtain ⟨A9, c9, hv9, -, -⟩ := own_form hL.own
        generalize (valM pre ++ [(⟨q, a, t⟩ : Mk)]).length = n9 at hv9
        subst hv9
        have c5 : W.cell? ⟨W1.heap.size, 0, none⟩ = some v := h1.b.cell 0
        have m0 : W.cell? ⟨b, 0, none⟩ = some (.int .i64 q) := hb3.cell 0
        have m1 : W.cell? ⟨b, 1, none⟩ = some (.int .i64 a) := hb3.cell 1
        have m2 : W.cell? ⟨b, 2, none⟩ = some (.string (toTxt t)) := hb3.cell 2
        have g5 : W9.cell? ⟨W1.heap.size, 0, none⟩ = some v := kb1.cell 0
        have f5 := kb1.frozen 0
        have hkf : KeepsFrom w0.heap.size W (W9.setCell ⟨W1.heap.size, 0, none⟩ (.slice A9 n9 c9)) := keeps_cells hu (by
          rintro q (rfl | e)
          · exact h1.b.isCells
          · exact own_isCells h1.own e)
        have hk := (show KpL W1.heap.size (fun q => q = W1.heap.size) W _ by simpa only [or_self] using hk)
        have hfin : ∃ v, LstI w0 (W9.setCell ⟨W1.heap.size, 0, none⟩ (.slice A9 n9 c9)) W1.heap.size W1.heap.size (valM (pre ++ [(⟨⟨q, a, t⟩, hx⟩ : {m : Mk // MkOk s.size m})])) v := by
          rw [valM_snoc]
          exact ⟨_, hL⟩
        have HF := Lib.hid (And.intro hkf (And.intro hk hfin))
        clear hkf hk hfin hL hu kb1 hb1 hb2 hb3 h1
        simp only [List.setIfInBounds_toArray, List.set_cons_zero, List.set_cons_succ]
        gi_wp2_with (gi_at_builtin; refine wpListIn_append_run rfl _ _ _ rfl rfl rfl happ ?_)
        exact HF.out
      case fine =>
        intro D W hD hI hd
        obtain ⟨v, h1⟩ := hI
        obtain ⟨A1, c1, hv1, hc1, -⟩ := own_form h1.own
        subst hv1
        have g5 : W.cell? ⟨W1.heap.size, 0, none⟩ = some (.slice A1 (msOf s).length c1) := h1.b.cell 0
        have bW : Below W1.heap.size W1 W := HW.out.2.2.trans (h1.u.below (fun q hq e => by omega) (by omega))
        have kR := H1.out.1.upd (Upd.of_below bW (fun _ => False)) id
        have hread := read_any W A1 c1 (msOf s) en (RowR.of_own h1.own) hc1 (by have := msOf_len s; omega) (by omega)
        obtain ⟨R, hR⟩ : ∃ R, readI (msOf s) en 0 [] [] = R := ⟨_, rfl⟩
        rw [hR] at hread
        have HQ := Lib.hid (And.intro kR (And.intro (H1.out.2.trans (bW.mono H1.out.2.size)) (And.intro hd hR)))
        have hzW : w.heap.size + 1 ≤ W.heap.size := kR.lt
        have hDw : w.heap.size < D := by omega
        clear kR bW hR hd h1
        cases R with
        | bad p =>
          go_wp2_with fail
          refine hread.mono ?_
          rintro e W5 ⟨rfl, b5⟩
          have b6 : Below W.heap.size W (W5.alloc (.cells #[.slice none 0 0, .slice none 0 0] 74)) := b5.alloc b5.size _
          have kR6 := HQ.out.1.upd (Upd.of_below b6 (fun _ => False)) id
          have bw6 := HQ.out.2.1.trans (b6.mono HQ.out.2.1.size)
          have d6 := (b6.block D (Array.getElem?_eq_some_iff.1 HQ.out.2.2.1).1).trans HQ.out.2.2.1
          have q0 : (W5.alloc (.cells #[.slice none 0 0, .slice none 0 0] 74)).cell? ⟨w.heap.size, 0, none⟩ = some (.slice none 0 0) := kR6.cell 0
          have q1 : (W5.alloc (.cells #[.slice none 0 0, .slice none 0 0] 74)).cell? ⟨w.heap.size, 1, none⟩ = some (.slice none 0 0) := kR6.cell 1
          have f0 := kR6.frozen 0
          have f1 := kR6.frozen 1
          obtain ⟨kF, uF⟩ := FL.out _ kR6 (.slice none 0 0) (.slice none 0 0)
          have dF := (uF.block D (Array.getElem?_eq_some_iff.1 d6).1 (by omega)).trans d6
          have gP := grownBy_putObj' ((((W5.alloc (.cells #[.slice none 0 0, .slice none 0 0] 74)).setCell ⟨w.heap.size, 0, none⟩ (.slice none 0 0)).setCell ⟨w.heap.size, 1, none⟩ (.slice none 0 0))) D (.deferred none)
          have kP := kF.grown gP (fun e => by injection e with e; omega)
          have bP := (bw6.trans (uF.below (fun q _ e => by omega) bw6.size)).trans ((Upd.of_grown gP).below (fun q _ e => by injection e with e; omega) (by have := uF.size; have := bw6.size; omega))
          have e0 := kP.cell 0
          have e1 := kP.cell 1
          simp only [List.getElem?_toArray, List.getElem?_cons_succ, List.getElem?_cons_zero] at e0 e1
          have ho : parseO s = ⟨[], [], p, 172⟩ := by rw [parseO, if_neg hs, HEN.out, HQ.out.2.2.2]
          have HE := Lib.hid (And.intro dF (ParseP.bad (w := w) (s := s) (p := p) (z := 172) (by rw [ho]) (by rw [ho]) bP (by rw [ho]) (by rw [ho])))
          clear b5 b6 ho
          clear kF uF kR6 bw6 d6 kP bP gP dF
          go_wp2
          refine leaves_one HE.out.1 ?_
          exact ⟨.tuple #[.agg #[.slice none 0 0, .slice none 0 0], .int .i64 p, .int .i64 172], by simp [results, Tryz.f9, go_sem, e0, e1], HE.out.2⟩
        | good N E =>
          go_wp2_with fail
          refine hread.mono ?_
          rintro e W5 ⟨A2, c2, B2, d2, rfl, o1, o2, b5⟩
          have b6 : Below W.heap.size W (W5.alloc (.cells #[.slice A2 N.length c2, .slice B2 E.length d2] 74)) := b5.alloc b5.size _
          have hfine := read_fine (s := s) HQ.out.2.2.2
          have kT := Blk.new W5 74 #[.slice A2 N.length c2, .slice B2 E.length d2]
          rcases HD.out with ⟨hx, hlen⟩ | ⟨hx, hlen⟩
          · try (exact absurd hx (by decide))
            all_goals
              have kR6 := HQ.out.1.upd (Upd.of_below b6 (fun _ => False)) id
              have bw6 := HQ.out.2.1.trans (b6.mono HQ.out.2.1.size)
              have d6 := (b6.block D (Array.getElem?_eq_some_iff.1 HQ.out.2.2.1).1).trans HQ.out.2.2.1
              have q0 : (W5.alloc (.cells #[.slice A2 N.length c2, .slice B2 E.length d2] 74)).cell? ⟨w.heap.size, 0, none⟩ = some (.slice none 0 0) := kR6.cell 0
              have q1 : (W5.alloc (.cells #[.slice A2 N.length c2, .slice B2 E.length d2] 74)).cell? ⟨w.heap.size, 1, none⟩ = some (.slice none 0 0) := kR6.cell 1
              have f0 := kR6.frozen 0
              have f1 := kR6.frozen 1
              obtain ⟨kF, uF⟩ := FL.out _ kR6 (.slice none 0 0) (.slice none 0 0)
              have dF := (uF.block D (Array.getElem?_eq_some_iff.1 d6).1 (by omega)).trans d6
              have gP := grownBy_putObj' ((((W5.alloc (.cells #[.slice A2 N.length c2, .slice B2 E.length d2] 74)).setCell ⟨w.heap.size, 0, none⟩ (.slice none 0 0)).setCell ⟨w.heap.size, 1, none⟩ (.slice none 0 0))) D (.deferred none)
              have kP := kF.grown gP (fun e => by injection e with e; omega)
              have bP := (bw6.trans (uF.below (fun q _ e => by omega) bw6.size)).trans ((Upd.of_grown gP).below (fun q _ e => by injection e with e; omega) (by have := uF.size; have := bw6.size; omega))
              have e0 := kP.cell 0
              have e1 := kP.cell 1
              simp only [List.getElem?_toArray, List.getElem?_cons_succ, List.getElem?_cons_zero] at e0 e1
              have ho : parseO s = ⟨[], [], en, 172⟩ := by rw [parseO, if_neg hs, HEN.out, HQ.out.2.2.2]; exact if_pos hlen
              have HE := Lib.hid (And.intro dF (ParseP.bad (w := w) (s := s) (p := en) (z := 172) (by rw [ho]) (by rw [ho]) bP (by rw [ho]) (by rw [ho])))
              clear b5 b6 ho o1 o2 kT hfine
              clear kF uF kR6 bw6 d6 kP bP gP dF
              go_wp2
              refine leaves_one HE.out.1 ?_
              exact ⟨.tuple #[.agg #[.slice none 0 0, .slice none 0 0], .int .i64 en, .int .i64 172], by simp [results, Tryz.f9, go_sem, e0, e1], HE.out.2⟩
          · try (exact absurd hx (by decide))
            all_goals
              clear hx
              clear hlen
              have hof : ForG (W5.alloc (.cells #[.slice A2 N.length c2, .slice B2 E.length d2] 74)) A2 c2 B2 d2 N E := ⟨(RowR.of_own o1).below ((Below.refl _ _).alloc (Nat.le_refl _) _), (RowR.of_own o2).below ((Below.refl _ _).alloc (Nat.le_refl _) _), (own_le o1), (own_le o2), fit_fine hfine.1 (by omega) hfine.2.1 hfine.2.2⟩
              have hcon := of_any _ A2 c2 B2 d2 N E hof (by omega)
              have t0 := kT.cell 0
              have t1 := kT.cell 1
              simp only [List.getElem?_toArray, List.getElem?_cons_succ, List.getElem?_cons_zero] at t0 t1
              have H6 := Lib.hid (And.intro b6 hfine)
              clear b5 b6 o1 o2 hof hfine kT
              have ho : parseO s = ⟨ofN N E, ofE N E, 0, ofI N E⟩ := by
                rw [parseO, if_neg hs, HEN.out, HQ.out.2.2.2]
                dsimp only
                rw [if_neg (by omega)]
                unfold ofN ofE
                by_cases h0 : ofI N E = 0
                · rw [if_pos h0, if_pos h0, if_pos h0, h0]
                · rw [if_neg h0, if_neg h0, if_neg h0]
              have HO := Lib.hid ho
              clear ho
              go_wp2_with fail
              refine hcon.mono ?_
              rintro e W7 ⟨A8, c8, B8, d8, rfl, o8, o9, b8⟩
              obtain ⟨n8, hn8⟩ : ∃ n8, (ofN N E).length = n8 := ⟨_, rfl⟩
              obtain ⟨m8, hm8⟩ : ∃ m8, (ofE N E).length = m8 := ⟨_, rfl⟩
              obtain ⟨z8, hz8⟩ : ∃ z8, ofI N E = z8 := ⟨_, rfl⟩
              have k13 := Blk.new W7 25 #[.slice A8 n8 c8, .slice B8 m8 d8]
              have t0 := k13.cell 0
              have t1 := k13.cell 1
              simp only [List.getElem?_toArray, List.getElem?_cons_succ, List.getElem?_cons_zero] at t0 t1
              have b67 := H6.out.1.trans (b8.mono H6.out.1.size)
              have b6 : Below W.heap.size W (W7.alloc (.cells #[.slice A8 n8 c8, .slice B8 m8 d8] 25)) := b67.alloc b67.size _
              have hz13 := k13.lt
              have hz6 := H6.out.1.size
              have kR6 := HQ.out.1.upd (Upd.of_below b6 (fun _ => False)) id
              have bw6 := HQ.out.2.1.trans (b6.mono HQ.out.2.1.size)
              have d6 := (b6.block D (Array.getElem?_eq_some_iff.1 HQ.out.2.2.1).1).trans HQ.out.2.2.1
              have q0 : (W7.alloc (.cells #[.slice A8 n8 c8, .slice B8 m8 d8] 25)).cell? ⟨w.heap.size, 0, none⟩ = some (.slice none 0 0) := kR6.cell 0
              have q1 : (W7.alloc (.cells #[.slice A8 n8 c8, .slice B8 m8 d8] 25)).cell? ⟨w.heap.size, 1, none⟩ = some (.slice none 0 0) := kR6.cell 1
              have f0 := kR6.frozen 0
              have f1 := kR6.frozen 1
              obtain ⟨kF, uF⟩ := FL.out _ kR6 (.slice A8 n8 c8) (.slice B8 m8 d8)
              have dF := (uF.block D (Array.getElem?_eq_some_iff.1 d6).1 (by omega)).trans d6
              have gP := grownBy_putObj' ((((W7.alloc (.cells #[.slice A8 n8 c8, .slice B8 m8 d8] 25)).setCell ⟨w.heap.size, 0, none⟩ (.slice A8 n8 c8)).setCell ⟨w.heap.size, 1, none⟩ (.slice B8 m8 d8))) D (.deferred none)
              have kP := kF.grown gP (fun e => by injection e with e; omega)
              have bP := (bw6.trans (uF.below (fun q _ e => by omega) bw6.size)).trans ((Upd.of_grown gP).below (fun q _ e => by injection e with e; omega) (by have := uF.size; have := bw6.size; omega))
              have e0 := kP.cell 0
              have e1 := kP.cell 1
              simp only [List.getElem?_toArray, List.getElem?_cons_succ, List.getElem?_cons_zero] at e0 e1
              have oA := ownsRow_upd (ownsRow_upd (o8.alloc (.cells #[.slice A8 n8 c8, .slice B8 m8 d8] 25)) uF (fun k hk e => by have := (o8.lt k hk).1; omega)) (Upd.of_grown gP) (fun k hk e => by injection e with e; have := (o8.lt k hk).1; have := (Array.getElem?_eq_some_iff.1 HQ.out.2.2.1).1; omega)
              have oB := ownsRow_upd (ownsRow_upd (o9.alloc (.cells #[.slice A8 n8 c8, .slice B8 m8 d8] 25)) uF (fun k hk e => by have := (o9.lt k hk).1; omega)) (Upd.of_grown gP) (fun k hk e => by injection e with e; have := (o9.lt k hk).1; have := (Array.getElem?_eq_some_iff.1 HQ.out.2.2.1).1; omega)
              have fin : ParseP w s (.returned (.tuple #[.agg #[.slice A8 n8 c8, .slice B8 m8 d8], .int .i64 0, .int .i64 z8])) _ := ⟨A8, c8, B8, d8, by rw [HO.out, hn8, hm8, hz8]; rfl, by rw [HO.out]; exact ownsRow_base oA (fun k hk => by have := (o8.lt k hk).1; omega), by rw [HO.out]; exact ownsRow_base oB (fun k hk => by have := (o9.lt k hk).1; omega), bP⟩
              have HE := Lib.hid (And.intro dF fin)
              rw [hn8, hm8, hz8]
              unfold twoV
              clear o8 o9 oA oB fin b8 b67 b6 hn8 hm8 hz8 k13
              clear kF uF kR6 bw6 d6 kP bP gP dF
              go_wp2
              refine leaves_one HE.out.1 ?_
              exact ⟨.tuple #[.agg #[.slice A8 n8 c8, .slice B8 m8 d8], .int .i64 0, .int .i64 z8], by simp [results, Tryz.f9, go_sem, e0, e1], HE.out.2⟩
end Go.Proofs.YthmkgnifcbnkpaaGreat
