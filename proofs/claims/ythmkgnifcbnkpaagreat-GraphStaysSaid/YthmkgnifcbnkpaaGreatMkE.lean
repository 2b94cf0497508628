/- Marks: marks.Scan. -/
import Derived.Test.YthmkgnifcbnkpaaGreatMkD
namespace Go.Proofs.YthmkgnifcbnkpaaGreat
open Go.RowKit Go.Shelf
attribute [local go_sem] Oper.semAt_some

theorem leaves_one {P : Program} {fn : Func} {tmps : Array Value} {R : Ending → World → Prop} {F : Fence} {n D : Nat} {w : World} (hd : w.heap[D]? = some (.deferred (some [])))
    (hfin : ∃ v, (results fn tmps).run P (w.putObj D (.deferred none)) = .ok v (w.putObj D (.deferred none)) ∧ R (.returned v) (w.putObj D (.deferred none))) : LeavesInM F n P fn tmps R [{ target := .collected D, args := #[] }] .returning w :=
  ⟨by simp, .inl ⟨D, _, rfl, run_takeDeferred hd, hfin⟩⟩

/-- A post that no panic reaches. -/
def noPan (Q : Exit → Act → World → Prop) : Exit → Act → World → Prop
  | .panic _, _, _ => False
  | e, a, w => Q e a w
theorem wp_noPan {P : Program} {c : Code} {Q : Exit → Act → World → Prop} {a : Act} {w : World} (h : c.wp P (noPan Q) a w) : c.wp P Q a w := fun b k cs => by
  obtain ⟨e, a', w', hq, ha⟩ := h b k cs
  refine ⟨e, a', w', ?_, ha⟩
  cases e <;> first | exact hq | exact hq.elim
/-- Where a list of marks ends. -/
def endPl (L : List Mk) : Nat := match L.getLast? with
  | none => 0
  | some m => m.pl + m.tx.length
theorem endPl_snoc (L : List Mk) (m : Mk) : endPl (L ++ [m]) = m.pl + m.tx.length := by simp [endPl]
theorem Led.all (L : List UInt8) : ∀ k, k ≤ (scan 0 L).1.length → Led L k (endPl ((scan 0 L).1.take k))
  | 0, _ => by simpa [endPl] using Led.start L
  | k + 1, hk => by
    have ih := Led.all L k (by omega)
    have hne : (nextL (endPl ((scan 0 L).1.take k)) (L.drop (endPl ((scan 0 L).1.take k)))).kind ≠ 0 := by
      intro h
      have := (ih.done h).1
      omega
    obtain ⟨h1, h2⟩ := ih.more hne
    rw [take_snoc' h1, endPl_snoc]
    exact h2
theorem scan_last (s : Txt) : endPl (scan 0 s.data.toList).1 ≤ s.size ∧ (nextL (endPl (scan 0 s.data.toList).1) (s.data.toList.drop (endPl (scan 0 s.data.toList).1))).pl = (scan 0 s.data.toList).2 := by
  have h := Led.all s.data.toList _ (Nat.le_refl _)
  rw [List.take_length] at h
  have hle := h.le
  rw [size_data] at hle
  refine ⟨hle, ?_⟩
  by_cases hk : (nextL (endPl (scan 0 s.data.toList).1) (s.data.toList.drop (endPl (scan 0 s.data.toList).1))).kind = 0
  · exact (h.done hk).2.symm
  · have := (List.getElem?_eq_some_iff.1 (h.more hk).1).1
    omega
theorem endPl_ok {S : Nat} (L : List {m : Mk // MkOk S m}) : endPl (L.map (·.1)) ≤ S := by
  unfold endPl
  rw [List.getLast?_map]
  cases h : L.getLast? with
  | none => simp
  | some m => simpa using m.2.fit

/-- What Scan tells: the place, the error. -/
def ScanP (w : World) (s : Txt) (e : Ending) (w' : World) : Prop :=
  ∃ v, e = .returned (.tuple #[v, .int .i64 (if (scan 0 s.data.toList).2 < s.size then ((scan 0 s.data.toList).2 : Int) else 0), .int .i64 (if (scan 0 s.data.toList).2 < s.size then 160 else 0)]) ∧ Below w.heap.size w w'
def valM {S : Nat} (L : List {m : Mk // MkOk S m}) : List Mk := L.map (·.1)
theorem valM_snoc {S : Nat} (L : List {m : Mk // MkOk S m}) (x : {m : Mk // MkOk S m}) : valM (L ++ [x]) = valM L ++ [x.1] := by simp [valM]
theorem valM_len {S : Nat} (L : List {m : Mk // MkOk S m}) : (valM L).length = L.length := by simp [valM]
/-- In the midst of Scan's range. -/
structure ScnI (w0 W : World) (lb lat : Nat) (L : List Mk) : Prop where
  l : ∃ v, LstI w0 W lb lat L v
  a : Blk W lat 3 #[.int .i64 (endPl L)]
theorem len_ms {S : Nat} {L : List {m : Mk // MkOk S m}} {N : Nat} (h : L.length < N) (hN : N ≤ 1000000) : ((valM L).length + 1) * 32 ≤ 140737488355328 := by
  rw [valM_len]
  omega
theorem scan_len : ∀ (n p : Nat) (l : List UInt8), l.length ≤ n → (scan p l).1.length ≤ l.length
  | n, p, l, hn => by
    by_cases hk : (nextL p l).kind = 0
    · rw [scan_zero hk]; simp
    · have hf := nextL_fit p l
      rw [scan_more hk]
      generalize nextL p l = m at *
      cases n with
      | zero => omega
      | succ n =>
        have ih := scan_len n (m.pl + m.tx.length) (l.drop (m.pl + m.tx.length - p)) (by rw [List.length_drop]; omega)
        rw [List.length_drop] at ih
        simp only [List.length_cons]
        omega
theorem msL_le (s : Txt) : (msL s).length ≤ s.size := by
  rw [msL_len, ← size_data]
  exact scan_len _ 0 _ (Nat.le_refl _)

set_option maxHeartbeats 4000000 in
set_option maxRecDepth 100000 in
theorem scan_any (s : Txt) (w : World) (hs : s.size ≤ 1000000) : Calls Tryz.prog 39 #[.string s] w (ScanP w s) := by
  have k0 := (Blk.new w 64 #[.slice none 0 0]).alloc (.cells #[.int .i64 0] 3)
  have k1 := Blk.new (w.alloc (.cells #[.slice none 0 0] 64)) 3 #[.int .i64 0]
  simp only [World.size_alloc] at k1
  have u0 : Below w.heap.size w ((w.alloc (.cells #[.slice none 0 0] 64)).alloc (.cells #[.int .i64 0] 3)) := by (repeat (first | exact Below.refl _ _ | apply Below.drew | refine Below.alloc ?_ (by first | exact Nat.le_refl _ | (simp; done) | (simp; omega)) _ | refine Below.setCell ?_ (by first | exact Nat.le_refl _ | (simp; done) | (simp; omega)) _))
  have H := Lib.hid (And.intro k0 (And.intro k1 u0))
  clear k0 k1 u0
  refine (callsIn_wide (n := 5)).1 ?_
  refine callsIn_of_wp_marks Tryz.func39 rfl trivial ?_ rfl
  simp only [Tryz.ntmps39, List.size_toArray, List.length_cons, List.length_nil, Nat.reduceAdd, Nat.reduceSub, Array.replicate_succ, Array.replicate_zero, List.push_toArray, List.append_toArray, List.nil_append, List.cons_append]
  refine wpIn_wide.2 ?_
  go_upto_region 3 with (fail)
  generalize (w.alloc (.cells #[.slice none 0 0] 64)).alloc (.cells #[.int .i64 0] 3) = W0 at H ⊢
  go_wp2_with fail
  refine (all_marks s W0).mono ?_
  rintro e w1 ⟨rfl, rfl⟩
  go_wp2
  have kb := Blk.new W0 9 #[.string s]
  have kl := H.out.1.alloc (.cells #[.string s] 9)
  have ka := H.out.2.1.alloc (.cells #[.string s] 9)
  have uw := H.out.2.2.alloc H.out.2.2.size (.cells #[.string s] 9)
  have hz0 := H.out.2.1.lt
  have hz1 : (W0.alloc (.cells #[.string s] 9)).heap.size = W0.heap.size + 1 := by simp
  have HW := Lib.hid (And.intro kb (And.intro kl (And.intro ka uw)))
  clear kb kl ka uw
  generalize W0.alloc (.cells #[.string s] 9) = w0 at HW hz1 ⊢
  have HZ1 := Lib.hid hz1
  have hz2 : W0.heap.size + 1 ≤ w0.heap.size := by omega
  clear hz1
  have hn0 : ∀ v, w0.cell? ⟨w.heap.size, 0, none⟩ = some v → v = .slice none 0 0 := fun v hv => by
    have := HW.out.2.1.cell 0
    simp only [List.getElem?_toArray, List.getElem?_cons_zero] at this
    rw [this] at hv
    injection hv with hv
    exact hv.symm
  refine wp_range_end 5 (by omega) (gf := 74) (lb := #[.pointer (some ⟨W0.heap.size, 0, none⟩)]) rfl (enters_of Tryz.func74 (by kernel_rfl) rfl)
    (marks_stops (5 - 1) (by omega) W0.heap.size w.heap.size (fun q => q = w.heap.size ∨ q = w.heap.size + 1) s hs w0 HW.out.1 HW.out.2.1.lt (fun v q h1 h2 => by rw [hn0 v h1] at h2; cases h2) (fun q hq => by omega) (fun v h1 => by rw [hn0 v h1]; simp [Value.ownBlock]))
    KpL.trans (KpL.put HW.out.2.1.lt) (Below.refl _ _) (fun _ => rfl)
    (fun pre W => ScnI w0 W w.heap.size (w.heap.size + 1) (valM pre)) (fun _ _ _ => False)
    ?hI ?hIx ?h0
    (fun T x b => (T.setIfInBounds 11 x.1.agg).setIfInBounds 7 (.pointer (some ⟨b, 0, none⟩)))
    (fun x b W => (∃ v, Blk W w.heap.size 64 #[v] ∧ v.ownBlock ≠ some b) ∧ Blk W b 72 x.1.cells.toArray ∧ w0.heap.size ≤ b)
    ?hBx ?assign ?body (fun W => ScnI w0 W w.heap.size (w.heap.size + 1) (scan 0 s.data.toList).1) ?done ?stop ?fine
  case hI =>
    rintro st X Y row ⟨⟨v, h1⟩, h2⟩ hg hr
    exact ⟨⟨v, h1.keep hg hr⟩, h2.keep hg hr⟩
  case hIx => exact fun c st X Y row h hg hr => h
  case h0 => exact ⟨⟨_, HW.out.2.1, World.ownsRow_nil _ _ _ _, by simp [Value.ownBlock], Upd.refl _ _⟩, HW.out.2.2.1⟩
  case hBx =>
    rintro x b st X Y row ⟨⟨v, h1, h2⟩, h3, h4⟩ hg hr
    exact ⟨⟨v, h1.keep hg hr, h2⟩, h3.keep hg hr, h4⟩
  case assign =>
    rintro l pre ⟨⟨q, a, t⟩, hx⟩ W K hi hK
    dsimp only [encM, Mk.agg]
    have HI := Lib.hid hi
    clear hi
    gi_wp2
    obtain ⟨⟨v, h1⟩, h2⟩ := HI.out
    refine hK W.heap.size _ ((KeepsOthers.alloc W _).from _) (KpL.below ((Below.refl _ _).alloc (Nat.le_refl _) _) h1.b.lt) ?_ ⟨⟨v, h1.b.alloc _, fun e => ?_⟩, Blk.new W _ _, h1.u.size⟩
    · exact ⟨⟨v, h1.b.alloc _, h1.own.alloc _, h1.ne, h1.u.alloc _⟩, h2.alloc _⟩
    · have := (h1.own.lt _ e).2
      omega
  case done =>
    rintro xs W rfl hi
    rw [valM, msL_map] at hi
    exact hi
  case stop => exact fun c pre W _ h => h.elim
  case body =>
    rintro lp pre ⟨⟨q, a, t⟩, hx⟩ b W hlw hrw ⟨⟨v, h1⟩, h2⟩ ⟨⟨v', hb1, hb2⟩, hb3, hb4⟩ hlt3
    obtain rfl : v = v' := by
      have e1 := h1.b.cell 0
      have e2 := hb1.cell 0
      rw [e1] at e2
      simpa using e2
    obtain ⟨v9, W1, happ, kb1, hL, hu, hk⟩ := h1.step ⟨q, a, t⟩ (len_ms hlt3 (Nat.le_trans (msL_le s) hs))
    obtain ⟨A9, c9, hv9, -, -⟩ := own_form hL.own
    generalize (valM pre ++ [(⟨q, a, t⟩ : Mk)]).length = n9 at hv9
    subst hv9
    have c5 : W.cell? ⟨w.heap.size, 0, none⟩ = some v := h1.b.cell 0
    have m0 : W.cell? ⟨b, 0, none⟩ = some (.int .i64 q) := hb3.cell 0
    have m1 : W.cell? ⟨b, 1, none⟩ = some (.int .i64 a) := hb3.cell 1
    have m2 : W.cell? ⟨b, 2, none⟩ = some (.string (toTxt t)) := hb3.cell 2
    have g5 : W1.cell? ⟨w.heap.size, 0, none⟩ = some v := kb1.cell 0
    have f5 := kb1.frozen 0
    have kb2 := hb3.upd hu (by rintro (e | e); omega; exact hb2 e)
    have n1 : (W1.setCell ⟨w.heap.size, 0, none⟩ (.slice A9 n9 c9)).cell? ⟨b, 1, none⟩ = some (.int .i64 a) := kb2.cell 1
    have n2 : (W1.setCell ⟨w.heap.size, 0, none⟩ (.slice A9 n9 c9)).cell? ⟨b, 2, none⟩ = some (.string (toTxt t)) := kb2.cell 2
    have kt := h2.upd hu (by rintro (e | e); omega; have := (h1.own.lt _ e).1; omega)
    have g6 := kt.cell 0
    have f6 := kt.frozen 0
    simp only [List.getElem?_toArray, List.getElem?_cons_zero] at g6
    have hsz : (toTxt t).size = t.length := by rw [← size_data]; simp [toTxt]
    have hfit : a + t.length ≤ s.size := hx.fit
    have hwr : IntKind.i64.wrap ((a : Int) + ((toTxt t).size : Int)) = ((a : Int) + (t.length : Int)) := by rw [hsz]; exact IntWalk.i64_in _ (by omega)
    have u3 : Upd (fun q => q = w.heap.size + 1) (W1.setCell ⟨w.heap.size, 0, none⟩ (.slice A9 n9 c9)) ((W1.setCell ⟨w.heap.size, 0, none⟩ (.slice A9 n9 c9)).setCell ⟨w.heap.size + 1, 0, none⟩ (.int .i64 ((a : Int) + (t.length : Int)))) :=
      (Upd.refl (fun q => q = w.heap.size + 1) _).setCell (p := ⟨w.heap.size + 1, 0, none⟩) (.inl rfl) _
    have kb3 := hL.b.upd u3 (by omega)
    have row3 := ownsRow_upd hL.own u3 (fun k hk e => by have := (hL.own.lt k hk).1; omega)
    have hk3 : KpL w.heap.size (fun q => q = w.heap.size ∨ q = w.heap.size + 1) (W1.setCell ⟨w.heap.size, 0, none⟩ (.slice A9 n9 c9)) ((W1.setCell ⟨w.heap.size, 0, none⟩ (.slice A9 n9 c9)).setCell ⟨w.heap.size + 1, 0, none⟩ (.int .i64 ((a : Int) + (t.length : Int)))) :=
      kp_of (hL.b.cell 0) (kb3.cell 0) (u3.mono (fun i _ h => .inl (.inr h))) (fun q hq => (row3.lt q hq).2) (fun k h => .inl h)
    have uA := (hu.mono (F' := fun q => (q = w.heap.size ∨ v.ownBlock = some q) ∨ q = w.heap.size + 1) (fun i _ h => .inl h)).trans u3 (fun i h => .inl (.inr h))
    have hkf : KeepsFrom w0.heap.size W ((W1.setCell ⟨w.heap.size, 0, none⟩ (.slice A9 n9 c9)).setCell ⟨w.heap.size + 1, 0, none⟩ (.int .i64 ((a : Int) + (t.length : Int)))) := keeps_cells uA (by
      rintro q ((rfl | e) | rfl)
      · exact h1.b.isCells
      · exact own_isCells h1.own e
      · exact h2.isCells)
    have hfin : ScnI w0 ((W1.setCell ⟨w.heap.size, 0, none⟩ (.slice A9 n9 c9)).setCell ⟨w.heap.size + 1, 0, none⟩ (.int .i64 ((a : Int) + (t.length : Int)))) w.heap.size (w.heap.size + 1) (valM (pre ++ [(⟨⟨q, a, t⟩, hx⟩ : {m : Mk // MkOk s.size m})])) := by
      rw [valM_snoc]
      refine ⟨⟨_, kb3, row3, hL.ne, hL.u.trans u3 (fun i h => .inl (.inr h))⟩, ?_⟩
      rw [endPl_snoc, Int.natCast_add]
      exact kt.set 0 _
    have HF := Lib.hid (And.intro hkf (And.intro (hk.trans hk3) hfin))
    clear hkf hk hk3 hfin uA kb3 row3 u3 kt kb2 hL hu kb1 hb1 hb2 hb3 h1 h2
    simp only [List.setIfInBounds_toArray, List.set_cons_zero, List.set_cons_succ]
    gi_wp2_with (gi_at_builtin; refine wpListIn_append_run rfl _ _ _ rfl rfl rfl happ ?_)
    exact HF.out
  case fine =>
    intro D W hD hI hd
    obtain ⟨⟨v, h1⟩, h2⟩ := hI
    have hlast := scan_last s
    obtain ⟨p, hp⟩ : ∃ p, endPl (scan 0 s.data.toList).1 = p := ⟨_, rfl⟩
    rw [hp] at h2 hlast
    obtain ⟨en, hen⟩ : ∃ en, (scan 0 s.data.toList).2 = en := ⟨_, rfl⟩
    rw [hen] at hlast
    have g5 : W.cell? ⟨w.heap.size, 0, none⟩ = some v := h1.b.cell 0
    have g6 : W.cell? ⟨w.heap.size + 1, 0, none⟩ = some (.int .i64 p) := h2.cell 0
    have bW := HW.out.2.2.2.trans ((h1.u.below (B := w.heap.size) (fun q _ e => by omega) (by omega)))
    have hcon : ∀ w, Calls Tryz.prog 73 #[.string s, .int .i64 (p : Int)] w fun e w' => ∃ k t, e = .returned (.agg #[.int .i64 k, .int .i64 en, .string t]) ∧ Below w.heap.size w w' := fun w =>
      (next_any s p w hlast.1 hs).mono (by
        rintro e w' ⟨rfl, hb⟩
        unfold Mk.agg
        rw [hlast.2]
        exact ⟨_, _, rfl, hb⟩)
    have HD := Lib.hid (And.intro hd (And.intro bW (And.intro h1 hen)))
    clear hd bW h1 h2 hlast hp hen
    go_wp2_with fail
    refine (hcon W).mono ?_
    rintro e w5 ⟨k, t, rfl, b5⟩
    have kb5 := Blk.new w5 72 #[.int .i64 k, .int .i64 en, .string t]
    have b6 : Below W.heap.size W (w5.alloc (.cells #[.int .i64 k, .int .i64 en, .string t] 72)) := b5.alloc b5.size _
    have q1 := kb5.cell 1
    simp only [List.getElem?_toArray, List.getElem?_cons_succ, List.getElem?_cons_zero] at q1
    have d6 := (b6.block D (Array.getElem?_eq_some_iff.1 HD.out.1).1).trans HD.out.1
    have l6 := HD.out.2.2.1.b.upd (Upd.of_below b6 (fun _ => False)) id
    have g7 := l6.cell 0
    simp only [List.getElem?_toArray, List.getElem?_cons_zero] at g7
    have bw6 := HD.out.2.1.trans (b6.mono HD.out.2.1.size)
    have hDw : w.heap.size ≤ D := by omega
    have bG := bw6.trans ((Upd.of_grown (grownBy_putObj' (w5.alloc (.cells #[.int .i64 k, .int .i64 en, .string t] 72)) D (.deferred none))).below (fun q _ e => by injection e with e; omega) bw6.size)
    have HE := Lib.hid (And.intro d6 bG)
    clear kb5 b6 d6 l6 bw6 bG b5
    by_cases hlt : en < s.size
    · have hltI : (en : Int) < (s.size : Int) := by omega
      have FIN : ∀ v w', w' = (w5.alloc (.cells #[.int .i64 k, .int .i64 en, .string t] 72)).drew.putObj D (.deferred none) → ScanP w s (.returned (.tuple #[v, .int .i64 en, .int .i64 160])) w' := fun v w' e => by
        subst e
        refine ⟨v, ?_, HE.out.2.drew⟩
        rw [HD.out.2.2.2, if_pos hlt, if_pos hlt]
      have HFI := Lib.hid FIN
      clear FIN
      go_upto_region 9 with (fail)
      refine wp_noPan ?_
      refine wp_region_ord (fun w' => w'.cell? ⟨w5.heap.size, 1, none⟩ = some (.int .i64 en)) 5 [(0, true), (1, true), (2, true), (3, true), (4, true)] (by kernel_rfl) (by kernel_rfl) (fun _ _ _ _ _ h => h.elim) q1 ?_
      iterate 5 (refine ord_take (v := ?_) rfl (by first | with_reducible rfl | kernel_rfl) ?_ ?_; rotate_left; (focus (intro wS hS; (try dsimp only at hS); go_split_ands; go_simp; (try with_reducible rfl); done)); (try simp only [Act.put, List.getElem_toArray, List.getElem_cons_succ, List.getElem_cons_zero, List.setIfInBounds_toArray, List.set_cons_zero, List.set_cons_succ]))
      refine ord_done ?_
      dsimp only [noPan]
      go_wp2
      refine leaves_one HE.out.1 ?_
      exact ⟨.tuple #[.slice none 0 0, .int .i64 en, .int .i64 160], by simp [results, Tryz.f39, go_sem], HFI.out _ _ rfl⟩
    · have hltI : ¬ ((en : Int) < (s.size : Int)) := by omega
      have FIN : ∀ v w', w' = (w5.alloc (.cells #[.int .i64 k, .int .i64 en, .string t] 72)).putObj D (.deferred none) → ScanP w s (.returned (.tuple #[v, .int .i64 0, .int .i64 0])) w' := fun v w' e => by
        subst e
        refine ⟨v, ?_, HE.out.2⟩
        rw [HD.out.2.2.2, if_neg hlt, if_neg hlt]
      have HFI := Lib.hid FIN
      clear FIN
      go_wp2
      refine leaves_one HE.out.1 ?_
      exact ⟨.tuple #[v, .int .i64 0, .int .i64 0], by simp [results, Tryz.f39, go_sem], HFI.out _ _ rfl⟩
end Go.Proofs.YthmkgnifcbnkpaaGreat
