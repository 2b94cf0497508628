/- Forests: trim.Ends, trim.Trim, trim.Reach. -/
import Derived.Test.YtbppbgdmoihooaaTsD
namespace Go.Proofs.Ytbppbgdmoihooaa
open Go.RowKit

/-- A forest comes back, and no error. -/
def ForT (w : World) (S : List Fct) (P : List Pk) (e : Ending) (w' : World) : Prop :=
  ∃ A c B d, e = .returned (.tuple #[forV A S.length c B P.length d, .int .i64 0]) ∧ RowR w' A (factCells S) ∧ RowR w' B (packCells P) ∧ S.length ≤ c ∧ P.length ≤ d ∧ Below w.heap.size w w'
def BoolsT (w : World) (I : List Bool) (e : Ending) (w' : World) : Prop := ∃ g, e = .returned (.tuple #[.slice (some ⟨g, 0, none⟩) I.length I.length, .int .i64 0]) ∧ Blk w' g 4 (bools I) ∧ w.heap.size ≤ g ∧ Below w.heap.size w w'

set_option maxHeartbeats 1000000 in
set_option maxRecDepth 20000 in
theorem tends_yes (w : World) (A : Option Addr) (c : Nat) (B : Option Addr) (d : Nat) (S : List Fct) (P : List Pk) (T : List Int) (h : ForR w A c B d S P) (ho : OkFor S P) (hT : Settled P S.length T) : Calls Try.prog 42 #[forV A S.length c B P.length d] w (BoolsT w (endsB T)) := by
  have k0 := Blk.new w 75 #[.slice A S.length c, .slice B P.length d]
  have u0 : Below w.heap.size w (w.alloc (.cells #[.slice A S.length c, .slice B P.length d] 75)) := (Below.refl _ _).alloc (Nat.le_refl _) _
  have H := Lib.hid (And.intro h (And.intro k0 (And.intro u0 hT)))
  clear h k0 u0 hT
  go_enter Try.func42, Try.ntmps42
  unfold forV
  go_upto_region 1 with (fail)
  generalize w.alloc (.cells #[.slice A S.length c, .slice B P.length d] 75) = W0 at H ⊢
  have q0 : W0.cell? ⟨w.heap.size, 0, none⟩ = some (.slice A S.length c) := H.out.2.1.cell 0
  have q1 : W0.cell? ⟨w.heap.size, 1, none⟩ = some (.slice B P.length d) := H.out.2.1.cell 1
  go_wp2_with fail
  refine (check_yes W0 A c B d S P (H.out.1.below H.out.2.2.1) ho).mono ?_
  rintro e w1 ⟨rfl, b1⟩
  have k1 := H.out.2.1.upd (Upd.of_below b1 (fun _ => False)) id
  have q2 : w1.cell? ⟨w.heap.size, 0, none⟩ = some (.slice A S.length c) := k1.cell 0
  have q3 : w1.cell? ⟨w.heap.size, 1, none⟩ = some (.slice B P.length d) := k1.cell 1
  have HC := Lib.hid (H.out.2.2.1.trans (b1.mono H.out.2.2.1.size))
  clear b1 q0 q1 k1
  go_wp2_with fail
  refine (ends_any w1 A c B d S P T (H.out.1.below HC.out) ho H.out.2.2.2).mono ?_
  rintro e w2 ⟨g, rfl, hg, hz, b2⟩
  have fin : BoolsT w (endsB T) (.returned (.tuple #[.slice (some ⟨g, 0, none⟩) (endsB T).length (endsB T).length, .int .i64 0])) w2 := ⟨g, rfl, hg, Nat.le_trans HC.out.size hz, HC.out.trans (b2.mono HC.out.size)⟩
  have FIN := Lib.hid fin
  clear fin hg hz b2 q2 q3
  go_wp2
  go_ret2
  exact FIN.out

set_option maxHeartbeats 1000000 in
set_option maxRecDepth 20000 in
theorem ttrim_no (w : World) (A : Option Addr) (c : Nat) (B : Option Addr) (d : Nat) (S : List Fct) (P : List Pk) (h : ForR w A c B d S P) (ho : ¬ OkFor S P) :
    Calls Try.prog 29 #[forV A S.length c B P.length d] w (Sam w (.tuple #[.agg #[.slice none 0 0, .slice none 0 0], .int .i64 320])) := by
  have k0 := (Blk.new w 75 #[.slice A S.length c, .slice B P.length d]).alloc (.cells #[.slice none 0 0, .slice none 0 0] 75)
  have k1 := Blk.new (w.alloc (.cells #[.slice A S.length c, .slice B P.length d] 75)) 75 #[.slice none 0 0, .slice none 0 0]
  simp only [World.size_alloc] at k1
  have u0 : Below w.heap.size w ((w.alloc (.cells #[.slice A S.length c, .slice B P.length d] 75)).alloc (.cells #[.slice none 0 0, .slice none 0 0] 75)) := ((Below.refl _ _).alloc (Nat.le_refl _) _).alloc (by simp) _
  have H := Lib.hid (And.intro h (And.intro k0 (And.intro k1 u0)))
  clear h k0 k1 u0
  go_enter Try.func29, Try.ntmps29
  unfold forV
  go_upto_region 1 with (fail)
  generalize (w.alloc (.cells #[.slice A S.length c, .slice B P.length d] 75)).alloc (.cells #[.slice none 0 0, .slice none 0 0] 75) = W0 at H ⊢
  have q0 : W0.cell? ⟨w.heap.size, 0, none⟩ = some (.slice A S.length c) := H.out.2.1.cell 0
  have q1 : W0.cell? ⟨w.heap.size, 1, none⟩ = some (.slice B P.length d) := H.out.2.1.cell 1
  go_wp2_with fail
  refine (tends_no W0 A c B d S P (H.out.1.below H.out.2.2.2) ho).mono ?_
  rintro e w1 ⟨rfl, b1⟩
  have k1 := H.out.2.2.1.upd (Upd.of_below b1 (fun _ => False)) id
  have c0 := k1.cell 0
  have c1 := k1.cell 1
  have f0 := k1.frozen 0
  have f1 := k1.frozen 1
  simp only [List.getElem?_toArray, List.getElem?_cons_succ, List.getElem?_cons_zero] at c0 c1
  have kF := (k1.set 0 (.slice none 0 0)).set 1 (.slice none 0 0)
  have e0 := kF.cell 0
  have e1 := kF.cell 1
  simp only [List.setIfInBounds_toArray, List.set_cons_zero, List.set_cons_succ, List.getElem?_toArray, List.getElem?_cons_succ, List.getElem?_cons_zero] at e0 e1
  have bF : Below w.heap.size w ((w1.setCell ⟨w.heap.size + 1, 0, none⟩ (.slice none 0 0)).setCell ⟨w.heap.size + 1, 1, none⟩ (.slice none 0 0)) := ((H.out.2.2.2.trans (b1.mono H.out.2.2.2.size)).setCell (p := ⟨w.heap.size + 1, 0, none⟩) (by show w.heap.size ≤ w.heap.size + 1; omega) _).setCell (p := ⟨w.heap.size + 1, 1, none⟩) (by show w.heap.size ≤ w.heap.size + 1; omega) _
  have HF := Lib.hid (And.intro e0 (And.intro e1 bF))
  clear e0 e1 bF kF k1 b1 q0 q1
  go_wp2
  obtain ⟨e0, e1, bF⟩ := HF.out
  exact bodyPost_ret (v := .tuple #[.agg #[.slice none 0 0, .slice none 0 0], .int .i64 320]) (by simp [results, Try.f29, go_sem, e0, e1]) rfl ⟨rfl, bF⟩

set_option maxHeartbeats 1000000 in
set_option maxRecDepth 20000 in
theorem treach_bad (w : World) (A : Option Addr) (c : Nat) (B : Option Addr) (d : Nat) (S : List Fct) (P : List Pk) (spot : Int) (h : ForR w A c B d S P) (ho : ¬ OkFor S P) :
    Calls Try.prog 31 #[forV A S.length c B P.length d, .int .i64 spot] w (Sam w (.tuple #[.agg #[.slice none 0 0, .slice none 0 0], .int .i64 320])) := by
  have k0 := (Blk.new w 75 #[.slice A S.length c, .slice B P.length d]).alloc (.cells #[.slice none 0 0, .slice none 0 0] 75)
  have k1 := Blk.new (w.alloc (.cells #[.slice A S.length c, .slice B P.length d] 75)) 75 #[.slice none 0 0, .slice none 0 0]
  simp only [World.size_alloc] at k1
  have u0 : Below w.heap.size w ((w.alloc (.cells #[.slice A S.length c, .slice B P.length d] 75)).alloc (.cells #[.slice none 0 0, .slice none 0 0] 75)) := ((Below.refl _ _).alloc (Nat.le_refl _) _).alloc (by simp) _
  have H := Lib.hid (And.intro h (And.intro k0 (And.intro k1 u0)))
  clear h k0 k1 u0
  go_enter Try.func31, Try.ntmps31
  unfold forV
  go_upto_region 1 with (fail)
  generalize (w.alloc (.cells #[.slice A S.length c, .slice B P.length d] 75)).alloc (.cells #[.slice none 0 0, .slice none 0 0] 75) = W0 at H ⊢
  have q0 : W0.cell? ⟨w.heap.size, 0, none⟩ = some (.slice A S.length c) := H.out.2.1.cell 0
  have q1 : W0.cell? ⟨w.heap.size, 1, none⟩ = some (.slice B P.length d) := H.out.2.1.cell 1
  go_wp2_with fail
  refine (asked_bad W0 A c B d S P spot (H.out.1.below H.out.2.2.2) ho).mono ?_
  rintro e w1 ⟨rfl, b1⟩
  have k1 := H.out.2.2.1.upd (Upd.of_below b1 (fun _ => False)) id
  have c0 := k1.cell 0
  have c1 := k1.cell 1
  have f0 := k1.frozen 0
  have f1 := k1.frozen 1
  simp only [List.getElem?_toArray, List.getElem?_cons_succ, List.getElem?_cons_zero] at c0 c1
  have kF := (k1.set 0 (.slice none 0 0)).set 1 (.slice none 0 0)
  have e0 := kF.cell 0
  have e1 := kF.cell 1
  simp only [List.setIfInBounds_toArray, List.set_cons_zero, List.set_cons_succ, List.getElem?_toArray, List.getElem?_cons_succ, List.getElem?_cons_zero] at e0 e1
  have bF : Below w.heap.size w ((w1.setCell ⟨w.heap.size + 1, 0, none⟩ (.slice none 0 0)).setCell ⟨w.heap.size + 1, 1, none⟩ (.slice none 0 0)) := ((H.out.2.2.2.trans (b1.mono H.out.2.2.2.size)).setCell (p := ⟨w.heap.size + 1, 0, none⟩) (by show w.heap.size ≤ w.heap.size + 1; omega) _).setCell (p := ⟨w.heap.size + 1, 1, none⟩) (by show w.heap.size ≤ w.heap.size + 1; omega) _
  have HF := Lib.hid (And.intro e0 (And.intro e1 bF))
  clear e0 e1 bF kF k1 b1 q0 q1
  go_wp2
  obtain ⟨e0, e1, bF⟩ := HF.out
  exact bodyPost_ret (v := .tuple #[.agg #[.slice none 0 0, .slice none 0 0], .int .i64 320]) (by simp [results, Try.f31, go_sem, e0, e1]) rfl ⟨rfl, bF⟩

set_option maxHeartbeats 2000000 in
set_option maxRecDepth 20000 in
theorem ttrim_yes (w : World) (A : Option Addr) (c : Nat) (B : Option Addr) (d : Nat) (S : List Fct) (P : List Pk) (T : List Int) (h : ForR w A c B d S P) (ho : OkFor S P) (hT : Settled P S.length T) :
    Calls Try.prog 29 #[forV A S.length c B P.length d] w (ForT w (cutS S (endsB T)) (cutP P (endsB T))) := by
  have HT := Lib.hid hT
  clear hT
  have k0 := (Blk.new w 75 #[.slice A S.length c, .slice B P.length d]).alloc (.cells #[.slice none 0 0, .slice none 0 0] 75)
  have k1 := Blk.new (w.alloc (.cells #[.slice A S.length c, .slice B P.length d] 75)) 75 #[.slice none 0 0, .slice none 0 0]
  simp only [World.size_alloc] at k1
  have u0 : Below w.heap.size w ((w.alloc (.cells #[.slice A S.length c, .slice B P.length d] 75)).alloc (.cells #[.slice none 0 0, .slice none 0 0] 75)) := ((Below.refl _ _).alloc (Nat.le_refl _) _).alloc (by simp) _
  have H := Lib.hid (And.intro h (And.intro k0 (And.intro k1 u0)))
  clear h k0 k1 u0
  go_enter Try.func29, Try.ntmps29
  unfold forV
  go_upto_region 1 with (fail)
  generalize (w.alloc (.cells #[.slice A S.length c, .slice B P.length d] 75)).alloc (.cells #[.slice none 0 0, .slice none 0 0] 75) = W0 at H ⊢
  have q0 : W0.cell? ⟨w.heap.size, 0, none⟩ = some (.slice A S.length c) := H.out.2.1.cell 0
  have q1 : W0.cell? ⟨w.heap.size, 1, none⟩ = some (.slice B P.length d) := H.out.2.1.cell 1
  go_wp2_with fail
  refine (tends_yes W0 A c B d S P T (H.out.1.below H.out.2.2.2) ho HT.out).mono ?_
  rintro e w1 ⟨g, rfl, hg, hz, b1⟩
  have k1 := H.out.2.1.upd (Upd.of_below b1 (fun _ => False)) id
  have q2 : w1.cell? ⟨w.heap.size, 0, none⟩ = some (.slice A S.length c) := k1.cell 0
  have q3 : w1.cell? ⟨w.heap.size, 1, none⟩ = some (.slice B P.length d) := k1.cell 1
  have hl : (endsB T).length = S.length := by rw [endsB_len, HT.out.len]
  have k2 := H.out.2.2.1.upd (Upd.of_below b1 (fun _ => False)) id
  obtain ⟨I, hIe⟩ : ∃ I, endsB T = I := ⟨_, rfl⟩
  rw [hIe] at hg hl ⊢
  rw [hl]
  have HC := Lib.hid (And.intro (H.out.2.2.2.trans (b1.mono H.out.2.2.2.size)) (And.intro hg (And.intro hl k2)))
  have k3w := Lib.hid k2
  have HIe := Lib.hid hIe
  clear b1 q0 q1 k1 hg hz hl k2 hIe
  go_wp2_with fail
  refine (cut_any w1 A c B d S P I g (H.out.1.below HC.out.1) (fun p hp => by obtain ⟨i, hi⟩ := List.mem_iff_getElem?.1 hp; exact ho.p.1 i p (List.getElem?_eq_some_iff.1 hi).1 hi) HC.out.2.2.1 HC.out.2.1).mono ?_
  rintro e w3 ⟨A1, c1, A2, c2, rfl, own1, own2, b3⟩
  have k3w := k3w.out
  have k3 := HC.out.2.2.2.upd (Upd.of_below b3 (fun _ => False)) id
  have bb3 := HC.out.1.trans (b3.mono HC.out.1.size)
  have c0 : w3.cell? ⟨w.heap.size + 1, 0, none⟩ = some (.slice none 0 0) := k3.cell 0
  have c1' : w3.cell? ⟨w.heap.size + 1, 1, none⟩ = some (.slice none 0 0) := k3.cell 1
  have f0 := k3.frozen 0
  have f1 := k3.frozen 1
  have kF := (k3.set 0 (.slice A1 (cutS S I).length c1)).set 1 (.slice A2 (cutP P I).length c2)
  have e0 := kF.cell 0
  have e1 := kF.cell 1
  simp only [List.setIfInBounds_toArray, List.set_cons_zero, List.set_cons_succ, List.getElem?_toArray, List.getElem?_cons_succ, List.getElem?_cons_zero] at e0 e1
  have V : Upd (fun q => q = w.heap.size + 1) w3 ((w3.setCell ⟨w.heap.size + 1, 0, none⟩ (.slice A1 (cutS S I).length c1)).setCell ⟨w.heap.size + 1, 1, none⟩ (.slice A2 (cutP P I).length c2)) := ((Upd.refl (fun q => q = w.heap.size + 1) w3).setCell (p := ⟨w.heap.size + 1, 0, none⟩) (.inl rfl) _).setCell (p := ⟨w.heap.size + 1, 1, none⟩) (.inl rfl) _
  have fin : ForT w (cutS S I) (cutP P I) (.returned (.tuple #[forV A1 (cutS S I).length c1 A2 (cutP P I).length c2, .int .i64 0])) ((w3.setCell ⟨w.heap.size + 1, 0, none⟩ (.slice A1 (cutS S I).length c1)).setCell ⟨w.heap.size + 1, 1, none⟩ (.slice A2 (cutP P I).length c2)) := by
    have z3 := k3w.lt
    obtain ⟨_, _, e, hc1, -⟩ := own_form own1
    injection e with _ _ e
    subst e
    obtain ⟨_, _, e, hc2, -⟩ := own_form own2
    injection e with _ _ e
    subst e
    exact ⟨A1, c1, A2, c2, rfl, RowR.of_own (ownsRow_upd own1 V (fun q hq e => by have := (own1.lt q hq).1; omega)), RowR.of_own (ownsRow_upd own2 V (fun q hq e => by have := (own2.lt q hq).1; omega)), hc1, hc2, bb3.trans (V.below (fun q _ e => by omega) bb3.size)⟩
  have FIN := Lib.hid fin
  have HE := Lib.hid (And.intro e0 e1)
  clear fin V kF k3 k3w own1 own2 b3 bb3 e0 e1 q2 q3
  unfold forV
  go_wp2
  obtain ⟨e0, e1⟩ := HE.out
  exact bodyPost_ret (v := .tuple #[forV A1 (cutS S I).length c1 A2 (cutP P I).length c2, .int .i64 0]) (by simp [results, Try.f29, go_sem, forV, e0, e1]) rfl (by rw [HIe.out]; exact FIN.out)

set_option maxHeartbeats 2000000 in
set_option maxRecDepth 20000 in
theorem treach_yes (w : World) (A : Option Addr) (c : Nat) (B : Option Addr) (d : Nat) (S : List Fct) (P : List Pk) (s : Nat) (h : ForR w A c B d S P) (ho : OkFor S P) (hs : s < S.length) :
    Calls Try.prog 31 #[forV A S.length c B P.length d, .int .i64 (s : Int)] w (fun e w' => ∃ I, RchB P (fun x => x = (s : Int)) S.length I ∧ ForT w (cutS S I) (cutP P I) e w') := by
  have hP : ∀ p ∈ P, PkIn S.length p := fun p hp => by obtain ⟨i, hi⟩ := List.mem_iff_getElem?.1 hp; exact ho.pk hi
  have HP := Lib.hid hP
  clear hP
  have k0 := (Blk.new w 75 #[.slice A S.length c, .slice B P.length d]).alloc (.cells #[.slice none 0 0, .slice none 0 0] 75)
  have k1 := Blk.new (w.alloc (.cells #[.slice A S.length c, .slice B P.length d] 75)) 75 #[.slice none 0 0, .slice none 0 0]
  simp only [World.size_alloc] at k1
  have u0 : Below w.heap.size w ((w.alloc (.cells #[.slice A S.length c, .slice B P.length d] 75)).alloc (.cells #[.slice none 0 0, .slice none 0 0] 75)) := ((Below.refl _ _).alloc (Nat.le_refl _) _).alloc (by simp) _
  have H := Lib.hid (And.intro h (And.intro k0 (And.intro k1 u0)))
  clear h k0 k1 u0
  go_enter Try.func31, Try.ntmps31
  unfold forV
  go_upto_region 1 with (fail)
  generalize (w.alloc (.cells #[.slice A S.length c, .slice B P.length d] 75)).alloc (.cells #[.slice none 0 0, .slice none 0 0] 75) = W0 at H ⊢
  have q0 : W0.cell? ⟨w.heap.size, 0, none⟩ = some (.slice A S.length c) := H.out.2.1.cell 0
  have q1 : W0.cell? ⟨w.heap.size, 1, none⟩ = some (.slice B P.length d) := H.out.2.1.cell 1
  go_wp2_with fail
  refine (asked_ok W0 A c B d S P (s : Int) (H.out.1.below H.out.2.2.2) ho ⟨by omega, by omega⟩).mono ?_
  rintro e w1 ⟨rfl, b1⟩
  have k1 := H.out.2.1.upd (Upd.of_below b1 (fun _ => False)) id
  have k2 := H.out.2.2.1.upd (Upd.of_below b1 (fun _ => False)) id
  have up : ∀ w', Below w1.heap.size w1 w' → w'.cell? ⟨w.heap.size, 0, none⟩ = some (.slice A S.length c) ∧ w'.cell? ⟨w.heap.size, 1, none⟩ = some (.slice B P.length d) := fun w' hb => by
    have hk := k1.upd (Upd.of_below hb (fun _ => False)) id
    exact ⟨hk.cell 0, hk.cell 1⟩
  have UP := Lib.hid up
  have HC := Lib.hid (And.intro (H.out.2.2.2.trans (b1.mono H.out.2.2.2.size)) (And.intro k1 k2))
  clear b1 q0 q1 k1 k2 up
  go_wp2
  refine wp_region_ord (fun w' => w'.cell? ⟨w.heap.size, 0, none⟩ = some (.slice A S.length c) ∧ w'.cell? ⟨w.heap.size, 1, none⟩ = some (.slice B P.length d)) 7 [(0, true), (1, true), (2, true), (3, false), (4, false), (5, false), (6, true)] (by kernel_rfl) (by kernel_rfl) (fun _ _ d _ _ h => by cases d <;> exact h) (UP.out _ (Below.refl _ _).drew) ?_
  iterate 3 (refine ord_take (v := ?_) rfl (by first | with_reducible rfl | kernel_rfl) ?_ ?_; rotate_left; (focus (intro wS hS; (try dsimp only at hS); go_split_ands; go_simp; (try with_reducible rfl); done)); (try simp only [Act.put, List.getElem_toArray, List.getElem_cons_succ, List.getElem_cons_zero, List.setIfInBounds_toArray, List.set_cons_zero, List.set_cons_succ]))
  refine ord_do rfl rfl (fun K hK => ?_)
  go_simp
  refine (from_any _ A c B d S P s (H.out.1.below (HC.out.1.trans ((Below.refl w1.heap.size w1).drew.mono HC.out.1.size))) HP.out hs).mono ?_
  rintro e w2 ⟨I, ⟨g, rfl, hg, hz, b2⟩, hR⟩
  have b12 : Below w1.heap.size w1 w2 := (Below.refl w1.heap.size w1).drew.trans b2
  refine hK _ _ (fun _ => UP.out _ b12) ?_
  clear hK K
  (try simp only [Act.put, List.getElem_toArray, List.getElem_cons_succ, List.getElem_cons_zero, List.setIfInBounds_toArray, List.set_cons_zero, List.set_cons_succ])
  rw [hR.len]
  have HI := Lib.hid (And.intro hg (And.intro hR (And.intro (HC.out.1.trans (b12.mono HC.out.1.size)) (And.intro (HC.out.2.2.upd (Upd.of_below b12 (fun _ => False)) id) b12))))
  clear hg hR hz b2 b12
  refine ord_do rfl rfl (fun K hK => ?_)
  go_simp
  refine (cut_any w2 A c B d S P I g (H.out.1.below HI.out.2.2.1) (fun p hp => by obtain ⟨i, hi⟩ := List.mem_iff_getElem?.1 hp; exact ho.p.1 i p (List.getElem?_eq_some_iff.1 hi).1 hi) HI.out.2.1.len HI.out.1).mono ?_
  rintro e w3 ⟨A1, c1, A2, c2, rfl, own1, own2, b3⟩
  have k3w := HI.out.2.2.2.1
  have k3 := k3w.upd (Upd.of_below b3 (fun _ => False)) id
  have b13 := HI.out.2.2.2.2.trans (b3.mono HI.out.2.2.2.2.size)
  have bb3 := HI.out.2.2.1.trans (b3.mono HI.out.2.2.1.size)
  refine hK _ _ (fun _ => UP.out _ b13) ?_
  clear hK K
  (try simp only [Act.put, List.getElem_toArray, List.getElem_cons_succ, List.getElem_cons_zero, List.setIfInBounds_toArray, List.set_cons_zero, List.set_cons_succ])
  have c0 : w3.cell? ⟨w.heap.size + 1, 0, none⟩ = some (.slice none 0 0) := k3.cell 0
  have c1' : w3.cell? ⟨w.heap.size + 1, 1, none⟩ = some (.slice none 0 0) := k3.cell 1
  have f0 := k3.frozen 0
  have f1 := k3.frozen 1
  have kF := (k3.set 0 (.slice A1 (cutS S I).length c1)).set 1 (.slice A2 (cutP P I).length c2)
  have e0 := kF.cell 0
  have e1 := kF.cell 1
  simp only [List.setIfInBounds_toArray, List.set_cons_zero, List.set_cons_succ, List.getElem?_toArray, List.getElem?_cons_succ, List.getElem?_cons_zero] at e0 e1
  have V : Upd (fun q => q = w.heap.size + 1) w3 ((w3.setCell ⟨w.heap.size + 1, 0, none⟩ (.slice A1 (cutS S I).length c1)).setCell ⟨w.heap.size + 1, 1, none⟩ (.slice A2 (cutP P I).length c2)) := ((Upd.refl (fun q => q = w.heap.size + 1) w3).setCell (p := ⟨w.heap.size + 1, 0, none⟩) (.inl rfl) _).setCell (p := ⟨w.heap.size + 1, 1, none⟩) (.inl rfl) _
  have fin : ForT w (cutS S I) (cutP P I) (.returned (.tuple #[forV A1 (cutS S I).length c1 A2 (cutP P I).length c2, .int .i64 0])) ((w3.setCell ⟨w.heap.size + 1, 0, none⟩ (.slice A1 (cutS S I).length c1)).setCell ⟨w.heap.size + 1, 1, none⟩ (.slice A2 (cutP P I).length c2)) := by
    have z3 := k3w.lt
    obtain ⟨_, _, e, hc1, -⟩ := own_form own1
    injection e with _ _ e
    subst e
    obtain ⟨_, _, e, hc2, -⟩ := own_form own2
    injection e with _ _ e
    subst e
    exact ⟨A1, c1, A2, c2, rfl, RowR.of_own (ownsRow_upd own1 V (fun q hq e => by have := (own1.lt q hq).1; omega)), RowR.of_own (ownsRow_upd own2 V (fun q hq e => by have := (own2.lt q hq).1; omega)), hc1, hc2, bb3.trans (V.below (fun q _ e => by omega) bb3.size)⟩
  have kE := HC.out.2.1.upd (Upd.of_below b13 (fun _ => False)) id
  have kE2 := kE.upd V (by omega)
  have FIN := Lib.hid (And.intro HI.out.2.1 fin)
  have HE := Lib.hid (And.intro e0 (And.intro e1 kE2))
  clear fin V kF k3 k3w own1 own2 b3 bb3 b13 e0 e1 kE kE2
  refine ord_do rfl rfl (fun K hK => ?_)
  unfold forV
  go_simp
  refine hK _ _ (fun _ => ⟨HE.out.2.2.cell 0, HE.out.2.2.cell 1⟩) ?_
  clear hK K
  (refine ord_take (v := ?_) rfl (by first | with_reducible rfl | kernel_rfl) ?_ ?_; rotate_left; (focus (intro wS hS; (try dsimp only at hS); go_split_ands; go_simp; (try with_reducible rfl); done)); (try simp only [Act.put, List.getElem_toArray, List.getElem_cons_succ, List.getElem_cons_zero, List.setIfInBounds_toArray, List.set_cons_zero, List.set_cons_succ]))
  refine ord_done ?_
  go_wp2
  obtain ⟨e0, e1, -⟩ := HE.out
  exact bodyPost_ret (v := .tuple #[forV A1 (cutS S I).length c1 A2 (cutP P I).length c2, .int .i64 0]) (by simp [results, Try.f31, go_sem, forV, e0, e1]) rfl ⟨I, FIN.out⟩
end Go.Proofs.Ytbppbgdmoihooaa
