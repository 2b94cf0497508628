/- Forests (bywaylaw22): the calls whose answers are fixed; the walk of SppfChecks. -/
import Derived.Test.YtlgpjgplgpgkiaaGreatDoorTrH
import Derived.WalkMore
namespace Go.Proofs.YtlgpjgplgpgkiaaGreatDoor
open Go.RowKit

def Sam (w : World) (v : Value) (e : Ending) (w' : World) : Prop := e = .returned v ∧ Below w.heap.size w w'

theorem check_yes (w : World) (A : Option Addr) (c : Nat) (B : Option Addr) (d : Nat) (S : List Fct) (P : List Pk) (h : ForR w A c B d S P) (ho : OkFor S P) : Calls Tryz.prog 7 #[forV A S.length c B P.length d] w (Sam w (.int .i64 0)) :=
  (check_any w A c B d S P h).mono fun _ _ hc => ⟨hc.1 ho, hc.2.2⟩
theorem check_no (w : World) (A : Option Addr) (c : Nat) (B : Option Addr) (d : Nat) (S : List Fct) (P : List Pk) (h : ForR w A c B d S P) (ho : ¬ OkFor S P) : Calls Tryz.prog 7 #[forV A S.length c B P.length d] w (Sam w (.int .i64 320)) :=
  (check_any w A c B d S P h).mono fun _ _ hc => ⟨hc.2.1 ho, hc.2.2⟩
theorem rcheck_yes (w : World) (A : Option Addr) (c : Nat) (B : Option Addr) (d : Nat) (S : List Fct) (P : List Pk) (h : ForR w A c B d S P) (ho : OkFor S P) : Calls Tryz.prog 10 #[forV A S.length c B P.length d] w (Sam w (.int .i64 0)) :=
  (checkForest_any w A c B d S P h).mono fun _ _ hc => ⟨hc.1 ho, hc.2.2⟩
theorem rcheck_no (w : World) (A : Option Addr) (c : Nat) (B : Option Addr) (d : Nat) (S : List Fct) (P : List Pk) (h : ForR w A c B d S P) (ho : ¬ OkFor S P) : Calls Tryz.prog 10 #[forV A S.length c B P.length d] w (Sam w (.int .i64 320)) :=
  (checkForest_any w A c B d S P h).mono fun _ _ hc => ⟨hc.2.1 ho, hc.2.2⟩

set_option maxHeartbeats 400000 in
theorem gis_nil (w : World) : Calls Tryz.prog 46 #[.pointer none] w fun e w' => e = .returned (.bool false) ∧ w = w' := by
  go_enter Tryz.func46, Tryz.ntmps46
  go_wp2
  go_ret
  exact ⟨rfl, rfl⟩
set_option maxHeartbeats 400000 in
theorem glen_nil (w : World) : Calls Tryz.prog 17 #[.pointer none] w fun e w' => e = .returned (.tuple #[.int .i64 0, .int .i64 0]) ∧ w = w' := by
  go_enter Tryz.func17, Tryz.ntmps17
  go_wp2_with (go_at_call 46; refine (gis_nil _).mono ?_; rintro e w' ⟨rfl, rfl⟩)
  go_ret2
  exact ⟨rfl, rfl⟩
set_option maxHeartbeats 1000000 in
set_option maxRecDepth 20000 in
theorem anew_nil (w : World) (n : Int) : Calls Tryz.prog 82 #[.agg #[.int .i64 n, .slice none 0 0], .slice none 0 0, .pointer none] w (Sam w (.tuple #[.pointer none, .int .i64 1])) := by
  have b0 : Below w.heap.size w (w.alloc (.cells #[.int .i64 n, .slice none 0 0] 95)) := (Below.refl _ _).alloc (Nat.le_refl _) _
  have HB := Lib.hid b0
  clear b0
  go_enter Tryz.func82, Tryz.ntmps82
  go_wp2_with (go_at_call 17; refine (glen_nil _).mono ?_; rintro e w' ⟨rfl, rfl⟩)
  go_ret2
  exact ⟨rfl, HB.out⟩

set_option maxHeartbeats 1000000 in
set_option maxRecDepth 20000 in
theorem sof_nil (w : World) : Calls Tryz.prog 36 #[.agg #[.int .i64 1, .slice none 0 0], .slice none 0 0, .pointer none, .agg #[.int .i64 0, .int .i64 0, .int .i64 0]] w (Sam w (.tuple #[.agg #[.slice none 0 0, .slice none 0 0], .int .i64 1])) := by
  have k0 := ((Blk.new w 95 #[.int .i64 1, .slice none 0 0]).alloc (.cells #[.int .i64 0, .int .i64 0, .int .i64 0] 33)).alloc (.cells #[.slice none 0 0, .slice none 0 0] 25)
  have k1 := Blk.new ((w.alloc (.cells #[.int .i64 1, .slice none 0 0] 95)).alloc (.cells #[.int .i64 0, .int .i64 0, .int .i64 0] 33)) 25 #[.slice none 0 0, .slice none 0 0]
  have u0 : Below w.heap.size w (((w.alloc (.cells #[.int .i64 1, .slice none 0 0] 95)).alloc (.cells #[.int .i64 0, .int .i64 0, .int .i64 0] 33)).alloc (.cells #[.slice none 0 0, .slice none 0 0] 25)) := by (repeat (first | exact Below.refl _ _ | apply Below.drew | refine Below.alloc ?_ (by first | exact Nat.le_refl _ | (simp; done) | (simp; omega)) _ | refine Below.setCell ?_ (by first | exact Nat.le_refl _ | (simp; done) | (simp; omega)) _))
  simp only [World.size_alloc] at k1
  have H := Lib.hid (And.intro k0 (And.intro k1 u0))
  clear k0 k1 u0
  go_enter Tryz.func36, Tryz.ntmps36
  go_wp2_with fail
  generalize ((w.alloc (.cells #[.int .i64 1, .slice none 0 0] 95)).alloc (.cells #[.int .i64 0, .int .i64 0, .int .i64 0] 33)).alloc (.cells #[.slice none 0 0, .slice none 0 0] 25) = W0 at H ⊢
  have q0 : W0.cell? ⟨w.heap.size, 0, none⟩ = some (.int .i64 1) := H.out.1.cell 0
  have q1 : W0.cell? ⟨w.heap.size, 1, none⟩ = some (.slice none 0 0) := H.out.1.cell 1
  go_step3
  go_wp2_with fail
  refine (anew_nil W0 1).mono ?_
  rintro e w1 ⟨rfl, b1⟩
  have k1 := H.out.2.1.upd (Upd.of_below b1 (fun _ => False)) id
  have c0 := k1.cell 0
  have c1 := k1.cell 1
  have f0 := k1.frozen 0
  have f1 := k1.frozen 1
  simp only [List.getElem?_toArray, List.getElem?_cons_succ, List.getElem?_cons_zero] at c0 c1
  have kF := (k1.set 0 (.slice none 0 0)).set 1 (.slice none 0 0)
  have e0 := kF.cell 0
  have e1 := kF.cell 1
  simp only [List.setIfInBounds_toArray, List.set_cons_zero, List.set_cons_succ, List.getElem?_toArray, List.getElem?_cons_succ, List.getElem?_cons_zero] at e0 e1
  have bF : Below w.heap.size w ((w1.setCell ⟨w.heap.size + 1 + 1, 0, none⟩ (.slice none 0 0)).setCell ⟨w.heap.size + 1 + 1, 1, none⟩ (.slice none 0 0)) := ((H.out.2.2.trans (b1.mono H.out.2.2.size)).setCell (p := ⟨w.heap.size + 1 + 1, 0, none⟩) (by show w.heap.size ≤ w.heap.size + 1 + 1; omega) _).setCell (p := ⟨w.heap.size + 1 + 1, 1, none⟩) (by show w.heap.size ≤ w.heap.size + 1 + 1; omega) _
  have HF := Lib.hid (And.intro e0 (And.intro e1 bF))
  clear e0 e1 bF kF k1 b1 q0 q1
  go_wp2
  obtain ⟨e0, e1, bF⟩ := HF.out
  exact bodyPost_ret (v := .tuple #[.agg #[.slice none 0 0, .slice none 0 0], .int .i64 1]) (by simp [results, Tryz.f36, go_sem, e0, e1]) rfl ⟨rfl, bF⟩

theorem ok_none : OkFor [] [] := ⟨fun i f g hi => by simp at hi, ⟨fun i p hi => by simp at hi, fun i p q hi => by simp at hi⟩, fun s hs => by simp at hs⟩
theorem bad_one : ¬ OkFor [⟨0, 0, 0⟩] [] := fun h => by
  obtain ⟨p, hp, -⟩ := h.all 0 (by simp)
  cases hp
theorem row_one {w : World} {g : Nat} {t : TypeId} {cs : List Value} (h : Blk w g t cs.toArray) : RowR w (some ⟨g, 0, none⟩) cs := fun j u hj => ⟨g, 0, rfl, by rw [Nat.zero_add, h.cell]; simpa using hj⟩
theorem row_none (w : World) (A : Option Addr) : RowR w A [] := fun j u hj => by simp at hj

set_option maxHeartbeats 2000000 in
set_option maxRecDepth 20000 in
theorem head22_any (w : World) : Calls Tryz.prog 9 #[] w (Sam w (.bool true)) := by
  go_enter Tryz.func9, Tryz.ntmps9
  go_wp2_with fail
  refine (sof_nil w).mono ?_
  rintro e w1 ⟨rfl, b1⟩
  have B1 := Lib.hid b1
  clear b1
  go_wp2_with fail
  have b2 : Below w1.heap.size w1 (w1.alloc (.cells #[.slice none 0 0, .slice none 0 0] 25)) := (Below.refl _ _).alloc (Nat.le_refl _) _
  generalize w1.alloc (.cells #[.slice none 0 0, .slice none 0 0] 25) = w2 at b2 ⊢
  refine (check_yes w2 none 0 none 0 [] [] ⟨row_none _ _, row_none _ _, Nat.le_refl _, Nat.le_refl _, ⟨by simp, by simp, by simp⟩⟩ ok_none).mono ?_
  rintro e w3 ⟨rfl, b3⟩
  have B3 := Lib.hid (B1.out.trans ((b2.trans (b3.mono b2.size)).mono B1.out.size))
  clear b2 b3
  go_wp2_with fail
  have k1 := Blk.new w3 33 #[.int .i64 0, .int .i64 0, .int .i64 0]
  have b4 : Below w3.heap.size w3 (w3.alloc (.cells #[.int .i64 0, .int .i64 0, .int .i64 0] 33)) := (Below.refl _ _).alloc (Nat.le_refl _) _
  generalize w3.alloc (.cells #[.int .i64 0, .int .i64 0, .int .i64 0] 33) = w4 at k1 b4 ⊢
  refine (check_no w4 (some ⟨w3.heap.size, 0, none⟩) 1 none 0 [⟨0, 0, 0⟩] [] ⟨row_one k1, row_none _ _, Nat.le_refl _, Nat.le_refl _, ⟨by simp, by simp, by simp⟩⟩ bad_one).mono ?_
  rintro e w5 ⟨rfl, b5⟩
  have B5 := Lib.hid (B3.out.trans ((b4.trans (b5.mono b4.size)).mono B3.out.size))
  clear k1 b4 b5
  go_wp2
  go_ret
  exact ⟨rfl, B5.out⟩

set_option maxHeartbeats 2000000 in
set_option maxRecDepth 20000 in
theorem checks_any (w : World) (A : Option Addr) (c : Nat) (B : Option Addr) (d : Nat) (S : List Fct) (P : List Pk) (h : ForR w A c B d S P) :
    Calls Tryz.prog 3 #[forV A S.length c B P.length d] w (Sam w (.bool true)) := by
  have k0 := Blk.new w 25 #[.slice A S.length c, .slice B P.length d]
  have u0 : Below w.heap.size w (w.alloc (.cells #[.slice A S.length c, .slice B P.length d] 25)) := (Below.refl _ _).alloc (Nat.le_refl _) _
  have H := Lib.hid (And.intro h (And.intro k0 u0))
  clear h k0 u0
  go_enter Tryz.func3, Tryz.ntmps3
  unfold forV
  go_upto_region 1 with (fail)
  generalize w.alloc (.cells #[.slice A S.length c, .slice B P.length d] 25) = W0 at H ⊢
  have q0 : W0.cell? ⟨w.heap.size, 0, none⟩ = some (.slice A S.length c) := H.out.2.1.cell 0
  have q1 : W0.cell? ⟨w.heap.size, 1, none⟩ = some (.slice B P.length d) := H.out.2.1.cell 1
  go_wp2_with fail
  refine (copy_any W0 A c B d S P (H.out.1.below H.out.2.2)).mono ?_
  intro e w1 hn
  obtain ⟨A1, c1, B1, d1, rfl, F1, b1⟩ := hn.at H.out.1.fit
  have HF := Lib.hid (And.intro F1 b1)
  clear hn F1 b1 q0 q1
  unfold forV
  go_wp2_with fail
  by_cases ho : OkFor S P
  · refine (check_yes w1 A1 c1 B1 d1 S P HF.out.1 ho).mono ?_
    rintro e w2 ⟨rfl, b2⟩
    have B2 := Lib.hid (HF.out.2.trans (b2.mono HF.out.2.size))
    clear b2
    go_wp2_with fail
    refine (head22_any w2).mono ?_
    rintro e w3 ⟨rfl, b3⟩
    have bb := B2.out.trans (b3.mono B2.out.size)
    have B3 := Lib.hid (H.out.2.2.trans (bb.mono H.out.2.2.size))
    have k3 := H.out.2.1.upd (Upd.of_below bb (fun _ => False)) id
    have q0 : w3.cell? ⟨w.heap.size, 0, none⟩ = some (.slice A S.length c) := k3.cell 0
    have q1 : w3.cell? ⟨w.heap.size, 1, none⟩ = some (.slice B P.length d) := k3.cell 1
    clear b3 bb k3
    go_wp2_with fail
    refine (rcheck_yes w3 A c B d S P (H.out.1.below B3.out) ho).mono ?_
    rintro e w4 ⟨rfl, b4⟩
    have B4 := Lib.hid (B3.out.trans (b4.mono B3.out.size))
    clear b4 q0 q1
    go_wp2
    go_ret
    exact ⟨rfl, B4.out⟩
  · refine (check_no w1 A1 c1 B1 d1 S P HF.out.1 ho).mono ?_
    rintro e w2 ⟨rfl, b2⟩
    have B2 := Lib.hid (HF.out.2.trans (b2.mono HF.out.2.size))
    clear b2
    go_wp2_with fail
    refine (head22_any w2).mono ?_
    rintro e w3 ⟨rfl, b3⟩
    have bb := B2.out.trans (b3.mono B2.out.size)
    have B3 := Lib.hid (H.out.2.2.trans (bb.mono H.out.2.2.size))
    have k3 := H.out.2.1.upd (Upd.of_below bb (fun _ => False)) id
    have q0 : w3.cell? ⟨w.heap.size, 0, none⟩ = some (.slice A S.length c) := k3.cell 0
    have q1 : w3.cell? ⟨w.heap.size, 1, none⟩ = some (.slice B P.length d) := k3.cell 1
    clear b3 bb k3
    go_wp2_with fail
    refine (rcheck_no w3 A c B d S P (H.out.1.below B3.out) ho).mono ?_
    rintro e w4 ⟨rfl, b4⟩
    have B4 := Lib.hid (B3.out.trans (b4.mono B3.out.size))
    clear b4 q0 q1
    go_wp2
    go_ret
    exact ⟨rfl, B4.out⟩
end Go.Proofs.YtlgpjgplgpgkiaaGreatDoor
