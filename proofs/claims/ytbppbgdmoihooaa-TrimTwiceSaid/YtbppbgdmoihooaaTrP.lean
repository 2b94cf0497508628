/- Forests: the calls whose answers are fixed (bywaylaw29.head). -/
import Derived.Test.YtbppbgdmoihooaaTrO
namespace Go.Proofs.Ytbppbgdmoihooaa
open Go.RowKit

set_option maxHeartbeats 1000000 in
set_option maxRecDepth 20000 in
theorem tends_no (w : World) (A : Option Addr) (c : Nat) (B : Option Addr) (d : Nat) (S : List Fct) (P : List Pk) (h : ForR w A c B d S P) (ho : ¬ OkFor S P) : Calls Try.prog 42 #[forV A S.length c B P.length d] w (Sam w (.tuple #[.slice none 0 0, .int .i64 320])) := by
  have k0 := Blk.new w 75 #[.slice A S.length c, .slice B P.length d]
  have u0 : Below w.heap.size w (w.alloc (.cells #[.slice A S.length c, .slice B P.length d] 75)) := (Below.refl _ _).alloc (Nat.le_refl _) _
  have H := Lib.hid (And.intro h (And.intro k0 u0))
  clear h k0 u0
  go_enter Try.func42, Try.ntmps42
  unfold forV
  go_upto_region 1 with (fail)
  generalize w.alloc (.cells #[.slice A S.length c, .slice B P.length d] 75) = W0 at H ⊢
  have q0 : W0.cell? ⟨w.heap.size, 0, none⟩ = some (.slice A S.length c) := H.out.2.1.cell 0
  have q1 : W0.cell? ⟨w.heap.size, 1, none⟩ = some (.slice B P.length d) := H.out.2.1.cell 1
  go_wp2_with fail
  refine (check_no W0 A c B d S P (H.out.1.below H.out.2.2) ho).mono ?_
  rintro e w1 ⟨rfl, b1⟩
  have HC := Lib.hid (H.out.2.2.trans (b1.mono H.out.2.2.size))
  clear b1 q0 q1
  go_wp2
  go_ret2
  exact ⟨rfl, HC.out⟩

set_option maxHeartbeats 1000000 in
set_option maxRecDepth 20000 in
theorem treach_none (w : World) (A : Option Addr) (c : Nat) (B : Option Addr) (d : Nat) (S : List Fct) (P : List Pk) (spot : Int) (h : ForR w A c B d S P) (ho : OkFor S P) (hs : ¬ (0 ≤ spot ∧ spot < (S.length : Int))) :
    Calls Try.prog 31 #[forV A S.length c B P.length d, .int .i64 spot] w (Sam w (.tuple #[.agg #[.slice none 0 0, .slice none 0 0], .int .i64 4])) := by
  have k0 := (Blk.new w 75 #[.slice A S.length c, .slice B P.length d]).alloc (.cells #[.slice none 0 0, .slice none 0 0] 75)
  have k1 := Blk.new (w.alloc (.cells #[.slice A S.length c, .slice B P.length d] 75)) 75 #[.slice none 0 0, .slice none 0 0]
  simp only [World.size_alloc] at k1
  have u0 : Below w.heap.size w ((w.alloc (.cells #[.slice A S.length c, .slice B P.length d] 75)).alloc (.cells #[.slice none 0 0, .slice none 0 0] 75)) := ((Below.refl _ _).alloc (Nat.le_refl _) _).alloc (by simp) _
  have H := Lib.hid (And.intro h (And.intro k0 (And.intro k1 u0)))
  clear h k0 k1 u0
  go_enter Try.func31, Try.ntmps31
  unfold forV
  go_upto_region 1 with (fail)
  generalize (w.alloc (.cells #[.slice A S.length c, .slice B P.length d] 75)).alloc (.cells #[.slice none 0 0, .slice none 0 0] 75) = W0 at H ⊢
  have q0 : W0.cell? ⟨w.heap.size, 0, none⟩ = some (.slice A S.length c) := H.out.2.1.cell 0
  have q1 : W0.cell? ⟨w.heap.size, 1, none⟩ = some (.slice B P.length d) := H.out.2.1.cell 1
  go_wp2_with fail
  refine (asked_none W0 A c B d S P spot (H.out.1.below H.out.2.2.2) ho hs).mono ?_
  rintro e w1 ⟨rfl, b1⟩
  have k1 := H.out.2.2.1.upd (Upd.of_below b1 (fun _ => False)) id
  have c0 := k1.cell 0
  have c1 := k1.cell 1
  have f0 := k1.frozen 0
  have f1 := k1.frozen 1
  simp only [List.getElem?_toArray, List.getElem?_cons_succ, List.getElem?_cons_zero] at c0 c1
  have kF := (k1.set 0 (.slice none 0 0)).set 1 (.slice none 0 0)
  have e0 := kF.cell 0
  have e1 := kF.cell 1
  simp only [List.setIfInBounds_toArray, List.set_cons_zero, List.set_cons_succ, List.getElem?_toArray, List.getElem?_cons_succ, List.getElem?_cons_zero] at e0 e1
  have bF : Below w.heap.size w ((w1.setCell ⟨w.heap.size + 1, 0, none⟩ (.slice none 0 0)).setCell ⟨w.heap.size + 1, 1, none⟩ (.slice none 0 0)) := ((H.out.2.2.2.trans (b1.mono H.out.2.2.2.size)).setCell (p := ⟨w.heap.size + 1, 0, none⟩) (by show w.heap.size ≤ w.heap.size + 1; omega) _).setCell (p := ⟨w.heap.size + 1, 1, none⟩) (by show w.heap.size ≤ w.heap.size + 1; omega) _
  have HF := Lib.hid (And.intro e0 (And.intro e1 bF))
  clear e0 e1 bF kF k1 b1 q0 q1 hs
  go_wp2
  obtain ⟨e0, e1, bF⟩ := HF.out
  exact bodyPost_ret (v := .tuple #[.agg #[.slice none 0 0, .slice none 0 0], .int .i64 4]) (by simp [results, Try.f31, go_sem, e0, e1]) rfl ⟨rfl, bF⟩

theorem ok_none : OkFor [] [] := ⟨fun i f g hi => by simp at hi, ⟨fun i p hi => by simp at hi, fun i p q hi => by simp at hi⟩, fun s hs => by simp at hs⟩
theorem bad_one : ¬ OkFor [⟨0, 0, 0⟩] [] := fun h => by
  obtain ⟨p, hp, -⟩ := h.all 0 (by simp)
  cases hp
theorem ok_one : OkFor [⟨0, 0, 0⟩] [⟨0, 0, 0, -1, -1⟩] := by
  refine ⟨fun i f g hi hf hg => ?_, ⟨fun i p hi hp => ?_, fun i p q hi hp hq => ?_⟩, fun s hs => ?_⟩
  · simp at hi
  · simp at hi
    subst hi
    simp at hp
    subst hp
    decide
  · simp at hi
  · simp at hs
    subst hs
    exact ⟨⟨0, 0, 0, -1, -1⟩, by simp, rfl⟩
theorem one_small {T : List Int} (h : Settled [⟨0, 0, 0, -1, -1⟩] 1 T) : T = [1] := by
  have hp : SpotsIn 1 [⟨0, 0, 0, -1, -1⟩] := fun p hp => by simp at hp; subst hp; decide
  exact (h.same hp (k := 1) (by decide)).trans (by decide)

theorem row_one {w : World} {g : Nat} {t : TypeId} {cs : List Value} (h : Blk w g t cs.toArray) : RowR w (some ⟨g, 0, none⟩) cs := fun j u hj => ⟨g, 0, rfl, by rw [Nat.zero_add, h.cell]; simpa using hj⟩
theorem row_none (w : World) (A : Option Addr) : RowR w A [] := fun j u hj => by simp at hj
theorem wf_lit {a : Int} (h : -9223372036854775808 ≤ a ∧ a ≤ 9223372036854775807) : Wf a := WalkArith.wf_i64 (by omega)

set_option maxHeartbeats 2000000 in
set_option maxRecDepth 20000 in
theorem head_any (w : World) : Calls Try.prog 32 #[] w (Sam w (.bool true)) := by
  go_enter Try.func32, Try.ntmps32
  go_wp2_with fail
  have k1 := Blk.new w 101 #[.int .i64 0, .int .i64 0, .int .i64 0]
  have b1 : Below w.heap.size w (w.alloc (.cells #[.int .i64 0, .int .i64 0, .int .i64 0] 101)) := (Below.refl _ _).alloc (Nat.le_refl _) _
  generalize w.alloc (.cells #[.int .i64 0, .int .i64 0, .int .i64 0] 101) = w1 at k1 b1 ⊢
  refine (tends_no w1 (some ⟨w.heap.size, 0, none⟩) 1 none 0 [⟨0, 0, 0⟩] [] ⟨row_one k1, row_none _ _, Nat.le_refl _, Nat.le_refl _, ⟨by simp, by simp, by simp⟩⟩ bad_one).mono ?_
  rintro e w2 ⟨rfl, b2⟩
  have B2 := Lib.hid (b1.trans (b2.mono b1.size))
  clear k1 b1 b2
  go_wp2_with fail
  refine (treach_none w2 none 0 none 0 [] [] 0 ⟨row_none _ _, row_none _ _, Nat.le_refl _, Nat.le_refl _, ⟨by simp, by simp, by simp⟩⟩ ok_none (by simp)).mono ?_
  rintro e w3 ⟨rfl, b3⟩
  have B3 := Lib.hid (B2.out.trans (b3.mono B2.out.size))
  clear b3
  go_wp2_with fail
  have kf := (Blk.new (w3.alloc (.cells #[.slice none 0 0, .slice none 0 0] 75)) 101 #[.int .i64 0, .int .i64 0, .int .i64 0]).alloc (.cells #[.int .i64 0, .int .i64 0, .int .i64 0, .int .i64 (-1), .int .i64 (-1)] 125)
  have kp := Blk.new ((w3.alloc (.cells #[.slice none 0 0, .slice none 0 0] 75)).alloc (.cells #[.int .i64 0, .int .i64 0, .int .i64 0] 101)) 125 #[.int .i64 0, .int .i64 0, .int .i64 0, .int .i64 (-1), .int .i64 (-1)]
  simp only [World.size_alloc] at kf kp
  have b4 : Below w3.heap.size w3 (((w3.alloc (.cells #[.slice none 0 0, .slice none 0 0] 75)).alloc (.cells #[.int .i64 0, .int .i64 0, .int .i64 0] 101)).alloc (.cells #[.int .i64 0, .int .i64 0, .int .i64 0, .int .i64 (-1), .int .i64 (-1)] 125)) := by (repeat (first | exact Below.refl _ _ | apply Below.drew | refine Below.alloc ?_ (by first | exact Nat.le_refl _ | (simp; done) | (simp; omega)) _ | refine Below.setCell ?_ (by first | exact Nat.le_refl _ | (simp; done) | (simp; omega)) _))
  generalize ((w3.alloc (.cells #[.slice none 0 0, .slice none 0 0] 75)).alloc (.cells #[.int .i64 0, .int .i64 0, .int .i64 0] 101)).alloc (.cells #[.int .i64 0, .int .i64 0, .int .i64 0, .int .i64 (-1), .int .i64 (-1)] 125) = w4 at kf kp b4 ⊢
  refine (tsmall_yes w4 (some ⟨w3.heap.size + 1, 0, none⟩) 1 (some ⟨w3.heap.size + 1 + 1, 0, none⟩) 1 [⟨0, 0, 0⟩] [⟨0, 0, 0, -1, -1⟩] ⟨row_one kf, row_one kp, Nat.le_refl _, Nat.le_refl _, ⟨by simp, by simp, fun q hq => by
    simp at hq
    subst hq
    dsimp only
    exact ⟨wf_lit (by omega), wf_lit (by omega), wf_lit (by omega), wf_lit (by omega), wf_lit (by omega)⟩⟩⟩ ok_one).mono ?_
  rintro e w5 ⟨g, T, rfl, hT, kT, -, b5⟩
  obtain rfl := one_small hT
  have m0 : w5.cell? ⟨g, 0, none⟩ = some (.int .i64 1) := kT.cell 0
  have B5 := Lib.hid (B3.out.trans ((b4.trans (b5.mono b4.size)).mono B3.out.size))
  clear kf kp b4 b5 hT kT
  go_wp2
  go_ret
  exact ⟨rfl, B5.out⟩
end Go.Proofs.Ytbppbgdmoihooaa
