/- Forests: trim.Small; why a spot may not be asked about (trim.asked, bywayref29.Wrong). -/
import Derived.Test.YtbppbgdmoihooaaTrN
namespace Go.Proofs.Ytbppbgdmoihooaa
open Go.RowKit

theorem check_yes (w : World) (A : Option Addr) (c : Nat) (B : Option Addr) (d : Nat) (S : List Fct) (P : List Pk) (h : ForR w A c B d S P) (ho : OkFor S P) : Calls Try.prog 48 #[forV A S.length c B P.length d] w (Sam w (.int .i64 0)) :=
  (check_any w A c B d S P h).mono fun _ _ hh => ⟨hh.1 ho, hh.2.2⟩
theorem check_no (w : World) (A : Option Addr) (c : Nat) (B : Option Addr) (d : Nat) (S : List Fct) (P : List Pk) (h : ForR w A c B d S P) (ho : ¬ OkFor S P) : Calls Try.prog 48 #[forV A S.length c B P.length d] w (Sam w (.int .i64 320)) :=
  (check_any w A c B d S P h).mono fun _ _ hh => ⟨hh.2.1 ho, hh.2.2⟩
theorem rcheck_yes (w : World) (A : Option Addr) (c : Nat) (B : Option Addr) (d : Nat) (S : List Fct) (P : List Pk) (h : ForR w A c B d S P) (ho : OkFor S P) : Calls Try.prog 34 #[forV A S.length c B P.length d] w (Sam w (.int .i64 0)) :=
  (checkForest_any w A c B d S P h).mono fun _ _ hh => ⟨hh.1 ho, hh.2.2⟩
theorem rcheck_no (w : World) (A : Option Addr) (c : Nat) (B : Option Addr) (d : Nat) (S : List Fct) (P : List Pk) (h : ForR w A c B d S P) (ho : ¬ OkFor S P) : Calls Try.prog 34 #[forV A S.length c B P.length d] w (Sam w (.int .i64 320)) :=
  (checkForest_any w A c B d S P h).mono fun _ _ hh => ⟨hh.2.1 ho, hh.2.2⟩

/-- trim.Small's answer. -/
def TSmall (w : World) (n : Nat) (P : List Pk) (e : Ending) (w' : World) : Prop :=
  ∃ g T, e = .returned (.tuple #[.slice (some ⟨g, 0, none⟩) n n, .int .i64 0]) ∧ Settled P n T ∧ Blk w' g 3 (ints T) ∧ w.heap.size ≤ g ∧ Below w.heap.size w w'

set_option maxHeartbeats 1000000 in
set_option maxRecDepth 20000 in
theorem tsmall_no (w : World) (A : Option Addr) (c : Nat) (B : Option Addr) (d : Nat) (S : List Fct) (P : List Pk) (h : ForR w A c B d S P) (ho : ¬ OkFor S P) : Calls Try.prog 44 #[forV A S.length c B P.length d] w (Sam w (.tuple #[.slice none 0 0, .int .i64 320])) := by
  have k0 := Blk.new w 75 #[.slice A S.length c, .slice B P.length d]
  have u0 : Below w.heap.size w (w.alloc (.cells #[.slice A S.length c, .slice B P.length d] 75)) := (Below.refl _ _).alloc (Nat.le_refl _) _
  have H := Lib.hid (And.intro h (And.intro k0 u0))
  clear h k0 u0
  go_enter Try.func44, Try.ntmps44
  unfold forV
  go_upto_region 1 with (fail)
  generalize w.alloc (.cells #[.slice A S.length c, .slice B P.length d] 75) = W0 at H ⊢
  have q0 : W0.cell? ⟨w.heap.size, 0, none⟩ = some (.slice A S.length c) := H.out.2.1.cell 0
  have q1 : W0.cell? ⟨w.heap.size, 1, none⟩ = some (.slice B P.length d) := H.out.2.1.cell 1
  go_wp2_with fail
  refine (check_no W0 A c B d S P (H.out.1.below H.out.2.2) ho).mono ?_
  rintro e w1 ⟨rfl, b1⟩
  have k1 := H.out.2.1.upd (Upd.of_below b1 (fun _ => False)) id
  have q2 : w1.cell? ⟨w.heap.size, 0, none⟩ = some (.slice A S.length c) := k1.cell 0
  have q3 : w1.cell? ⟨w.heap.size, 1, none⟩ = some (.slice B P.length d) := k1.cell 1
  have b2 := H.out.2.2.trans (b1.mono H.out.2.2.size)
  have HC := Lib.hid b2
  clear k1 b1 b2 q0 q1
  go_wp2
  go_ret2
  exact ⟨rfl, HC.out⟩

set_option maxHeartbeats 1000000 in
set_option maxRecDepth 20000 in
theorem tsmall_yes (w : World) (A : Option Addr) (c : Nat) (B : Option Addr) (d : Nat) (S : List Fct) (P : List Pk) (h : ForR w A c B d S P) (ho : OkFor S P) : Calls Try.prog 44 #[forV A S.length c B P.length d] w (TSmall w S.length P) := by
  have k0 := Blk.new w 75 #[.slice A S.length c, .slice B P.length d]
  have u0 : Below w.heap.size w (w.alloc (.cells #[.slice A S.length c, .slice B P.length d] 75)) := (Below.refl _ _).alloc (Nat.le_refl _) _
  have H := Lib.hid (And.intro h (And.intro k0 u0))
  clear h k0 u0
  go_enter Try.func44, Try.ntmps44
  unfold forV
  go_upto_region 1 with (fail)
  generalize w.alloc (.cells #[.slice A S.length c, .slice B P.length d] 75) = W0 at H ⊢
  have q0 : W0.cell? ⟨w.heap.size, 0, none⟩ = some (.slice A S.length c) := H.out.2.1.cell 0
  have q1 : W0.cell? ⟨w.heap.size, 1, none⟩ = some (.slice B P.length d) := H.out.2.1.cell 1
  go_wp2_with fail
  refine (check_yes W0 A c B d S P (H.out.1.below H.out.2.2) ho).mono ?_
  rintro e w1 ⟨rfl, b1⟩
  have k1 := H.out.2.1.upd (Upd.of_below b1 (fun _ => False)) id
  have q2 : w1.cell? ⟨w.heap.size, 0, none⟩ = some (.slice A S.length c) := k1.cell 0
  have q3 : w1.cell? ⟨w.heap.size, 1, none⟩ = some (.slice B P.length d) := k1.cell 1
  have b2 := H.out.2.2.trans (b1.mono H.out.2.2.size)
  have HC := Lib.hid b2
  clear k1 b1 b2 q0 q1
  go_wp2_with fail
  refine (small_any w1 A c B d S P (H.out.1.below HC.out) ho).mono ?_
  rintro e w2 ⟨sb, mb, yb, T, Y, rfl, hsm⟩
  have c2 : w2.cell? ⟨sb, 2, none⟩ = some (.slice (some ⟨mb, 0, none⟩) S.length S.length) := hsm.s.blk.cell 2
  have HM := Lib.hid hsm
  clear hsm q2 q3
  go_wp2
  go_ret2
  exact ⟨mb, T, rfl, HM.out.t, HM.out.s.m, Nat.le_trans HC.out.size HM.out.n.2.1, HC.out.trans (HM.out.l.mono HC.out.size)⟩

set_option maxHeartbeats 1000000 in
set_option maxRecDepth 20000 in
theorem asked_bad (w : World) (A : Option Addr) (c : Nat) (B : Option Addr) (d : Nat) (S : List Fct) (P : List Pk) (spot : Int) (h : ForR w A c B d S P) (ho : ¬ OkFor S P) :
    Calls Try.prog 62 #[forV A S.length c B P.length d, .int .i64 spot] w (Sam w (.int .i64 320)) := by
  have k0 := Blk.new w 75 #[.slice A S.length c, .slice B P.length d]
  have u0 : Below w.heap.size w (w.alloc (.cells #[.slice A S.length c, .slice B P.length d] 75)) := (Below.refl _ _).alloc (Nat.le_refl _) _
  have H := Lib.hid (And.intro h (And.intro k0 u0))
  clear h k0 u0
  go_enter Try.func62, Try.ntmps62
  unfold forV
  go_upto_region 1 with (fail)
  generalize w.alloc (.cells #[.slice A S.length c, .slice B P.length d] 75) = W0 at H ⊢
  have q0 : W0.cell? ⟨w.heap.size, 0, none⟩ = some (.slice A S.length c) := H.out.2.1.cell 0
  have q1 : W0.cell? ⟨w.heap.size, 1, none⟩ = some (.slice B P.length d) := H.out.2.1.cell 1
  go_wp2_with fail
  refine (check_no W0 A c B d S P (H.out.1.below H.out.2.2) ho).mono ?_
  rintro e w1 ⟨rfl, b1⟩
  have k1 := H.out.2.1.upd (Upd.of_below b1 (fun _ => False)) id
  have q2 : w1.cell? ⟨w.heap.size, 0, none⟩ = some (.slice A S.length c) := k1.cell 0
  have q3 : w1.cell? ⟨w.heap.size, 1, none⟩ = some (.slice B P.length d) := k1.cell 1
  have b2 := H.out.2.2.trans (b1.mono H.out.2.2.size)
  have HC := Lib.hid b2
  clear k1 b1 b2 q0 q1
  go_wp2
  go_ret
  exact ⟨rfl, HC.out⟩

set_option maxHeartbeats 1000000 in
set_option maxRecDepth 20000 in
theorem asked_none (w : World) (A : Option Addr) (c : Nat) (B : Option Addr) (d : Nat) (S : List Fct) (P : List Pk) (spot : Int) (h : ForR w A c B d S P) (ho : OkFor S P) (hs : ¬ (0 ≤ spot ∧ spot < (S.length : Int))) :
    Calls Try.prog 62 #[forV A S.length c B P.length d, .int .i64 spot] w (Sam w (.int .i64 4)) := by
  have k0 := Blk.new w 75 #[.slice A S.length c, .slice B P.length d]
  have u0 : Below w.heap.size w (w.alloc (.cells #[.slice A S.length c, .slice B P.length d] 75)) := (Below.refl _ _).alloc (Nat.le_refl _) _
  have H := Lib.hid (And.intro h (And.intro k0 u0))
  clear h k0 u0
  go_enter Try.func62, Try.ntmps62
  unfold forV
  go_upto_region 1 with (fail)
  generalize w.alloc (.cells #[.slice A S.length c, .slice B P.length d] 75) = W0 at H ⊢
  have q0 : W0.cell? ⟨w.heap.size, 0, none⟩ = some (.slice A S.length c) := H.out.2.1.cell 0
  have q1 : W0.cell? ⟨w.heap.size, 1, none⟩ = some (.slice B P.length d) := H.out.2.1.cell 1
  go_wp2_with fail
  refine (check_yes W0 A c B d S P (H.out.1.below H.out.2.2) ho).mono ?_
  rintro e w1 ⟨rfl, b1⟩
  have k1 := H.out.2.1.upd (Upd.of_below b1 (fun _ => False)) id
  have q2 : w1.cell? ⟨w.heap.size, 0, none⟩ = some (.slice A S.length c) := k1.cell 0
  have q3 : w1.cell? ⟨w.heap.size, 1, none⟩ = some (.slice B P.length d) := k1.cell 1
  have b2 := H.out.2.2.trans (b1.mono H.out.2.2.size)
  have HC := Lib.hid b2
  clear k1 b1 b2 q0 q1
  by_cases h0 : spot < 0
  · have e0 : decide (spot < 0) = true := by simpa using h0
    clear hs h0
    go_wp2
    go_ret
    exact ⟨rfl, HC.out⟩
  · have e0 : decide (spot < 0) = false := by simpa using h0
    have e1 : decide ((S.length : Int) ≤ spot) = true := by simp; omega
    clear hs h0
    go_wp2
    go_ret
    exact ⟨rfl, HC.out⟩

set_option maxHeartbeats 1000000 in
set_option maxRecDepth 20000 in
theorem asked_ok (w : World) (A : Option Addr) (c : Nat) (B : Option Addr) (d : Nat) (S : List Fct) (P : List Pk) (spot : Int) (h : ForR w A c B d S P) (ho : OkFor S P) (hs : 0 ≤ spot ∧ spot < (S.length : Int)) :
    Calls Try.prog 62 #[forV A S.length c B P.length d, .int .i64 spot] w (Sam w (.int .i64 0)) := by
  have k0 := Blk.new w 75 #[.slice A S.length c, .slice B P.length d]
  have u0 : Below w.heap.size w (w.alloc (.cells #[.slice A S.length c, .slice B P.length d] 75)) := (Below.refl _ _).alloc (Nat.le_refl _) _
  have H := Lib.hid (And.intro h (And.intro k0 u0))
  clear h k0 u0
  go_enter Try.func62, Try.ntmps62
  unfold forV
  go_upto_region 1 with (fail)
  generalize w.alloc (.cells #[.slice A S.length c, .slice B P.length d] 75) = W0 at H ⊢
  have q0 : W0.cell? ⟨w.heap.size, 0, none⟩ = some (.slice A S.length c) := H.out.2.1.cell 0
  have q1 : W0.cell? ⟨w.heap.size, 1, none⟩ = some (.slice B P.length d) := H.out.2.1.cell 1
  go_wp2_with fail
  refine (check_yes W0 A c B d S P (H.out.1.below H.out.2.2) ho).mono ?_
  rintro e w1 ⟨rfl, b1⟩
  have k1 := H.out.2.1.upd (Upd.of_below b1 (fun _ => False)) id
  have q2 : w1.cell? ⟨w.heap.size, 0, none⟩ = some (.slice A S.length c) := k1.cell 0
  have q3 : w1.cell? ⟨w.heap.size, 1, none⟩ = some (.slice B P.length d) := k1.cell 1
  have b2 := H.out.2.2.trans (b1.mono H.out.2.2.size)
  have HC := Lib.hid b2
  clear k1 b1 b2 q0 q1
  have e0 : decide (spot < 0) = false := by simp; omega
  have e1 : decide ((S.length : Int) ≤ spot) = false := by simp; omega
  clear hs
  go_wp2
  go_ret
  exact ⟨rfl, HC.out⟩

set_option maxHeartbeats 1000000 in
set_option maxRecDepth 20000 in
theorem wrong_bad (w : World) (A : Option Addr) (c : Nat) (B : Option Addr) (d : Nat) (S : List Fct) (P : List Pk) (spot : Int) (h : ForR w A c B d S P) (ho : ¬ OkFor S P) :
    Calls Try.prog 33 #[forV A S.length c B P.length d, .int .i64 spot] w (Sam w (.int .i64 320)) := by
  have k0 := Blk.new w 75 #[.slice A S.length c, .slice B P.length d]
  have u0 : Below w.heap.size w (w.alloc (.cells #[.slice A S.length c, .slice B P.length d] 75)) := (Below.refl _ _).alloc (Nat.le_refl _) _
  have H := Lib.hid (And.intro h (And.intro k0 u0))
  clear h k0 u0
  go_enter Try.func33, Try.ntmps33
  unfold forV
  go_upto_region 1 with (fail)
  generalize w.alloc (.cells #[.slice A S.length c, .slice B P.length d] 75) = W0 at H ⊢
  have q0 : W0.cell? ⟨w.heap.size, 0, none⟩ = some (.slice A S.length c) := H.out.2.1.cell 0
  have q1 : W0.cell? ⟨w.heap.size, 1, none⟩ = some (.slice B P.length d) := H.out.2.1.cell 1
  go_wp2_with fail
  refine (rcheck_no W0 A c B d S P (H.out.1.below H.out.2.2) ho).mono ?_
  rintro e w1 ⟨rfl, b1⟩
  have k1 := H.out.2.1.upd (Upd.of_below b1 (fun _ => False)) id
  have q2 : w1.cell? ⟨w.heap.size, 0, none⟩ = some (.slice A S.length c) := k1.cell 0
  have q3 : w1.cell? ⟨w.heap.size, 1, none⟩ = some (.slice B P.length d) := k1.cell 1
  have b2 := H.out.2.2.trans (b1.mono H.out.2.2.size)
  have HC := Lib.hid b2
  clear k1 b1 b2 q0 q1
  go_wp2
  go_ret
  exact ⟨rfl, HC.out⟩

set_option maxHeartbeats 1000000 in
set_option maxRecDepth 20000 in
theorem wrong_none (w : World) (A : Option Addr) (c : Nat) (B : Option Addr) (d : Nat) (S : List Fct) (P : List Pk) (spot : Int) (h : ForR w A c B d S P) (ho : OkFor S P) (hs : ¬ (0 ≤ spot ∧ spot < (S.length : Int))) :
    Calls Try.prog 33 #[forV A S.length c B P.length d, .int .i64 spot] w (Sam w (.int .i64 4)) := by
  have k0 := Blk.new w 75 #[.slice A S.length c, .slice B P.length d]
  have u0 : Below w.heap.size w (w.alloc (.cells #[.slice A S.length c, .slice B P.length d] 75)) := (Below.refl _ _).alloc (Nat.le_refl _) _
  have H := Lib.hid (And.intro h (And.intro k0 u0))
  clear h k0 u0
  go_enter Try.func33, Try.ntmps33
  unfold forV
  go_upto_region 1 with (fail)
  generalize w.alloc (.cells #[.slice A S.length c, .slice B P.length d] 75) = W0 at H ⊢
  have q0 : W0.cell? ⟨w.heap.size, 0, none⟩ = some (.slice A S.length c) := H.out.2.1.cell 0
  have q1 : W0.cell? ⟨w.heap.size, 1, none⟩ = some (.slice B P.length d) := H.out.2.1.cell 1
  go_wp2_with fail
  refine (rcheck_yes W0 A c B d S P (H.out.1.below H.out.2.2) ho).mono ?_
  rintro e w1 ⟨rfl, b1⟩
  have k1 := H.out.2.1.upd (Upd.of_below b1 (fun _ => False)) id
  have q2 : w1.cell? ⟨w.heap.size, 0, none⟩ = some (.slice A S.length c) := k1.cell 0
  have q3 : w1.cell? ⟨w.heap.size, 1, none⟩ = some (.slice B P.length d) := k1.cell 1
  have b2 := H.out.2.2.trans (b1.mono H.out.2.2.size)
  have HC := Lib.hid b2
  clear k1 b1 b2 q0 q1
  by_cases h0 : spot < 0
  · have e0 : decide (spot < 0) = true := by simpa using h0
    clear hs h0
    go_wp2
    go_ret
    exact ⟨rfl, HC.out⟩
  · have e0 : decide (spot < 0) = false := by simpa using h0
    have e1 : decide ((S.length : Int) ≤ spot) = true := by simp; omega
    clear hs h0
    go_wp2
    go_ret
    exact ⟨rfl, HC.out⟩

set_option maxHeartbeats 1000000 in
set_option maxRecDepth 20000 in
theorem wrong_ok (w : World) (A : Option Addr) (c : Nat) (B : Option Addr) (d : Nat) (S : List Fct) (P : List Pk) (spot : Int) (h : ForR w A c B d S P) (ho : OkFor S P) (hs : 0 ≤ spot ∧ spot < (S.length : Int)) :
    Calls Try.prog 33 #[forV A S.length c B P.length d, .int .i64 spot] w (Sam w (.int .i64 0)) := by
  have k0 := Blk.new w 75 #[.slice A S.length c, .slice B P.length d]
  have u0 : Below w.heap.size w (w.alloc (.cells #[.slice A S.length c, .slice B P.length d] 75)) := (Below.refl _ _).alloc (Nat.le_refl _) _
  have H := Lib.hid (And.intro h (And.intro k0 u0))
  clear h k0 u0
  go_enter Try.func33, Try.ntmps33
  unfold forV
  go_upto_region 1 with (fail)
  generalize w.alloc (.cells #[.slice A S.length c, .slice B P.length d] 75) = W0 at H ⊢
  have q0 : W0.cell? ⟨w.heap.size, 0, none⟩ = some (.slice A S.length c) := H.out.2.1.cell 0
  have q1 : W0.cell? ⟨w.heap.size, 1, none⟩ = some (.slice B P.length d) := H.out.2.1.cell 1
  go_wp2_with fail
  refine (rcheck_yes W0 A c B d S P (H.out.1.below H.out.2.2) ho).mono ?_
  rintro e w1 ⟨rfl, b1⟩
  have k1 := H.out.2.1.upd (Upd.of_below b1 (fun _ => False)) id
  have q2 : w1.cell? ⟨w.heap.size, 0, none⟩ = some (.slice A S.length c) := k1.cell 0
  have q3 : w1.cell? ⟨w.heap.size, 1, none⟩ = some (.slice B P.length d) := k1.cell 1
  have b2 := H.out.2.2.trans (b1.mono H.out.2.2.size)
  have HC := Lib.hid b2
  clear k1 b1 b2 q0 q1
  have e0 : decide (spot < 0) = false := by simp; omega
  have e1 : decide ((S.length : Int) ≤ spot) = false := by simp; omega
  clear hs
  go_wp2
  go_ret
  exact ⟨rfl, HC.out⟩

end Go.Proofs.Ytbppbgdmoihooaa
