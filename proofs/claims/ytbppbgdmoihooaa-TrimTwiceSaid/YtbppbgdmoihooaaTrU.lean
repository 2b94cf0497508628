/- Forests: trim.Pick's refusals; slices.Clip. -/
import Derived.Test.YtbppbgdmoihooaaTrT
import Derived.WalkMore
namespace Go.Proofs.Ytbppbgdmoihooaa
open Go.RowKit

set_option maxRecDepth 20000 in
theorem clip_any (w : World) (b n c : Nat) (h : n ≤ c) (h0 : 0 < n) : Calls Try.prog 69 #[.slice (some ⟨b, 0, none⟩) n c] w (fun e w' => e = .returned (.slice (some ⟨b, 0, none⟩) n n) ∧ w' = w) := by
  have hI : (n : Int) ≤ (c : Int) := by omega
  have h1 : ¬ n = 0 := by omega
  go_enter Try.func69, Try.ntmps69
  go_wp2
  go_ret
  exact ⟨rfl, rfl⟩

set_option maxHeartbeats 1000000 in
set_option maxRecDepth 20000 in
theorem tpick_bad (w : World) (A : Option Addr) (c : Nat) (B : Option Addr) (d : Nat) (S : List Fct) (P : List Pk) (spot : Int) (h : ForR w A c B d S P) (ho : ¬ OkFor S P) :
    Calls Try.prog 39 #[forV A S.length c B P.length d, .int .i64 spot] w (Sam w (.tuple #[.slice none 0 0, .int .i64 320])) := by
  have k0 := Blk.new w 75 #[.slice A S.length c, .slice B P.length d]
  have u0 : Below w.heap.size w (w.alloc (.cells #[.slice A S.length c, .slice B P.length d] 75)) := (Below.refl _ _).alloc (Nat.le_refl _) _
  have H := Lib.hid (And.intro h (And.intro k0 u0))
  clear h k0 u0
  go_enter Try.func39, Try.ntmps39
  unfold forV
  go_upto_region 1 with (fail)
  generalize w.alloc (.cells #[.slice A S.length c, .slice B P.length d] 75) = W0 at H ⊢
  have q0 : W0.cell? ⟨w.heap.size, 0, none⟩ = some (.slice A S.length c) := H.out.2.1.cell 0
  have q1 : W0.cell? ⟨w.heap.size, 1, none⟩ = some (.slice B P.length d) := H.out.2.1.cell 1
  go_step3
  go_wp2_with fail
  refine (asked_bad W0 A c B d S P spot (H.out.1.below H.out.2.2) ho).mono ?_
  rintro e w1 ⟨rfl, b1⟩
  have k1 := H.out.2.1.upd (Upd.of_below b1 (fun _ => False)) id
  have q2 : w1.cell? ⟨w.heap.size, 0, none⟩ = some (.slice A S.length c) := k1.cell 0
  have q3 : w1.cell? ⟨w.heap.size, 1, none⟩ = some (.slice B P.length d) := k1.cell 1
  have b2 := H.out.2.2.trans (b1.mono H.out.2.2.size)
  have HC := Lib.hid b2
  clear k1 b1 b2 q0 q1 q2 q3
  go_wp2
  go_ret2
  exact ⟨rfl, HC.out⟩

set_option maxHeartbeats 1000000 in
set_option maxRecDepth 20000 in
theorem tpick_none (w : World) (A : Option Addr) (c : Nat) (B : Option Addr) (d : Nat) (S : List Fct) (P : List Pk) (spot : Int) (h : ForR w A c B d S P) (ho : OkFor S P) (hs : ¬ (0 ≤ spot ∧ spot < (S.length : Int))) :
    Calls Try.prog 39 #[forV A S.length c B P.length d, .int .i64 spot] w (Sam w (.tuple #[.slice none 0 0, .int .i64 4])) := by
  have k0 := Blk.new w 75 #[.slice A S.length c, .slice B P.length d]
  have u0 : Below w.heap.size w (w.alloc (.cells #[.slice A S.length c, .slice B P.length d] 75)) := (Below.refl _ _).alloc (Nat.le_refl _) _
  have H := Lib.hid (And.intro h (And.intro k0 u0))
  clear h k0 u0
  go_enter Try.func39, Try.ntmps39
  unfold forV
  go_upto_region 1 with (fail)
  generalize w.alloc (.cells #[.slice A S.length c, .slice B P.length d] 75) = W0 at H ⊢
  have q0 : W0.cell? ⟨w.heap.size, 0, none⟩ = some (.slice A S.length c) := H.out.2.1.cell 0
  have q1 : W0.cell? ⟨w.heap.size, 1, none⟩ = some (.slice B P.length d) := H.out.2.1.cell 1
  go_step3
  go_wp2_with fail
  refine (asked_none W0 A c B d S P spot (H.out.1.below H.out.2.2) ho hs).mono ?_
  rintro e w1 ⟨rfl, b1⟩
  have k1 := H.out.2.1.upd (Upd.of_below b1 (fun _ => False)) id
  have q2 : w1.cell? ⟨w.heap.size, 0, none⟩ = some (.slice A S.length c) := k1.cell 0
  have q3 : w1.cell? ⟨w.heap.size, 1, none⟩ = some (.slice B P.length d) := k1.cell 1
  have b2 := H.out.2.2.trans (b1.mono H.out.2.2.size)
  have HC := Lib.hid b2
  clear k1 b1 b2 q0 q1 q2 q3
  go_wp2
  go_ret2
  exact ⟨rfl, HC.out⟩
end Go.Proofs.Ytbppbgdmoihooaa
