/- The shared stack (gss): the calls on no stack. -/
import Derived.Test.YtbppbgdmoihooaaGssI
namespace Go.Proofs.Ytbppbgdmoihooaa
open Go.RowKit

set_option maxHeartbeats 400000 in
theorem is_nil (w : World) : Calls Try.prog 51 #[.pointer none] w fun e w' => e = .returned (.bool false) ∧ w = w' := by
  go_enter Try.func51, Try.ntmps51
  go_wp2
  go_ret
  exact ⟨rfl, rfl⟩

set_option maxHeartbeats 400000 in
theorem wrong_nil (w : World) (v : Value) : Calls Try.prog 52 #[.pointer none, v] w fun e w' => e = .returned (.int .i64 1) ∧ w = w' := by
  go_enter Try.func52, Try.ntmps52
  go_wp2_with (go_at_call 51; refine (is_nil _).mono ?_; rintro e w' ⟨rfl, rfl⟩)
  go_ret
  exact ⟨rfl, rfl⟩

set_option maxHeartbeats 400000 in
theorem len_nil (w : World) : Calls Try.prog 14 #[.pointer none] w fun e w' => e = .returned (.int .i64 0) ∧ w = w' := by
  go_enter Try.func14, Try.ntmps14
  go_wp2_with (go_at_call 51; refine (is_nil _).mono ?_; rintro e w' ⟨rfl, rfl⟩)
  go_ret
  exact ⟨rfl, rfl⟩

set_option maxHeartbeats 400000 in
theorem node_nil (w : World) (m p : Int) : Calls Try.prog 12 #[.pointer none, .int .i64 m, .int .i64 p] w (Same w (.tuple #[.int .i64 0, .bool false])) := by
  go_enter Try.func12, Try.ntmps12
  go_wp2_with (go_at_call 51; refine (is_nil _).mono ?_; rintro e w' ⟨rfl, rfl⟩)
  go_ret2
  exact ⟨rfl, Below.refl _ _⟩

set_option maxHeartbeats 400000 in
set_option maxRecDepth 20000 in
theorem at_nil (w : World) (n : Int) : Calls Try.prog 13 #[.pointer none, .int .i64 n] w (Same w (.tuple #[.int .i64 0, .int .i64 0, .int .i64 1])) := by
  have hB : Below w.heap.size w (w.alloc (.cells #[.int .i64 n] 3)) := (Below.refl _ _).alloc (Nat.le_refl _) _
  have H := Lib.hid hB
  clear hB
  go_enter Try.func13, Try.ntmps13
  go_wp2_with (go_at_call 52; refine (wrong_nil _ _).mono ?_; rintro e w' ⟨rfl, rfl⟩)
  first | (refine bodyPost_ret (results_tmp3 rfl _ _ _) rfl ?_) | go_ret2
  exact ⟨rfl, H.out⟩

set_option maxHeartbeats 400000 in
set_option maxRecDepth 20000 in
theorem frames_nil (w : World) (n : Int) : Calls Try.prog 18 #[.pointer none, .int .i64 n] w (Same w (.tuple #[.slice none 0 0, .int .i64 1])) := by
  have hB : Below w.heap.size w (w.alloc (.cells #[.int .i64 n] 3)) := (Below.refl _ _).alloc (Nat.le_refl _) _
  have H := Lib.hid hB
  clear hB
  go_enter Try.func18, Try.ntmps18
  go_wp2_with (go_at_call 52; refine (wrong_nil _ _).mono ?_; rintro e w' ⟨rfl, rfl⟩)
  go_ret2
  exact ⟨rfl, H.out⟩

set_option maxHeartbeats 400000 in
set_option maxRecDepth 20000 in
theorem pops_nil (w : World) (n : Int) : Calls Try.prog 19 #[.pointer none, .int .i64 n] w (Same w (.tuple #[.slice none 0 0, .int .i64 1])) := by
  have hB : Below w.heap.size w (w.alloc (.cells #[.int .i64 n] 3)) := (Below.refl _ _).alloc (Nat.le_refl _) _
  have H := Lib.hid hB
  clear hB
  go_enter Try.func19, Try.ntmps19
  go_wp2_with (go_at_call 52; refine (wrong_nil _ _).mono ?_; rintro e w' ⟨rfl, rfl⟩)
  go_ret2
  exact ⟨rfl, H.out⟩

set_option maxHeartbeats 400000 in
set_option maxRecDepth 20000 in
theorem pop_nil (w : World) (n p : Int) : Calls Try.prog 27 #[.pointer none, .int .i64 n, .int .i64 p] w (Same w (.tuple #[.slice none 0 0, .bool false, .int .i64 1])) := by
  have hB : Below w.heap.size w (w.alloc (.cells #[.int .i64 n] 3)) := (Below.refl _ _).alloc (Nat.le_refl _) _
  have H := Lib.hid hB
  clear hB
  go_enter Try.func27, Try.ntmps27
  go_wp2_with (go_at_call 52; refine (wrong_nil _ _).mono ?_; rintro e w' ⟨rfl, rfl⟩)
  refine bodyPost_ret (results_tmp3 rfl _ _ _) rfl ?_
  exact ⟨rfl, H.out⟩

set_option maxHeartbeats 400000 in
set_option maxRecDepth 20000 in
theorem push_nil (w : World) (n p q : Int) : Calls Try.prog 26 #[.pointer none, .int .i64 n, .agg #[.int .i64 p, .int .i64 q]] w (Same w (.tuple #[.slice none 0 0, .bool false, .int .i64 1])) := by
  have hB : Below w.heap.size w ((w.alloc (.cells #[.int .i64 p, .int .i64 q] 48)).alloc (.cells #[.int .i64 n, .int .i64 p] 3)) := ((Below.refl _ _).alloc (Nat.le_refl _) _).alloc (by simp) _
  have H := Lib.hid hB
  clear hB
  go_enter Try.func26, Try.ntmps26
  go_wp2_with (go_at_call 52; refine (wrong_nil _ _).mono ?_; rintro e w' ⟨rfl, rfl⟩)
  refine bodyPost_ret (results_tmp3 rfl _ _ _) rfl ?_
  exact ⟨rfl, H.out⟩

/-- All of no stack: a function that holds an empty list. -/
def AllNone (w : World) (e : Ending) (w' : World) : Prop :=
  e = .returned (.func (.func 60) #[] #[.pointer (some ⟨w.heap.size, 0, none⟩)]) ∧ w' = w.alloc (.cells #[.slice none 0 0] 120)
set_option maxHeartbeats 400000 in
set_option maxRecDepth 20000 in
theorem all_nil (w : World) : Calls Try.prog 28 #[.pointer none] w (AllNone w) := by
  go_enter Try.func28, Try.ntmps28
  go_wp2_with (go_at_call 51; refine (is_nil _).mono ?_; rintro e w' ⟨rfl, rfl⟩)
  go_ret
  exact ⟨rfl, rfl⟩
end Go.Proofs.Ytbppbgdmoihooaa
