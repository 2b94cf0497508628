/- GssNone: the iterator over nothing, and the walk. -/
import Derived.Test.YtbppbgdmoihooaaNoneA
import Derived.Test.YtbppbgdmoihooaaGssJ
import Derived.RangeFuncNested
import Derived.RangeFuncBound
import Derived.RangeFuncCalls
import Derived.RangeFuncLeaves
import Derived.RangeFuncBox
import Derived.Shelf.Abstract
import Derived.Shelf.RegionOpen
import Derived.WalkKit
import Derived.OwnWalkIn
import Derived.TacticsInMore
import Derived.LoopNIn
import Derived.LoopIn
namespace Go.Proofs.Ytbppbgdmoihooaa
open Go.RowKit Go.Shelf
attribute [local go_sem] Oper.semAt_some

def encF (x : Nat × Int × Int) : Array Value := #[.int .i64 (x.1 : Int), .agg #[.int .i64 x.2.1, .int .i64 x.2.2]]

set_option maxRecDepth 100000 in
set_option maxHeartbeats 1000000 in
theorem each_nil_in (F : Fence) (n : Nat) (h8 : F.fn 60) (hro : F.round = none) (l Bs : Nat) (J : List (Nat × Int × Int) → World → Prop) (W : World) (hBs : W.cell? ⟨Bs, 0, none⟩ = some (.slice none 0 0)) (h0 : J [] W) :
    CallsIn F n Try.prog 60 #[.func (.yield l) #[] #[], .pointer (some ⟨Bs, 0, none⟩)] W fun e W' => (∃ v, e = .returned v) ∧ J [] W' := by
  refine callsIn_of_wp Try.func60 rfl h8 ?_ hro
  simp only [Try.ntmps60, List.size_toArray, List.length_cons, List.length_nil, Nat.reduceAdd, Nat.reduceSub, Array.replicate_succ, Array.replicate_zero, List.push_toArray, List.append_toArray, List.nil_append, List.cons_append]
  gi_wp2
  gi_loopw [7] (fun i wr => i = .int .i64 0 ∧ J [] wr) (fun _ _ => 0)
  case atStart => exact ⟨rfl, h0⟩
  case round =>
    obtain ⟨rfl, hJs⟩ := hrel
    gi_wp2
    go_end0
    exact ⟨⟨_, rfl⟩, hJs⟩

theorem nil_stops (F : Fence) (n : Nat) (h8 : F.fn 60) (hro : F.round = none) (Bs n₀ : Nat) (w : World) (hBs : Bs < w.heap.size) (hc : w.cell? ⟨Bs, 0, none⟩ = some (.slice none 0 0)) :
    SeqStopsK F n Try.prog 60 #[.pointer (some ⟨Bs, 0, none⟩)] encF (Below n₀) (fun ys => ys = []) (fun _ => False) 0 w := fun l J _ W hW _ _ _ h0 => by
  have hc' := (hW.cell (p := ⟨Bs, 0, none⟩) hBs).trans hc
  exact (each_nil_in F n h8 hro l Bs J W hc' h0).mono fun e W' ⟨he, hj⟩ => ⟨he, .inl ⟨_, rfl, hj⟩⟩

theorem eql_func_nil (W : World) (f : Fn) (x y : Array Value) : (binOp .eql 69 (.func f x y) .nilFunc).run Try.prog W = .ok (.bool false) W := by
  have h : Try.prog.underlying 69 = some (.func #[121] #[] false) := by kernel_rfl
  have e9 : ∀ d, (Op.equalIn (d + 1) 69 (.func f x y) .nilFunc).run Try.prog W = .ok false W := fun d => by simp [Op.equalIn, run_underlying h]
  have e : (Op.equal 69 (.func f x y) .nilFunc).run Try.prog W = .ok false W := e9 9999
  simp only [binOp]
  simp [e]
end Go.Proofs.Ytbppbgdmoihooaa
