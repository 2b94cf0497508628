/- The shared stack (gss): awake. -/
import Derived.Test.YtbppbgdmoihooaaGssB
import Derived.Test.YtbppbgdmoihooaaGssI
namespace Go.Proofs.Ytbppbgdmoihooaa
open Go.RowKit

/-- A stack of the call's own, from block B on: nothing below B has turned since w. -/
structure Mine (B : Nat) (w w' : World) (F : Nat → Prop) (b : Nat) (N : List GNode) : Prop where
  at_ : StkAt w' F b N
  own : ∀ k, F k → B ≤ k
  below : Below B w w'
  size : B ≤ w'.heap.size

theorem Mine.next {B : Nat} {w w1 w2 : World} {F : Nat → Prop} {b : Nat} {N N' : List GNode} (h : Mine B w w1 F b N) (hn : StkNext w1 F b N' w2) : ∃ F', Mine B w w2 F' b N' ∧ (∀ k, F' k → F k ∨ w1.heap.size ≤ k) ∧ Upd F w1 w2 := by
  obtain ⟨F', h1, h2, h3⟩ := hn
  have := h.size
  exact ⟨F', ⟨h1, fun k hk => by rcases h3 k hk with h4 | h4; exact h.own k h4; omega, h.below.trans (h2.below (fun i _ hi => h.own i hi) h.size), Nat.le_trans h.size h2.size⟩, h3, h2⟩
theorem Mine.keep {B : Nat} {w w1 w2 : World} {F : Nat → Prop} {b : Nat} {N : List GNode} (h : Mine B w w1 F b N) (hb : Below w1.heap.size w1 w2) : Mine B w w2 F b N :=
  ⟨h.at_.upd (G := fun _ => False) (Upd.of_below hb _) (fun _ _ => id), h.own, h.below.trans (hb.mono h.size), Nat.le_trans h.size hb.size⟩
theorem Mine.upd {B : Nat} {w w1 w2 : World} {F G : Nat → Prop} {b : Nat} {N : List GNode} (h : Mine B w w1 F b N) (hu : Upd G w1 w2) (hd : ∀ k, F k → ¬ G k) (hG : ∀ k, G k → B ≤ k) : Mine B w w2 F b N :=
  ⟨h.at_.upd hu hd, h.own, h.below.trans (hu.below (fun i _ hi => hG i hi) h.size), Nat.le_trans h.size hu.size⟩
theorem Mine.new {w w1 : World} {e : Ending} (h : NewPost w e w1) : ∃ b F, e = .returned (.pointer (some ⟨b, 0, none⟩)) ∧ Mine w.heap.size w w1 F b [] := by
  obtain ⟨b, F, rfl, h1, h2, h3⟩ := h
  exact ⟨b, F, rfl, ⟨h1, h3, h2, h2.size⟩⟩
theorem Mine.ret {B : Nat} {w w1 w2 : World} {F : Nat → Prop} {b : Nat} {N N' : List GNode} {e size n : Nat} {xs more : List Value} {en : Ending} (h : Mine B w w1 F b N) (hr : StkRet w1 F b N' e size n xs more en w2) :
    ∃ v F', en = .returned (.tuple (v :: more).toArray) ∧ Mine B w w2 F' b N' ∧ (∀ k, F' k → F k ∨ w1.heap.size ≤ k) ∧ Upd F w1 w2 ∧ w2.ownsRow w1.heap.size e size v n xs ∧ ∀ k, v.ownBlock = some k → ¬ F' k := by
  obtain ⟨v, F', rfl, h1, h2, h3, h4, h5⟩ := hr
  have := h.size
  exact ⟨v, F', rfl, ⟨h1, fun k hk => by rcases h3 k hk with h6 | h6; exact h.own k h6; omega, h.below.trans (h2.below (fun i _ hi => h.own i hi) h.size), Nat.le_trans h.size h2.size⟩, h3, h2, h4, h5⟩

set_option maxHeartbeats 1600000 in
set_option maxRecDepth 20000 in
theorem awake_any (w : World) : Calls Try.prog 15 #[] w fun e w' => e = .returned (.bool true) ∧ Below w.heap.size w w' := by
  go_enter Try.func15, Try.ntmps15
  go_wp2_with fail
  refine (new_any _).mono ?_
  rintro e w1 hn
  obtain ⟨b, F1, rfl, M1⟩ := Mine.new hn
  clear hn
  go_wp2_with fail
  refine (node_new w1 F1 b [] 7 0 (wf_small (by omega) (by omega)) (wf_small (by omega) (by omega)) M1.at_ (by simp) (by rintro i ⟨x, hx, _⟩; simp at hx)).mono ?_
  rintro e w2 ⟨rfl, hn⟩
  obtain ⟨F2, M2, -, -⟩ := M1.next hn
  clear hn M1
  go_wp2_with fail
  refine (node_new w2 F2 b _ 7 1 (wf_small (by omega) (by omega)) (wf_small (by omega) (by omega)) M2.at_ (by simp) (by
    rintro i ⟨x, hx, h1, h2⟩
    match i, hx with
    | 0, hx => simp at hx; subst hx; simp at h2
    | i + 1, hx => simp at hx)).mono ?_
  rintro e w3 ⟨rfl, hn⟩
  obtain ⟨F3, M3, -, -⟩ := M2.next hn
  clear hn M2
  go_wp2_with fail
  refine (node_old w3 F3 b _ 7 0 0 (wf_small (by omega) (by omega)) (wf_small (by omega) (by omega)) M3.at_ ⟨_, rfl, rfl, rfl⟩).mono ?_
  rintro e w4 ⟨rfl, hn⟩
  have M4 := M3.keep hn
  clear hn M3
  go_wp2_with fail
  refine (push_new w4 F3 b _ 1 _ 0 5 M4.at_ rfl (by decide) (by simp) (wf_small (by omega) (by omega)) (by simp) (by simp)).mono ?_
  rintro e w5 hn
  obtain ⟨l5, F5, rfl, M5, -, -, -, -⟩ := M4.ret hn
  clear hn M4
  go_wp2_with fail
  refine (pop_new w5 F5 b _ 1 _ 3 M5.at_ rfl (wf_small (by omega) (by omega)) (by simp) (by simp)).mono ?_
  rintro e w6 hn
  obtain ⟨l6, F6, rfl, M6, -, -, hr, -⟩ := M5.ret hn
  clear hn M5
  obtain ⟨g, c, rfl, -, -, hg, -, hcell⟩ := own_cells hr (by simp)
  have q0 := (hcell 0 (.int .i64 0) rfl).1
  have q1 := (hcell 1 (.int .i64 5) rfl).1
  clear hcell hr
  go_wp2_with fail
  refine (pop_no w6 F6 b _ 2 0 M6.at_ (by simp [addFrame, addPop])).mono ?_
  rintro e w7 ⟨rfl, hb⟩
  have M7 := M6.keep hb
  have r0 : w7.cell? ⟨g, 0, none⟩ = some (.int .i64 0) := (hb.cell (p := ⟨g, 0, none⟩) hg).trans q0
  have r1 : w7.cell? ⟨g, 1, none⟩ = some (.int .i64 5) := (hb.cell (p := ⟨g, 1, none⟩) hg).trans q1
  have HB := Lib.hid M7.below
  clear M6 M7 hb q0 q1 hg
  go_wp2
  go_ret
  exact ⟨rfl, HB.out⟩
end Go.Proofs.Ytbppbgdmoihooaa
