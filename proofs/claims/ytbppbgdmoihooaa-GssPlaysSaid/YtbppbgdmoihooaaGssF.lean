/- The shared stack (gss): Frames, Pops, Push, Pop. -/
import Derived.Test.YtbppbgdmoihooaaGssE
import Derived.Test.YtbppbgdmoihooaaOrd
namespace Go.Proofs.Ytbppbgdmoihooaa
open Go.RowKit

theorem wf_small {a : Int} (h0 : 0 ≤ a) (h1 : a < 2000000) : Wf a := WalkArith.wf_i64 (by omega)
theorem one_frame (l : List (Int × Int)) : ∀ u ∈ frameCells l, u.oneCell' = true := by
  intro u hu
  obtain ⟨p, _, hp⟩ := List.mem_flatMap.1 hu
  simp at hp
  rcases hp with rfl | rfl <;> rfl
theorem one_pop (l : List Int) : ∀ u ∈ popCells l, u.oneCell' = true := by
  intro u hu
  obtain ⟨p, _, rfl⟩ := List.mem_map.1 hu
  rfl

/-- What comes back is a tuple of a new row and some more; nothing that was there has turned. -/
def RowTuple (w : World) (e size n : Nat) (xs : List Value) (more : List Value) (en : Ending) (w' : World) : Prop := ∃ v, en = .returned (.tuple (v :: more).toArray) ∧ w'.ownsRow w.heap.size e size v n xs ∧ Below w.heap.size w w'

/-- Behind a call that changes the stack: its nodes are N', and a new row v comes back. -/
def StkRet (w : World) (F : Nat → Prop) (b : Nat) (N' : List GNode) (e size n : Nat) (xs : List Value) (more : List Value) (en : Ending) (w' : World) : Prop :=
  ∃ v F', en = .returned (.tuple (v :: more).toArray) ∧ StkAt w' F' b N' ∧ Upd F w w' ∧ (∀ k, F' k → F k ∨ w.heap.size ≤ k) ∧ w'.ownsRow w.heap.size e size v n xs ∧ ∀ k, v.ownBlock = some k → ¬ F' k

theorem StkRet.of_next {w w8 w9 : World} {F : Nat → Prop} {b : Nat} {N : List GNode} {e size n : Nat} {xs : List Value} {v : Value} (h : StkNext w F b N w8) (hr : w9.ownsRow w8.heap.size e size v n xs) (hb : Below w8.heap.size w8 w9) (more : List Value) :
    StkRet w F b N e size n xs more (.returned (.tuple (v :: more).toArray)) w9 := by
  obtain ⟨F', h1, h2, h3⟩ := h
  refine ⟨v, F', rfl, h1.upd (G := fun _ => False) (Upd.of_below hb _) (fun _ _ => id), h2.trans (F' := fun _ => False) (Upd.of_below hb _) (fun _ => False.elim), h3, ownsRow_base hr fun k hk => Nat.le_trans h2.size (hr.lt k hk).1, ?_⟩
  intro k hk hf
  have := (hr.lt k hk).1
  have := h1.lt k hf
  omega

set_option maxHeartbeats 400000 in
set_option maxRecDepth 20000 in
theorem frames_yes (w : World) (F : Nat → Prop) (b : Nat) (N : List GNode) (i : Nat) (x : GNode) (h : StkAt w F b N) (hi : N[i]? = some x) :
    Calls Try.prog 18 #[.pointer (some ⟨b, 0, none⟩), .int .i64 i] w (RowTuple w 48 2 x.frames.length (frameCells x.frames) [.int .i64 0]) := by
  have hlt := (List.getElem?_eq_some_iff.1 hi).1
  have u1 := (Upd.refl (fun _ => False) w).alloc (.cells #[.int .i64 (i : Int)] 3)
  have k0 := Blk.new w 3 #[.int .i64 (i : Int)]
  have hB : Below w.heap.size w (w.alloc (.cells #[.int .i64 (i : Int)] 3)) := (Below.refl _ _).alloc (Nat.le_refl _) _
  have h1 := h.upd u1 (fun _ _ => id)
  have hw : wrongOf N.length [(i : Int)] = 0 := wrongOf_good (by simp; omega)
  obtain ⟨O, D, hs, rfl⟩ := h1
  obtain ⟨g, c, hnv, -, hc, -, -, -, n2, n3, -⟩ := node_cells hs hi
  have c3 : (w.alloc (.cells #[.int .i64 (i : Int)] 3)).cell? ⟨b, 3, none⟩ = some (.slice (some ⟨g, 0, none⟩) N.length c) := by rw [← hnv]; exact hs.blk.cell 3
  have hr := hs.rowF i x hi
  have hsm := (hs.wf x (List.mem_of_getElem? hi)).2.2.2.2.1
  have H : Hid _ := Lib.hid (And.intro hr (And.intro hsm (And.intro k0 (And.intro hB (show StkAt _ (fun k => O k ≠ none) b N from ⟨O, D, hs, rfl⟩)))))
  clear u1 k0 hB hs hnv hi hr hsm h
  go_enter Try.func18, Try.ntmps18
  go_wp2_with (first | (go_at_call 52; refine (wrong_any _ _ b N H.out.2.2.2.2 w.heap.size _ [(i : Int)] (fun j y hj => by
    match j, hj with
    | 0, hj => simp at hj; subst hj; exact H.out.2.2.1.cell 0
    | j + 1, hj => simp at hj) (by simp)).mono ?_; rintro e w' ⟨rfl, rfl⟩) | (go_at_call 53; refine (own_frame _ _ _ _ _ H.out.1 (one_frame _) (by have := H.out.2.1; omega)).mono ?_; rintro e w' ⟨v', rfl, hq, hb⟩))
  go_ret2
  exact ⟨_, rfl, ownsRow_base hq fun k hk => Nat.le_trans H.out.2.2.2.1.size (hq.lt k hk).1, H.out.2.2.2.1.trans (hb.mono H.out.2.2.2.1.size)⟩

set_option maxHeartbeats 400000 in
set_option maxRecDepth 20000 in
theorem pops_yes (w : World) (F : Nat → Prop) (b : Nat) (N : List GNode) (i : Nat) (x : GNode) (h : StkAt w F b N) (hi : N[i]? = some x) :
    Calls Try.prog 19 #[.pointer (some ⟨b, 0, none⟩), .int .i64 i] w (RowTuple w 3 1 x.pops.length (popCells x.pops) [.int .i64 0]) := by
  have hlt := (List.getElem?_eq_some_iff.1 hi).1
  have u1 := (Upd.refl (fun _ => False) w).alloc (.cells #[.int .i64 (i : Int)] 3)
  have k0 := Blk.new w 3 #[.int .i64 (i : Int)]
  have hB : Below w.heap.size w (w.alloc (.cells #[.int .i64 (i : Int)] 3)) := (Below.refl _ _).alloc (Nat.le_refl _) _
  have h1 := h.upd u1 (fun _ _ => id)
  have hw : wrongOf N.length [(i : Int)] = 0 := wrongOf_good (by simp; omega)
  obtain ⟨O, D, hs, rfl⟩ := h1
  obtain ⟨g, c, hnv, -, hc, -, -, -, n2, n3, -⟩ := node_cells hs hi
  have c3 : (w.alloc (.cells #[.int .i64 (i : Int)] 3)).cell? ⟨b, 3, none⟩ = some (.slice (some ⟨g, 0, none⟩) N.length c) := by rw [← hnv]; exact hs.blk.cell 3
  have hr := hs.rowP i x hi
  have hsm := (hs.wf x (List.mem_of_getElem? hi)).2.2.2.2.2
  have H : Hid _ := Lib.hid (And.intro hr (And.intro hsm (And.intro k0 (And.intro hB (show StkAt _ (fun k => O k ≠ none) b N from ⟨O, D, hs, rfl⟩)))))
  clear u1 k0 hB hs hnv hi hr hsm h
  go_enter Try.func19, Try.ntmps19
  go_wp2_with (first | (go_at_call 52; refine (wrong_any _ _ b N H.out.2.2.2.2 w.heap.size _ [(i : Int)] (fun j y hj => by
    match j, hj with
    | 0, hj => simp at hj; subst hj; exact H.out.2.2.1.cell 0
    | j + 1, hj => simp at hj) (by simp)).mono ?_; rintro e w' ⟨rfl, rfl⟩) | (go_at_call 54; refine (own_int _ _ _ _ _ H.out.1 (one_pop _) (by have := H.out.2.1; omega)).mono ?_; rintro e w' ⟨v', rfl, hq, hb⟩))
  go_ret2
  exact ⟨_, rfl, ownsRow_base hq fun k hk => Nat.le_trans H.out.2.2.2.1.size (hq.lt k hk).1, H.out.2.2.2.1.trans (hb.mono H.out.2.2.2.1.size)⟩
end Go.Proofs.Ytbppbgdmoihooaa
