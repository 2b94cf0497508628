/- GssMeets: made, has, meet. -/
import Derived.Test.YtbppbgdmoihooaaMeetA
import Derived.Test.YtbppbgdmoihooaaLawA

namespace Go.Proofs.Ytbppbgdmoihooaa
open Go.RowKit

def madeNodes (n : Nat) : List GNode := (List.range n).map fun i : Nat => (⟨(i : Int), -(i : Int), [], []⟩ : GNode)
theorem madeNodes_succ (n : Nat) : madeNodes (n + 1) = madeNodes n ++ [⟨(n : Int), -(n : Int), [], []⟩] := by simp [madeNodes, List.range_succ]
theorem madeNodes_len (n : Nat) : (madeNodes n).length = n := by simp [madeNodes]

def MadeInv (w : World) (b k : Nat) (wr : World) : Prop := ∃ F, Mine w.heap.size w wr F b (madeNodes k)
def MadePost (w : World) (n : Nat) (e : Ending) (w' : World) : Prop := ∃ b F, e = .returned (.pointer (some ⟨b, 0, none⟩)) ∧ Mine w.heap.size w w' F b (madeNodes n)

set_option maxHeartbeats 800000 in
set_option maxRecDepth 20000 in
theorem made_any (w : World) (n : Nat) (hn : n ≤ 8) : Calls Try.prog 16 #[.int .i64 n] w (MadePost w n) := by
  go_enter Try.func16, Try.ntmps16
  go_wp2_with fail
  refine (new_any _).mono ?_
  rintro e w1 hn1
  obtain ⟨b, F1, rfl, M1⟩ := Mine.new hn1
  have H1 : Hid _ := Lib.hid M1
  clear hn1 M1
  go_wp2
  go_loopw [4] (fun i wr => ∃ k : Nat, k ≤ n ∧ i = .int .i64 k ∧ MadeInv w b k wr) (fun i _ => n - (intOf i).toNat)
  case atStart => exact ⟨0, Nat.zero_le _, rfl, F1, (show Mine w.heap.size w w1 F1 b [] from H1.out)⟩
  case round =>
    obtain ⟨k, hk, rfl, F, M⟩ := hrel
    have HM := Lib.hid M
    clear M H1
    by_cases hlt : k < n
    · go_wp2_with fail
      refine (node_new wr F b (madeNodes k) k (-(k : Int)) (wf_small (by omega) (by omega)) (WalkArith.wf_i64 (by omega)) HM.out.at_ (by rw [madeNodes_len]; omega) (by
        rintro i ⟨x, hx, h1, -⟩
        simp only [madeNodes, List.getElem?_map, Option.map_eq_some_iff] at hx
        obtain ⟨j, hj, rfl⟩ := hx
        have hjk := (List.getElem?_eq_some_iff.1 hj).1
        have hjv := (List.getElem?_eq_some_iff.1 hj).2
        simp at hjk hjv
        simp at h1
        omega)).mono ?_
      rintro e w2 ⟨rfl, hn2⟩
      obtain ⟨F2, M2, -, -⟩ := HM.out.next hn2
      rw [← madeNodes_succ] at M2
      have HM2 := Lib.hid M2
      clear hn2 M2 HM
      go_wp2
      go_roundw
      case rel => exact ⟨k + 1, by omega, by go_num, F2, HM2.out⟩
      case measure => simp [intOf]; omega
    · obtain rfl : k = n := by omega
      go_wp2
      go_ret
      exact ⟨b, F, rfl, HM.out⟩


def metCells (l : List (Nat × Int × Int × Int)) : List Value := l.flatMap fun m => [.int .i64 m.1, .int .i64 m.2.1, .int .i64 m.2.2.1, .int .i64 m.2.2.2]
theorem metCells_app (l l' : List (Nat × Int × Int × Int)) : metCells (l ++ l') = metCells l ++ metCells l' := by simp [metCells]

/-- In the midst of 'meet': the stack holds N; L has met; a box and a list of the round's own lie apart. -/
structure MeetIn (w : World) (F : Nat → Prop) (b : Nat) (N : List GNode) (L : List (Nat × Int × Int × Int)) (R : Nat → Prop) (v : Value) (wq : World) (F' : Nat → Prop) : Prop where
  at_ : StkAt wq F' b N
  upd : Upd F w wq
  fb : ∀ q, F' q → F q ∨ w.heap.size ≤ q
  out : wq.ownsRow w.heap.size 50 4 v L.length (metCells L)
  dis : ∀ q, v.ownBlock = some q → ¬ F' q ∧ ¬ R q
  lt : ∀ q, R q → q < wq.heap.size

theorem MeetIn.below {w : World} {F : Nat → Prop} {b : Nat} {N : List GNode} {L : List (Nat × Int × Int × Int)} {R : Nat → Prop} {v : Value} {wq w2 : World} {F' : Nat → Prop} (h : MeetIn w F b N L R v wq F') (hb : Below wq.heap.size wq w2) :
    MeetIn w F b N L R v w2 F' :=
  ⟨h.at_.upd (G := fun _ => False) (Upd.of_below hb _) (fun _ _ => id), h.upd.trans (F' := fun _ => False) (Upd.of_below hb _) (fun _ => False.elim), h.fb, ownsRow_upd h.out (Upd.of_below hb (fun _ => False)) (fun _ _ => id), h.dis, fun q hq => Nat.lt_of_lt_of_le (h.lt q hq) hb.size⟩
/-- More of the round's own, in blocks that are there and are not the list's. -/
theorem MeetIn.more {w : World} {F : Nat → Prop} {b : Nat} {N : List GNode} {L : List (Nat × Int × Int × Int)} {R R' : Nat → Prop} {v : Value} {wq : World} {F' : Nat → Prop} (h : MeetIn w F b N L R v wq F')
    (hd : ∀ q, R' q → q < wq.heap.size ∧ v.ownBlock ≠ some q) : MeetIn w F b N L R' v wq F' :=
  ⟨h.at_, h.upd, h.fb, h.out, fun q hq => ⟨(h.dis q hq).1, fun hr => (hd q hr).2 hq⟩, fun q hq => (hd q hq).1⟩
theorem MeetIn.app {w : World} {F : Nat → Prop} {b : Nat} {N : List GNode} {L : List (Nat × Int × Int × Int)} {R : Nat → Prop} {v v' : Value} {wq w2 : World} {F' : Nat → Prop} (h : MeetIn w F b N L R v wq F') {o : Obj} {m : Nat × Int × Int × Int}
    (gr : (wq.alloc o).grownBy w2 v.ownBlock) (own : w2.ownsRow w.heap.size 50 4 v' (L.length + 1) (metCells L ++ metCells [m])) (pl : v'.ownBlock = v.ownBlock ∨ v'.ownBlock = some (wq.alloc o).heap.size) :
    MeetIn w F b N (L ++ [m]) R v' w2 F' ∧ Upd (fun q => v.ownBlock = some q) wq w2 := by
  have U : Upd (fun q => v.ownBlock = some q) wq w2 := ((Upd.refl _ wq).alloc o).grown gr (fun q hq => .inl hq)
  have hsz := h.upd.size
  refine ⟨⟨h.at_.upd U (fun q hf hq => (h.dis q hq).1 hf), h.upd.trans U (fun q hq => .inr (h.out.lt q hq).1), h.fb, by rw [metCells_app, List.length_append]; exact own, ?_, fun q hq => Nat.lt_of_lt_of_le (h.lt q hq) U.size⟩, U⟩
  intro q hq
  rcases pl with h5 | h5
  · rw [h5] at hq
    exact h.dis q hq
  · rw [h5] at hq
    injection hq with hq
    simp at hq
    refine ⟨fun hf => ?_, fun hr => ?_⟩
    · have := h.at_.lt q hf
      omega
    · have := h.lt q hr
      omega
/-- A call on the stack. -/
theorem MeetIn.ret {w : World} {F : Nat → Prop} {b : Nat} {N N' : List GNode} {L : List (Nat × Int × Int × Int)} {R : Nat → Prop} {v : Value} {wq w2 : World} {F' : Nat → Prop} (h : MeetIn w F b N L R v wq F')
    {e size n : Nat} {xs more : List Value} {en : Ending} (hr : StkRet wq F' b N' e size n xs more en w2) (hR : ∀ q, R q → ¬ F' q) :
    ∃ v2 F2, en = .returned (.tuple (v2 :: more).toArray) ∧ MeetIn w F b N' L (fun q => R q ∨ v2.ownBlock = some q) v w2 F2 ∧ w2.ownsRow w.heap.size e size v2 n xs ∧ Upd F' wq w2 ∧ ∀ q, R q → ¬ F2 q := by
  obtain ⟨v2, F2, rfl, h1, h2, h3, h4, h5⟩ := hr
  have hsz := h.upd.size
  refine ⟨v2, F2, rfl, ⟨h1, h.upd.trans h2 h.fb, fun q hq => ?_, ownsRow_upd h.out h2 (fun q hq => (h.dis q hq).1), fun q hq => ?_, fun q hq => ?_⟩, ownsRow_base h4 fun q hq => by have := (h4.lt q hq).1; omega, h2, fun q hq hf => ?_⟩
  · rcases h3 q hq with h6 | h6
    · exact h.fb q h6
    · exact .inr (by omega)
  · have hlt := (h.out.lt q hq).2
    refine ⟨fun hf => ?_, fun hr => ?_⟩
    · rcases h3 q hf with h6 | h6
      · exact (h.dis q hq).1 h6
      · omega
    · rcases hr with hr | hr
      · exact (h.dis q hq).2 hr
      · have := (h4.lt q hr).1
        omega
  · rcases hq with hq | hq
    · exact Nat.lt_of_lt_of_le (h.lt q hq) h2.size
    · exact (h4.lt q hq).2
  · rcases h3 q hf with h6 | h6
    · exact hR q hq h6
    · have := h.lt q hq
      omega

def MeetInv (w : World) (F : Nat → Prop) (b n : Nat) (N : List GNode) (evs : List Ev) (k : Nat) (v : Value) (wr : World) : Prop :=
  ∃ F', MeetIn w F b (runP n N (evs.take k)).1 (runP n N (evs.take k)).2 (fun _ => False) v wr F'
end Go.Proofs.Ytbppbgdmoihooaa
