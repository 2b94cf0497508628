/- GssMeets: the walk, what it needs. -/
import Derived.Test.YtbppbgdmoihooaaMeetD
import Derived.Test.YtbppbgdmoihooaaMeetE
import Derived.Test.YtbppbgdmoihooaaMeetC
namespace Go.Proofs.Ytbppbgdmoihooaa
open Go.RowKit

def evCells (l : List Ev) : List Value := l.flatMap fun e => [.int .i64 e.n, .int .i64 e.a, .int .i64 e.b, .bool e.pop]
theorem evCells_app (l l' : List Ev) : evCells (l ++ l') = evCells l ++ evCells l' := by simp [evCells]
theorem info_come : (Try.prog.info? 37).map (fun i => (i.zero, i.size, i.bytes)) = some (some (.agg #[.int .i64 0, .int .i64 0, .int .i64 0, .bool false]), 4, 32) := by kernel_rfl
theorem seven (x : Int) : ∃ n : Nat, bits .and .i64 x 7 = (n : Int) - 1 ∧ 1 ≤ n ∧ n ≤ 8 := by
  have h : bits .and .i64 x 7 = IntKind.i64.wrap ((BitVec.ofInt 64 x &&& BitVec.ofInt 64 7).toNat : Int) := rfl
  have hb : (BitVec.ofInt 64 x &&& BitVec.ofInt 64 7).toNat ≤ 7 := by
    rw [BitVec.toNat_and]
    exact Nat.le_trans Nat.and_le_right (by decide)
  refine ⟨(BitVec.ofInt 64 x &&& BitVec.ofInt 64 7).toNat + 1, ?_, by omega, by omega⟩
  rw [h, IntKind.wrap_i64]
  omega
theorem made_empty (n : Nat) : ∀ x ∈ madeNodes n, x.frames = [] ∧ x.pops = [] := by
  intro x hx
  obtain ⟨i, _, rfl⟩ := List.mem_map.1 hx
  exact ⟨rfl, rfl⟩
theorem rev_at {l : List Ev} {k : Nat} {e : Ev} (hk : k < l.length) (h : l[l.length - 1 - k]? = some e) : l.reverse[k]? = some e := by
  rw [List.getElem?_reverse hk]
  exact h
theorem take_snoc {α : Type} {l : List α} {k : Nat} {e : α} (h : l[k]? = some e) : l.take (k + 1) = l.take k ++ [e] := by
  have hk := (List.getElem?_eq_some_iff.1 h).1
  rw [List.take_succ_eq_append_getElem hk, (List.getElem?_eq_some_iff.1 h).2]
theorem StkAt.below {w w' : World} {F : Nat → Prop} {b : Nat} {N : List GNode} (h : StkAt w F b N) (hb : Below w.heap.size w w') : StkAt w' F b N := h.upd (G := fun _ => False) (Upd.of_below hb _) (fun _ _ => id)
theorem row_below {w w' : World} {base e size n : Nat} {v : Value} {xs : List Value} (h : w.ownsRow base e size v n xs) (hb : Below w.heap.size w w') : w'.ownsRow base e size v n xs := ownsRow_upd h (Upd.of_below hb (fun _ => False)) (fun _ _ => id)
theorem total_take (N : List GNode) (k : Nat) (x : GNode) (h : N[k]? = some x) : total (N.take (k + 1)) = total (N.take k) + x.frames.length * x.pops.length := by
  unfold total
  rw [take_snoc h]
  simp

/-- What the search through both has to lean on. -/
structure Facts (n : Nat) (Ns Nt : List GNode) (L1 L2 : List (Nat × Int × Int × Int)) : Prop where
  ls : Ns.length = n
  each : ∀ k, k < n → ∃ x y, Ns[k]? = some x ∧ Nt[k]? = some y ∧ y.frames.length = x.frames.length ∧ y.pops.length = x.pops.length ∧ x.frames.length ≤ 60 ∧ x.pops.length ≤ 60 ∧
    ∀ f, f ∈ x.frames → ∀ p, p ∈ x.pops → L1.count (k, p, f) = 1 ∧ L2.count (k, p, f) = 1
  len : L2.length = L1.length
  few : L1.length ≤ 3600
  tot : total Ns = L1.length
theorem facts_of (n : Nat) (evs : List Ev) (h : evs.length ≤ 60) : Facts n (runP n (madeNodes n) evs).1 (runP n (madeNodes n) evs.reverse).1 (runP n (madeNodes n) evs).2 (runP n (madeNodes n) evs.reverse).2 := by
  have h0 := made_empty n
  obtain ⟨g1, -⟩ := run_facts h0 evs (n := n)
  obtain ⟨g2, -⟩ := run_facts h0 evs.reverse (n := n)
  have l1 := runP_len n (madeNodes n) evs evs.length
  have l2 := runP_len n (madeNodes n) evs.reverse evs.reverse.length
  have s1 := runP_small h0 evs evs.length (Nat.le_refl _) (n := n)
  rw [List.take_length] at l1 l2 s1
  rw [madeNodes_len] at l1 l2
  refine ⟨l1, fun k hk => ?_, (total_both h0 evs).symm, Nat.le_trans s1.2 (Nat.mul_le_mul h h), g1.len.symm⟩
  have hx := List.getElem?_eq_getElem (l := (runP n (madeNodes n) evs).1) (i := k) (by omega)
  have hy := List.getElem?_eq_getElem (l := (runP n (madeNodes n) evs.reverse).1) (i := k) (by omega)
  obtain ⟨b1, b2, b3, b4⟩ := both_ways h0 evs hx hy
  obtain ⟨t1, t2⟩ := s1.1 k _ hx
  refine ⟨_, _, hx, hy, b3.symm, b4.symm, Nat.le_trans t1 h, Nat.le_trans t2 h, fun f hf p hp => ?_⟩
  rw [g1.cnt, g2.cnt]
  unfold expect
  rw [hx, hy]
  simp only
  rw [if_pos ⟨hf, hp⟩, if_pos ⟨(b1 f).1 hf, (b2 p).1 hp⟩]
  exact ⟨rfl, rfl⟩

/-- How the two stacks stand when all that comes has come. -/
structure Two (B : Nat) (w : World) (Ns Nt : List GNode) (L1 L2 : List (Nat × Int × Int × Int)) (b1 b2 : Nat) (F1 F2 : Nat → Prop) (v1 v2 : Value) (w5 : World) : Prop where
  s : StkAt w5 F1 b1 Ns
  t : StkAt w5 F2 b2 Nt
  m : w5.ownsRow B 50 4 v1 L1.length (metCells L1)
  m2 : w5.ownsRow B 50 4 v2 L2.length (metCells L2)
  bel : Below B w w5
  size : B ≤ w5.heap.size
theorem Two.below {B : Nat} {w : World} {Ns Nt : List GNode} {L1 L2 : List (Nat × Int × Int × Int)} {b1 b2 : Nat} {F1 F2 : Nat → Prop} {v1 v2 : Value} {w5 w6 : World} (h : Two B w Ns Nt L1 L2 b1 b2 F1 F2 v1 v2 w5) (hb : Below w5.heap.size w5 w6) : Two B w Ns Nt L1 L2 b1 b2 F1 F2 v1 v2 w6 :=
  ⟨h.s.below hb, h.t.below hb, row_below h.m hb, row_below h.m2 hb, h.bel.trans (hb.mono h.size), Nat.le_trans h.size hb.size⟩
end Go.Proofs.Ytbppbgdmoihooaa
