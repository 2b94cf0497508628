/- GssMeets: the plain part: what comes, what meets. -/
import Derived.Test.YtbppbgdmoihooaaGssE
import Derived.Laws.BitsLemmas
import Derived.Laws.BitsAllLaws
namespace Go.Proofs.Ytbppbgdmoihooaa

/-- What comes to a node. -/
structure Ev where
  n : Int
  a : Int
  b : Int
  pop : Bool

/-- A number's lowest six bits. -/
def low (x : Int) : Int := bits .and .i64 x 63
def spotOf (n : Nat) (x : Int) : Nat := (low x).toNat % n
def frameOf (n : Nat) (e : Ev) : Int × Int := ((spotOf n e.a : Int), e.b)

def stepN (n : Nat) (N : List GNode) (e : Ev) : List GNode :=
  match N[spotOf n e.n]? with
  | none => N
  | some x => if e.pop then (if e.a ∈ x.pops then N else addPop N (spotOf n e.n) e.a) else if frameOf n e ∈ x.frames then N else addFrame N (spotOf n e.n) (frameOf n e)
/-- A frame of a node that met a pop of it: node, place, frame. -/
def stepM (n : Nat) (N : List GNode) (e : Ev) : List (Nat × Int × Int × Int) :=
  match N[spotOf n e.n]? with
  | none => []
  | some x => if e.pop then (if e.a ∈ x.pops then [] else x.frames.map fun f => (spotOf n e.n, e.a, f)) else if frameOf n e ∈ x.frames then [] else x.pops.map fun p => (spotOf n e.n, p, frameOf n e)
def stepP (n : Nat) (p : List GNode × List (Nat × Int × Int × Int)) (e : Ev) : List GNode × List (Nat × Int × Int × Int) := (stepN n p.1 e, p.2 ++ stepM n p.1 e)
def runP (n : Nat) (N : List GNode) (l : List Ev) : List GNode × List (Nat × Int × Int × Int) := l.foldl (stepP n) (N, [])

theorem low_nonneg (x : Int) : 0 ≤ low x ∧ low x ≤ 63 := by
  have h : low x = IntKind.i64.wrap ((BitVec.ofInt 64 x &&& BitVec.ofInt 64 63).toNat : Int) := rfl
  have hb : (BitVec.ofInt 64 x &&& BitVec.ofInt 64 63).toNat ≤ 63 := by
    rw [BitVec.toNat_and]
    exact Nat.le_trans Nat.and_le_right (by decide)
  rw [h, IntKind.wrap_i64]
  omega

theorem addFrame_len (N : List GNode) (i : Nat) (f : Int × Int) : (addFrame N i f).length = N.length := by unfold addFrame; split <;> simp
theorem addPop_len (N : List GNode) (i : Nat) (a : Int) : (addPop N i a).length = N.length := by unfold addPop; split <;> simp
theorem stepN_len (n : Nat) (N : List GNode) (e : Ev) : (stepN n N e).length = N.length := by
  unfold stepN
  repeat' split
  all_goals simp [addFrame_len, addPop_len]
theorem runP_snoc {n : Nat} {N : List GNode} {l : List Ev} {k : Nat} {e : Ev} (h : l[k]? = some e) : runP n N (l.take (k + 1)) = stepP n (runP n N (l.take k)) e := by
  have hk := (List.getElem?_eq_some_iff.1 h).1
  have he := (List.getElem?_eq_some_iff.1 h).2
  unfold runP
  rw [List.take_succ_eq_append_getElem hk, List.foldl_append, he]
  rfl
theorem runP_len (n : Nat) (N : List GNode) : ∀ (l : List Ev) (k : Nat), (runP n N (l.take k)).1.length = N.length := by
  intro l k
  induction k with
  | zero => rfl
  | succ k ih =>
    by_cases hk : k < l.length
    · rw [runP_snoc (List.getElem?_eq_getElem hk)]
      show (stepN n _ _).length = _
      rw [stepN_len, ih]
    · rw [List.take_of_length_le (by omega)]
      rw [List.take_of_length_le (by omega)] at ih
      exact ih
def Small (k : Nat) (p : List GNode × List (Nat × Int × Int × Int)) : Prop := (∀ (i : Nat) (x : GNode), p.1[i]? = some x → x.frames.length ≤ k ∧ x.pops.length ≤ k) ∧ p.2.length ≤ k * k
theorem Small.step {k n : Nat} {p : List GNode × List (Nat × Int × Int × Int)} (h : Small k p) (e : Ev) : Small (k + 1) (stepP n p e) := by
  obtain ⟨h1, h2⟩ := h
  have up : ∀ (i : Nat) (x : GNode), p.1[i]? = some x → x.frames.length ≤ k + 1 ∧ x.pops.length ≤ k + 1 := fun i x hx => by have := h1 i x hx; omega
  have hm : (k + 1) * (k + 1) = k * k + k + (k + 1) := by rw [Nat.add_mul, Nat.mul_add]; omega
  refine ⟨fun i x hx => ?_, ?_⟩
  · simp only [stepP, stepN] at hx
    split at hx
    · exact up i x hx
    · rename_i y hy
      have hyk := h1 _ y hy
      split at hx
      · split at hx
        · exact up i x hx
        · unfold addPop at hx
          rw [hy] at hx
          simp only [List.getElem?_set] at hx
          split at hx
          · split at hx
            · injection hx with hx
              subst hx
              simp only [List.length_append, List.length_singleton]
              omega
            · cases hx
          · exact up i x hx
      · split at hx
        · exact up i x hx
        · unfold addFrame at hx
          rw [hy] at hx
          simp only [List.getElem?_set] at hx
          split at hx
          · split at hx
            · injection hx with hx
              subst hx
              simp only [List.length_append, List.length_singleton]
              omega
            · cases hx
          · exact up i x hx
  · simp only [stepP, stepM, List.length_append]
    have : ∀ l : List (Nat × Int × Int × Int), l.length ≤ k → p.2.length + l.length ≤ (k + 1) * (k + 1) := fun l hl => by omega
    refine this _ ?_
    split
    · simp
    · rename_i y hy
      have := h1 _ y hy
      split <;> split <;> simp <;> omega
theorem runP_small {n : Nat} {N : List GNode} (h0 : ∀ x ∈ N, x.frames = [] ∧ x.pops = []) (l : List Ev) : ∀ k, k ≤ l.length → Small k (runP n N (l.take k))
  | 0, _ => ⟨fun i x hx => by have := h0 x (List.mem_of_getElem? hx); simp [this.1, this.2], by simp [runP]⟩
  | k + 1, hk => by
    rw [runP_snoc (List.getElem?_eq_getElem (show k < l.length by omega))]
    exact (runP_small h0 l k (by omega)).step _
end Go.Proofs.Ytbppbgdmoihooaa
