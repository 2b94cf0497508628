/- A forest that comes in, read: both slices lie in memory, and none is too great. -/
import Derived.Test.YtbppbgdmoihooaaTrA
import Derived.ProofKit
import Derived.OpenShut
import Derived.ShutString
import Derived.ChangeOld
import Derived.ChangeSame
import Derived.Below
import Derived.Deep.Slices
import Derived.MapViews
import Derived.SizedLaws
namespace Go.Proofs.Ytbppbgdmoihooaa.forRead
open Go.ChangeShapes Go.WideShapes Go.ChangeAt Go.RowKit
set_option linter.unusedVariables false

theorem own : ownKnob Try.prog.godebug = none := by kernel_rfl
theorem laidOut : laidOutB Try.prog = true := by kernel_rfl

section
variable {H : Type} {enc : TypeId × Value → H} {P : Program} {w : World}
/-- A slice of plain elements, opened to cells; its capacity within the reach. -/
theorem open_plain {t e m fuel : Nat} {v : Value} {x : DataW H × List MemPlace} (ht : P.underlying t = some (.slice e)) (hk : P.keyTypeAt m e = true)
    (h : DataW.trod enc P w 0 (fun _ => true) true fuel t [v] = some x) (hz : ∀ n ∈ x.1.weights P t, n ≤ reachBytes) :
    v = .slice none 0 0 ∨ ∃ a n c, v = .slice (some a) n c ∧ n ≤ c ∧ c * P.bytesOf e ≤ reachBytes ∧ ∀ i, i < c → ∃ cs L, cs.length = P.cellsOf e ∧ (∀ j, j < P.cellsOf e → w.cell? (a.add (i * P.cellsOf e + j)) = cs[j]?) ∧ P.keyLits m e cs = some L := by
  rcases Deep.open_slice ht h with ⟨hcs, _⟩ | ⟨a, len, cap, m', n', D, Pl, hcs, _, hl, hm, hmm, hx, hi⟩
  · injection hcs with hcs
    exact .inl hcs
  · injection hcs with hcs
    subst hcs
    obtain rfl : m' = cap := by rw [hmm]; exact if_pos rfl
    refine .inr ⟨a, len, m', rfl, hl, ?_, fun i hic => ?_⟩
    · subst hx
      exact hz (m' * P.bytesOf e) (by
        simp only [DataW.weights, ht, List.length_map, List.length_range, show len + (m' - len) = m' by omega]
        simp)
    · obtain ⟨cs', hc, ht'⟩ := hi i (by simpa using hic)
      obtain ⟨_, hlen, hat⟩ := World.cells?_some hc
      exact ⟨cs', _, hlen, fun j hj => by rw [← Deep.add_add]; exact hat j hj, (keyLits_of_trod m e hk n' cs' _ ht').1⟩
end

theorem cells_int : Try.prog.cellsOf 3 = 1 := by kernel_rfl
theorem lits_int {n : Nat} {c : Value} {l : List Lit} (h : Try.prog.keyLits n 3 [c] = some l) : ∃ x, c = .int .i64 x ∧ Wf x := by
  cases n with
  | zero => simp [Program.keyLits] at h
  | succ n =>
    unfold Program.keyLits at h
    simp only [Try.underlying3] at h
    cases c <;> simp at h
    obtain ⟨⟨rfl, hw⟩, _⟩ := h
    exact ⟨_, rfl, hw⟩
theorem len_three {α : Type} : ∀ {l : List α}, l.length = 3 → ∃ a b c, l = [a, b, c]
  | [a, b, c], _ => ⟨a, b, c, rfl⟩
theorem len_five {α : Type} : ∀ {l : List α}, l.length = 5 → ∃ a b c d e, l = [a, b, c, d, e]
  | [a, b, c, d, e], _ => ⟨a, b, c, d, e, rfl⟩
theorem cells_fact : Try.prog.cellsOf 101 = 3 := by kernel_rfl
theorem cells_pack : Try.prog.cellsOf 125 = 5 := by kernel_rfl
theorem bytes_fact : Try.prog.bytesOf 101 = 24 := by kernel_rfl
theorem bytes_pack : Try.prog.bytesOf 125 = 40 := by kernel_rfl
theorem lits_fact {cs : List Value} {L : List Lit} (hl : cs.length = 3) (h : Try.prog.keyLits 2 101 cs = some L) : ∃ f : Fct, cs = f.cells := by
  obtain ⟨c0, c1, c2, rfl⟩ := len_three hl
  rw [show (2 : Nat) = 1 + 1 from rfl] at h
  unfold Program.keyLits at h
  simp only [Try.underlying101] at h
  split at h
  · obtain ⟨l, hl', _⟩ := Option.map_eq_some_iff.1 h
    simp only [cells_int, List.mapM_cons, List.mapM_nil, bind, Option.bind_eq_some_iff] at hl'
    obtain ⟨l0, h0, q0, ⟨l1, h1, q1, ⟨l2, h2, -⟩, -⟩, -⟩ := hl'
    simp at h0 h1 h2
    obtain ⟨x, rfl, hx⟩ := lits_int h0
    obtain ⟨y, rfl, hy⟩ := lits_int h1
    obtain ⟨z, rfl, hz⟩ := lits_int h2
    exact ⟨⟨x, y, z⟩, rfl⟩
  · cases h
theorem lits_pack {cs : List Value} {L : List Lit} (hl : cs.length = 5) (h : Try.prog.keyLits 2 125 cs = some L) : ∃ q : Pk, cs = q.cells ∧ Wf q.spot ∧ Wf q.prod ∧ Wf q.mid ∧ Wf q.left ∧ Wf q.right := by
  obtain ⟨c0, c1, c2, c3, c4, rfl⟩ := len_five hl
  rw [show (2 : Nat) = 1 + 1 from rfl] at h
  unfold Program.keyLits at h
  simp only [Try.underlying125] at h
  split at h
  · obtain ⟨l, hl', _⟩ := Option.map_eq_some_iff.1 h
    simp only [cells_int, List.mapM_cons, List.mapM_nil, bind, Option.bind_eq_some_iff] at hl'
    obtain ⟨l0, h0, q0, ⟨l1, h1, q1, ⟨l2, h2, q2, ⟨l3, h3, q3, ⟨l4, h4, -⟩, -⟩, -⟩, -⟩, -⟩ := hl'
    simp at h0 h1 h2 h3 h4
    obtain ⟨x0, rfl, w0⟩ := lits_int h0
    obtain ⟨x1, rfl, w1⟩ := lits_int h1
    obtain ⟨x2, rfl, w2⟩ := lits_int h2
    obtain ⟨x3, rfl, w3⟩ := lits_int h3
    obtain ⟨x4, rfl, w4⟩ := lits_int h4
    exact ⟨⟨x0, x1, x2, x3, x4⟩, rfl, w0, w1, w2, w3, w4⟩
  · cases h

/-- Cells by index make a row. -/
theorem row_of {α : Type} [Inhabited α] (cells : α → List Value) (k : Nat) (hlen : ∀ x, (cells x).length = k) (h0 : 0 < k) {W : World} {a : Addr} {n : Nat} (Q : α → Prop) (hg : ∀ i, i < n → ∃ x : α, Q x ∧ ∀ j, j < k → W.cell? (a.add (i * k + j)) = (cells x)[j]?) :
    ∃ l : List α, l.length = n ∧ (∀ x ∈ l, Q x) ∧ RowR W (some a) (l.flatMap cells) := by
  obtain ⟨f, hf⟩ := Deep.choose_lt hg
  refine ⟨(List.range n).map f, by simp, ?_, ?_⟩
  · intro x hx
    obtain ⟨i, hi, rfl⟩ := List.mem_map.1 hx
    exact (hf i (List.mem_range.1 hi)).1
  · intro j u hj
    have hlt := (List.getElem?_eq_some_iff.1 hj).1
    rw [flat_len cells k hlen] at hlt
    simp only [List.length_map, List.length_range] at hlt
    have hi : j / k < n := Nat.div_lt_of_lt_mul (by rw [Nat.mul_comm]; exact hlt)
    have hjm : j % k < k := Nat.mod_lt _ h0
    have hjd : j / k * k + j % k = j := by rw [Nat.mul_comm]; exact Nat.div_add_mod j k
    have h1 := flat_get cells k hlen ((List.range n).map f) (j / k) (j % k) (f (j / k)) (by rw [List.getElem?_map, List.getElem?_range hi]; rfl) hjm
    rw [hjd, hj] at h1
    have h2 := (hf (j / k) hi).2 (j % k) hjm
    rw [hjd, ← h1] at h2
    have h3 := (hf 0 (Nat.lt_of_le_of_lt (Nat.zero_le _) hi)).2 0 h0
    have hlen0 := hlen (f 0)
    rw [List.getElem?_eq_getElem (by omega)] at h3
    have hs := World.cell?_spot h3
    obtain ⟨b, o, s⟩ := a
    obtain rfl : s = none := by simpa [Addr.add] using hs
    rw [Addr.add_lit] at h2
    exact ⟨b, o, rfl, h2⟩
instance : Inhabited Fct := ⟨⟨0, 0, 0⟩⟩
instance : Inhabited Pk := ⟨⟨0, 0, 0, 0, 0⟩⟩

theorem len_two {α : Type} : ∀ {l : List α}, l.length = 2 → ∃ a b, l = [a, b]
  | [a, b], _ => ⟨a, b, rfl⟩
theorem cells_forest : Try.prog.cellsOf 75 = 2 := by kernel_rfl
theorem cells_facts : Try.prog.cellsOf 72 = 1 := by kernel_rfl
theorem cells_packs : Try.prog.cellsOf 73 = 1 := by kernel_rfl

set_option maxRecDepth 20000 in
/-- A forest that comes in. -/
theorem read_forest {H : Type} {enc : TypeId × Value → H} {W : World} {base : Nat} {v : Value} {d0 : DataW H} {p0 : List MemPlace} (hv : Value.okWide Try.prog W .any base 75 v) (h : DataW.Trod enc Try.prog W 0 (fun _ => true) true 75 v d0 p0)
    (hz : ∀ n ∈ d0.weights Try.prog 75, n ≤ reachBytes) : ∃ A c B d S P, v = forV A S.length c B P.length d ∧ ForR W A c B d S P := by
  obtain ⟨cs, rfl, hcs⟩ := okWide_struct Try.underlying75 hv
  rw [cells_forest] at hcs
  obtain ⟨c0, c1, hc⟩ := len_two (l := cs.toList) (by simpa using hcs)
  obtain rfl : cs = #[c0, c1] := by cases cs; simp_all
  obtain ⟨fuel, hf⟩ := h
  obtain ⟨y0, y1, n, hx, -, t0, t1⟩ := trod_struct2 Try.underlying75 hf
  simp only [Value.cells, cells_facts, cells_packs, List.drop_zero, List.take_succ_cons, List.take_zero, List.drop_succ_cons] at t0 t1
  injection hx with hx1 hx2
  subst hx1
  have w0 : ∀ n ∈ y0.1.weights Try.prog 72, n ≤ reachBytes := fun n hn => hz n (by
    simp only [DataW.weights, Try.underlying75, DataW.weightsEach, List.map_cons, List.map_nil, List.mem_append]
    exact .inl hn)
  have w1 : ∀ n ∈ y1.1.weights Try.prog 73, n ≤ reachBytes := fun n hn => hz n (by
    simp only [DataW.weights, Try.underlying75, DataW.weightsEach, List.map_cons, List.map_nil, List.mem_append]
    exact .inr (.inl hn))
  have f0 : ∃ A c S, c0 = .slice A (List.length S) c ∧ RowR W A (factCells S) ∧ S.length ≤ c ∧ S.length * 24 ≤ 140737488355328 := by
    rcases open_plain Try.underlying72 (m := 2) (by kernel_rfl) t0 w0 with rfl | ⟨a, n, c, rfl, hnc, hb, hi⟩
    · exact ⟨none, 0, [], rfl, fun j u hj => by simp [factCells] at hj, Nat.le_refl _, by simp⟩
    · obtain ⟨l, hl, -, hr⟩ := row_of Fct.cells 3 (fun _ => rfl) (by decide) (W := W) (a := a) (n := n) (fun _ => True) (fun i hin => by
        obtain ⟨cs, L, hlen, hat, hL⟩ := hi i (by omega)
        rw [cells_fact] at hat hlen
        obtain ⟨f, rfl⟩ := lits_fact hlen hL
        exact ⟨f, trivial, hat⟩)
      subst hl
      rw [bytes_fact] at hb
      simp only [reachBytes] at hb
      exact ⟨_, c, l, rfl, hr, hnc, by omega⟩
  have f1 : ∃ B d P, c1 = .slice B (List.length P) d ∧ RowR W B (packCells P) ∧ P.length ≤ d ∧ P.length * 40 ≤ 140737488355328 ∧ ∀ q ∈ P, Wf q.spot ∧ Wf q.prod ∧ Wf q.mid ∧ Wf q.left ∧ Wf q.right := by
    rcases open_plain Try.underlying73 (m := 2) (by kernel_rfl) t1 w1 with rfl | ⟨a, n, c, rfl, hnc, hb, hi⟩
    · exact ⟨none, 0, [], rfl, fun j u hj => by simp [packCells] at hj, Nat.le_refl _, by simp, by simp⟩
    · obtain ⟨l, hl, hq, hr⟩ := row_of Pk.cells 5 (fun _ => rfl) (by decide) (W := W) (a := a) (n := n) (fun q => Wf q.spot ∧ Wf q.prod ∧ Wf q.mid ∧ Wf q.left ∧ Wf q.right) (fun i hin => by
        obtain ⟨cs, L, hlen, hat, hL⟩ := hi i (by omega)
        rw [cells_pack] at hat hlen
        obtain ⟨f, rfl, hw⟩ := lits_pack hlen hL
        exact ⟨f, hw, hat⟩)
      subst hl
      rw [bytes_pack] at hb
      simp only [reachBytes] at hb
      exact ⟨_, c, l, rfl, hr, hnc, by omega, hq⟩
  obtain ⟨A, c, S, rfl, hr0, hc0, hb0⟩ := f0
  obtain ⟨B, d, P, rfl, hr1, hc1, hb1, hwf⟩ := f1
  exact ⟨A, c, B, d, S, P, rfl, hr0, hr1, hc0, hc1, hb0, hb1, hwf⟩
end Go.Proofs.Ytbppbgdmoihooaa.forRead
