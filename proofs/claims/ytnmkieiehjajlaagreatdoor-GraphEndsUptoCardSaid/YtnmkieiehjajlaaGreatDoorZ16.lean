/- A graph, a list of texts, a list of edges that come in, read: the slices lie in memory, and none is too great. -/
import Derived.Test.YtnmkieiehjajlaaGreatDoorZ12
import Derived.ProofKit
import Derived.OpenShut
import Derived.ShutString
import Derived.ChangeOld
import Derived.ChangeSame
import Derived.Below
import Derived.Deep.Slices
import Derived.MapViews
import Derived.SizedLaws
set_option linter.unusedVariables false
set_option linter.unusedSimpArgs false
namespace Go.Proofs.YtnmkieiehjajlaaGreatDoor.edRead
open Go.ChangeShapes Go.WideShapes Go.ChangeAt Go.RowKit
set_option linter.unusedVariables false

theorem own : ownKnob Tryz.prog.godebug = none := by kernel_rfl
theorem laidOut : laidOutB Tryz.prog = true := by kernel_rfl

section
variable {H : Type} {enc : TypeId × Value → H} {P : Program} {w : World}
/-- A slice of plain elements, opened to cells; its capacity within the reach. -/
theorem open_plain {t e m fuel : Nat} {v : Value} {x : DataW H × List MemPlace} (ht : P.underlying t = some (.slice e)) (hk : P.keyTypeAt m e = true)
    (h : DataW.trod enc P w 0 (fun _ => true) true fuel t [v] = some x) (hz : ∀ n ∈ x.1.weights P t, n ≤ reachBytes) :
    v = .slice none 0 0 ∨ ∃ a n c, v = .slice (some a) n c ∧ n ≤ c ∧ c * P.bytesOf e ≤ reachBytes ∧ ∀ i, i < c → ∃ cs L, cs.length = P.cellsOf e ∧ (∀ j, j < P.cellsOf e → w.cell? (a.add (i * P.cellsOf e + j)) = cs[j]?) ∧ P.keyLits m e cs = some L := by
  rcases Deep.open_slice ht h with ⟨hcs, _⟩ | ⟨a, len, cap, m', n', D, Pl, hcs, _, hl, hm, hmm, hx, hi⟩
  · injection hcs with hcs
    exact .inl hcs
  · injection hcs with hcs
    subst hcs
    obtain rfl : m' = cap := by rw [hmm]; exact if_pos rfl
    refine .inr ⟨a, len, m', rfl, hl, ?_, fun i hic => ?_⟩
    · subst hx
      exact hz (m' * P.bytesOf e) (by
        simp only [DataW.weights, ht, List.length_map, List.length_range, show len + (m' - len) = m' by omega]
        simp)
    · obtain ⟨cs', hc, ht'⟩ := hi i (by simpa using hic)
      obtain ⟨_, hlen, hat⟩ := World.cells?_some hc
      exact ⟨cs', _, hlen, fun j hj => by rw [← Deep.add_add]; exact hat j hj, (keyLits_of_trod m e hk n' cs' _ ht').1⟩
end

theorem cells_txt : Tryz.prog.cellsOf 9 = 1 := by kernel_rfl
theorem lits_txt {n : Nat} {c : Value} {l : List Lit} (h : Tryz.prog.keyLits n 9 [c] = some l) : ∃ s : Txt, c = .string s ∧ TxtOk s := by
  cases n with
  | zero => simp [Program.keyLits] at h
  | succ n =>
    unfold Program.keyLits at h
    simp only [Tryz.underlying9] at h
    cases c <;> simp at h
    obtain ⟨hw, _⟩ := h
    refine ⟨_, rfl, ?_⟩
    unfold TxtOk
    unfold maxLen at hw
    omega
theorem len_one {α : Type} : ∀ {l : List α}, l.length = 1 → ∃ a, l = [a]
  | [a], _ => ⟨a, rfl⟩
theorem len_two {α : Type} : ∀ {l : List α}, l.length = 2 → ∃ a b, l = [a, b]
  | [a, b], _ => ⟨a, b, rfl⟩
theorem len_three {α : Type} : ∀ {l : List α}, l.length = 3 → ∃ a b c, l = [a, b, c]
  | [a, b, c], _ => ⟨a, b, c, rfl⟩
theorem cells_edge : Tryz.prog.cellsOf 52 = 3 := by kernel_rfl
theorem bytes_txt : Tryz.prog.bytesOf 9 = 16 := by kernel_rfl
theorem bytes_edge : Tryz.prog.bytesOf 52 = 48 := by kernel_rfl
theorem lits_ed {cs : List Value} {L : List Lit} (hl : cs.length = 3) (h : Tryz.prog.keyLits 2 52 cs = some L) : ∃ x : Ed, cs = x.cells ∧ EdOk x := by
  obtain ⟨c0, c1, c2, rfl⟩ := len_three hl
  rw [show (2 : Nat) = 1 + 1 from rfl] at h
  unfold Program.keyLits at h
  simp only [Tryz.underlying52] at h
  split at h
  · obtain ⟨l, hl', _⟩ := Option.map_eq_some_iff.1 h
    simp only [cells_txt, List.mapM_cons, List.mapM_nil, bind, Option.bind_eq_some_iff] at hl'
    obtain ⟨l0, h0, q0, ⟨l1, h1, q1, ⟨l2, h2, -⟩, -⟩, -⟩ := hl'
    simp at h0 h1 h2
    obtain ⟨x, rfl, hx⟩ := lits_txt h0
    obtain ⟨y, rfl, hy⟩ := lits_txt h1
    obtain ⟨z, rfl, hz⟩ := lits_txt h2
    exact ⟨⟨x, y, z⟩, rfl, hx, hy, hz⟩
  · cases h

/-- Cells by index make a row. -/
theorem row_of {α : Type} [Inhabited α] (cells : α → List Value) (k : Nat) (hlen : ∀ x, (cells x).length = k) (h0 : 0 < k) {W : World} {a : Addr} {n : Nat} (Q : α → Prop) (hg : ∀ i, i < n → ∃ x : α, Q x ∧ ∀ j, j < k → W.cell? (a.add (i * k + j)) = (cells x)[j]?) :
    ∃ l : List α, l.length = n ∧ (∀ x ∈ l, Q x) ∧ RowR W (some a) (l.flatMap cells) := by
  obtain ⟨f, hf⟩ := Deep.choose_lt hg
  refine ⟨(List.range n).map f, by simp, ?_, ?_⟩
  · intro x hx
    obtain ⟨i, hi, rfl⟩ := List.mem_map.1 hx
    exact (hf i (List.mem_range.1 hi)).1
  · intro j u hj
    have hlt := (List.getElem?_eq_some_iff.1 hj).1
    rw [flat_len cells k hlen] at hlt
    simp only [List.length_map, List.length_range] at hlt
    have hi : j / k < n := Nat.div_lt_of_lt_mul (by rw [Nat.mul_comm]; exact hlt)
    have hjm : j % k < k := Nat.mod_lt _ h0
    have hjd : j / k * k + j % k = j := by rw [Nat.mul_comm]; exact Nat.div_add_mod j k
    have h1 := flat_get cells k hlen ((List.range n).map f) (j / k) (j % k) (f (j / k)) (by rw [List.getElem?_map, List.getElem?_range hi]; rfl) hjm
    rw [hjd, hj] at h1
    have h2 := (hf (j / k) hi).2 (j % k) hjm
    rw [hjd, ← h1] at h2
    have h3 := (hf 0 (Nat.lt_of_le_of_lt (Nat.zero_le _) hi)).2 0 h0
    have hlen0 := hlen (f 0)
    rw [List.getElem?_eq_getElem (by omega)] at h3
    have hs := World.cell?_spot h3
    obtain ⟨b, o, s⟩ := a
    obtain rfl : s = none := by simpa [Addr.add] using hs
    rw [Addr.add_lit] at h2
    exact ⟨b, o, rfl, h2⟩
instance : Inhabited Txt := ⟨ByteArray.empty⟩
instance : Inhabited Ed := ⟨⟨default, default, default⟩⟩
theorem flat_txt (l : List Txt) : (l.flatMap fun s => [Value.string s]) = txtCells l := by
  induction l with
  | nil => rfl
  | cons x l ih => rw [List.flatMap_cons, ih]; rfl

theorem read_txts {H : Type} {enc : TypeId × Value → H} {W : World} {fuel : Nat} {v : Value} {y : DataW H × List MemPlace} (t0 : DataW.trod enc Tryz.prog W 0 (fun _ => true) true fuel 22 [v] = some y)
    (w0 : ∀ n ∈ y.1.weights Tryz.prog 22, n ≤ reachBytes) : ∃ A c N, v = .slice A (List.length N) c ∧ RowR W A (txtCells N) ∧ N.length ≤ c ∧ N.length * 16 ≤ 140737488355328 ∧ ∀ s ∈ N, TxtOk s := by
  rcases open_plain Tryz.underlying22 (m := 2) (by kernel_rfl) t0 w0 with rfl | ⟨a, n, c, rfl, hnc, hb, hi⟩
  · exact ⟨none, 0, [], rfl, fun j u hj => by simp [txtCells] at hj, Nat.le_refl _, by simp, by simp⟩
  · obtain ⟨l, hl, hq, hr⟩ := row_of (fun s : Txt => [Value.string s]) 1 (fun _ => rfl) (by decide) (W := W) (a := a) (n := n) TxtOk (fun i hin => by
      obtain ⟨cs, L, hlen, hat, hL⟩ := hi i (by omega)
      rw [cells_txt] at hat hlen
      obtain ⟨c0, rfl⟩ := len_one hlen
      obtain ⟨s, rfl, hs⟩ := lits_txt hL
      exact ⟨s, hs, hat⟩)
    subst hl
    rw [bytes_txt] at hb
    simp only [reachBytes] at hb
    rw [flat_txt] at hr
    exact ⟨_, c, l, rfl, hr, hnc, by omega, hq⟩
theorem read_eds {H : Type} {enc : TypeId × Value → H} {W : World} {fuel : Nat} {v : Value} {y : DataW H × List MemPlace} (t0 : DataW.trod enc Tryz.prog W 0 (fun _ => true) true fuel 23 [v] = some y)
    (w0 : ∀ n ∈ y.1.weights Tryz.prog 23, n ≤ reachBytes) : ∃ A c E, v = .slice A (List.length E) c ∧ RowR W A (edCells E) ∧ E.length ≤ c ∧ E.length * 48 ≤ 140737488355328 ∧ ∀ x ∈ E, EdOk x := by
  rcases open_plain Tryz.underlying23 (m := 2) (by kernel_rfl) t0 w0 with rfl | ⟨a, n, c, rfl, hnc, hb, hi⟩
  · exact ⟨none, 0, [], rfl, fun j u hj => by simp [edCells] at hj, Nat.le_refl _, by simp, by simp⟩
  · obtain ⟨l, hl, hq, hr⟩ := row_of Ed.cells 3 (fun _ => rfl) (by decide) (W := W) (a := a) (n := n) EdOk (fun i hin => by
      obtain ⟨cs, L, hlen, hat, hL⟩ := hi i (by omega)
      rw [cells_edge] at hat hlen
      obtain ⟨f, rfl, hw⟩ := lits_ed hlen hL
      exact ⟨f, hw, hat⟩)
    subst hl
    rw [bytes_edge] at hb
    simp only [reachBytes] at hb
    exact ⟨_, c, l, rfl, hr, hnc, by omega, hq⟩
theorem cells_edges : Tryz.prog.cellsOf 54 = 2 := by kernel_rfl
theorem cells_txts : Tryz.prog.cellsOf 22 = 1 := by kernel_rfl
theorem cells_eds : Tryz.prog.cellsOf 23 = 1 := by kernel_rfl

set_option maxRecDepth 20000 in
/-- A graph that comes in. -/
theorem read_edges {H : Type} {enc : TypeId × Value → H} {W : World} {base : Nat} {v : Value} {d0 : DataW H} {p0 : List MemPlace} (hv : Value.okWide Tryz.prog W .any base 54 v) (h : DataW.Trod enc Tryz.prog W 0 (fun _ => true) true 54 v d0 p0)
    (hz : ∀ n ∈ d0.weights Tryz.prog 54, n ≤ reachBytes) : ∃ A c B d N E, v = twoV A (List.length N) c B (List.length E) d ∧ ForG W A c B d N E := by
  obtain ⟨cs, rfl, hcs⟩ := okWide_struct Tryz.underlying54 hv
  rw [cells_edges] at hcs
  obtain ⟨c0, c1, hc⟩ := len_two (l := cs.toList) (by simpa using hcs)
  obtain rfl : cs = #[c0, c1] := by cases cs; simp_all
  obtain ⟨fuel, hf⟩ := h
  obtain ⟨y0, y1, n, hx, -, t0, t1⟩ := trod_struct2 Tryz.underlying54 hf
  simp only [Value.cells, cells_txts, cells_eds, List.drop_zero, List.take_succ_cons, List.take_zero, List.drop_succ_cons] at t0 t1
  injection hx with hx1 hx2
  subst hx1
  have w0 : ∀ n ∈ y0.1.weights Tryz.prog 22, n ≤ reachBytes := fun n hn => hz n (by
    simp only [DataW.weights, Tryz.underlying54, DataW.weightsEach, List.map_cons, List.map_nil, List.mem_append]
    exact .inl hn)
  have w1 : ∀ n ∈ y1.1.weights Tryz.prog 23, n ≤ reachBytes := fun n hn => hz n (by
    simp only [DataW.weights, Tryz.underlying54, DataW.weightsEach, List.map_cons, List.map_nil, List.mem_append]
    exact .inr (.inl hn))
  obtain ⟨A, c, N, rfl, hr0, hc0, hb0, hq0⟩ := read_txts t0 w0
  obtain ⟨B, d, E, rfl, hr1, hc1, hb1, hq1⟩ := read_eds t1 w1
  exact ⟨A, c, B, d, N, E, rfl, hr0, hr1, hc0, hc1, hb0, hb1, hq0, hq1⟩
end Go.Proofs.YtnmkieiehjajlaaGreatDoor.edRead
