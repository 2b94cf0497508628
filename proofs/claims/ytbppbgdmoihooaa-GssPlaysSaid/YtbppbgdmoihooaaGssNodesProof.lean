/- The law GssNodes of layer 20 returns true for every input and leaves its argument as it was: Rows.GssNodesSaid, without conditions. -/
import Derived.Test.YtbppbgdmoihooaaLawC
import Derived.ProofKit
import Derived.OpenShut
import Derived.ShutString
import Derived.ChangeOld
import Derived.Below
import Derived.Deep.Slices
import Derived.MapViews
namespace Go.Proofs.Ytbppbgdmoihooaa.gssNodes
open Go.ChangeShapes Go.WideShapes Go.ChangeAt Go.RowKit
set_option linter.unusedVariables false

theorem own : ownKnob Try.prog.godebug = none := by kernel_rfl
theorem laidOut : laidOutB Try.prog = true := by kernel_rfl

section
variable {H : Type} {enc : TypeId × Value → H} {P : Program} {w : World}
/-- An argument that is a slice of plain elements, opened to cells. -/
theorem open_plain {t e m : Nat} {A : Option Addr} {n c : Nat} {d : DataW H} {p : List MemPlace} (ht : P.underlying t = some (.slice e)) (hk : P.keyTypeAt m e = true)
    (h : DataW.Trod enc P w 0 (fun _ => true) true t (.slice A n c) d p) :
    (A = none ∧ n = 0 ∧ c = 0) ∨ ∃ a, A = some a ∧ n ≤ c ∧ c ≤ maxLen ∧ ∀ i, i < c → ∃ cs L, cs.length = P.cellsOf e ∧ (∀ j, j < P.cellsOf e → w.cell? (a.add (i * P.cellsOf e + j)) = cs[j]?) ∧ P.keyLits m e cs = some L := by
  obtain ⟨fuel, hf⟩ := h
  rcases Deep.open_slice ht hf with ⟨hcs, _⟩ | ⟨a, len, cap, m', n', D, Pl, hcs, _, hl, hm, rfl, _, hi⟩
  · simp [Value.cells] at hcs
    exact .inl hcs
  · simp [Value.cells] at hcs
    obtain ⟨rfl, rfl, rfl⟩ := hcs
    refine .inr ⟨a, rfl, hl, hm, fun i hic => ?_⟩
    obtain ⟨cs', hc, ht'⟩ := hi i (by simpa using hic)
    obtain ⟨_, hlen, hat⟩ := World.cells?_some hc
    exact ⟨cs', _, hlen, fun j hj => by rw [← Deep.add_add]; exact hat j hj, (keyLits_of_trod m e hk n' cs' _ ht').1⟩
end

theorem lits_int {n : Nat} {c : Value} {l : List Lit} (h : Try.prog.keyLits n 3 [c] = some l) : ∃ x, c = .int .i64 x ∧ Wf x := by
  cases n with
  | zero => simp [Program.keyLits] at h
  | succ n =>
    unfold Program.keyLits at h
    simp only [Try.underlying3] at h
    cases c <;> simp at h
    obtain ⟨⟨rfl, hw⟩, _⟩ := h
    exact ⟨_, rfl, hw⟩
theorem len_two {α : Type} : ∀ {l : List α}, l.length = 2 → ∃ a b, l = [a, b]
  | [a, b], _ => ⟨a, b, rfl⟩
theorem lits_pair {cs : List Value} {L : List Lit} (h : Try.prog.keyLits 2 27 cs = some L) : ∃ x y, cs = [.int .i64 x, .int .i64 y] ∧ Wf x ∧ Wf y := by
  rw [show (2 : Nat) = 1 + 1 from rfl] at h
  unfold Program.keyLits at h
  simp only [Try.underlying27, cells_key2, cells_int] at h
  split at h
  · rename_i hl
    obtain ⟨c0, c1, rfl⟩ := len_two hl
    obtain ⟨l, hl', _⟩ := Option.map_eq_some_iff.1 h
    simp only [List.range_succ, List.range_zero, List.nil_append, List.cons_append, List.mapM_cons, List.mapM_nil, bind, Option.bind_eq_some_iff] at hl'
    obtain ⟨a, h0, b, ⟨c, h1, _⟩, _⟩ := hl'
    simp at h0 h1
    obtain ⟨x, rfl, hx⟩ := lits_int h0
    obtain ⟨y, rfl, hy⟩ := lits_int h1
    exact ⟨x, y, rfl, hx, hy⟩
  · cases h

/-- The law, of a slice that reads as data. -/
theorem walk {H : Type} {enc : TypeId × Value → H} {d : DataW H} {p : List MemPlace} (W : World) (A : Option Addr) (n c : Nat) (h : DataW.Trod enc Try.prog W 0 (fun _ => true) true 22 (.slice A n c) d p) :
    Calls Try.prog 3 #[.slice A n c] W fun e w' => e = .returned (.bool true) ∧ Below W.heap.size W w' := by
  have hk : Try.prog.keyTypeAt 2 27 = true := by kernel_rfl
  rcases open_plain Try.underlying22 hk h with ⟨rfl, rfl, rfl⟩ | ⟨a, rfl, hnc, hm, hi⟩
  · exact nodes_small W none 0 0 0 0 (by omega) [] rfl (by simp) (by simp) (by omega)
  · have hg : ∀ i, i < n → ∃ x : Int × Int, W.cell? (a.add (i * 2)) = some (.int .i64 x.1) ∧ W.cell? (a.add (i * 2 + 1)) = some (.int .i64 x.2) ∧ Wf x.1 ∧ Wf x.2 := by
      intro i hin
      obtain ⟨cs, L, hlen, hat, hL⟩ := hi i (by omega)
      obtain ⟨x, y, rfl, hx, hy⟩ := lits_pair hL
      rw [cells_key2] at hat
      exact ⟨(x, y), by simpa using hat 0 (by omega), by simpa using hat 1 (by omega), hx, hy⟩
    obtain ⟨f, hf⟩ := Deep.choose_lt hg
    obtain ⟨lb, lo, spot⟩ := a
    have hspot : 0 < n → spot = none := by
      intro hn
      have := World.cell?_spot (hf 0 hn).1
      simpa [Addr.add] using this
    have hA : 0 < n → some (⟨lb, lo, spot⟩ : Addr) = some ⟨lb, lo, none⟩ := fun hn => by rw [hspot hn]
    have hc : ∀ (i : Nat) (x : Int × Int), ((List.range n).map f)[i]? = some x → W.cell? ⟨lb, lo + i * 2, none⟩ = some (.int .i64 x.1) ∧ W.cell? ⟨lb, lo + i * 2 + 1, none⟩ = some (.int .i64 x.2) := by
      intro i x hx
      have hin : i < n := by
        have := (List.getElem?_eq_some_iff.1 hx).1
        simpa using this
      rw [List.getElem?_map, List.getElem?_range hin] at hx
      injection hx with hx
      subst hx
      have hs := hspot (by omega)
      subst hs
      obtain ⟨h1, h2, _, _⟩ := hf i hin
      rw [Addr.add_lit] at h1 h2
      exact ⟨h1, h2⟩
    have hwf : ∀ x ∈ (List.range n).map f, Wf x.1 ∧ Wf x.2 := by
      intro x hx
      obtain ⟨i, hi', rfl⟩ := List.mem_map.1 hx
      exact (hf i (List.mem_range.1 hi')).2.2
    by_cases hb : n ≤ 200
    · exact nodes_small W _ lb lo n c hA _ (by simp) hc hwf hb
    · exact nodes_big W _ lb lo n c hA _ (by simp) hc hwf (by omega) hnc

set_option maxRecDepth 100000 in
theorem lifted (os : Os) (started : os.Started) (H : Type) (enc : TypeId × Value → H) :
    ReturnsInHanded {} Try.checked os 3 .any (Rows.gssNodesSpec.pre6 enc Try.prog Try.f3 Rows.gssNodesRow.domain false) (Rows.gssNodesSpec.post enc Try.prog Try.f3 false true false false) := by
  refine returnsInHanded_of_change (C := Try.checked) own started (by kernel_rfl) Try.func3
    (ChangeSpec.witness6 (enc := enc) (C := Try.checked) false ⟨#[], #[.slice none 0 0], []⟩ 8 (by kernel_rfl) (by kernel_rfl) (by kernel_rfl) (by kernel_rfl)) ?_
  intro W base args ds gs before hval0 hW hcnd _
  have hval : ∀ (j : Nat) t v, Try.f3.params[j]? = some t → args[j]? = some v → Value.okWide Try.prog W .any base t v := hval0
  have hW' := hW
  obtain ⟨p, q, hA0, hV, rfl, hfz, hnd⟩ := hW
  have hA : DataW.TrodAll enc Try.prog W 0 (fun _ => true) true Try.f3.params.toList args.toList ds p := hA0
  rw [Try.params3] at hA hval
  obtain ⟨v0, vs0, d0, ds0, p0, q0, hargs, rfl, rfl, h0, r0⟩ := trodAll_cons hA
  obtain ⟨rfl, rfl, rfl⟩ := trodAll_nil r0
  obtain rfl : args = #[v0] := by cases args; simp_all
  obtain ⟨rfl, rfl⟩ := trodVars_none hV
  obtain ⟨a0, len0, cap0, rfl⟩ := okWide_slice Try.underlying22 (hval 0 22 v0 rfl rfl)
  have k0 := h0
  have lt0 : ∀ x ∈ p0, x.block < W.heap.size := by obtain ⟨m, hm⟩ := k0; exact DataW.trod_lt m _ _ _ hm
  clear hA0 hval0
  refine (walk W a0 len0 cap0 h0).mono fun e W' ⟨he, bel⟩ => ?_
  subst he
  exact ⟨_, rfl, _, _, _, [], _, [], hW', trodAll_mk1 (shut_bool Try.underlying4 _), (trodAll_cons_mk (Below.trod laidOut (by kernel_rfl) (of_decide_eq_true (by kernel_rfl)) k0 bel lt0) trodAll_mk0), rfl, bel.frame _, fun h => by cases h⟩

theorem proved : Rows.GssNodesSaid :=
  OpenClaim.holds_of_wide 3 Try.f3 rfl rfl rfl rfl rfl rfl rfl ⟨rfl, rfl, rfl, rfl, rfl⟩ rfl rfl rfl rfl rfl (by kernel_rfl) Try.func3 (by kernel_rfl)
    (of_decide_eq_true (by kernel_rfl)) (by unfold Func.isWrapper; first | (rw [if_pos (by decide +kernel)]; kernel_rfl) | (rw [if_neg (by decide +kernel)]; exact ⟨rfl, rfl⟩))
    (fun os started H enc _ => lifted os started H enc)
#print axioms proved
end Go.Proofs.Ytbppbgdmoihooaa.gssNodes
