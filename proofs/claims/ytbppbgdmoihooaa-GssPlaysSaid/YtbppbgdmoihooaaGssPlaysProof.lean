/- The law GssPlays of layer 20 returns true for every input and leaves its argument as it was: Rows.GssPlaysSaid, without conditions. -/
import Derived.Test.YtbppbgdmoihooaaRefN
import Derived.Test.YtbppbgdmoihooaaGssNodesProof
import Derived.ProofKit
import Derived.OpenShut
import Derived.ShutString
import Derived.ChangeOld
import Derived.Below
import Derived.Deep.Slices
import Derived.MapViews
namespace Go.Proofs.Ytbppbgdmoihooaa.gssPlays
open Go.ChangeShapes Go.WideShapes Go.ChangeAt Go.RowKit
set_option linter.unusedVariables false

theorem own : ownKnob Try.prog.godebug = none := by kernel_rfl
theorem laidOut : laidOutB Try.prog = true := by kernel_rfl

theorem len_four {α : Type} : ∀ {l : List α}, l.length = 4 → ∃ a b c d, l = [a, b, c, d]
  | [a, b, c, d], _ => ⟨a, b, c, d, rfl⟩
theorem cells_op : Try.prog.cellsOf 56 = 4 := by kernel_rfl
theorem lits_op {cs : List Value} {L : List Lit} (hl : cs.length = 4) (h : Try.prog.keyLits 2 56 cs = some L) : ∃ e : OpD, cs = [.int .i64 e.d, .int .i64 e.n, .int .i64 e.a, .int .i64 e.b] ∧ Wf e.n ∧ Wf e.a ∧ Wf e.b := by
  obtain ⟨c0, c1, c2, c3, rfl⟩ := len_four hl
  rw [show (2 : Nat) = 1 + 1 from rfl] at h
  unfold Program.keyLits at h
  simp only [Try.underlying56] at h
  split at h
  · obtain ⟨l, hl', _⟩ := Option.map_eq_some_iff.1 h
    simp only [cells_int, List.mapM_cons, List.mapM_nil, bind, Option.bind_eq_some_iff] at hl'
    obtain ⟨l0, h0, q0, ⟨l1, h1, q1, ⟨l2, h2, q2, ⟨l3, h3, -⟩, -⟩, -⟩, -⟩ := hl'
    simp at h0 h1 h2 h3
    obtain ⟨x, rfl, hx⟩ := gssNodes.lits_int h0
    obtain ⟨y, rfl, hy⟩ := gssNodes.lits_int h1
    obtain ⟨z, rfl, hz⟩ := gssNodes.lits_int h2
    obtain ⟨p, rfl, hp⟩ := gssNodes.lits_int h3
    exact ⟨⟨x, y, z, p⟩, rfl, hy, hz, hp⟩
  · cases h

instance : Inhabited OpD := ⟨⟨0, 0, 0, 0⟩⟩

/-- The law, of a slice that reads as data. -/
theorem walk {H : Type} {enc : TypeId × Value → H} {d : DataW H} {p : List MemPlace} (W : World) (A : Option Addr) (n c : Nat) (h : DataW.Trod enc Try.prog W 0 (fun _ => true) true 53 (.slice A n c) d p) :
    Calls Try.prog 5 #[.slice A n c] W fun e w' => e = .returned (.bool true) ∧ Below W.heap.size W w' := by
  have hk : Try.prog.keyTypeAt 2 56 = true := by kernel_rfl
  rcases gssNodes.open_plain Try.underlying53 hk h with ⟨rfl, rfl, rfl⟩ | ⟨a, rfl, hnc, hm, hi⟩
  · exact plays_small W none 0 0 0 0 [] rfl (by omega) (by omega) (by omega) (by simp)
  · have hg : ∀ i, i < n → ∃ x : OpD, W.cell? (a.add (i * 4)) = some (.int .i64 x.d) ∧ W.cell? (a.add (i * 4 + 1)) = some (.int .i64 x.n) ∧ W.cell? (a.add (i * 4 + 2)) = some (.int .i64 x.a) ∧ W.cell? (a.add (i * 4 + 3)) = some (.int .i64 x.b) ∧ Wf x.n ∧ Wf x.a ∧ Wf x.b := by
      intro i hin
      obtain ⟨cs, L, hlen, hat, hL⟩ := hi i (by omega)
      rw [cells_op] at hat hlen
      obtain ⟨e, rfl, hx, hy, hz⟩ := lits_op hlen hL
      exact ⟨e, by simpa using hat 0 (by omega), by simpa using hat 1 (by omega), by simpa using hat 2 (by omega), by simpa using hat 3 (by omega), hx, hy, hz⟩
    obtain ⟨f, hf⟩ := Deep.choose_lt hg
    obtain ⟨lb, lo, spot⟩ := a
    have hspot : 0 < n → spot = none := by
      intro hn
      have := World.cell?_spot (hf 0 hn).1
      simpa [Addr.add] using this
    have hA : 0 < n → some (⟨lb, lo, spot⟩ : Addr) = some ⟨lb, lo, none⟩ := fun hn => by rw [hspot hn]
    have hc : ∀ k, k ≤ n → ∀ (i : Nat) (e : OpD), ((List.range k).map f)[i]? = some e → W.cell? ⟨lb, lo + i * 4, none⟩ = some (.int .i64 e.d) ∧ W.cell? ⟨lb, lo + i * 4 + 1, none⟩ = some (.int .i64 e.n) ∧ W.cell? ⟨lb, lo + i * 4 + 2, none⟩ = some (.int .i64 e.a) ∧ W.cell? ⟨lb, lo + i * 4 + 3, none⟩ = some (.int .i64 e.b) ∧ Wf e.n ∧ Wf e.a ∧ Wf e.b := by
      intro k hk i x hx
      have hin : i < k := by
        have := (List.getElem?_eq_some_iff.1 hx).1
        simpa using this
      rw [List.getElem?_map, List.getElem?_range hin] at hx
      injection hx with hx
      subst hx
      have hs := hspot (by omega)
      subst hs
      obtain ⟨h1, h2, h3, h4, wf⟩ := hf i (by omega)
      rw [Addr.add_lit] at h1 h2 h3 h4
      exact ⟨h1, h2, h3, h4, wf⟩
    by_cases hb : n ≤ 300
    · exact plays_small W _ lb lo n c _ (by simp) hb hnc hA (hc n (Nat.le_refl _))
    · exact plays_big W _ n c (by omega)

set_option maxRecDepth 100000 in
theorem lifted (os : Os) (started : os.Started) (H : Type) (enc : TypeId × Value → H) :
    ReturnsInHanded {} Try.checked os 5 .any (Rows.gssPlaysSpec.pre6 enc Try.prog Try.f5 Rows.gssPlaysRow.domain false) (Rows.gssPlaysSpec.post enc Try.prog Try.f5 false true false false) := by
  refine returnsInHanded_of_change (C := Try.checked) own started (by kernel_rfl) Try.func5
    (ChangeSpec.witness6 (enc := enc) (C := Try.checked) false ⟨#[], #[.slice none 0 0], []⟩ 8 (by kernel_rfl) (by kernel_rfl) (by kernel_rfl) (by kernel_rfl)) ?_
  intro W base args ds gs before hval0 hW hcnd _
  have hval : ∀ (j : Nat) t v, Try.f5.params[j]? = some t → args[j]? = some v → Value.okWide Try.prog W .any base t v := hval0
  have hW' := hW
  obtain ⟨p, q, hA0, hV, rfl, hfz, hnd⟩ := hW
  have hA : DataW.TrodAll enc Try.prog W 0 (fun _ => true) true Try.f5.params.toList args.toList ds p := hA0
  rw [Try.params5] at hA hval
  obtain ⟨v0, vs0, d0, ds0, p0, q0, hargs, rfl, rfl, h0, r0⟩ := trodAll_cons hA
  obtain ⟨rfl, rfl, rfl⟩ := trodAll_nil r0
  obtain rfl : args = #[v0] := by cases args; simp_all
  obtain ⟨rfl, rfl⟩ := trodVars_none hV
  obtain ⟨a1, len1, cap1, rfl⟩ := okWide_slice Try.underlying53 (hval 0 53 v0 rfl rfl)
  have k1 := h0
  have lt1 : ∀ x ∈ p0, x.block < W.heap.size := by obtain ⟨m, hm⟩ := k1; exact DataW.trod_lt m _ _ _ hm
  clear hA0 hval0
  refine (walk W a1 len1 cap1 h0).mono fun e W' ⟨he, bel⟩ => ?_
  subst he
  exact ⟨_, rfl, _, _, _, [], _, [], hW', trodAll_mk1 (shut_bool Try.underlying4 _), (trodAll_cons_mk (Below.trod laidOut (by kernel_rfl) (of_decide_eq_true (by kernel_rfl)) k1 bel lt1) trodAll_mk0), rfl, bel.frame _, fun h => by cases h⟩

theorem proved : Rows.GssPlaysSaid :=
  OpenClaim.holds_of_wide 5 Try.f5 rfl rfl rfl rfl rfl rfl rfl ⟨rfl, rfl, rfl, rfl, rfl⟩ rfl rfl rfl rfl rfl (by kernel_rfl) Try.func5 (by kernel_rfl)
    (of_decide_eq_true (by kernel_rfl)) (by unfold Func.isWrapper; first | (rw [if_pos (by decide +kernel)]; kernel_rfl) | (rw [if_neg (by decide +kernel)]; exact ⟨rfl, rfl⟩))
    (fun os started H enc _ => lifted os started H enc)
#print axioms proved
end Go.Proofs.Ytbppbgdmoihooaa.gssPlays
