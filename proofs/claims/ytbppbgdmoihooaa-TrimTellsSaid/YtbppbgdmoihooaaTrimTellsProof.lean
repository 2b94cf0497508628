/- The law TrimTells of layer 29 returns true for every forest, and leaves its argument as it was: Rows.TrimTellsSaid, without conditions. -/
import Derived.Test.YtbppbgdmoihooaaTsI
import Derived.Test.YtbppbgdmoihooaaForRead
import Derived.Test.YtbppbgdmoihooaaRows
namespace Go.Proofs.Ytbppbgdmoihooaa.trimTells
open Go.ChangeShapes Go.WideShapes Go.ChangeAt Go.RowKit forRead
set_option linter.unusedVariables false

theorem walk (w : World) (A : Option Addr) (c : Nat) (B : Option Addr) (d : Nat) (S : List Fct) (P : List Pk) (h : ForR w A c B d S P) :
    Calls Try.prog 9 #[forV A S.length c B P.length d] w (Sam w (.bool true)) := by
  by_cases ho : OkFor S P
  · obtain ⟨T, hT⟩ := Settled.ex P S.length ho.spots
    exact tells_ok w A c B d S P T h ho hT
  · exact tells_bad w A c B d S P h ho

set_option maxRecDepth 100000 in
theorem lifted (os : Os) (started : os.Started) (H : Type) (enc : TypeId × Value → H) :
    ReturnsInHanded {} Try.checked os 9 .any (Rows.trimTellsSpec.pre6 enc Try.prog Try.f9 Rows.trimTellsRow.domain false) (Rows.trimTellsSpec.post enc Try.prog Try.f9 false true false false) := by
  refine returnsInHanded_of_change_sized (C := Try.checked) own started (by kernel_rfl) Try.func9
    (ChangeSpec.witness6 (enc := enc) (C := Try.checked) false ⟨#[], #[.agg #[.slice none 0 0, .slice none 0 0]], []⟩ 8 (by kernel_rfl) (by kernel_rfl) (by kernel_rfl) (by kernel_rfl)) ?_
  intro W base args ds gs before hval0 hW hcnd hsz0 _
  have hval : ∀ (j : Nat) t v, Try.f9.params[j]? = some t → args[j]? = some v → Value.okWide Try.prog W .any base t v := hval0
  have hW' := hW
  have hsz : (DataW.weightsEach Try.prog (Try.f9.params.toList ++ Rows.trimTellsSpec.plain.varTypes Try.prog) (ds ++ gs)).all (· ≤ reachBytes) = true := hsz0
  obtain ⟨p, q, hA0, hV, rfl, hfz, hnd⟩ := hW
  have hA : DataW.TrodAll enc Try.prog W 0 (fun _ => true) true Try.f9.params.toList args.toList ds p := hA0
  rw [Try.params9] at hA hval hsz
  obtain ⟨v0, vs0, d0, ds0, p0, q0, hargs, rfl, rfl, h0, r0⟩ := trodAll_cons hA
  obtain ⟨rfl, rfl, rfl⟩ := trodAll_nil r0
  obtain rfl : args = #[v0] := by cases args; simp_all
  obtain ⟨rfl, rfl⟩ := trodVars_none hV
  have hw : ∀ n ∈ d0.weights Try.prog 75, n ≤ reachBytes := fun n hn => by
    have := List.all_eq_true.1 hsz n (DataW.weights_mem_each (j := 0) (t := 75) (d := d0) rfl rfl n hn)
    simpa using this
  obtain ⟨A, c, B, d, S, P, rfl, hF⟩ := read_forest (hval 0 75 v0 rfl rfl) h0 hw
  have k0 := h0
  have lt0 : ∀ x ∈ p0, x.block < W.heap.size := by obtain ⟨m, hm⟩ := k0; exact DataW.trod_lt m _ _ _ hm
  clear hA0 hval0
  refine (walk W A c B d S P hF).mono fun e W' ⟨he, bel⟩ => ?_
  subst he
  exact ⟨_, rfl, _, _, _, [], _, [], hW', trodAll_mk1 (shut_bool Try.underlying4 _), (trodAll_cons_mk (Below.trod laidOut (by kernel_rfl) (of_decide_eq_true (by kernel_rfl)) k0 bel lt0) trodAll_mk0), rfl, bel.frame _, fun h => by cases h⟩

theorem proved : Rows.TrimTellsSaid :=
  OpenClaim.holds_of_wide 9 Try.f9 rfl rfl rfl rfl rfl rfl rfl ⟨rfl, rfl, rfl, rfl, rfl⟩ rfl rfl rfl rfl rfl (by kernel_rfl) Try.func9 (by kernel_rfl)
    (of_decide_eq_true (by kernel_rfl)) (by unfold Func.isWrapper; first | (rw [if_pos (by decide +kernel)]; kernel_rfl) | (rw [if_neg (by decide +kernel)]; exact ⟨rfl, rfl⟩))
    (fun os started H enc _ => lifted os started H enc)
#print axioms proved
end Go.Proofs.Ytbppbgdmoihooaa.trimTells
