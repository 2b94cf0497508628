/- A region that draws its order: some stable operations are taken first; of the rest every order is walked, stable ones taken as they come up. Nothing here names the program. -/
import Derived.Test.YthmkgnifcbnkpaaGreatOrdPre
namespace Go.Proofs.YthmkgnifcbnkpaaGreat
open Go
section
variable {P : Program} {ops : Array Oper} {Q : Exit → Act → World → Prop} {md : Region.Mode} {S : World → Prop} {n : Nat}
theorem wp_region_any2 {rid : Nat} {a : Act} {w : World} {l : List Oper} (S : World → Prop) (hm : P.follows .mixedOrders = true) (_hsel : Region.noSelect l.toArray = true)
    (_hS : S w.drew) (h : wpAnyC P .any l.toArray Q S l.toArray.size l.length (Array.replicate l.toArray.size false) a w.drew) : (Code.region rid l.toArray true).wp P Q a w := by
  refine wp_region_any hm (wpAny_of_C (S := S) (n := l.toArray.size) _ _ _ _ ?_)
  simpa using h
theorem any_start {f m : Nat} {a : Act} {w : World} (h : Down md ops (Array.replicate m false) → wpAnyC P md ops Q S n f (Array.replicate m false) a w) : wpAnyC P md ops Q S n f (Array.replicate m false) a w := h (down_start m)
/-- A stable one that has come up is taken. -/
theorem any_take {i f : Nat} {listed : Array Bool} {a : Act} {w : World} {oi : Oper} {v : Value} (hi : ops[i]? = some oi) (hB : (Region.noSelect ops && Region.free md ops listed i && (Region.ready md ops listed).contains i) = true)
    (hd : Down md ops listed) (hn : ops.size ≤ n) (hQ : ∀ c a d v w, Q (.panic c) (Act.put a d v) w → Q (.panic c) a w) (hS : S w)
    (hw : Region.wanted oi (yielded ops a.tmps) = true) (hy : ∀ w, S w → (execOp a.eval oi).run P w = .ok (.value v) w)
    (h : Down md ops (listed.setIfInBounds i true) → wpAnyC P md ops Q S n f (listed.setIfInBounds i true) (a.put oi.dst v) w) : wpAnyC P md ops Q S n (f + 1) listed a w := by
  simp only [Bool.and_eq_true] at hB
  obtain ⟨⟨h1, h2⟩, h3⟩ := hB
  have hr : i ∈ Region.ready md ops listed := by simpa using h3
  exact wpAnyC_first (f := ops.size) hi (Region.noSelect_spec h1) (fun c a w => hQ c a _ _ w) (.inl hn) f listed a w (Region.free_spec hi h2) hd hr (.inl ⟨hw, hy⟩) hS (h (hd.set hr))
/-- One that has come up is run. -/
theorem any_run {f : Nat} {listed : Array Bool} {a : Act} {w : World} {L : List Nat} (hd : Down md ops listed) (hL : Region.ready md ops listed = L) (hne : L ≠ [])
    (h : ∀ i ∈ L, (Down md ops (listed.setIfInBounds i true)) → wpOp P ops Q i (fun a' w' => (i ≠ n → S w') ∧ wpAnyC P md ops Q S n f (listed.setIfInBounds i true) a' w') a w) : wpAnyC P md ops Q S n (f + 1) listed a w :=
  any_step hL hne (fun i hi => h i hi (hd.set (by rw [hL]; exact hi)))
end
end Go.Proofs.YthmkgnifcbnkpaaGreat
