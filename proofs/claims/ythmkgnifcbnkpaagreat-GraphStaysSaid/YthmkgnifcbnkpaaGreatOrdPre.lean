/- A region that draws its order: some stable operations are taken first; of the rest every order is walked. Nothing here names the program. -/
import Derived.Test.YthmkgnifcbnkpaaGreatOrd
namespace Go.Proofs.YthmkgnifcbnkpaaGreat
open Go

section
variable {P : Program} {ops : Array Oper} {Q : Exit → Act → World → Prop} {md : Region.Mode} {S : World → Prop} {n : Nat}

def wpPre (P : Program) (ops : Array Oper) (S : World → Prop) (R : Array Bool → Act → Prop) : List Nat → Array Bool → Act → Prop
  | [], listed, a => R listed a
  | i :: r, listed, a => ∃ v oi, ops[i]? = some oi ∧ YieldsIf P ops S oi v a ∧ wpPre P ops S R r (listed.setIfInBounds i true) (a.put oi.dst v)
def preFrom (md : Region.Mode) (ops : Array Oper) : List Nat → Array Bool → Bool
  | [], _ => true
  | i :: r, listed => Region.free md ops listed i && (Region.ready md ops listed).contains i && preFrom md ops r (listed.setIfInBounds i true)

theorem wpAnyC_pre (hsel : Region.noSelect ops = true) (hQ : ∀ c a d v w, Q (.panic c) (Act.put a d v) w → Q (.panic c) a w) (hn : ops.size ≤ n) {w : World} (hS : S w) (f : Nat) :
    ∀ (τ : List Nat) (listed : Array Bool) (a : Act), Down md ops listed → preFrom md ops τ listed = true →
      wpPre P ops S (fun l a => Down md ops l → wpAnyC P md ops Q S n f l a w) τ listed a → wpAnyC P md ops Q S n (f + τ.length) listed a w
  | [], _, _, hd, _, h => h hd
  | i :: r, listed, a, hd, hB, h => by
    simp only [preFrom, Bool.and_eq_true] at hB
    obtain ⟨⟨hf, hr⟩, hB'⟩ := hB
    obtain ⟨v, oi, ho, hy, h'⟩ := h
    have hi : i ∈ Region.ready md ops listed := by simpa using hr
    exact wpAnyC_first (f := ops.size) ho (Region.noSelect_spec hsel) (fun c a w => hQ c a _ _ w) (.inl hn) (f + r.length) listed a w (Region.free_spec ho hf) hd hi hy hS
      (wpAnyC_pre hsel hQ hn hS f r _ _ (hd.set hi) hB' h')

def preB (md : Region.Mode) (ops : Array Oper) (f : Nat) (τ : List Nat) : Bool := Region.noSelect ops && decide (f + τ.length = ops.size) && preFrom md ops τ (Array.replicate ops.size false)

theorem wp_region_pre {rid : Nat} {a : Act} {w : World} {l : List Oper} (S : World → Prop) (f : Nat) (τ : List Nat) (hm : P.follows .mixedOrders = true) (hB : preB .any l.toArray f τ = true)
    (hQ : ∀ c a d v w, Q (.panic c) (Act.put a d v) w → Q (.panic c) a w) (hS : S w.drew)
    (h : wpPre P l.toArray S (fun li a => wpAnyC P .any l.toArray Q S l.toArray.size f li a w.drew) τ (Array.replicate l.toArray.size false) a) : (Code.region rid l.toArray true).wp P Q a w := by
  simp only [preB, Bool.and_eq_true, decide_eq_true_eq] at hB
  obtain ⟨⟨hsel, hlen⟩, hB'⟩ := hB
  refine wp_region_any hm (wpAny_of_C (S := S) (n := l.toArray.size) _ _ _ _ ?_)
  have key := wpAnyC_pre (P := P) (Q := Q) (md := .any) hsel hQ (Nat.le_refl _) hS f τ (Array.replicate l.toArray.size false) a (down_start _) hB' ?_
  · rw [hlen] at key
    exact key
  · have mono : ∀ (τ : List Nat) (li : Array Bool) (a : Act) (R R' : Array Bool → Act → Prop), (∀ l a, R l a → R' l a) → wpPre P l.toArray S R τ li a → wpPre P l.toArray S R' τ li a := by
      intro τ
      induction τ with
      | nil => intro li a R R' hR h; exact hR _ _ h
      | cons i r ih => intro li a R R' hR h; obtain ⟨v, oi, h1, h2, h3⟩ := h; exact ⟨v, oi, h1, h2, ih _ _ _ _ hR h3⟩
    exact mono _ _ _ _ _ (fun l a h _ => h) h

theorem pre_take {i : Nat} {r : List Nat} {R : Array Bool → Act → Prop} {listed : Array Bool} {a : Act} {oi : Oper} {v : Value} (hi : ops[i]? = some oi) (hw : Region.wanted oi (yielded ops a.tmps) = true)
    (hy : ∀ w, S w → (execOp a.eval oi).run P w = .ok (.value v) w) (h : wpPre P ops S R r (listed.setIfInBounds i true) (a.put oi.dst v)) : wpPre P ops S R (i :: r) listed a :=
  ⟨v, oi, hi, .inl ⟨hw, hy⟩, h⟩
theorem pre_done {R : Array Bool → Act → Prop} {listed : Array Bool} {a : Act} (h : R listed a) : wpPre P ops S R [] listed a := h
theorem any_step {f : Nat} {listed : Array Bool} {a : Act} {w : World} {L : List Nat} (hL : Region.ready md ops listed = L) (hne : L ≠ [])
    (h : ∀ i ∈ L, wpOp P ops Q i (fun a' w' => (i ≠ n → S w') ∧ wpAnyC P md ops Q S n f (listed.setIfInBounds i true) a' w') a w) : wpAnyC P md ops Q S n (f + 1) listed a w := by
  subst hL
  exact ⟨fun e => absurd e hne, h⟩
theorem any_do {i f : Nat} {listed : Array Bool} {a : Act} {w : World} {oi : Oper} (hi : ops[i]? = some oi) (hg : oi.guard = none)
    (h : ∀ K : Act → World → Prop, (∀ a w, S w → wpAnyC P md ops Q S n f (listed.setIfInBounds i true) a w → K a w) → oi.wp P a w K Q) :
    wpOp P ops Q i (fun a' w' => (i ≠ n → S w') ∧ wpAnyC P md ops Q S n f (listed.setIfInBounds i true) a' w') a w := by
  unfold wpOp
  simp only [hi]
  rw [if_pos (by simp [Region.wanted, hg])]
  exact .inl (h _ fun a w h1 h2 => ⟨fun _ => h1, h2⟩)
theorem any_done {listed : Array Bool} {a : Act} {w : World} (hL : Region.ready md ops listed = []) (h : Q .normal a w) : wpAnyC P md ops Q S n 0 listed a w := ⟨hL, h⟩
end
end Go.Proofs.YthmkgnifcbnkpaaGreat
