/- A range over a function whose iterator may itself range over another: which blocks a round turns is named. Nothing here names the program. -/
import Derived.Test.YtnmkieiehjajlaaGreatDoorZ09
set_option linter.unusedVariables false
set_option linter.unusedSimpArgs false
namespace Go.Proofs.YtnmkieiehjajlaaGreatDoor
open Go.RowKit

/-- The row of the list that lies in the variable lb is there. -/
def RgM (lb : Nat) (A : World) : Prop := ∀ v q, A.cell? ⟨lb, 0, none⟩ = some v → v.ownBlock = some q → q < A.heap.size
/-- What a round may turn: the blocks of F, the list's row. -/
def AlwM (lb : Nat) (F : Nat → Prop) (A : World) (q : Nat) : Prop := F q ∨ ∃ v, A.cell? ⟨lb, 0, none⟩ = some v ∧ v.ownBlock = some q
def KpM (lb : Nat) (F : Nat → Prop) (A B : World) : Prop :=
  RgM lb A → Upd (AlwM lb F A) A B ∧ ∀ v q, B.cell? ⟨lb, 0, none⟩ = some v → v.ownBlock = some q → q < B.heap.size ∧ (q < A.heap.size → ∃ u, A.cell? ⟨lb, 0, none⟩ = some u ∧ u.ownBlock = some q)
/-- A block that no round turns. -/
def Prv (lb : Nat) (F : Nat → Prop) (A : World) (q : Nat) : Prop := q < A.heap.size ∧ ¬ AlwM lb F A q
/-- What stands where blocks come, and where a block from B on that no round turns is turned. -/
def OwnP {β : Type} (lb : Nat) (F : Nat → Prop) (B : Nat) (I : β → World → Prop) : Prop :=
  ∀ s A A' row, I s A → A.grownBy A' row → (∀ k, row = some k → B ≤ k ∧ Prv lb F A k) → I s A'
theorem OwnP.put {β : Type} {lb : Nat} {F : Nat → Prop} {B : Nat} {I : β → World → Prop} (h : OwnP lb F B I) {s : β} {W : World} {k : Nat} (o : Obj) (hs : I s W) (hB : B ≤ k) (hk : Prv lb F W k) : I s (W.putObj k o) :=
  h s W _ (some k) hs (grownBy_putObj' W k o) (fun r e => by cases e; exact ⟨hB, hk⟩)
theorem OwnP.set {β : Type} {lb : Nat} {F : Nat → Prop} {B : Nat} {I : β → World → Prop} (h : OwnP lb F B I) {s : β} {W : World} {p : Addr} (v : Value) (hs : I s W) (hB : B ≤ p.block) (hk : Prv lb F W p.block) : I s (W.setCell p v) :=
  h s W _ (some p.block) hs ((Upd.refl (fun k => k = p.block) W).setCell (.inl rfl) v |>.to_grown (fun i _ e => by rw [e])) (fun r e => by cases e; exact ⟨hB, hk⟩)
theorem OwnP.alloc {β : Type} {lb : Nat} {F : Nat → Prop} {B : Nat} {I : β → World → Prop} (h : OwnP lb F B I) {s : β} {W : World} (o : Obj) (hs : I s W) : I s (W.alloc o) :=
  h s W _ none hs (World.grownBy_alloc W o none) (fun r e => by cases e)
theorem OwnP.below {β : Type} {lb : Nat} {F : Nat → Prop} {B : Nat} {I : β → World → Prop} (h : OwnP lb F B I) {s : β} {W W' : World} (hs : I s W) (hb : Below W.heap.size W W') : I s W' :=
  h s W _ none hs ((Upd.of_below hb (fun _ => False)).to_grown (fun _ _ e => e.elim)) (fun r e => by cases e)
theorem OwnP.from {β : Type} {lb : Nat} {F : Nat → Prop} {B B' : Nat} {I : β → World → Prop} (h : OwnP lb F B I) (hB : B ≤ B') : OwnP lb F B' I :=
  fun s A A' row hs hg hr => h s A A' row hs hg (fun k hk => ⟨Nat.le_trans hB (hr k hk).1, (hr k hk).2⟩)
theorem OwnP.monoF {β : Type} {lb : Nat} {F F' : Nat → Prop} {B : Nat} {I : β → World → Prop} (h : OwnP lb F B I) (hF : ∀ q, F q → F' q) : OwnP lb F' B I :=
  fun s A A' row hs hg hr => h s A A' row hs hg (fun k hk => ⟨(hr k hk).1, (hr k hk).2.1, fun ha => (hr k hk).2.2 (ha.imp (hF k) id)⟩)
theorem OwnP.and {β : Type} {lb : Nat} {F : Nat → Prop} {B : Nat} {I I' : β → World → Prop} (h : OwnP lb F B I) (h' : OwnP lb F B I') : OwnP lb F B (fun s W => I s W ∧ I' s W) := fun s A A' row hs hg hr => ⟨h s A A' row hs.1 hg hr, h' s A A' row hs.2 hg hr⟩
theorem OwnP.pure {β : Type} {lb : Nat} {F : Nat → Prop} {B : Nat} (p : β → Prop) : OwnP lb F B (fun s (_ : World) => p s) := fun _ _ _ _ hs _ _ => hs
theorem OwnP.blk {β : Type} {lb : Nat} {F : Nat → Prop} {B g : Nat} {t : TypeId} {cs : Array Value} (hg : g < B) : OwnP lb F B (fun (_ : β) W => Blk W g t cs) := fun _ _ _ _ hs hgr hr => hs.grown hgr (fun e => by have := (hr g e.symm).1; omega)

section
variable {lb : Nat} {F F' : Nat → Prop} {A B C : World} {q : Nat}
theorem KpM.rg (h : KpM lb F A B) (r : RgM lb A) : RgM lb B := fun v q h1 h2 => ((h r).2 v q h1 h2).1
theorem KpM.size (h : KpM lb F A B) (r : RgM lb A) : A.heap.size ≤ B.heap.size := (h r).1.size
theorem KpM.trans (h : KpM lb F A B) (k : KpM lb F B C) : KpM lb F A C := by
  intro r
  have rB := h.rg r
  obtain ⟨u1, r1⟩ := h r
  obtain ⟨u2, r2⟩ := k rB
  refine ⟨u1.trans u2 ?_, ?_⟩
  · intro i hi
    rcases Nat.lt_or_ge i A.heap.size with hlt | hge
    · refine .inl ?_
      rcases hi with hi | ⟨v, hv, ho⟩
      · exact .inl hi
      · exact .inr ((r1 v i hv ho).2 hlt)
    · exact .inr hge
  · intro v q hv ho
    obtain ⟨a, b⟩ := r2 v q hv ho
    refine ⟨a, fun hlt => ?_⟩
    obtain ⟨u, hu, ho'⟩ := b (Nat.lt_of_lt_of_le hlt u1.size)
    exact (r1 u q hu ho').2 hlt
theorem KpM.mono (h : KpM lb F A B) (hF : ∀ q, F q → F' q) : KpM lb F' A B := fun r =>
  ⟨(h r).1.mono (fun i _ hi => hi.imp (hF i) id), (h r).2⟩
theorem KpM.of_below (h : Below A.heap.size A B) (hl : lb < A.heap.size) : KpM lb F A B := by
  intro r
  refine ⟨Upd.of_below h _, fun v q hv ho => ?_⟩
  have hc : B.cell? ⟨lb, 0, none⟩ = A.cell? ⟨lb, 0, none⟩ := h.cell (p := ⟨lb, 0, none⟩) hl
  rw [hc] at hv
  exact ⟨Nat.lt_of_lt_of_le (r v q hv ho) h.size, fun _ => ⟨v, hv, ho⟩⟩
theorem KpM.refl (lb : Nat) (F : Nat → Prop) (A : World) : KpM lb F A A := fun r => ⟨Upd.refl _ _, fun v q hv ho => ⟨r v q hv ho, fun _ => ⟨v, hv, ho⟩⟩⟩
/-- A turn of blocks other than the list's variable. -/
theorem KpM.of_upd (h : Upd F A B) (hl : lb < A.heap.size) (hn : ¬ F lb) : KpM lb F A B := by
  intro r
  refine ⟨h.mono (fun i _ hi => .inl hi), fun v q hv ho => ?_⟩
  rw [h.cell (p := ⟨lb, 0, none⟩) hl hn] at hv
  exact ⟨Nat.lt_of_lt_of_le (r v q hv ho) h.size, fun _ => ⟨v, hv, ho⟩⟩
theorem KpM.shrink (h : KpM lb F A B) (hF : ∀ q, F q → F' q ∨ A.heap.size ≤ q) : KpM lb F' A B := fun r =>
  ⟨(h r).1.mono (fun i hi ha => by
    rcases ha with ha | ha
    · exact (hF i ha).elim .inl (fun hge => by omega)
    · exact .inr ha), (h r).2⟩
theorem KpM.put (l : Nat) (o : Obj) (hF : F l) (hl : lb < A.heap.size) (hn : lb ≠ l) : KpM lb F A (A.putObj l o) := by
  have hu := Upd.of_grown (grownBy_putObj' A l o)
  have := KpM.of_upd (lb := lb) hu hl (fun e => hn (by injection e with e; exact e.symm))
  exact this.mono (fun q e => by injection e with e; subst e; exact hF)
theorem KpM.prv (h : KpM lb F A B) (r : RgM lb A) (p : Prv lb F A q) : B.heap[q]? = A.heap[q]? ∧ Prv lb F B q := by
  obtain ⟨u, hr⟩ := h r
  refine ⟨u.block q p.1 p.2, Nat.lt_of_lt_of_le p.1 u.size, ?_⟩
  rintro (hf | ⟨v, hv, ho⟩)
  · exact p.2 (.inl hf)
  · exact p.2 (.inr ((hr v q hv ho).2 p.1))
theorem KpM.blk {t : TypeId} {cs : Array Value} (h : KpM lb F A B) (r : RgM lb A) (p : Prv lb F A q) (k : Blk A q t cs) : Blk B q t cs := (h.prv r p).1.trans k
theorem Prv.below (p : Prv lb F A q) (h : Below A.heap.size A B) (hl : lb < A.heap.size) : Prv lb F B q := by
  refine ⟨Nat.lt_of_lt_of_le p.1 h.size, ?_⟩
  rintro (hf | ⟨v, hv, ho⟩)
  · exact p.2 (.inl hf)
  · rw [h.cell (p := ⟨lb, 0, none⟩) hl] at hv
    exact p.2 (.inr ⟨v, hv, ho⟩)
/-- A block that has come since. -/
theorem Prv.since (h : Below A.heap.size A B) (hl : lb < A.heap.size) (r : RgM lb A) (hF : ∀ q, F q → q < A.heap.size) (h1 : A.heap.size ≤ q) (h2 : q < B.heap.size) : Prv lb F B q := by
  refine ⟨h2, ?_⟩
  rintro (hf | ⟨v, hv, ho⟩)
  · have := hF q hf; omega
  · rw [h.cell (p := ⟨lb, 0, none⟩) hl] at hv
    have := r v q hv ho; omega
theorem Prv.own {row : Option Nat} (p : Prv lb F A q) (hg : A.grownBy B row) (hl : lb < A.heap.size) (hn : row ≠ some lb) : Prv lb F B q := by
  refine ⟨Nat.lt_of_lt_of_le p.1 hg.size, ?_⟩
  rintro (hf | ⟨v, hv, ho⟩)
  · exact p.2 (.inl hf)
  · rw [World.cell?_of_block (w := A) (a := ⟨lb, 0, none⟩) (hg.block lb hl (fun e => hn e.symm))] at hv
    exact p.2 (.inr ⟨v, hv, ho⟩)
theorem ownP_prv {β : Type} {G : Nat → Prop} {B' : Nat} (hl : lb < B') : OwnP lb G B' (fun (_ : β) W => Prv lb F W q ∧ lb < W.heap.size) := fun _ _ _ _ hs hg hr =>
  ⟨hs.1.own hg hs.2 (fun e => by have := (hr lb e).1; omega), Nat.lt_of_lt_of_le hs.2 hg.size⟩
theorem Prv.mono (p : Prv lb F A q) (hF : F' q → F q) : Prv lb F' A q := ⟨p.1, fun h => p.2 (h.imp hF id)⟩
/-- Where the list's variable holds no list. -/
theorem RgM.of_none {v : Value} (h : A.cell? ⟨lb, 0, none⟩ = some v) (hv : v.ownBlock = none) : RgM lb A := fun u q hu ho => by
  rw [h] at hu
  injection hu with hu
  rw [← hu, hv] at ho
  cases ho
theorem RgM.elim_int {k : IntKind} {n : Int} {v : Value} (_r : RgM lb A) (h : A.cell? ⟨lb, 0, none⟩ = some (.int k n)) (hv : A.cell? ⟨lb, 0, none⟩ = some v) (ho : v.ownBlock = some q) : False := by
  rw [h] at hv
  injection hv with hv
  subst hv
  cases ho
theorem ownP_kpM {β : Type} {w : World} {G : Nat → Prop} {B : Nat} (hB : w.heap.size ≤ B) (hl : lb < w.heap.size) (r : RgM lb w) : OwnP lb G B (fun (_ : β) W => KpM lb F w W) := by
  intro s W W' row h hg hr _
  obtain ⟨u, hq⟩ := h r
  refine ⟨u.grown hg (fun k hk => .inr (Nat.le_trans hB (hr k hk).1)), fun v q hv ho => ?_⟩
  rw [World.cell?_of_block (w := W) (a := ⟨lb, 0, none⟩) (hg.block lb (Nat.lt_of_lt_of_le hl u.size) (fun e => by have := (hr lb e.symm).1; omega))] at hv
  exact ⟨Nat.lt_of_lt_of_le (hq v q hv ho).1 hg.size, (hq v q hv ho).2⟩
end

/-- How a round's body may be left. -/
def postM {α : Type} (lb : Nat) (F : Nat → Prop) (I : List α → World → Prop) (Ix : Code → List α → World → Prop) (xs : List α) (W : World) : Exit → Act → World → Prop
  | .normal, _, W' => KpM lb F W W' ∧ I xs W'
  | .ret, _, W' => KpM lb F W W' ∧ Ix .ret xs W'
  | .exit id, _, W' => KpM lb F W W' ∧ Ix (.exit id) xs W'
  | .goto t, _, W' => KpM lb F W W' ∧ Ix (.goto t) xs W'
  | .panic _, _, _ => False
  | .outgrown, _, _ => False

/-- An iterator's contract: Own are the blocks that it leans on. -/
def SeqM {α : Type} (P : Program) (gf : Nat) (cap : Array Value) (encs : α → Array Value) (Own : Nat → Prop) (S Sp : List α → Prop) (N : Nat) (w : World) : Prop :=
  ∀ (l lb : Nat) (F : Nat → Prop) (J Jx : List α → World → Prop) (W : World), Below w.heap.size w W → OwnP lb F W.heap.size J → OwnP lb F W.heap.size Jx →
    lb < W.heap.size → RgM lb W → (∀ q, F q → q < W.heap.size ∧ ¬ Own q) → (∀ v q, W.cell? ⟨lb, 0, none⟩ = some v → v.ownBlock = some q → ¬ Own q) →
    (∀ pre x W1, J pre W1 → pre.length < N → YieldAt Fence.wide 0 P l (encs x) W1 fun e W' => KpM lb F W1 W' ∧ ((e = .returned (.bool true) ∧ J (pre ++ [x]) W') ∨ (e = .returned (.bool false) ∧ Jx (pre ++ [x]) W'))) →
    J [] W → Calls P gf (#[.func (.yield l) #[] #[]] ++ cap) W fun e W' => (∃ v, e = .returned v) ∧ ((∃ xs, S xs ∧ J xs W') ∨ (∃ pre, Sp pre ∧ Jx pre W'))

/-- The record of a loop, and the block for its rounds' deferred calls, as they lie. -/
def LpM (lb : Nat) (F : Nat → Prop) (n₀ : Nat) (r : Loop) (W : World) : Prop :=
  RgM lb W ∧ Prv lb F W (n₀ + 1) ∧ Prv lb F W n₀ ∧ W.heap[n₀ + 1]? = some (.loop r) ∧ W.heap[n₀]? = some (.deferred (some [])) ∧ lb < n₀
section
variable {lb n₀ : Nat} {F : Nat → Prop} {r r' : Loop} {W W' : World}
theorem LpM.own {row : Option Nat} (h : LpM lb F n₀ r W) (hg : W.grownBy W' row) (hr : ∀ k, row = some k → n₀ + 2 ≤ k) : LpM lb F n₀ r W' := by
  obtain ⟨h1, h2, h3, h4, h5, h6⟩ := h
  have hc : W'.cell? ⟨lb, 0, none⟩ = W.cell? ⟨lb, 0, none⟩ := World.cell?_of_block (w := W) (a := ⟨lb, 0, none⟩) (hg.block lb (by have := h3.1; show lb < _; omega) (fun e => by have := hr lb e.symm; omega))
  have hp : ∀ q, Prv lb F W q → Prv lb F W' q := fun q p => ⟨Nat.lt_of_lt_of_le p.1 hg.size, by
    rintro (hf | ⟨v, hv, ho⟩)
    · exact p.2 (.inl hf)
    · rw [hc] at hv; exact p.2 (.inr ⟨v, hv, ho⟩)⟩
  refine ⟨fun v q hv ho => ?_, hp _ h2, hp _ h3, (hg.block _ h2.1 (fun e => by have := hr _ e.symm; omega)).trans h4, (hg.block _ h3.1 (fun e => by have := hr _ e.symm; omega)).trans h5, h6⟩
  rw [hc] at hv
  exact Nat.lt_of_lt_of_le (h1 v q hv ho) hg.size
theorem LpM.kp (h : LpM lb F n₀ r W) (k : KpM lb F W W') : LpM lb F n₀ r W' := by
  obtain ⟨h1, h2, h3, h4, h5, h6⟩ := h
  exact ⟨k.rg h1, (k.prv h1 h2).2, (k.prv h1 h3).2, (k.prv h1 h2).1.trans h4, (k.prv h1 h3).1.trans h5, h6⟩
theorem LpM.put (h : LpM lb F n₀ r W) : LpM lb F n₀ r' (W.putObj (n₀ + 1) (.loop r')) := by
  obtain ⟨h1, h2, h3, h4, h5, h6⟩ := h
  have hc : (W.putObj (n₀ + 1) (.loop r')).cell? ⟨lb, 0, none⟩ = W.cell? ⟨lb, 0, none⟩ := World.cell?_of_block (w := W) (a := ⟨lb, 0, none⟩) (World.putObj_heap_other (show lb ≠ n₀ + 1 by omega))
  have hp : ∀ q, Prv lb F W q → Prv lb F (W.putObj (n₀ + 1) (.loop r')) q := fun q p => ⟨by rw [World.putObj_size]; exact p.1, by
    rintro (hf | ⟨v, hv, ho⟩)
    · exact p.2 (.inl hf)
    · rw [hc] at hv; exact p.2 (.inr ⟨v, hv, ho⟩)⟩
  refine ⟨fun v q hv ho => ?_, hp _ h2, hp _ h3, World.putObj_heap_same h2.1, (World.putObj_heap_other (by omega)).trans h5, h6⟩
  rw [hc] at hv
  rw [World.putObj_size]
  exact h1 v q hv ho
end

/-- All that a function has gathered of finished rounds is let go. -/
theorem leaves_M {P : Program} {fn : Func} {tmps : Array Value} {R : Ending → World → Prop} {F : Fence} {n : Nat} (Pd : Nat → Prop) (E : World → Prop) (hE : ∀ w1 D, Pd D → E w1 → E (w1.putObj D (.deferred none)))
    (hfin : ∀ w1, E w1 → ∃ v, (results fn tmps).run P w1 = .ok v w1 ∧ R (.returned v) w1) : ∀ (Ds : List Nat) (w : World), Ds.Nodup → (∀ D ∈ Ds, Pd D ∧ w.heap[D]? = some (.deferred (some []))) → E w → LeavesInM F n P fn tmps R (Ds.map (fun D => { target := .collected D, args := #[] })) .returning w
  | [], w, _, _, h => hfin w h
  | D :: Ds, w, hn, hd, h => by
    obtain ⟨h1, h2⟩ := hd D (by simp)
    rw [List.nodup_cons] at hn
    refine ⟨by simp, .inl ⟨D, _, rfl, run_takeDeferred h2, ?_⟩⟩
    refine leaves_M Pd E hE hfin Ds _ hn.2 (fun D' hD' => ?_) (hE w D h1 h)
    obtain ⟨h3, h4⟩ := hd D' (by simp [hD'])
    exact ⟨h3, ((grownBy_putObj' w D (.deferred none)).block D' (Array.getElem?_eq_some_iff.1 h4).1 (fun e => by injection e with e; exact hn.1 (e ▸ hD'))).trans h4⟩

theorem leaves_own {P : Program} {fn : Func} {tmps : Array Value} {R : Ending → World → Prop} {n lb B : Nat} {F : Nat → Prop} {G : Fence} (E : World → Prop) (hE : OwnP lb F B (fun (_ : Unit) w => E w)) (hlb : lb < B)
    (hfin : ∀ w1, E w1 → ∃ v, (results fn tmps).run P w1 = .ok v w1 ∧ R (.returned v) w1) (Ds : List Nat) (w : World) (hn : Ds.Nodup) (hd : ∀ D ∈ Ds, B ≤ D ∧ Prv lb F w D ∧ w.heap[D]? = some (.deferred (some []))) (hw : lb < w.heap.size) (h : E w) :
    LeavesInM G n P fn tmps R (Ds.map (fun D => { target := .collected D, args := #[] })) .returning w := by
  refine leaves_M (fun D => D ∈ Ds ∧ B ≤ D) (fun w1 => E w1 ∧ lb < w1.heap.size ∧ ∀ D ∈ Ds, Prv lb F w1 D) ?_ (fun w1 h1 => hfin w1 h1.1) Ds w hn (fun D hD => ⟨⟨hD, (hd D hD).1⟩, (hd D hD).2.2⟩) ⟨h, hw, fun D hD => (hd D hD).2.1⟩
  rintro w1 D ⟨hD, hB⟩ ⟨h1, h2, h3⟩
  exact ⟨hE.put (s := ()) _ h1 hB (h3 D hD), by rw [World.putObj_size]; exact h2, fun D' hD' => (h3 D' hD').own (grownBy_putObj' w1 D (.deferred none)) h2 (fun e => by injection e with e; omega)⟩

theorem wp_rangeM {α : Type} {P : Program} {g : Operand} {ps : Array Tmp} {assign body : Code} {Q : Exit → Act → World → Prop} {a : Act} {w : World}
    {gf : Nat} {cap : Array Value} (hg : a.eval g = .func (.func gf) #[] cap) (eg : ∀ args w, (callFunc gf args).run P w = .ok (.enter gf args) w)
    {encs : α → Array Value} {Own : Nat → Prop} {S Sp : List α → Prop} {N : Nat} {w0 : World} (hseq : SeqM P gf cap encs Own S Sp N w0) (hb0 : Below w0.heap.size w0 w) (hOwn : ∀ q, Own q → q < w0.heap.size) (hps : ∀ x, (encs x).size = ps.size)
    (lb : Nat) (F : Nat → Prop) (hlb : lb < w.heap.size) (hr : RgM lb w) (hF : ∀ q, F q → q < w.heap.size ∧ ¬ Own q) (hrow : ∀ v q, w.cell? ⟨lb, 0, none⟩ = some v → v.ownBlock = some q → ¬ Own q)
    (I : List α → World → Prop) (Ix : Code → List α → World → Prop) (hI : OwnP lb F w.heap.size I) (hIx : ∀ c, OwnP lb F w.heap.size (Ix c)) (h0 : I [] w)
    (upd : Array Value → α → Nat → Array Value) (Bx : α → Nat → World → Prop) (hBx : ∀ x b, OwnFrom w.heap.size (fun (_ : Unit) W => Bx x b W))
    (hassign : ∀ (l : Nat) (pre : List α) (x : α) (W : World) (K : Act → World → Prop), RgM lb W → w.heap.size ≤ W.heap.size → I pre W → (∀ b W', KpM lb F W W' → I pre W' → Bx x b W' → K { tmps := upd a.tmps x b, defers := [] } W') →
      assign.wpIn (Fence.wide.inRound l) 0 P (Exit.then K (fun _ _ _ => False)) { tmps := (ps.zip (encs x)).foldl (fun t (p, v) => t.setIfInBounds p v) a.tmps, defers := [] } W)
    (hbody : ∀ (l : Nat) (pre : List α) (x : α) (b : Nat) (W : World), RgM lb W → w.heap.size ≤ W.heap.size → I pre W → Bx x b W → pre.length < N →
      body.wpIn (Fence.wide.inRound l) 0 P (postM lb F I Ix (pre ++ [x]) W) { tmps := upd a.tmps x b, defers := [] } W)
    (hdone : ∀ (xs : List α) (W : World), S xs → I xs W → RgM lb W → Prv lb F W w.heap.size → W.heap[w.heap.size]? = some (.deferred (some [])) → Q .normal { a with defers := { target := .collected w.heap.size, args := #[] } :: a.defers } W)
    (hstop : ∀ (c : Code) (pre : List α) (W : World), Sp pre → Ix c pre W → RgM lb W → Prv lb F W w.heap.size → W.heap[w.heap.size]? = some (.deferred (some [])) → c.wp P Q { a with defers := { target := .collected w.heap.size, args := #[] } :: a.defers } W) :
    (Code.rangeFunc g ps assign body).wp P Q a w := by
  refine (wpIn_wide (n := 0)).1 (wpIn_rangeFunc ?_)
  intro fn _
  let rec' : LoopState → Option Code → Loop := fun st pe => { state := st, pending := pe, fn, tmps := a.tmps, params := ps, assign, body, defers := w.heap.size }
  obtain ⟨R, hR⟩ : ∃ R, R = rec' := ⟨_, rfl⟩
  obtain ⟨W1, hW1⟩ : ∃ W1, (w.alloc (.deferred (some []))).alloc (.loop (R .ready none)) = W1 := ⟨_, rfl⟩
  have hbw : Below w.heap.size w W1 := by rw [← hW1]; exact ((Below.refl _ w).alloc (Nat.le_refl _) _).alloc (by simp) _
  have hz1 : W1.heap.size = w.heap.size + 2 := by rw [← hW1]; simp
  have hL1 : LpM lb F w.heap.size (R .ready none) W1 := by
    refine ⟨(KpM.of_below (F := F) hbw hlb).rg hr, Prv.since hbw hlb hr (fun q h => (hF q h).1) (by omega) (by omega), Prv.since hbw hlb hr (fun q h => (hF q h).1) (by omega) (by omega), ?_, ?_, hlb⟩
    · rw [← hW1]; have := World.alloc_heap_new (w.alloc (.deferred (some []))) (.loop (R .ready none)); rwa [World.size_alloc] at this
    · rw [← hW1]; exact (Below.heap_alloc _ _ _ (by simp)).trans (World.alloc_heap_new w _)
  have hI1 : I [] W1 := by rw [← hW1]; exact hI.alloc _ (hI.alloc _ h0)
  have hc1 : W1.cell? ⟨lb, 0, none⟩ = w.cell? ⟨lb, 0, none⟩ := hbw.cell (p := ⟨lb, 0, none⟩) hlb
  refine ⟨w.heap.size + 1, [{ target := .collected w.heap.size, args := #[] }], W1, { target := .fn (.func gf) cap, args := #[.func (.yield (w.heap.size + 1)) #[] #[]] }, W1, gf,
    #[.func (.yield (w.heap.size + 1)) #[] #[]] ++ cap, W1, ?_, ?_, fun _ _ => trivial, ?_, fun h => by simp [Fence.wide] at h, ?_⟩
  · rw [← hW1, hR]; exact run_enterLoop_outer _ _ _ _ _
  · simp only [resolve, hg]
    simp [go_sem]
  · simp [invoke, go_sem, eg]
  refine callsIn_wide.2 ((hseq (w.heap.size + 1) lb (fun q => F q ∨ q = w.heap.size + 1)
    (fun pre W => (I pre W ∧ w.heap.size ≤ W.heap.size) ∧ LpM lb F w.heap.size (R .ready none) W)
    (fun pre W => ∃ c, (Ix c pre W ∧ w.heap.size ≤ W.heap.size) ∧ LpM lb F w.heap.size (R .done (some c)) W) W1 (hb0.trans (hbw.mono hb0.size))
    ?_ ?_ (by omega) hL1.1 ?_ ?_ ?_ ⟨⟨hI1, by omega⟩, hL1⟩).mono ?_)
  · rintro s A B row ⟨⟨h1, h2⟩, h3⟩ hg hrr
    exact ⟨⟨hI s A B row h1 hg (fun k hk => ⟨by have := (hrr k hk).1; omega, (hrr k hk).2.mono .inl⟩), Nat.le_trans h2 hg.size⟩, h3.own hg (fun k hk => by have := (hrr k hk).1; omega)⟩
  · rintro s A B row ⟨c, ⟨h1, h2⟩, h3⟩ hg hrr
    exact ⟨c, ⟨hIx c s A B row h1 hg (fun k hk => ⟨by have := (hrr k hk).1; omega, (hrr k hk).2.mono .inl⟩), Nat.le_trans h2 hg.size⟩, h3.own hg (fun k hk => by have := (hrr k hk).1; omega)⟩
  · rintro q (hq | rfl)
    · exact ⟨by have := (hF q hq).1; omega, (hF q hq).2⟩
    · exact ⟨by omega, fun ho => by have h1 := hOwn _ ho; have := hb0.size; omega⟩
  · intro v q hv ho
    rw [hc1] at hv
    exact hrow v q hv ho
  · -- one round
    rintro pre x W ⟨⟨hi, hsz⟩, hl⟩ hlen
    have hy := run_yield (P := P) (args := encs x) hl.2.2.2.1 (by rw [hR]; exact hps x)
    rw [hR] at hy
    refine ⟨fn, _, assign, body, hy, roundIn_of_wpIn trivial (hassign _ pre x W _ hl.1 hsz hi ?_)⟩
    clear hy
    intro b Wa hka hia hbx
    have hla := hl.kp hka
    have hsa := Nat.le_trans hsz (hka.size hl.1)
    refine ⟨_, run_beginRound hla.2.2.2.1 (by rw [hR]), ?_⟩
    have hlb1 : LpM lb F w.heap.size { R .ready none with state := .busy } (Wa.putObj (w.heap.size + 1) (.loop { R .ready none with state := .busy })) := hla.put
    have hib := hI.put (.loop { R .ready none with state := .busy }) hia (Nat.le_succ w.heap.size) hla.2.1
    have hbb := (hBx x b).putObj (s := ()) (.loop { R .ready none with state := .busy }) hbx (Nat.le_succ w.heap.size) hla.2.2.2.1 rfl
    have hkb : KpM lb (fun q => F q ∨ q = w.heap.size + 1) W (Wa.putObj (w.heap.size + 1) (.loop { R .ready none with state := .busy })) :=
      (hka.mono (fun _ h => .inl h)).trans (KpM.put _ _ (.inr rfl) (by omega) (by omega))
    have hsb : w.heap.size ≤ (Wa.putObj (w.heap.size + 1) (.loop { R .ready none with state := .busy })).heap.size := by rw [World.putObj_size]; exact hsa
    revert hlb1 hib hbb hkb hsb
    generalize Wa.putObj (w.heap.size + 1) (.loop { R .ready none with state := .busy }) = Wb
    intro hlb1 hib hbb hkb hsb
    refine wpIn_mono (hbody _ pre x b Wb hlb1.1 hsb hib hbb hlen) ?_
    have fin : ∀ (jump : Option Code) (W3 : World), KpM lb F Wb W3 → ∃ W4, (Instr.endRound (w.heap.size + 1) jump).run P W3 = .ok (.bool jump.isNone) W4 ∧
        LpM lb F w.heap.size (R (if jump.isNone then .ready else .done) jump) W4 ∧ KpM lb (fun q => F q ∨ q = w.heap.size + 1) W W4 ∧ w.heap.size ≤ W4.heap.size ∧ (∀ c, Ix c (pre ++ [x]) W3 → Ix c (pre ++ [x]) W4) ∧ (I (pre ++ [x]) W3 → I (pre ++ [x]) W4) := by
      intro jump W3 hk3
      have hl3 := hlb1.kp hk3
      have h3 := run_endRound (P := P) jump hl3.2.2.2.1
      have hs3 := Nat.le_trans hsb (hk3.size hlb1.1)
      refine ⟨_, h3, ?_, ?_, by rw [World.putObj_size]; exact hs3, fun c hc => (hIx c).put _ hc (Nat.le_succ _) hl3.2.1, fun hc => hI.put _ hc (Nat.le_succ _) hl3.2.1⟩
      · have := hl3.put (r' := { R .ready none with state := (if jump.isNone then .ready else .done), pending := jump })
        rw [hR] at this ⊢
        exact this
      · exact hkb.trans ((hk3.mono (fun _ h => .inl h)).trans (KpM.put _ _ (.inr rfl) (by omega) (by omega)))
    rintro e a3 W3 hp
    cases e with
    | normal =>
      obtain ⟨W4, h1, h2, h3, h4, _, h6⟩ := fin none W3 hp.1
      exact ⟨_, _, h1, h3, .inl ⟨rfl, ⟨h6 hp.2, h4⟩, h2⟩⟩
    | ret =>
      obtain ⟨W4, h1, h2, h3, h4, h5, _⟩ := fin (some .ret) W3 hp.1
      exact ⟨_, _, h1, h3, .inr ⟨rfl, .ret, ⟨h5 _ hp.2, h4⟩, h2⟩⟩
    | exit id =>
      obtain ⟨W4, h1, h2, h3, h4, h5, _⟩ := fin (some (.exit id)) W3 hp.1
      exact ⟨_, _, h1, h3, .inr ⟨rfl, .exit id, ⟨h5 _ hp.2, h4⟩, h2⟩⟩
    | goto t =>
      obtain ⟨W4, h1, h2, h3, h4, h5, _⟩ := fin (some (.goto t)) W3 hp.1
      exact ⟨_, _, h1, h3, .inr ⟨rfl, .goto t, ⟨h5 _ hp.2, h4⟩, h2⟩⟩
    | panic ch => exact hp.elim
    | outgrown => exact hp.elim
  · -- behind the iterator
    rintro e W2 ⟨⟨v, rfl⟩, (⟨xs, hS, ⟨hi, hs⟩, hl⟩ | ⟨pre, hSp, c, ⟨hi, hs⟩, hl⟩)⟩
    · have h3 := run_endLoop (P := P) hl.2.2.2.1 (by rw [hR]; simp)
      have hl4 := hl.put (r' := { R .ready none with state := .exhausted })
      rw [hR] at h3
      rw [hR] at hl4
      exact ⟨none, _, h3, hdone xs _ hS (hI.put _ hi (Nat.le_succ _) hl.2.1) hl4.1 hl4.2.2.1 hl4.2.2.2.2.1⟩
    · have h3 := run_endLoop (P := P) hl.2.2.2.1 (by rw [hR]; simp)
      have hl4 := hl.put (r' := { R .done (some c) with state := .exhausted })
      rw [hR] at h3
      rw [hR] at hl4
      exact ⟨some c, _, h3, wpIn_wide.2 (hstop c pre _ hSp ((hIx c).put _ hi (Nat.le_succ _) hl.2.1) hl4.1 hl4.2.2.1 hl4.2.2.2.2.1)⟩
end Go.Proofs.YtnmkieiehjajlaaGreatDoor
