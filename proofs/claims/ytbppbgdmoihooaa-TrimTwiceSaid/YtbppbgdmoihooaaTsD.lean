/- Forests: bywayref29.Reached. -/
import Derived.Test.YtbppbgdmoihooaaTsC
import Derived.WalkSmall
namespace Go.Proofs.Ytbppbgdmoihooaa
open Go.RowKit

/-! The plain part. -/
def hasB (x : Nat) (p : Pk) : Bool := decide (p.spot = (x : Int)) && !decide (p.left < 0)
def pushTo (P : List Pk) (x : Nat) : Nat → List Nat
  | 0 => []
  | k + 1 => match P[k]? with
    | some p => if hasB x p then pushTo P x k ++ [p.left.toNat, p.right.toNat] else pushTo P x k
    | none => pushTo P x k
theorem pushTo_hit {P : List Pk} {x k : Nat} {p : Pk} (hp : P[k]? = some p) (h : hasB x p = true) : pushTo P x (k + 1) = pushTo P x k ++ [p.left.toNat, p.right.toNat] := by rw [pushTo, hp]; simp [h]
theorem pushTo_miss {P : List Pk} {x k : Nat} {p : Pk} (hp : P[k]? = some p) (h : hasB x p = false) : pushTo P x (k + 1) = pushTo P x k := by rw [pushTo, hp]; simp [h]
def onB (x : Nat) (p : Pk) : Bool := decide (p.spot = (x : Int))
theorem pushTo_len (P : List Pk) (x : Nat) : ∀ k, (pushTo P x k).length ≤ 2 * (P.take k).countP (onB x)
  | 0 => by simp [pushTo]
  | k + 1 => by
    have ih := pushTo_len P x k
    cases hp : P[k]? with
    | none => rw [pushTo, hp, List.take_of_length_le (by have := List.getElem?_eq_none_iff.1 hp; omega)]; rw [List.take_of_length_le (by have := List.getElem?_eq_none_iff.1 hp; omega)] at ih; exact ih
    | some p =>
      rw [tk_snoc hp, List.countP_append, List.countP_singleton]
      cases hb : hasB x p with
      | true =>
        rw [pushTo_hit hp hb, List.length_append]
        have : onB x p = true := by unfold hasB at hb; unfold onB; simp at hb; simpa using hb.1
        rw [if_pos this]
        simp only [List.length_cons, List.length_nil]
        omega
      | false => rw [pushTo_miss hp hb]; omega
theorem count_take_le (P : List Pk) (q : Pk → Bool) (k : Nat) : (P.take k).countP q ≤ P.countP q := List.Sublist.countP_le (List.take_sublist k P)
/-- How many packs' spots are not marked. -/
def unc (P : List Pk) (I : List Bool) : Nat := P.countP fun p => !atB I p.spot
theorem unc_set {P : List Pk} {n : Nat} {I : List Bool} {x : Nat} (hl : I.length = n) (hx : x < n) (hb : atB I (x : Int) = false) (hP : ∀ p ∈ P, PkIn n p) : unc P (I.set x true) + P.countP (onB x) = unc P I := by
  induction P with
  | nil => rfl
  | cons p P ih =>
    have h := ih (fun q hq => hP q (by simp [hq]))
    obtain ⟨⟨s, es, hs⟩, -⟩ := hP p (by simp)
    unfold unc at h ⊢
    simp only [List.countP_cons]
    have e : atB (I.set x true) p.spot = (onB x p || atB I p.spot) := by
      rw [es, atB_set (by omega)]
      unfold onB
      rw [es]
      by_cases e : s = x
      · subst e; simp
      · rw [if_neg (by simpa using e)]
        have : decide ((s : Int) = (x : Int)) = false := decide_eq_false (by omega)
        rw [this]; rfl
    rw [e]
    cases ho : onB x p with
    | true =>
      have : atB I p.spot = false := by
        unfold onB at ho
        simp at ho
        rw [ho]; exact hb
      rw [this]
      simp
      omega
    | false => simp; omega
theorem pushTo_mem {P : List Pk} {n : Nat} {x : Nat} (hP : ∀ p ∈ P, PkIn n p) : ∀ k (y : Nat), y ∈ pushTo P x k → y < n ∧ ∃ p ∈ P, p.spot = (x : Int) ∧ ¬ p.left < 0 ∧ ((y : Int) = p.left ∨ (y : Int) = p.right)
  | 0, y, h => by simp [pushTo] at h
  | k + 1, y, h => by
    cases hp : P[k]? with
    | none => rw [pushTo, hp] at h; exact pushTo_mem hP k y h
    | some p =>
      cases hb : hasB x p with
      | false => rw [pushTo_miss hp hb] at h; exact pushTo_mem hP k y h
      | true =>
        rw [pushTo_hit hp hb] at h
        rcases List.mem_append.1 h with h | h
        · exact pushTo_mem hP k y h
        · unfold hasB at hb
          simp at hb
          have hm := List.mem_of_getElem? hp
          rcases (hP p hm).2 with h2 | ⟨l, r, el, er, hl, hr⟩
          · omega
          · simp only [List.mem_cons, List.not_mem_nil, or_false] at h
            rw [el, er] at h
            simp only [Int.toNat_natCast] at h
            rcases h with rfl | rfl
            · exact ⟨hl, p, hm, hb.1, by omega, .inl el.symm⟩
            · exact ⟨hr, p, hm, hb.1, by omega, .inr er.symm⟩
theorem pushTo_all {P : List Pk} {x : Nat} : ∀ k (p : Pk) (i : Nat), i < k → P[i]? = some p → hasB x p = true → p.left.toNat ∈ pushTo P x k ∧ p.right.toNat ∈ pushTo P x k
  | 0, p, i, h, _, _ => by omega
  | k + 1, p, i, h, hi, hb => by
    by_cases e : i = k
    · subst e
      rw [pushTo_hit hi hb]
      simp
    · have ih := pushTo_all k p i (by omega) hi hb
      cases hp : P[k]? with
      | none => rw [pushTo, hp]; exact ih
      | some q =>
        cases hq : hasB x q with
        | true => rw [pushTo_hit hp hq]; exact ⟨List.mem_append.2 (.inl ih.1), List.mem_append.2 (.inl ih.2)⟩
        | false => rw [pushTo_miss hp hq]; exact ih

/-- What holds of the pile and the marks. -/
structure RchP (P : List Pk) (X : Int → Prop) (n M : Nat) (st : List Nat) (I : List Bool) : Prop where
  len : I.length = n
  snd : ∀ s : Nat, s < n → atB I (s : Int) = true → Rch P X s
  pil : ∀ y ∈ st, y < n ∧ Rch P X (y : Int)
  cov : ∀ x : Int, X x → 0 ≤ x ∧ x < (n : Int) ∧ (atB I x = true ∨ x.toNat ∈ st)
  cls : ∀ p ∈ P, ¬ p.left < 0 → atB I p.spot = true → (atB I p.left = true ∨ p.left.toNat ∈ st) ∧ (atB I p.right = true ∨ p.right.toNat ∈ st)
  bnd : st.length + 2 * unc P I ≤ M
theorem RchP.done {P : List Pk} {X : Int → Prop} {n M : Nat} {I : List Bool} (h : RchP P X n M [] I) (hP : ∀ p ∈ P, PkIn n p) : RchB P X n I :=
  RchB.of h.len hP (fun s hs => by have := h.cov s hs; simpa using this) (fun p hp hl hs => by have := h.cls p hp hl hs; simpa using this) h.snd
theorem RchP.old {P : List Pk} {X : Int → Prop} {n M : Nat} {st : List Nat} {x : Nat} {I : List Bool} (h : RchP P X n M (st ++ [x]) I) (hb : atB I (x : Int) = true) : RchP P X n M st I := by
  have key : ∀ y : Int, 0 ≤ y → (atB I y = true ∨ y.toNat ∈ st ++ [x]) → (atB I y = true ∨ y.toNat ∈ st) := fun y hy hh => by
    rcases hh with h1 | h1
    · exact .inl h1
    · rcases List.mem_append.1 h1 with h1 | h1
      · exact .inr h1
      · have : y = (x : Int) := by simp at h1; omega
        rw [this]; exact .inl hb
  refine ⟨h.len, h.snd, fun y hy => h.pil y (by simp [hy]), fun y hy => ?_, fun p hp hl hs => ?_, ?_⟩
  · obtain ⟨h1, h2, h3⟩ := h.cov y hy
    exact ⟨h1, h2, key y h1 h3⟩
  · obtain ⟨h1, h2⟩ := h.cls p hp hl hs
    refine ⟨key _ (by omega) h1, ?_⟩
    rcases h2 with h2 | h2
    · exact .inl h2
    · rcases List.mem_append.1 h2 with h2 | h2
      · exact .inr h2
      · left
        simp at h2
        unfold atB at hb ⊢
        rw [h2]
        simpa using hb
  · have := h.bnd; simp at this; omega
theorem RchP.new {P : List Pk} {X : Int → Prop} {n M : Nat} {st : List Nat} {x : Nat} {I : List Bool} (h : RchP P X n M (st ++ [x]) I) (hP : ∀ p ∈ P, PkIn n p) (hb : atB I (x : Int) = false) : RchP P X n M (st ++ pushTo P x P.length) (I.set x true) := by
  have hx := h.pil x (by simp)
  have hxl : x < I.length := by rw [h.len]; exact hx.1
  have up : ∀ y : Int, atB I y = true → atB (I.set x true) y = true := fun y hy => by
    rw [atB_set hxl]; split <;> simp_all
  have key : ∀ y : Int, (atB I y = true ∨ y.toNat ∈ st ++ [x]) → (atB (I.set x true) y = true ∨ y.toNat ∈ st ++ pushTo P x P.length) := fun y hh => by
    rcases hh with h1 | h1
    · exact .inl (up y h1)
    · rcases List.mem_append.1 h1 with h1 | h1
      · exact .inr (List.mem_append.2 (.inl h1))
      · simp at h1
        left
        rw [atB_set hxl, if_pos h1]
  refine ⟨by rw [List.length_set]; exact h.len, fun s hs hs2 => ?_, fun y hy => ?_, fun y hy => ?_, fun p hp hl hs => ?_, ?_⟩
  · rw [atB_set hxl] at hs2
    by_cases e : s = x
    · subst e; exact hx.2
    · rw [if_neg (by simpa using e)] at hs2; exact h.snd s hs hs2
  · rcases List.mem_append.1 hy with hy | hy
    · exact h.pil y (by simp [hy])
    · obtain ⟨h1, p, hp, hs, hl, h2⟩ := pushTo_mem hP _ y hy
      refine ⟨h1, ?_⟩
      rcases h2 with h2 | h2
      · rw [h2]; exact Rch.left p hp hl (by rw [hs]; exact hx.2)
      · rw [h2]; exact Rch.right p hp hl (by rw [hs]; exact hx.2)
  · obtain ⟨h1, h2, h3⟩ := h.cov y hy
    exact ⟨h1, h2, key y h3⟩
  · obtain ⟨⟨q, eq, hq⟩, -⟩ := hP p hp
    by_cases e : q = x
    · subst e
      obtain ⟨i, hi⟩ := List.mem_iff_getElem?.1 hp
      have hm := pushTo_all P.length p i (List.getElem?_eq_some_iff.1 hi).1 hi (x := q) (by unfold hasB; rw [eq]; simp; omega)
      exact ⟨.inr (List.mem_append.2 (.inr hm.1)), .inr (List.mem_append.2 (.inr hm.2))⟩
    · have : atB I p.spot = true := by
        rw [eq, atB_set hxl, if_neg (by simpa using e)] at hs
        rw [eq]; exact hs
      obtain ⟨h1, h2⟩ := h.cls p hp hl this
      exact ⟨key _ h1, key _ h2⟩
  · have h1 := h.bnd
    have h2 := unc_set h.len hx.1 hb hP
    have h3 := pushTo_len P x P.length
    rw [List.take_length] at h3
    simp only [List.length_append, List.length_singleton] at h1 ⊢
    omega

/-! In memory. -/
structure PileI (w0 wr : World) (b0 gi : Nat) (A : Option Addr) (c : Nat) (B : Option Addr) (d : Nat) (S : List Fct) (P : List Pk) (I : List Bool) (pv : Value) (st : List Nat) : Prop where
  own : wr.ownsRow w0.heap.size 3 1 pv st.length (st.map fun i : Nat => Value.int .i64 (i : Int))
  g : Blk wr gi 4 (bools I)
  kb : Blk wr b0 75 #[.slice A S.length c, .slice B P.length d]
  ap : ∀ k, pv.ownBlock = some k → k ≠ gi ∧ k ≠ b0
  bw : Below w0.heap.size w0 wr
  f : ForR w0 A c B d S P
  z : w0.heap.size ≤ gi ∧ gi ≠ b0
section
variable {w0 wr w' : World} {b0 gi : Nat} {A : Option Addr} {c : Nat} {B : Option Addr} {d : Nat} {S : List Fct} {P : List Pk} {I : List Bool} {pv : Value} {st : List Nat}
theorem PileI.below (h : PileI w0 wr b0 gi A c B d S P I pv st) (hb : Below wr.heap.size wr w') : PileI w0 w' b0 gi A c B d S P I pv st :=
  ⟨ownsRow_upd h.own (Upd.of_below hb (fun _ => False)) (fun _ _ => id), h.g.upd (Upd.of_below hb (fun _ => False)) id, h.kb.upd (Upd.of_below hb (fun _ => False)) id, h.ap, h.bw.trans (hb.mono h.bw.size), h.f, h.z⟩
theorem PileI.pop {g cp x : Nat} (h : PileI w0 wr b0 gi A c B d S P I (.slice (some ⟨g, 0, none⟩) (st.length + 1) cp) (st ++ [x])) : PileI w0 wr b0 gi A c B d S P I (.slice (some ⟨g, 0, none⟩) st.length cp) st := by
  refine ⟨?_, h.g, h.kb, h.ap, h.bw, h.f, h.z⟩
  have := h.own
  simp only [List.length_append, List.length_singleton, List.map_append] at this
  exact ownsRow_pop (by simp) this
theorem PileI.put (h : PileI w0 wr b0 gi A c B d S P I pv st) (i : Nat) (b : Bool) : PileI w0 (wr.setCell ⟨gi, i, none⟩ (.bool b)) b0 gi A c B d S P (I.set i b) pv st := by
  have us : Upd (fun q => q = gi) wr (wr.setCell ⟨gi, i, none⟩ (.bool b)) := (Upd.refl (fun q => q = gi) wr).setCell (p := ⟨gi, i, none⟩) (.inl rfl) _
  have g := h.g.set i (.bool b)
  rw [bools_set] at g
  exact ⟨ownsRow_upd h.own us (fun k hk e => (h.ap k hk).1 e), g, h.kb.upd us (fun e => h.z.2 e.symm), h.ap, h.bw.trans (us.below (fun q _ e => by have := h.z.1; omega) h.bw.size), h.f, h.z⟩
theorem PileI.push (h : PileI w0 wr b0 gi A c B d S P I pv st) (a : Nat) (hl : (st.length + 1) * 8 ≤ 140737488355328) :
    ∃ v' w', (Builtin.append_ #[44, 44] 44 #[pv, .slice (some ⟨wr.heap.size, 0, none⟩) 1 1]).run Try.prog (wr.alloc (.cells #[.int .i64 (a : Int)] 3)) = .ok v' w' ∧ PileI w0 w' b0 gi A c B d S P I v' (st ++ [a]) := by
  obtain ⟨v', w', happ, own', up, pl⟩ := push_own wr w0.heap.size 44 3 1 8 _ Try.underlying44 info_int rfl (by decide) pv st.length _ h.own [.int .i64 (a : Int)] 1 rfl (by simp; exact rfl) hl (by unfold maxLen; omega) h.bw.size
  refine ⟨v', w', happ, ⟨?_, h.g.upd up (fun e => (h.ap _ e).1 rfl), h.kb.upd up (fun e => (h.ap _ e).2 rfl), fun k hk => ?_, h.bw.trans (up.below (fun k _ e => (h.own.lt k e).1) h.bw.size), h.f, h.z⟩⟩
  · rw [List.length_append, List.map_append]
    exact own'
  · rcases pl k hk with h1 | h1
    · exact h.ap k h1
    · have := h.g.lt; have := h.kb.lt; omega
end

def RchPost (w0 : World) (P : List Pk) (X : Int → Prop) (n : Nat) (e : Ending) (w' : World) : Prop :=
  ∃ g I, e = .returned (.slice (some ⟨g, 0, none⟩) n n) ∧ RchB P X n I ∧ Blk w' g 4 (bools I) ∧ w0.heap.size ≤ g ∧ Below w0.heap.size w0 w'

set_option maxHeartbeats 4000000 in
set_option maxRecDepth 20000 in
theorem reached_any (w0 w : World) (A : Option Addr) (c : Nat) (B : Option Addr) (d : Nat) (S : List Fct) (P : List Pk) (X : Int → Prop) (pv : Value) (st0 : List Nat) (h : ForR w0 A c B d S P) (ho : ∀ p ∈ P, PkIn S.length p) (bw : Below w0.heap.size w0 w) (own : w.ownsRow w0.heap.size 3 1 pv st0.length (st0.map fun i : Nat => Value.int .i64 (i : Int)))
    (hX : ∀ x, X x ↔ ∃ y ∈ st0, x = (y : Int)) (hst : ∀ y ∈ st0, y < S.length) (hM : (st0.length + 2 * P.length) * 8 ≤ 140737488355328) :
    Calls Try.prog 38 #[forV A S.length c B P.length d, pv] w (RchPost w0 P X S.length) := by
  have k0 := (Blk.new w 75 #[.slice A S.length c, .slice B P.length d]).alloc (.cells (bools (List.replicate S.length false)) 4)
  have g0 := Blk.new (w.alloc (.cells #[.slice A S.length c, .slice B P.length d] 75)) 4 (bools (List.replicate S.length false))
  have u0 : Below w.heap.size w ((w.alloc (.cells #[.slice A S.length c, .slice B P.length d] 75)).alloc (.cells (bools (List.replicate S.length false)) 4)) := by (repeat (first | exact Below.refl _ _ | apply Below.drew | refine Below.alloc ?_ (by first | exact Nat.le_refl _ | (simp; done) | (simp; omega)) _ | refine Below.setCell ?_ (by first | exact Nat.le_refl _ | (simp; done) | (simp; omega)) _))
  simp only [World.size_alloc] at g0
  have hdI : (P.length : Int) ≤ (d : Int) := by have := h.hd; omega
  have hS8 : S.length ≤ 140737488355328 := by have := h.fit.s; omega
  have hP8 : P.length * 40 ≤ 140737488355328 := h.fit.p
  have hmk := fun w : World => mk_bools w S.length hS8
  have I0 : PileI w0 ((w.alloc (.cells #[.slice A S.length c, .slice B P.length d] 75)).alloc (.cells (bools (List.replicate S.length false)) 4)) w.heap.size (w.heap.size + 1) A c B d S P (List.replicate S.length false) pv st0 :=
    ⟨ownsRow_upd own (Upd.of_below u0 (fun _ => False)) (fun _ _ => id), g0, k0, fun k hk => by have := (own.lt k hk).2; omega, bw.trans (u0.mono bw.size), h, by have := bw.size; omega, by omega⟩
  have R0 : RchP P X S.length (st0.length + 2 * P.length) st0 (List.replicate S.length false) := by
    have hf : ∀ x : Int, atB (List.replicate S.length false) x = false := fun x => by unfold atB; rw [List.getElem?_replicate]; split <;> rfl
    refine ⟨by simp, fun s hs hb => (by rw [hf] at hb; cases hb), fun y hy => ⟨hst y hy, Rch.base _ ((hX _).2 ⟨y, hy, rfl⟩)⟩, fun x hx => ?_, fun p hp hl hs => (by rw [hf] at hs; cases hs), ?_⟩
    · obtain ⟨y, hy, rfl⟩ := (hX x).1 hx
      have := hst y hy
      exact ⟨by omega, by omega, .inr (by simpa using hy)⟩
    · have : unc P (List.replicate S.length false) ≤ P.length := List.countP_le_length
      omega
  have H := Lib.hid (And.intro ho (And.intro I0 R0))
  obtain ⟨A0, c0, rfl, -, -⟩ := own_form own
  clear h ho bw own hX hst k0 g0 u0 I0 R0
  go_enter Try.func38, Try.ntmps38
  unfold forV
  go_wp2_with fail
  clear hmk
  generalize ((w.alloc (.cells #[.slice A S.length c, .slice B P.length d] 75)).alloc (.cells (bools (List.replicate S.length false)) 4)) = w1 at H ⊢
  go_loopg [1] (wtB (List.replicate S.length false) * (2 * P.length + 1) + st0.length) (fun g pv wr => ∃ st I, PileI w0 wr w.heap.size (w.heap.size + 1) A c B d S P I pv st ∧ RchP P X S.length (st0.length + 2 * P.length) st I ∧ g = wtB I * (2 * P.length + 1) + st.length)
  case atStart => exact ⟨st0, _, H.out.2.1, H.out.2.2, rfl⟩
  case round =>
    obtain ⟨st, I, hT, hR, hg⟩ := hrel
    rcases List.eq_nil_or_concat st with rfl | ⟨st1, x, rfl⟩
    · obtain ⟨A', c', rfl, -, -⟩ := own_form hT.own
      have fin : RchPost w0 P X S.length (.returned (.slice (some ⟨w.heap.size + 1, 0, none⟩) S.length S.length)) wr := ⟨_, I, rfl, hR.done H.out.1, hT.g, hT.z.1, hT.bw⟩
      have FIN := Lib.hid fin
      clear fin hT hR hg
      go_wp2
      go_ret
      exact FIN.out
    · rw [List.concat_eq_append] at hT hR hg
      obtain ⟨gp, cp, rfl, -, hcp, -, -, cells⟩ := own_cells hT.own (by simp)
      have q4 : wr.cell? ⟨gp, st1.length, none⟩ = some (.int .i64 (x : Int)) := (cells st1.length (.int .i64 (x : Int)) (by simp)).1
      rw [List.length_append, List.length_singleton] at hT hcp ⊢
      have hT2 := hT.pop
      have hx := (hR.pil x (by simp)).1
      have hxI : (x : Int) < (S.length : Int) := by omega
      have hcI : (st1.length : Int) + 1 ≤ (cp : Int) := by omega
      have hlt1 : (st1.length : Int) < (st1.length : Int) + 1 := by omega
      have hxl := hR.len
      have m0 := hT2.g.cell x
      rw [bools_get (atB_get (by rw [hxl]; exact hx))] at m0
      obtain ⟨b, hb⟩ : ∃ b, atB I (x : Int) = b := ⟨_, rfl⟩
      rw [hb] at m0
      have HB := Lib.hid (And.intro hT2 (And.intro hR (And.intro hg (And.intro hb hxl))))
      have hM2 : st1.length + 1 ≤ 100000000000000 := by have := hR.bnd; simp only [List.length_append, List.length_singleton] at this; omega
      cases b with
      | true =>
        clear hT hT2 hR hg hb hxl cells hcp
        go_wp2
        go_roundg (wtB I * (2 * P.length + 1) + st1.length)
        case measure => have := HB.out.2.2.1; simp only [List.length_append, List.length_singleton] at this; omega
        case rel => exact ⟨st1, I, HB.out.1, HB.out.2.1.old HB.out.2.2.2.1, rfl⟩
      | false =>
        have m1 := hT2.g.frozen x
        have hT3 := hT2.put x true
        have HT := Lib.hid hT3
        clear hT hT2 hT3 hR hg hb hxl cells hcp
        obtain ⟨wo, rfl⟩ : ∃ wo : World, wo = wr := ⟨_, rfl⟩
        go_wp2_with fail
        clear m0 m1 q4
        go_loopw [1, 7] (fun pv iv wr => ∃ k : Nat, k ≤ P.length ∧ iv = .int .i64 k ∧ PileI w0 wr w.heap.size (w.heap.size + 1) A c B d S P (I.set x true) pv (st1 ++ pushTo P x k)) (fun _ iv _ => P.length - (intOf iv).toNat)
        case atStart => exact ⟨0, Nat.zero_le _, rfl, by simpa [pushTo] using HT.out⟩
        case round =>
          obtain ⟨k, hk, rfl, hT⟩ := hrel
          obtain ⟨A5, c5, rfl, -, -⟩ := own_form hT.own
          obtain ⟨n5, hn5⟩ : ∃ n5, (st1 ++ pushTo P x k).length = n5 := ⟨_, rfl⟩
          rw [hn5] at hT ⊢
          have HN5 := Lib.hid hn5
          clear hn5
          have q1 : wr.cell? ⟨w.heap.size, 1, none⟩ = some (.slice B P.length d) := hT.kb.cell 1
          by_cases hlt : k < P.length
          · have hltI : (k : Int) < (P.length : Int) := by omega
            obtain ⟨⟨p0, p1, p2, p3, p4⟩, hp⟩ : ∃ p, P[k]? = some p := ⟨P[k], List.getElem?_eq_getElem hlt⟩
            obtain ⟨gb, go, rfl, a0, a1, a2, a3, a4⟩ := (hT.f.below hT.bw).rp.pack hp
            by_cases e0 : p0 = (x : Int)
            · subst e0
              by_cases hl : p3 < 0
              · have n3 : decide (0 ≤ p3) = false := by simpa using hl
                have HN := Lib.hid (And.intro hT (And.intro hp hl))
                clear hT hp hl
                go_wp2
                go_roundw
                case rel => exact ⟨k + 1, by omega, by go_num, by rw [pushTo_miss HN.out.2.1 (by have := HN.out.2.2; unfold hasB; rw [show decide ((⟨(x : Int), p1, p2, p3, p4⟩ : Pk).left < 0) = true by simpa using this]; simp)]; exact HN.out.1⟩
                case measure => simp [intOf]; omega
              · obtain ⟨l, r, el, er⟩ : ∃ l r : Nat, p3 = l ∧ p4 = r := by
                  rcases (H.out.1 _ (List.mem_of_getElem? hp)).2 with h2 | ⟨l, r, el, er, -, -⟩
                  · exact (hl h2).elim
                  · exact ⟨l, r, el, er⟩
                subst el
                subst er
                have hhas : hasB x ⟨(x : Int), p1, p2, (l : Int), (r : Int)⟩ = true := by simp [hasB]
                have hbn : (st1 ++ pushTo P x k).length + 2 ≤ st0.length + 2 * P.length := by
                  have h1 := HB.out.2.1.bnd
                  have h2 := unc_set HB.out.2.2.2.2 hx HB.out.2.2.2.1 H.out.1
                  have h3 := pushTo_len P x k
                  have h4 := count_take_le P (onB x) (k + 1)
                  rw [tk_snoc hp, List.countP_append, List.countP_singleton, if_pos (by simp [onB])] at h4
                  simp only [List.length_append, List.length_singleton] at h1 ⊢
                  omega
                obtain ⟨v6, w6, happ, hT6⟩ := hT.push l (by omega)
                obtain ⟨A6, c6, rfl, -, -⟩ := own_form hT6.own
                obtain ⟨n6, hn6⟩ : ∃ n6, (st1 ++ pushTo P x k ++ [l]).length = n6 := ⟨_, rfl⟩
                rw [hn6] at happ hT6
                have HN6 := Lib.hid hn6
                clear hn6
                obtain ⟨v7, w7, happ7, hT7⟩ := hT6.push r (by simp only [List.length_append, List.length_singleton] at hbn ⊢; omega)
                have n3 : decide ((0 : Int) ≤ (l : Int)) = true := by simp
                have q6 : w6.cell? ⟨w.heap.size, 1, none⟩ = some (.slice (some ⟨gb, go, none⟩) P.length d) := hT6.kb.cell 1
                obtain ⟨gb', go', e6, -, -, -, -, b4⟩ := (hT6.f.below hT6.bw).rp.pack hp
                injection e6 with e6
                injection e6 with e6 e7
                subst e6
                subst e7
                have HN := Lib.hid (And.intro hT7 (And.intro hp hhas))
                clear hT hT6 hT7 hp hhas hbn
                go_wp2_with (at_builtin; first | (refine wpList_append_run rfl _ _ _ rfl rfl rfl happ ?_) | (refine wpList_append_run rfl _ _ _ rfl rfl rfl happ7 ?_))
                go_roundw
                case rel =>
                  refine ⟨k + 1, by omega, by go_num, ?_⟩
                  rw [pushTo_hit HN.out.2.1 HN.out.2.2]
                  have := HN.out.1
                  simp only [List.append_assoc, List.cons_append, List.nil_append] at this
                  simpa using this
                case measure => simp [intOf]; omega
            · have e1 : (p0 == (x : Int)) = false := by simpa using e0
              have HN := Lib.hid (And.intro hT (And.intro hp e0))
              clear hT hp e0
              go_wp2
              go_roundw
              case rel => exact ⟨k + 1, by omega, by go_num, by rw [pushTo_miss HN.out.2.1 (by have := HN.out.2.2; simp [hasB, this])]; exact HN.out.1⟩
              case measure => simp [intOf]; omega
          · obtain rfl : k = P.length := by omega
            clear hlt
            have HN := Lib.hid hT
            clear hT
            go_wp2
            go_roundg (wtB (I.set x true) * (2 * P.length + 1) + (st1 ++ pushTo P x P.length).length)
            case measure =>
              have h1 := HB.out.2.2.1
              have h2 := wtB_lt x (by rw [HB.out.2.2.2.2]; exact hx) HB.out.2.2.2.1
              have h3 := pushTo_len P x P.length
              have h4 : P.countP (onB x) ≤ P.length := List.countP_le_length
              rw [List.take_length] at h3
              simp only [List.length_append, List.length_singleton] at h1 ⊢
              have h5 : wtB (I.set x true) * (2 * P.length + 1) + (2 * P.length + 1) ≤ wtB I * (2 * P.length + 1) := by
                rw [← Nat.succ_mul]
                exact Nat.mul_le_mul_right _ h2
              omega
            case rel => exact ⟨_, _, HN.out, HB.out.2.1.new H.out.1 HB.out.2.2.2.1, rfl⟩
end Go.Proofs.Ytbppbgdmoihooaa
