/- Forests: trim.spread, trim.from. -/
import Derived.Test.YtbppbgdmoihooaaTsA
namespace Go.Proofs.Ytbppbgdmoihooaa
open Go.RowKit

/-- What spread's function sees. -/
structure SprI (w0 w : World) (b1 b2 gi : Nat) (A : Option Addr) (c : Nat) (B : Option Addr) (d : Nat) (S : List Fct) (P : List Pk) (I : List Bool) : Prop where
  k1 : Blk w b1 75 #[.slice A S.length c, .slice B P.length d]
  k2 : Blk w b2 84 #[.slice (some ⟨gi, 0, none⟩) S.length S.length]
  g : Blk w gi 4 (bools I)
  l : I.length = S.length
  f : ForR w0 A c B d S P
  bw : Below w0.heap.size w0 w
  n : w0.heap.size ≤ gi ∧ gi ≠ b1 ∧ gi ≠ b2
section
variable {w0 w w' : World} {b1 b2 gi : Nat} {A : Option Addr} {c : Nat} {B : Option Addr} {d : Nat} {S : List Fct} {P : List Pk} {I : List Bool}
theorem SprI.forR (h : SprI w0 w b1 b2 gi A c B d S P I) : ForR w A c B d S P := h.f.below h.bw
theorem SprI.below (h : SprI w0 w b1 b2 gi A c B d S P I) (hb : Below w.heap.size w w') : SprI w0 w' b1 b2 gi A c B d S P I :=
  ⟨h.k1.upd (Upd.of_below hb (fun _ => False)) id, h.k2.upd (Upd.of_below hb (fun _ => False)) id, h.g.upd (Upd.of_below hb (fun _ => False)) id, h.l, h.f, h.bw.trans (hb.mono h.bw.size), h.n⟩
theorem SprI.put (h : SprI w0 w b1 b2 gi A c B d S P I) (i : Nat) (b : Bool) : SprI w0 (w.setCell ⟨gi, i, none⟩ (.bool b)) b1 b2 gi A c B d S P (I.set i b) := by
  have us : Upd (fun q => q = gi) w (w.setCell ⟨gi, i, none⟩ (.bool b)) := (Upd.refl (fun q => q = gi) w).setCell (p := ⟨gi, i, none⟩) (.inl rfl) _
  have g := h.g.set i (.bool b)
  rw [bools_set] at g
  exact ⟨h.k1.upd us (fun e => h.n.2.1 e.symm), h.k2.upd us (fun e => h.n.2.2 e.symm), g, by rw [List.length_set]; exact h.l, h.f, h.bw.trans (us.below (fun q _ e => by have := h.n.1; omega) h.bw.size), h.n⟩
end

def goOn (I : List Bool) (p : Pk) : Bool := !(decide (p.left < 0)) && (atB I p.spot && !(atB I p.left && atB I p.right))
def setOn (I : List Bool) (p : Pk) : List Bool := (I.set p.left.toNat true).set p.right.toNat true

set_option maxHeartbeats 2000000 in
set_option maxRecDepth 20000 in
theorem spread1_no (w0 w : World) (b1 b2 gi : Nat) (A : Option Addr) (c : Nat) (B : Option Addr) (d : Nat) (S : List Fct) (P : List Pk) (I : List Bool) (i : Nat) (p : Pk) (h : SprI w0 w b1 b2 gi A c B d S P I) (hi : P[i]? = some p) (hp : PkIn S.length p) (hb : goOn I p = false) :
    Calls Try.prog 90 #[.int .i64 (i : Int), .pointer (some ⟨b1, 0, none⟩), .pointer (some ⟨b2, 0, none⟩)] w (Sam w (.bool false)) := by
  obtain ⟨p0, p1, p2, p3, p4⟩ := p
  obtain ⟨⟨s, es, hs⟩, hlr⟩ := hp
  dsimp only at es hlr
  subst es
  have hdI : (P.length : Int) ≤ (d : Int) := by have := h.f.hd; omega
  have hil := (List.getElem?_eq_some_iff.1 hi).1
  have hiI : (i : Int) < (P.length : Int) := by omega
  have hsI : (s : Int) < (S.length : Int) := by omega
  obtain ⟨gb, go, rfl, a0, a1, a2, a3, a4⟩ := h.forR.rp.pack hi
  have q1 : w.cell? ⟨b1, 1, none⟩ = some (.slice (some ⟨gb, go, none⟩) P.length d) := h.k1.cell 1
  have kx := Blk.new w 125 #[.int .i64 (s : Int), .int .i64 p1, .int .i64 p2, .int .i64 p3, .int .i64 p4]
  have bx : Below w.heap.size w (w.alloc (.cells #[.int .i64 (s : Int), .int .i64 p1, .int .i64 p2, .int .i64 p3, .int .i64 p4] 125)) := (Below.refl _ _).alloc (Nat.le_refl _) _
  have hB := h.below bx
  have HB := Lib.hid (And.intro hB (And.intro kx bx))
  clear hB kx bx h hi
  go_enter Try.func90, Try.ntmps90
  go_upto_region 2 with (fail)
  clear a0 a1 a2 a3 a4 q1
  generalize w.alloc (.cells #[.int .i64 (s : Int), .int .i64 p1, .int .i64 p2, .int .i64 p3, .int .i64 p4] 125) = W1 at HB ⊢
  have x0 : W1.cell? ⟨w.heap.size, 0, none⟩ = some (.int .i64 (s : Int)) := HB.out.2.1.cell 0
  have x3 : W1.cell? ⟨w.heap.size, 3, none⟩ = some (.int .i64 p3) := HB.out.2.1.cell 3
  have x4 : W1.cell? ⟨w.heap.size, 4, none⟩ = some (.int .i64 p4) := HB.out.2.1.cell 4
  have q2 : W1.cell? ⟨b2, 0, none⟩ = some (.slice (some ⟨gi, 0, none⟩) S.length S.length) := HB.out.1.k2.cell 0
  have gq : ∀ x : Nat, x < S.length → W1.cell? ⟨gi, x, none⟩ = some (.bool (atB I (x : Int))) := fun x hx => by
    rw [HB.out.1.g.cell x]
    exact bools_get (atB_get (by rw [HB.out.1.l]; exact hx))
  have g0 := gq s hs
  rcases hlr with hl3 | ⟨l, r, el, er, hl, hr⟩
  · have n3 : decide (p3 < 0) = true := by simpa using hl3
    clear hb gq g0
    go_wp2
    go_ret
    exact ⟨rfl, HB.out.2.2⟩
  · subst el
    subst er
    have hlI : (l : Int) < (S.length : Int) := by omega
    have hrI : (r : Int) < (S.length : Int) := by omega
    have n3 : decide ((l : Int) < 0) = false := decide_eq_false (by omega)
    have g3 := gq l hl
    have g4 := gq r hr
    unfold goOn at hb
    dsimp only at hb
    rw [n3] at hb
    generalize atB I (s : Int) = b0 at g0 hb
    generalize atB I (l : Int) = b3 at g3 hb
    generalize atB I (r : Int) = b4 at g4 hb
    clear gq
    cases b0 with
    | false =>
      clear hb
      go_wp2
      go_ret
      exact ⟨rfl, HB.out.2.2⟩
    | true =>
      cases b3 with
      | false => cases hb
      | true =>
        cases b4 with
        | false => cases hb
        | true =>
          clear hb
          go_wp2
          go_ret
          exact ⟨rfl, HB.out.2.2⟩

set_option maxHeartbeats 2000000 in
set_option maxRecDepth 20000 in
theorem spread1_yes (w0 w : World) (b1 b2 gi : Nat) (A : Option Addr) (c : Nat) (B : Option Addr) (d : Nat) (S : List Fct) (P : List Pk) (I : List Bool) (i : Nat) (p : Pk) (h : SprI w0 w b1 b2 gi A c B d S P I) (hi : P[i]? = some p) (hp : PkIn S.length p) (hb : goOn I p = true) :
    Calls Try.prog 90 #[.int .i64 (i : Int), .pointer (some ⟨b1, 0, none⟩), .pointer (some ⟨b2, 0, none⟩)] w (fun e w' => e = .returned (.bool true) ∧ SprI w0 w' b1 b2 gi A c B d S P (setOn I p) ∧ Upd (fun q => q = gi) w w') := by
  obtain ⟨p0, p1, p2, p3, p4⟩ := p
  obtain ⟨⟨s, es, hs⟩, hlr⟩ := hp
  dsimp only at es hlr
  subst es
  have hdI : (P.length : Int) ≤ (d : Int) := by have := h.f.hd; omega
  have hil := (List.getElem?_eq_some_iff.1 hi).1
  have hiI : (i : Int) < (P.length : Int) := by omega
  have hsI : (s : Int) < (S.length : Int) := by omega
  obtain ⟨gb, go, rfl, a0, a1, a2, a3, a4⟩ := h.forR.rp.pack hi
  have q1 : w.cell? ⟨b1, 1, none⟩ = some (.slice (some ⟨gb, go, none⟩) P.length d) := h.k1.cell 1
  have kx := Blk.new w 125 #[.int .i64 (s : Int), .int .i64 p1, .int .i64 p2, .int .i64 p3, .int .i64 p4]
  have bx : Below w.heap.size w (w.alloc (.cells #[.int .i64 (s : Int), .int .i64 p1, .int .i64 p2, .int .i64 p3, .int .i64 p4] 125)) := (Below.refl _ _).alloc (Nat.le_refl _) _
  have hB := h.below bx
  have HB := Lib.hid (And.intro hB (And.intro kx bx))
  clear hB kx bx h hi
  go_enter Try.func90, Try.ntmps90
  go_upto_region 2 with (fail)
  clear a0 a1 a2 a3 a4 q1
  generalize w.alloc (.cells #[.int .i64 (s : Int), .int .i64 p1, .int .i64 p2, .int .i64 p3, .int .i64 p4] 125) = W1 at HB ⊢
  have x0 : W1.cell? ⟨w.heap.size, 0, none⟩ = some (.int .i64 (s : Int)) := HB.out.2.1.cell 0
  have x3 : W1.cell? ⟨w.heap.size, 3, none⟩ = some (.int .i64 p3) := HB.out.2.1.cell 3
  have x4 : W1.cell? ⟨w.heap.size, 4, none⟩ = some (.int .i64 p4) := HB.out.2.1.cell 4
  have q2 : W1.cell? ⟨b2, 0, none⟩ = some (.slice (some ⟨gi, 0, none⟩) S.length S.length) := HB.out.1.k2.cell 0
  have gq : ∀ x : Nat, x < S.length → W1.cell? ⟨gi, x, none⟩ = some (.bool (atB I (x : Int))) := fun x hx => by
    rw [HB.out.1.g.cell x]
    exact bools_get (atB_get (by rw [HB.out.1.l]; exact hx))
  have g0 := gq s hs
  rcases hlr with hl3 | ⟨l, r, el, er, hl, hr⟩
  · unfold goOn at hb
    rw [show decide (p3 < 0) = true by simpa using hl3] at hb
    cases hb
  · subst el
    subst er
    have hlI : (l : Int) < (S.length : Int) := by omega
    have hrI : (r : Int) < (S.length : Int) := by omega
    have n3 : decide ((l : Int) < 0) = false := decide_eq_false (by omega)
    have g3 := gq l hl
    have g4 := gq r hr
    have f3 := HB.out.1.g.frozen l
    have u1 : Upd (fun q => q = gi) W1 (W1.setCell ⟨gi, l, none⟩ (.bool true)) := (Upd.refl (fun q => q = gi) W1).setCell (p := ⟨gi, l, none⟩) (.inl rfl) _
    have hs1 := HB.out.1.put l true
    have g4s := hs1.g.cell r
    rw [bools_get (atB_get (by rw [hs1.l]; exact hr))] at g4s
    have f4s := hs1.g.frozen r
    have hs2 := hs1.put r true
    have q2s : (W1.setCell ⟨gi, l, none⟩ (.bool true)).cell? ⟨b2, 0, none⟩ = some (.slice (some ⟨gi, 0, none⟩) S.length S.length) := hs1.k2.cell 0
    have ngx : ¬ w.heap.size = gi := by
      have h1 := HB.out.1.g.lt
      have h2 := HB.out.2.1.lt
      intro e
      have h3 := HB.out.1.g
      have h4 := HB.out.2.1
      rw [← e] at h3
      unfold Blk at h3 h4
      rw [h4] at h3
      injection h3 with h3
      injection h3 with _ h3
      exact absurd h3 (by decide)
    have x3s : (W1.setCell ⟨gi, l, none⟩ (.bool true)).cell? ⟨w.heap.size, 3, none⟩ = some (.int .i64 (l : Int)) := (HB.out.2.1.upd u1 ngx).cell 3
    have x4s : (W1.setCell ⟨gi, l, none⟩ (.bool true)).cell? ⟨w.heap.size, 4, none⟩ = some (.int .i64 (r : Int)) := (HB.out.2.1.upd u1 ngx).cell 4
    have u2 : Upd (fun q => q = gi) w ((W1.setCell ⟨gi, l, none⟩ (.bool true)).setCell ⟨gi, r, none⟩ (.bool true)) := ((Upd.of_below HB.out.2.2 (fun q => q = gi)).trans u1 (fun i e => .inl e)).setCell (p := ⟨gi, r, none⟩) (.inl rfl) _
    have HS := Lib.hid (And.intro (hs2.below (Below.refl _ _).drew) u2.drew)
    have HQ := Lib.hid (And.intro q2s (And.intro x3s x4s))
    unfold goOn at hb
    dsimp only at hb
    rw [n3] at hb
    generalize atB I (s : Int) = b0 at g0 hb
    generalize atB I (l : Int) = b3 at g3 hb
    generalize atB I (r : Int) = b4 at g4 hb
    clear gq hs1 hs2 u1 u2 q2s x3s x4s ngx
    cases b0 with
    | false => cases hb
    | true =>
      cases b3 with
      | false =>
        clear hb
        go_upto_region 4 with (fail)
        refine wp_region_ord (fun w' => w'.cell? ⟨b2, 0, none⟩ = some (.slice (some ⟨gi, 0, none⟩) S.length S.length) ∧ w'.cell? ⟨w.heap.size, 3, none⟩ = some (.int .i64 (l : Int)) ∧ w'.cell? ⟨w.heap.size, 4, none⟩ = some (.int .i64 (r : Int))) 9 [(0, true), (1, true), (2, true), (3, true), (4, true), (5, true), (6, true), (7, false), (8, true), (9, false)] (by kernel_rfl) (by kernel_rfl) (fun _ _ d _ _ h => by cases d <;> exact h) ⟨q2, x3, x4⟩ ?_
        iterate 7 (refine ord_take (v := ?_) rfl (by first | with_reducible rfl | kernel_rfl) ?_ ?_; rotate_left; (focus (intro wS hS; (try dsimp only at hS); go_split_ands; go_simp; (try with_reducible rfl); done)); (try simp only [Act.put, List.getElem_toArray, List.getElem_cons_succ, List.getElem_cons_zero, List.setIfInBounds_toArray, List.set_cons_zero, List.set_cons_succ]))
        refine ord_do rfl rfl (fun K hK => ?_)
        go_simp
        refine hK _ _ (fun _ => HQ.out) ?_
        clear hK K
        (refine ord_take (v := ?_) rfl (by first | with_reducible rfl | kernel_rfl) ?_ ?_; rotate_left; (focus (intro wS hS; (try dsimp only at hS); go_split_ands; go_simp; (try with_reducible rfl); done)); (try simp only [Act.put, List.getElem_toArray, List.getElem_cons_succ, List.getElem_cons_zero, List.setIfInBounds_toArray, List.set_cons_zero, List.set_cons_succ]))
        refine ord_do rfl rfl (fun K hK => ?_)
        go_simp
        refine hK _ _ (fun h => absurd rfl h) ?_
        clear hK K
        refine ord_done ?_
        go_wp2
        go_ret
        exact ⟨rfl, HS.out.1, HS.out.2⟩
      | true =>
        cases b4 with
        | true => cases hb
        | false =>
          clear hb
          go_upto_region 4 with (fail)
          refine wp_region_ord (fun w' => w'.cell? ⟨b2, 0, none⟩ = some (.slice (some ⟨gi, 0, none⟩) S.length S.length) ∧ w'.cell? ⟨w.heap.size, 3, none⟩ = some (.int .i64 (l : Int)) ∧ w'.cell? ⟨w.heap.size, 4, none⟩ = some (.int .i64 (r : Int))) 9 [(0, true), (1, true), (2, true), (3, true), (4, true), (5, true), (6, true), (7, false), (8, true), (9, false)] (by kernel_rfl) (by kernel_rfl) (fun _ _ d _ _ h => by cases d <;> exact h) ⟨q2, x3, x4⟩ ?_
          iterate 7 (refine ord_take (v := ?_) rfl (by first | with_reducible rfl | kernel_rfl) ?_ ?_; rotate_left; (focus (intro wS hS; (try dsimp only at hS); go_split_ands; go_simp; (try with_reducible rfl); done)); (try simp only [Act.put, List.getElem_toArray, List.getElem_cons_succ, List.getElem_cons_zero, List.setIfInBounds_toArray, List.set_cons_zero, List.set_cons_succ]))
          refine ord_do rfl rfl (fun K hK => ?_)
          go_simp
          refine hK _ _ (fun _ => HQ.out) ?_
          clear hK K
          (refine ord_take (v := ?_) rfl (by first | with_reducible rfl | kernel_rfl) ?_ ?_; rotate_left; (focus (intro wS hS; (try dsimp only at hS); go_split_ands; go_simp; (try with_reducible rfl); done)); (try simp only [Act.put, List.getElem_toArray, List.getElem_cons_succ, List.getElem_cons_zero, List.setIfInBounds_toArray, List.set_cons_zero, List.set_cons_succ]))
          refine ord_do rfl rfl (fun K hK => ?_)
          go_simp
          refine hK _ _ (fun h => absurd rfl h) ?_
          clear hK K
          refine ord_done ?_
          go_wp2
          go_ret
          exact ⟨rfl, HS.out.1, HS.out.2⟩

/-- How many are not yet marked. -/
def wtB (I : List Bool) : Nat := I.countP fun b => !b
theorem wtB_set {I : List Bool} : ∀ (i : Nat), wtB (I.set i true) ≤ wtB I := by
  induction I with
  | nil => intro i; simp
  | cons a I ih =>
    intro i
    cases i with
    | zero => cases a <;> simp [wtB]
    | succ i =>
      have := ih i
      simp only [wtB, List.set_cons_succ, List.countP_cons] at this ⊢
      omega
theorem wtB_lt {I : List Bool} : ∀ (i : Nat), i < I.length → atB I (i : Int) = false → wtB (I.set i true) < wtB I := by
  induction I with
  | nil => intro i h; simp at h
  | cons a I ih =>
    intro i h hb
    cases i with
    | zero =>
      have : a = false := by simpa [atB] using hb
      subst this
      simp [wtB]
    | succ i =>
      have h2 := ih i (by simpa using h) (by unfold atB at hb ⊢; simpa using hb)
      simp only [wtB, List.set_cons_succ, List.countP_cons] at h2 ⊢
      omega
theorem setOn_lt {n : Nat} {I : List Bool} {p : Pk} (hl : I.length = n) (hp : PkIn n p) (h : goOn I p = true) : wtB (setOn I p) < wtB I := by
  obtain ⟨-, hlr⟩ := hp
  unfold goOn at h
  simp only [Bool.and_eq_true, Bool.not_eq_true', decide_eq_false_iff_not, Bool.and_eq_false_iff] at h
  obtain ⟨h0, -, h1⟩ := h
  rcases hlr with h2 | ⟨l, r, el, er, hl1, hr1⟩
  · exact (h0 h2).elim
  · unfold setOn
    rw [el, er] at h1 ⊢
    simp only [Int.toNat_natCast]
    by_cases hb : atB I (l : Int) = false
    · exact Nat.lt_of_le_of_lt (wtB_set r) (wtB_lt l (by omega) hb)
    · have hr2 : atB I (r : Int) = false := by rcases h1 with h1 | h1; exact (hb h1).elim; exact h1
      refine Nat.lt_of_lt_of_le (wtB_lt r (by rw [List.length_set]; omega) ?_) (wtB_set l)
      rw [atB_set (by omega)]
      by_cases e : r = l
      · subst e; exact (hb hr2).elim
      · rw [if_neg (by omega)]; exact hr2
theorem setOn_at {n : Nat} {I : List Bool} {p : Pk} (hl : I.length = n) (hp : PkIn n p) (h : goOn I p = true) (x : Int) : atB (setOn I p) x = true ↔ atB I x = true ∨ x.toNat = p.left.toNat ∨ x.toNat = p.right.toNat := by
  obtain ⟨-, hlr⟩ := hp
  unfold goOn at h
  simp only [Bool.and_eq_true, Bool.not_eq_true', decide_eq_false_iff_not, Bool.and_eq_false_iff] at h
  rcases hlr with h2 | ⟨l, r, el, er, hl1, hr1⟩
  · exact (h.1 h2).elim
  · unfold setOn
    rw [el, er]
    simp only [Int.toNat_natCast]
    rw [atB_set (by rw [List.length_set]; omega), atB_set (by omega)]
    by_cases e1 : x.toNat = r
    · simp [e1]
    · by_cases e2 : x.toNat = l
      · simp [e2]
      · simp [e1, e2]

def okS (P : List Pk) (I : List Bool) (i : Nat) : Bool := match P[i]? with
  | some p => goOn I p
  | none => false
def nextS (P : List Pk) (I : List Bool) (i : Nat) : List Bool := match P[i]? with
  | some p => setOn I p
  | none => I
/-- What is marked so far is reached. -/
structure RchM (P : List Pk) (X : Int → Prop) (n : Nat) (I : List Bool) : Prop where
  snd : ∀ s : Nat, s < n → atB I (s : Int) = true → Rch P X s
  st : ∀ s : Int, X s → 0 ≤ s ∧ s < (n : Int) ∧ atB I s = true

def SprPost (w : World) (gi : Nat) (P : List Pk) (X : Int → Prop) (n : Nat) (e : Ending) (w' : World) : Prop :=
  ∃ I, e = .returned (.slice (some ⟨gi, 0, none⟩) n n) ∧ RchB P X n I ∧ Blk w' gi 4 (bools I) ∧ Upd (fun q => q = gi) w w'

set_option maxHeartbeats 2000000 in
set_option maxRecDepth 20000 in
theorem spread_any (w0 w : World) (gi : Nat) (A : Option Addr) (c : Nat) (B : Option Addr) (d : Nat) (S : List Fct) (P : List Pk) (X : Int → Prop) (I : List Bool) (h : ForR w0 A c B d S P) (ho : ∀ p ∈ P, PkIn S.length p) (bw : Below w0.heap.size w0 w) (hgi : w0.heap.size ≤ gi) (hg : Blk w gi 4 (bools I)) (hI : I.length = S.length) (hX : RchM P X S.length I) :
    Calls Try.prog 82 #[forV A S.length c B P.length d, .slice (some ⟨gi, 0, none⟩) S.length S.length] w (SprPost w gi P X S.length) := by
  have k0 := (Blk.new w 75 #[.slice A S.length c, .slice B P.length d]).alloc (.cells #[.slice (some ⟨gi, 0, none⟩) S.length S.length] 84)
  have k1 := Blk.new (w.alloc (.cells #[.slice A S.length c, .slice B P.length d] 75)) 84 #[.slice (some ⟨gi, 0, none⟩) S.length S.length]
  simp only [World.size_alloc] at k1
  have u0 : Below w.heap.size w ((w.alloc (.cells #[.slice A S.length c, .slice B P.length d] 75)).alloc (.cells #[.slice (some ⟨gi, 0, none⟩) S.length S.length] 84)) := by (repeat (first | exact Below.refl _ _ | apply Below.drew | refine Below.alloc ?_ (by first | exact Nat.le_refl _ | (simp; done) | (simp; omega)) _ | refine Below.setCell ?_ (by first | exact Nat.le_refl _ | (simp; done) | (simp; omega)) _))
  have hgl := hg.lt
  have hI0 : SprI w0 ((w.alloc (.cells #[.slice A S.length c, .slice B P.length d] 75)).alloc (.cells #[.slice (some ⟨gi, 0, none⟩) S.length S.length] 84)) w.heap.size (w.heap.size + 1) gi A c B d S P I :=
    ⟨k0, k1, hg.upd (Upd.of_below u0 (fun _ => False)) id, hI, h, bw.trans (u0.mono bw.size), hgi, by omega, by omega⟩
  have hP8 : P.length ≤ 100000000000000 := by have := h.fit.p; omega
  have H := Lib.hid (And.intro hI0 (And.intro hX (And.intro ho u0)))
  clear k0 k1 u0 hI0 hX ho hg h
  go_enter Try.func82, Try.ntmps82
  unfold forV
  go_upto_region 1 with (fail)
  generalize (w.alloc (.cells #[.slice A S.length c, .slice B P.length d] 75)).alloc (.cells #[.slice (some ⟨gi, 0, none⟩) S.length S.length] 84) = W1 at H ⊢
  have q0 : W1.cell? ⟨w.heap.size, 0, none⟩ = some (.slice A S.length c) := H.out.1.k1.cell 0
  have q1 : W1.cell? ⟨w.heap.size, 1, none⟩ = some (.slice B P.length d) := H.out.1.k1.cell 1
  go_wp2_with fail
  refine (settle_spread W1 P.length (.pointer (some ⟨w.heap.size, 0, none⟩)) (.pointer (some ⟨w.heap.size + 1, 0, none⟩)) (fun W' I => SprI w0 W' w.heap.size (w.heap.size + 1) gi A c B d S P I ∧ RchM P X S.length I ∧ Upd (fun q => q = gi) W1 W') (okS P) (nextS P) wtB hP8 ?_ ?_ I ⟨H.out.1, H.out.2.1, Upd.refl _ _⟩).mono ?_
  · rintro W2 J i hi ⟨hs, hm, hu⟩
    obtain ⟨p, hp⟩ : ∃ p, P[i]? = some p := ⟨P[i], List.getElem?_eq_getElem hi⟩
    have hpk := H.out.2.2.1 p (List.mem_of_getElem? hp)
    simp only [okS, nextS, hp]
    cases hb : goOn J p with
    | false =>
      refine (spread1_no w0 W2 _ _ gi A c B d S P J i p hs hp hpk hb).mono ?_
      rintro e w' ⟨rfl, b⟩
      exact ⟨rfl, fun h => (by cases h), fun _ => ⟨hs.below b, hm, hu.trans (Upd.of_below b (fun _ => False)) (fun _ h => h.elim)⟩⟩
    | true =>
      refine (spread1_yes w0 W2 _ _ gi A c B d S P J i p hs hp hpk hb).mono ?_
      rintro e w' ⟨rfl, hs2, u2⟩
      refine ⟨rfl, fun _ => ⟨hs2, ⟨fun s hsn hb2 => ?_, fun s hx => ?_⟩, hu.trans u2 (fun i e => .inl e)⟩, fun h => (by cases h)⟩
      · have hb3 := hb
        unfold goOn at hb3
        simp only [Bool.and_eq_true, Bool.not_eq_true', decide_eq_false_iff_not] at hb3
        have hsp := hm.snd
        obtain ⟨⟨q, eq, hq⟩, hlr⟩ := hpk
        have hr0 : Rch P X p.spot := by
          rw [eq] at hb3 ⊢
          exact hm.snd q hq hb3.2.1
        have hmem := List.mem_of_getElem? hp
        rcases (setOn_at hs.l (H.out.2.2.1 p hmem) hb (s : Int)).1 hb2 with h1 | h1 | h1
        · exact hm.snd s hsn h1
        · rcases hlr with h2 | ⟨l, r, el, er, -, -⟩
          · exact (hb3.1 h2).elim
          · rw [el] at h1
            simp at h1
            rw [show ((s : Nat) : Int) = p.left by rw [el, h1]]
            exact Rch.left p hmem hb3.1 hr0
        · rcases hlr with h2 | ⟨l, r, el, er, -, -⟩
          · exact (hb3.1 h2).elim
          · rw [er] at h1
            simp at h1
            rw [show ((s : Nat) : Int) = p.right by rw [er, h1]]
            exact Rch.right p hmem hb3.1 hr0
      · obtain ⟨h1, h2, h3⟩ := hm.st s hx
        exact ⟨h1, h2, (setOn_at hs.l (H.out.2.2.1 p (List.mem_of_getElem? hp)) hb s).2 (.inl h3)⟩
  · rintro W2 J i ⟨hs, -, -⟩ hi hok
    obtain ⟨p, hp⟩ : ∃ p, P[i]? = some p := ⟨P[i], List.getElem?_eq_getElem hi⟩
    simp only [okS, nextS, hp] at hok ⊢
    exact setOn_lt hs.l (H.out.2.2.1 p (List.mem_of_getElem? hp)) hok
  · rintro e w3 ⟨⟨v, rfl⟩, J, ⟨hs, hm, hu⟩, hall⟩
    have fin : RchB P X S.length J := by
      refine RchB.of hs.l H.out.2.2.1 hm.st (fun p hp hl hsp => ?_) hm.snd
      obtain ⟨i, hi⟩ := List.mem_iff_getElem?.1 hp
      have := hall i (List.getElem?_eq_some_iff.1 hi).1
      simp only [okS, hi] at this
      unfold goOn at this
      rw [hsp, show decide (p.left < 0) = false from decide_eq_false hl] at this
      simpa using this
    have q2 : w3.cell? ⟨w.heap.size + 1, 0, none⟩ = some (.slice (some ⟨gi, 0, none⟩) S.length S.length) := hs.k2.cell 0
    have FIN := Lib.hid (And.intro fin (And.intro hs.g ((Upd.of_below H.out.2.2.2 (fun q => q = gi)).trans hu (fun i e => .inl e))))
    clear fin hs hm hu hall q0 q1
    go_wp2
    go_ret
    exact ⟨J, rfl, FIN.out⟩

set_option maxHeartbeats 2000000 in
set_option maxRecDepth 20000 in
theorem from_any (w : World) (A : Option Addr) (c : Nat) (B : Option Addr) (d : Nat) (S : List Fct) (P : List Pk) (s : Nat) (h : ForR w A c B d S P) (ho : ∀ p ∈ P, PkIn S.length p) (hs : s < S.length) :
    Calls Try.prog 63 #[forV A S.length c B P.length d, .int .i64 (s : Int)] w (fun e w' => ∃ I, BoolsAt w I e w' ∧ RchB P (fun x => x = (s : Int)) S.length I) := by
  have k0 := Blk.new w 75 #[.slice A S.length c, .slice B P.length d]
  have u0 : Below w.heap.size w (w.alloc (.cells #[.slice A S.length c, .slice B P.length d] 75)) := (Below.refl _ _).alloc (Nat.le_refl _) _
  have hS8 : S.length ≤ 140737488355328 := by have := h.fit.s; omega
  have hsI : (s : Int) < (S.length : Int) := by omega
  have hmk := fun w : World => mk_bools w S.length hS8
  have z0 : w.heap.size < (w.alloc (.cells #[.slice A S.length c, .slice B P.length d] 75)).heap.size := by simp
  have H := Lib.hid (And.intro h (And.intro k0 (And.intro u0 (And.intro ho z0))))
  clear h k0 u0 ho z0
  go_enter Try.func63, Try.ntmps63
  unfold forV
  go_upto_region 1 with (fail)
  generalize w.alloc (.cells #[.slice A S.length c, .slice B P.length d] 75) = W0 at H ⊢
  have q0 : W0.cell? ⟨w.heap.size, 0, none⟩ = some (.slice A S.length c) := H.out.2.1.cell 0
  go_upto_region 2 with (fail)
  have g1 := Blk.new W0 4 (bools (List.replicate S.length false))
  have b1 : Below W0.heap.size W0 (W0.alloc (.cells (bools (List.replicate S.length false)) 4)) := (Below.refl _ _).alloc (Nat.le_refl _) _
  have HG := Lib.hid (And.intro g1 b1)
  clear g1 b1 q0 hmk
  generalize W0.alloc (.cells (bools (List.replicate S.length false)) 4) = W1 at HG ⊢
  have m0 := HG.out.1.cell s
  rw [bools_get (atB_get (by simpa using hs))] at m0
  have m1 := HG.out.1.frozen s
  have kn := HG.out.1.set s (.bool true)
  rw [bools_set] at kn
  have us : Upd (fun q => q = W0.heap.size) W1 (W1.setCell ⟨W0.heap.size, s, none⟩ (.bool true)) := (Upd.refl (fun q => q = W0.heap.size) W1).setCell (p := ⟨W0.heap.size, s, none⟩) (.inl rfl) _
  have bb : Below w.heap.size w (W1.setCell ⟨W0.heap.size, s, none⟩ (.bool true)) := (H.out.2.2.1.trans (HG.out.2.mono H.out.2.2.1.size)).trans (us.below (fun q _ e => by have := H.out.2.2.2.2; omega) (Nat.le_trans H.out.2.2.1.size HG.out.2.size))
  have kb := (H.out.2.1.upd (Upd.of_below HG.out.2 (fun _ => False)) id).upd us (by have := H.out.2.2.2.2; omega)
  have HN := Lib.hid (And.intro kn (And.intro bb kb))
  clear kn us bb kb
  go_upto_region 3 with (fail)
  clear m0 m1
  generalize W1.setCell ⟨W0.heap.size, s, none⟩ (.bool true) = W2 at HN ⊢
  have q0 : W2.cell? ⟨w.heap.size, 0, none⟩ = some (.slice A S.length c) := HN.out.2.2.cell 0
  have q1 : W2.cell? ⟨w.heap.size, 1, none⟩ = some (.slice B P.length d) := HN.out.2.2.cell 1
  go_wp2_with fail
  refine (spread_any w W2 W0.heap.size A c B d S P (fun x => x = (s : Int)) ((List.replicate S.length false).set s true) H.out.1 H.out.2.2.2.1 HN.out.2.1 (by have := H.out.2.2.2.2; omega) HN.out.1 (by simp) ⟨fun x hx hb => ?_, fun x hx => ?_⟩).mono ?_
  · rw [atB_set (by simpa using hs)] at hb
    by_cases e : x = s
    · subst e; exact Rch.base _ rfl
    · rw [if_neg (by omega)] at hb
      unfold atB at hb
      simp [hx] at hb
  · subst hx
    refine ⟨by omega, hsI, ?_⟩
    rw [atB_set (by simpa using hs), if_pos (by simp)]
  · rintro e w3 ⟨I, rfl, hR, hg, hu⟩
    have hl := hR.len
    have z0 := H.out.2.2.2.2
    have fin : BoolsAt w I (.returned (.slice (some ⟨W0.heap.size, 0, none⟩) S.length S.length)) w3 := ⟨W0.heap.size, by rw [hl], hg, by omega, HN.out.2.1.trans (hu.below (fun q _ e => by omega) HN.out.2.1.size)⟩
    have FIN := Lib.hid (And.intro fin hR)
    clear fin hR hg hu hl q0 q1
    go_wp2
    go_ret
    exact ⟨I, FIN.out⟩
end Go.Proofs.Ytbppbgdmoihooaa
