/- azimov: the closure in memory; next; Graphs: Matrix; azimov: the first facts of a production. (Written by mkAzW.py.); azimov: the first facts of a production of one label; azimov: the memory of fill: the closure, the work list, the uses. -/
import Derived.Test.YtddffnonlmfhdaaGreatDoorZ14
import Derived.Test.YtddffnonlmfhdaaGreatDoorZ13
set_option linter.unusedVariables false
set_option linter.unusedSimpArgs false
namespace Go.Proofs.YtddffnonlmfhdaaGreatDoor
open Go.RowKit Go.Shelf
inductive CRo
  | x | row | mat (k : Nat)
def ptC (ad : Nat → Nat) (nts : Nat) : List Value := (List.range nts).map (fun (k : Nat) => Value.pointer (some ⟨ad k, 0, none⟩))
theorem ptC_at {ad : Nat → Nat} {nts k : Nat} (h : k < nts) : (ptC ad nts)[k]? = some (.pointer (some ⟨ad k, 0, none⟩)) := by simp [ptC, h]
structure ClI (w : World) (O : Nat → Option CRo) (p side nodes nts : Nat) (pv : Value) (ad : Nat → Nat) (B : Mats) : Prop where
  blk : Blk w p 138 #[.int .i64 (nodes : Int), pv]
  rows : w.ownsRow 0 121 1 pv nts (ptC ad nts)
  op : O p = some .x
  orow : ∀ k, pv.ownBlock = some k → O k = some .row
  mats : ∀ k, k < nts → ∃ F, QuS w F (ad k) side (B k) ∧ ∀ q, F q → O q = some (.mat k)
  lt : ∀ q, O q ≠ none → q < w.heap.size
def ClS (w : World) (F : Nat → Prop) (p side nodes nts : Nat) (B : Mats) : Prop := ∃ O pv ad, ClI w O p side nodes nts pv ad B ∧ F = fun q => O q ≠ none
theorem ClI.upd {w w' : World} {O : Nat → Option CRo} {p side nodes nts : Nat} {pv : Value} {ad : Nat → Nat} {B : Mats} {G : Nat → Prop} (h : ClI w O p side nodes nts pv ad B) (hu : Upd G w w') (hd : ∀ q, O q ≠ none → ¬ G q) : ClI w' O p side nodes nts pv ad B := by
  have no : ∀ k t, O k = some t → ¬ G k := fun k t e => hd k (by simp [e])
  exact ⟨h.blk.upd hu (no _ _ h.op), ownsRow_upd h.rows hu fun k hk => no _ _ (h.orow k hk), h.op, h.orow, fun k hk => by
    obtain ⟨F, h1, h2⟩ := h.mats k hk
    exact ⟨F, h1.upd hu (fun q hq => no _ _ (h2 q hq)), h2⟩, fun q hq => Nat.lt_of_lt_of_le (h.lt q hq) hu.size⟩
theorem ClS.upd {w w' : World} {F G : Nat → Prop} {p side nodes nts : Nat} {B : Mats} (h : ClS w F p side nodes nts B) (hu : Upd G w w') (hd : ∀ k, F k → ¬ G k) : ClS w' F p side nodes nts B := by
  obtain ⟨O, pv, ad, hi, rfl⟩ := h
  exact ⟨O, pv, ad, hi.upd hu hd, rfl⟩
theorem ClS.below {w w' : World} {F : Nat → Prop} {p side nodes nts : Nat} {B : Mats} (h : ClS w F p side nodes nts B) (hb : Below w.heap.size w w') : ClS w' F p side nodes nts B := h.upd (Upd.of_below hb (fun _ => False)) (fun _ _ => id)
theorem ClS.lt {w : World} {F : Nat → Prop} {p side nodes nts : Nat} {B : Mats} (h : ClS w F p side nodes nts B) : ∀ k, F k → k < w.heap.size := by
  obtain ⟨O, pv, ad, hi, rfl⟩ := h
  exact hi.lt
def ClTo (w : World) (F : Nat → Prop) (p side nodes nts : Nat) (B : Mats) (w' : World) : Prop := ∃ F', ClS w' F' p side nodes nts B ∧ Upd F w w' ∧ ∀ k, F' k → F k ∨ w.heap.size ≤ k
theorem ClTo.after {w w1 w' : World} {F : Nat → Prop} {p side nodes nts : Nat} {B : Mats} (hb : Below w.heap.size w w1) (h : ClTo w1 F p side nodes nts B w') : ClTo w F p side nodes nts B w' := by
  obtain ⟨F', h1, h2, h3⟩ := h
  exact ⟨F', h1, (Upd.of_below hb F).trans h2 (fun _ h => .inl h), fun k hk => (h3 k hk).imp id (fun h => Nat.le_trans hb.size h)⟩
/-- One matrix turns. -/
theorem ClI.turn {w w' : World} {O : Nat → Option CRo} {p side nodes nts : Nat} {pv : Value} {ad : Nat → Nat} {B : Mats} (h : ClI w O p side nodes nts pv ad B) {a : Nat} {Fa : Nat → Prop} {m : Option (List Nat)} (hFa : ∀ q, Fa q → O q = some (.mat a)) (ht : QTo w Fa (ad a) side m w') :
    ClTo w (fun q => O q ≠ none) p side nodes nts (upM B a m) w' := by
  obtain ⟨F', hq, hu, hn⟩ := ht
  have ho : ∀ q, Fa q → O q ≠ none := fun q hq e => by rw [hFa q hq] at e; cases e
  have hlt := hq.lt
  refine ⟨_, ⟨fun q => if q < w.heap.size then O q else if q < w'.heap.size then some (.mat a) else none, pv, ad, ⟨?_, ?_, ?_, ?_, ?_, ?_⟩, rfl⟩, hu.mono (fun q _ hq => ho q hq), fun k hk => ?_⟩
  · exact h.blk.upd hu (fun e => by have := hFa _ e; rw [h.op] at this; cases this)
  · exact ownsRow_upd h.rows hu (fun k hk e => by have := hFa _ e; rw [h.orow k hk] at this; cases this)
  · show (if p < w.heap.size then O p else _) = _
    rw [if_pos h.blk.lt]; exact h.op
  · intro k hk
    show (if k < w.heap.size then O k else _) = _
    have := h.orow k hk
    rw [if_pos (h.lt k (by rw [this]; exact nofun))]; exact this
  · intro k hk
    by_cases e : k = a
    · subst e
      rw [upM_at]
      refine ⟨F', hq, fun q hf => ?_⟩
      show (if q < w.heap.size then O q else if q < w'.heap.size then some (.mat k) else none) = _
      by_cases hl : q < w.heap.size
      · rw [if_pos hl]
        rcases hn q hf with h1 | h1
        · exact hFa q h1
        · omega
      · rw [if_neg hl, if_pos (hlt q hf)]
    · rw [upM_ne B m e]
      obtain ⟨F, h1, h2⟩ := h.mats k hk
      refine ⟨F, h1.upd hu (fun q hf hf' => ?_), fun q hf => ?_⟩
      · have e1 := h2 q hf
        rw [hFa q hf'] at e1
        injection e1 with e1
        injection e1 with e1
        exact e e1.symm
      · show (if q < w.heap.size then O q else _) = _
        rw [if_pos (h1.lt q hf)]; exact h2 q hf
  · intro q hq
    by_cases hl : q < w.heap.size
    · exact Nat.lt_of_lt_of_le hl hu.size
    · by_cases hl2 : q < w'.heap.size
      · exact hl2
      · rw [if_neg hl, if_neg hl2] at hq
        exact absurd rfl hq
  · by_cases hl : k < w.heap.size
    · have hk : (if k < w.heap.size then O k else _) ≠ none := hk
      rw [if_pos hl] at hk
      exact .inl hk
    · exact .inr (by omega)
set_option maxHeartbeats 4000000 in
set_option maxRecDepth 20000 in
theorem next_any (w : World) (F : Nat → Prop) (p side nodes nts : Nat) (B : Mats) (h : ClS w F p side nodes nts B) (a b c : Nat) (la lb : Bool) (A : Option Addr) (cap : Nat) (hr : RowR w A (syCells [⟨la, b⟩, ⟨lb, c⟩]))
    (ha : a < nts) (hb : b < nts) (hc : c < nts) (hnt : nts ≤ 512) (hs64 : side ≤ 64) (hT : TabW w) (htab : 1 < w.heap.size)
    (hfit : ∀ x y, B b = some x → B c = some y → cornW (mulW x y) side = mulW x y) :
    Calls Tryz.prog 112 #[.pointer (some ⟨p, 0, none⟩), .agg #[.int .i64 (a : Int), .slice A 2 cap]] w (fun e w' => e = .returned (.bool (moreQ (B a) (mulO (B b) (B c)))) ∧ ClTo w F p side nodes nts (upM B a (joinQ (B a) (mulO (B b) (B c)))) w') := by
  obtain ⟨O, pv, ad, hi, rfl⟩ := h
  obtain ⟨g, gc, rfl, -, -, -, -, -⟩ := own_cells hi.rows (by omega)
  obtain ⟨gb, go, rfl, -⟩ := hr 0 (.bool la) rfl
  have b1 : Below w.heap.size w (w.alloc (.cells #[.int .i64 (a : Int), .slice (some ⟨gb, go, none⟩) 2 cap] 71)) := (Below.refl _ _).alloc (Nat.le_refl _) _
  have k1 := Blk.new w 71 #[.int .i64 (a : Int), .slice (some ⟨gb, go, none⟩) 2 cap]
  have hi1 := hi.upd (Upd.of_below b1 (fun _ => False)) (fun _ _ => id)
  have hr1 := hr.below3 b1
  have SF : ∀ W, Below (w.alloc (.cells #[.int .i64 (a : Int), .slice (some ⟨gb, go, none⟩) 2 cap] 71)).heap.size (w.alloc (.cells #[.int .i64 (a : Int), .slice (some ⟨gb, go, none⟩) 2 cap] 71)) W →
      W.cell? ⟨p, 1, none⟩ = some (.slice (some ⟨g, 0, none⟩) nts gc) ∧ W.cell? ⟨w.heap.size, 0, none⟩ = some (.int .i64 (a : Int)) ∧ W.cell? ⟨w.heap.size, 1, none⟩ = some (.slice (some ⟨gb, go, none⟩) 2 cap) ∧
      W.cell? ⟨gb, go + 1, none⟩ = some (.int .i64 (b : Int)) ∧ W.cell? ⟨gb, go + 3, none⟩ = some (.int .i64 (c : Int)) ∧ W.cell? ⟨g, a, none⟩ = some (.pointer (some ⟨ad a, 0, none⟩)) ∧ W.cell? ⟨g, b, none⟩ = some (.pointer (some ⟨ad b, 0, none⟩)) ∧ W.cell? ⟨g, c, none⟩ = some (.pointer (some ⟨ad c, 0, none⟩)) := fun W hW => by
    have hi2 := hi1.upd (Upd.of_below hW (fun _ => False)) (fun _ _ => id)
    have k2 := k1.upd (Upd.of_below hW (fun _ => False)) id
    have hr2 := hr1.below3 hW
    obtain ⟨g', c', e, -, -, -, -, hg⟩ := own_cells hi2.rows (by omega)
    injection e with e
    injection e with e
    injection e with e
    subst e
    obtain ⟨b', o', e, c1⟩ := hr2 1 (.int .i64 (b : Int)) rfl
    injection e with e
    injection e with e1 e2
    subst e1
    subst e2
    obtain ⟨b', o', e, c3⟩ := hr2 3 (.int .i64 (c : Int)) rfl
    injection e with e
    injection e with e1 e2
    subst e1
    subst e2
    exact ⟨hi2.blk.cell 1, k2.cell 0, k2.cell 1, c1, c3, (hg a _ (ptC_at ha)).1, (hg b _ (ptC_at hb)).1, (hg c _ (ptC_at hc)).1⟩
  have HX := Lib.hid (And.intro hi1 (And.intro b1 (And.intro (hT.upd (Upd.of_below b1 (fun _ => False)) htab id) (And.intro (Nat.lt_of_lt_of_le htab b1.size) hfit))))
  have HS := Lib.hid SF
  have haI : (a : Int) < (nts : Int) := by omega
  have hbI : (b : Int) < (nts : Int) := by omega
  have hcI : (c : Int) < (nts : Int) := by omega
  clear hi hr b1 k1 hi1 hr1 SF hT htab hfit
  go_enter Tryz.func112, Tryz.ntmps112
  go_upto_region 1 with (fail)
  generalize w.alloc (.cells #[.int .i64 (a : Int), .slice (some ⟨gb, go, none⟩) 2 cap] 71) = W1 at HX HS ⊢
  generalize w.heap.size = z at HS ⊢
  have HB := Lib.hid (show Below W1.heap.size W1 W1.drew from (Below.refl _ _).drew)
  have hS := HS.out W1.drew HB.out
  refine wp_region_late (fun W : World => W.cell? ⟨p, 1, none⟩ = some (.slice (some ⟨g, 0, none⟩) nts gc) ∧ W.cell? ⟨z, 0, none⟩ = some (.int .i64 (a : Int)) ∧ W.cell? ⟨z, 1, none⟩ = some (.slice (some ⟨gb, go, none⟩) 2 cap) ∧
      W.cell? ⟨gb, go + 1, none⟩ = some (.int .i64 (b : Int)) ∧ W.cell? ⟨gb, go + 3, none⟩ = some (.int .i64 (c : Int)) ∧ W.cell? ⟨g, a, none⟩ = some (.pointer (some ⟨ad a, 0, none⟩)) ∧ W.cell? ⟨g, b, none⟩ = some (.pointer (some ⟨ad b, 0, none⟩)) ∧ W.cell? ⟨g, c, none⟩ = some (.pointer (some ⟨ad c, 0, none⟩))) (lateFrom 30) (by kernel_rfl) ?_
  generalize W1.drew = W2 at HB hS ⊢
  intro hd
  (refine late_takeA (i := 0) rfl hd hS ?_; clear hd; intro hd; (try simp only [Act.put, List.getElem_toArray, List.getElem_cons_zero, List.setIfInBounds_toArray, List.set_cons_zero, List.set_cons_succ]))
  (refine late_takeA (i := 1) rfl hd hS ?_; clear hd; intro hd; (try simp only [Act.put, List.getElem_toArray, List.getElem_cons_succ, List.getElem_cons_zero, List.setIfInBounds_toArray, List.set_cons_zero, List.set_cons_succ]))
  (refine late_takeA (i := 2) rfl hd hS ?_; clear hd; intro hd; (try simp only [Act.put, List.getElem_toArray, List.getElem_cons_succ, List.getElem_cons_zero, List.setIfInBounds_toArray, List.set_cons_zero, List.set_cons_succ]))
  (refine late_takeA (i := 3) rfl hd hS ?_; clear hd; intro hd; (try simp only [Act.put, List.getElem_toArray, List.getElem_cons_succ, List.getElem_cons_zero, List.setIfInBounds_toArray, List.set_cons_zero, List.set_cons_succ]))
  (refine late_takeA (i := 4) rfl hd hS ?_; clear hd; intro hd; (try simp only [Act.put, List.getElem_toArray, List.getElem_cons_succ, List.getElem_cons_zero, List.setIfInBounds_toArray, List.set_cons_zero, List.set_cons_succ]))
  (refine late_takeA (i := 5) rfl hd hS ?_; clear hd; intro hd; (try simp only [Act.put, List.getElem_toArray, List.getElem_cons_succ, List.getElem_cons_zero, List.setIfInBounds_toArray, List.set_cons_zero, List.set_cons_succ]))
  (refine late_takeA (i := 6) rfl hd hS ?_; clear hd; intro hd; (try simp only [Act.put, List.getElem_toArray, List.getElem_cons_succ, List.getElem_cons_zero, List.setIfInBounds_toArray, List.set_cons_zero, List.set_cons_succ]))
  (refine late_takeA (i := 7) rfl hd hS ?_; clear hd; intro hd; (try simp only [Act.put, List.getElem_toArray, List.getElem_cons_succ, List.getElem_cons_zero, List.setIfInBounds_toArray, List.set_cons_zero, List.set_cons_succ]))
  (refine late_takeA (i := 8) rfl hd hS ?_; clear hd; intro hd; (try simp only [Act.put, List.getElem_toArray, List.getElem_cons_succ, List.getElem_cons_zero, List.setIfInBounds_toArray, List.set_cons_zero, List.set_cons_succ]))
  (refine late_takeA (i := 9) rfl hd hS ?_; clear hd; intro hd; (try simp only [Act.put, List.getElem_toArray, List.getElem_cons_succ, List.getElem_cons_zero, List.setIfInBounds_toArray, List.set_cons_zero, List.set_cons_succ]))
  (refine late_takeA (i := 10) rfl hd hS ?_; clear hd; intro hd; (try simp only [Act.put, List.getElem_toArray, List.getElem_cons_succ, List.getElem_cons_zero, List.setIfInBounds_toArray, List.set_cons_zero, List.set_cons_succ]))
  (refine late_takeA (i := 11) rfl hd hS ?_; clear hd; intro hd; (try simp only [Act.put, List.getElem_toArray, List.getElem_cons_succ, List.getElem_cons_zero, List.setIfInBounds_toArray, List.set_cons_zero, List.set_cons_succ]))
  (refine late_takeA (i := 12) rfl hd hS ?_; clear hd; intro hd; (try simp only [Act.put, List.getElem_toArray, List.getElem_cons_succ, List.getElem_cons_zero, List.setIfInBounds_toArray, List.set_cons_zero, List.set_cons_succ]))
  (refine late_takeA (i := 13) rfl hd hS ?_; clear hd; intro hd; (try simp only [Act.put, List.getElem_toArray, List.getElem_cons_succ, List.getElem_cons_zero, List.setIfInBounds_toArray, List.set_cons_zero, List.set_cons_succ]))
  (refine late_takeA (i := 14) rfl hd hS ?_; clear hd; intro hd; (try simp only [Act.put, List.getElem_toArray, List.getElem_cons_succ, List.getElem_cons_zero, List.setIfInBounds_toArray, List.set_cons_zero, List.set_cons_succ]))
  (refine late_takeA (i := 15) rfl hd hS ?_; clear hd; intro hd; (try simp only [Act.put, List.getElem_toArray, List.getElem_cons_succ, List.getElem_cons_zero, List.setIfInBounds_toArray, List.set_cons_zero, List.set_cons_succ]))
  (refine late_takeA (i := 16) rfl hd hS ?_; clear hd; intro hd; (try simp only [Act.put, List.getElem_toArray, List.getElem_cons_succ, List.getElem_cons_zero, List.setIfInBounds_toArray, List.set_cons_zero, List.set_cons_succ]))
  (refine late_takeA (i := 17) rfl hd hS ?_; clear hd; intro hd; (try simp only [Act.put, List.getElem_toArray, List.getElem_cons_succ, List.getElem_cons_zero, List.setIfInBounds_toArray, List.set_cons_zero, List.set_cons_succ]))
  (refine late_takeA (i := 18) rfl hd hS ?_; clear hd; intro hd; (try simp only [Act.put, List.getElem_toArray, List.getElem_cons_succ, List.getElem_cons_zero, List.setIfInBounds_toArray, List.set_cons_zero, List.set_cons_succ]))
  (refine late_takeA (i := 19) rfl hd hS ?_; clear hd; intro hd; (try simp only [Act.put, List.getElem_toArray, List.getElem_cons_succ, List.getElem_cons_zero, List.setIfInBounds_toArray, List.set_cons_zero, List.set_cons_succ]))
  (refine late_takeA (i := 20) rfl hd hS ?_; clear hd; intro hd; (try simp only [Act.put, List.getElem_toArray, List.getElem_cons_succ, List.getElem_cons_zero, List.setIfInBounds_toArray, List.set_cons_zero, List.set_cons_succ]))
  (refine late_takeA (i := 21) rfl hd hS ?_; clear hd; intro hd; (try simp only [Act.put, List.getElem_toArray, List.getElem_cons_succ, List.getElem_cons_zero, List.setIfInBounds_toArray, List.set_cons_zero, List.set_cons_succ]))
  (refine late_takeA (i := 22) rfl hd hS ?_; clear hd; intro hd; (try simp only [Act.put, List.getElem_toArray, List.getElem_cons_succ, List.getElem_cons_zero, List.setIfInBounds_toArray, List.set_cons_zero, List.set_cons_succ]))
  (refine late_takeA (i := 23) rfl hd hS ?_; clear hd; intro hd; (try simp only [Act.put, List.getElem_toArray, List.getElem_cons_succ, List.getElem_cons_zero, List.setIfInBounds_toArray, List.set_cons_zero, List.set_cons_succ]))
  (refine late_takeA (i := 24) rfl hd hS ?_; clear hd; intro hd; (try simp only [Act.put, List.getElem_toArray, List.getElem_cons_succ, List.getElem_cons_zero, List.setIfInBounds_toArray, List.set_cons_zero, List.set_cons_succ]))
  (refine late_takeA (i := 25) rfl hd hS ?_; clear hd; intro hd; (try simp only [Act.put, List.getElem_toArray, List.getElem_cons_succ, List.getElem_cons_zero, List.setIfInBounds_toArray, List.set_cons_zero, List.set_cons_succ]))
  (refine late_takeA (i := 26) rfl hd hS ?_; clear hd; intro hd; (try simp only [Act.put, List.getElem_toArray, List.getElem_cons_succ, List.getElem_cons_zero, List.setIfInBounds_toArray, List.set_cons_zero, List.set_cons_succ]))
  (refine late_takeA (i := 27) rfl hd hS ?_; clear hd; intro hd; (try simp only [Act.put, List.getElem_toArray, List.getElem_cons_succ, List.getElem_cons_zero, List.setIfInBounds_toArray, List.set_cons_zero, List.set_cons_succ]))
  (refine late_takeA (i := 28) rfl hd hS ?_; clear hd; intro hd; (try simp only [Act.put, List.getElem_toArray, List.getElem_cons_succ, List.getElem_cons_zero, List.setIfInBounds_toArray, List.set_cons_zero, List.set_cons_succ]))
  (refine late_takeA (i := 29) rfl hd hS ?_; clear hd; intro hd; (try simp only [Act.put, List.getElem_toArray, List.getElem_cons_succ, List.getElem_cons_zero, List.setIfInBounds_toArray, List.set_cons_zero, List.set_cons_succ]))
  have hint : Hid (∃ Fa Fb Fc, QuS W2 Fa (ad a) side (B a) ∧ QuS W2 Fb (ad b) side (B b) ∧ QuS W2 Fc (ad c) side (B c) ∧ (∀ q, Fa q → O q = some (.mat a)) ∧ TabW W2 ∧ 1 < W2.heap.size ∧ ClI W2 O p side nodes nts (.slice (some ⟨g, 0, none⟩) nts gc) ad B) := Lib.hid (by
    have hi2 := HX.out.1.upd (Upd.of_below HB.out (fun _ => False)) (fun _ _ => id)
    obtain ⟨Fa, a1, a2⟩ := hi2.mats a ha
    obtain ⟨Fb, b1, -⟩ := hi2.mats b hb
    obtain ⟨Fc, c1, -⟩ := hi2.mats c hc
    exact ⟨Fa, Fb, Fc, a1, b1, c1, a2, HX.out.2.2.1.upd (Upd.of_below HB.out (fun _ => False)) HX.out.2.2.2.1 id, Nat.lt_of_lt_of_le HX.out.2.2.2.1 HB.out.size, hi2⟩)
  obtain ⟨Fa, Fb, Fc, a1, b1, c1, a2, t1, t2, i2⟩ := hint.out
  have hcon := pinto_any W2 Fa Fb Fc (ad a) (ad b) (ad c) side (B a) (B b) (B c) a1 b1 c1 hs64 t1 t2 HX.out.2.2.2.2
  have HI := Lib.hid (And.intro i2 a2)
  clear a1 b1 c1 t1 t2 i2 a2 hint hS
  refine late_run hd (L := [30]) (by kernel_rfl) (by decide) (fun ix hix hd2 => ?_)
  clear hd
  have hd := hd2
  clear hd2
  simp only [List.mem_cons, List.not_mem_nil, or_false] at hix
  subst hix
  refine late_do (S := (fun W : World => W.cell? ⟨p, 1, none⟩ = some (.slice (some ⟨g, 0, none⟩) nts gc) ∧ W.cell? ⟨z, 0, none⟩ = some (.int .i64 (a : Int)) ∧ W.cell? ⟨z, 1, none⟩ = some (.slice (some ⟨gb, go, none⟩) 2 cap) ∧
      W.cell? ⟨gb, go + 1, none⟩ = some (.int .i64 (b : Int)) ∧ W.cell? ⟨gb, go + 3, none⟩ = some (.int .i64 (c : Int)) ∧ W.cell? ⟨g, a, none⟩ = some (.pointer (some ⟨ad a, 0, none⟩)) ∧ W.cell? ⟨g, b, none⟩ = some (.pointer (some ⟨ad b, 0, none⟩)) ∧ W.cell? ⟨g, c, none⟩ = some (.pointer (some ⟨ad c, 0, none⟩)))) (late := lateFrom 30) rfl rfl (fun K hK => ?_)
  go_simp
  refine hcon.mono ?_
  clear hcon
  rintro e W3 ⟨rfl, hto⟩
  have FIN := Lib.hid (show ClTo w (fun q => O q ≠ none) p side nodes nts (upM B a (joinQ (B a) (mulO (B b) (B c)))) W3 from (ClTo.after (HX.out.2.1.trans (HB.out.mono HX.out.2.1.size)) (HI.out.1.turn HI.out.2 hto)))
  clear hto
  refine hK _ _ (fun h _ => absurd h (by decide)) ?_
  clear hK K
  (try simp only [Act.put, List.getElem_toArray, List.getElem_cons_succ, List.getElem_cons_zero, List.setIfInBounds_toArray, List.set_cons_zero, List.set_cons_succ])
  (refine late_take0 (i := 31) (v := ?_) rfl (by kernel_rfl) hd (fun _ _ d _ _ h => by cases d <;> exact h) (by first | with_reducible rfl | kernel_rfl) ?_ ?_; rotate_left; (focus (intro wS; go_simp; (try with_reducible rfl); done)); clear hd; intro hd; (try simp only [Act.put, List.getElem_toArray, List.getElem_cons_succ, List.getElem_cons_zero, List.setIfInBounds_toArray, List.set_cons_zero, List.set_cons_succ]))
  (refine late_take0 (i := 32) (v := ?_) rfl (by kernel_rfl) hd (fun _ _ d _ _ h => by cases d <;> exact h) (by first | with_reducible rfl | kernel_rfl) ?_ ?_; rotate_left; (focus (intro wS; go_simp; (try with_reducible rfl); done)); clear hd; intro hd; (try simp only [Act.put, List.getElem_toArray, List.getElem_cons_succ, List.getElem_cons_zero, List.setIfInBounds_toArray, List.set_cons_zero, List.set_cons_succ]))
  (refine late_take0 (i := 33) (v := ?_) rfl (by kernel_rfl) hd (fun _ _ d _ _ h => by cases d <;> exact h) (by first | with_reducible rfl | kernel_rfl) ?_ ?_; rotate_left; (focus (intro wS; go_simp; (try with_reducible rfl); done)); clear hd; intro hd; (try simp only [Act.put, List.getElem_toArray, List.getElem_cons_succ, List.getElem_cons_zero, List.setIfInBounds_toArray, List.set_cons_zero, List.set_cons_succ]))
  (refine late_take0 (i := 34) (v := ?_) rfl (by kernel_rfl) hd (fun _ _ d _ _ h => by cases d <;> exact h) (by first | with_reducible rfl | kernel_rfl) ?_ ?_; rotate_left; (focus (intro wS; go_simp; (try with_reducible rfl); done)); clear hd; intro hd; (try simp only [Act.put, List.getElem_toArray, List.getElem_cons_succ, List.getElem_cons_zero, List.setIfInBounds_toArray, List.set_cons_zero, List.set_cons_succ]))
  (refine late_take0 (i := 35) (v := ?_) rfl (by kernel_rfl) hd (fun _ _ d _ _ h => by cases d <;> exact h) (by first | with_reducible rfl | kernel_rfl) ?_ ?_; rotate_left; (focus (intro wS; go_simp; (try with_reducible rfl); done)); clear hd; intro hd; (try simp only [Act.put, List.getElem_toArray, List.getElem_cons_succ, List.getElem_cons_zero, List.setIfInBounds_toArray, List.set_cons_zero, List.set_cons_succ]))
  refine late_done (by kernel_rfl) ?_
  go_wp2
  go_ret
  exact ⟨rfl, FIN.out⟩
end Go.Proofs.YtddffnonlmfhdaaGreatDoor
namespace Go.Proofs.YtddffnonlmfhdaaGreatDoor
open Go.RowKit
theorem txt_beq (a b : Txt) : (ByteArray.toList a == ByteArray.toList b) = decide (a = b) := by
  rw [Bool.eq_iff_iff, beq_iff_eq, decide_eq_true_iff, txt_list, txt_list]
  exact ⟨txt_ext, fun h => by rw [h]⟩
def MatOf (G : Gr) (lb : Txt) (b : Option (List Nat)) : Prop := ∀ i j, i < 64 → j < 64 → (bitO b i j = true ↔ ∃ x ∈ G.X, x.lb = lb ∧ G.N[i]? = some x.fr ∧ G.N[j]? = some x.to)
def MatTo (U : Nat → List Hp) (lb : Txt) (k t : Nat) (b : Option (List Nat)) : Prop := ∀ i j, i < 64 → j < 64 → (bitO b i j = true ↔ (i < k ∧ ∃ h ∈ U i, h.lb = lb ∧ h.nd = (j : Int)) ∨ (i = k ∧ ∃ h ∈ (U k).take t, h.lb = lb ∧ h.nd = (j : Int)))
theorem MatTo.all {G : Gr} {U V : Nat → List Hp} {lb : Txt} {b : Option (List Nat)} (h : MatTo U lb G.N.length 0 b) (ho : HopsOK G.N G.X U V) (ok : GOk G) : MatOf G lb b := fun i j hi hj => by
  rw [h i j hi hj]
  constructor
  · rintro (⟨_, y, hy, h1, h2⟩ | ⟨_, y, hy, _⟩)
    · obtain ⟨x, hx, e1, rfl⟩ := (ho.um i y).1 hy
      refine ⟨x, hx, h1, e1, ?_⟩
      have h2 : (idxT G.N x.to : Int) = (j : Int) := h2
      have : idxT G.N x.to = j := by omega
      rw [← this]
      exact idxT_at (ok.ends x hx).2
    · simp at hy
  · rintro ⟨x, hx, h1, h2, h3⟩
    refine .inl ⟨(List.getElem?_eq_some_iff.1 h2).1, ⟨x.lb, (idxT G.N x.to : Int)⟩, (ho.um i _).2 ⟨x, hx, h2, rfl⟩, h1, ?_⟩
    show (idxT G.N x.to : Int) = (j : Int)
    rw [idxT_is ok.nd h3]
theorem MatTo.next {U : Nat → List Hp} {lb : Txt} {k : Nat} {b : Option (List Nat)} (h : MatTo U lb k (U k).length b) : MatTo U lb (k + 1) 0 b := fun i j hi hj => by
  rw [h i j hi hj, List.take_length]
  constructor
  · rintro (⟨h1, h2⟩ | ⟨rfl, h2⟩)
    · exact .inl ⟨by omega, h2⟩
    · exact .inl ⟨by omega, h2⟩
  · rintro (⟨h1, h2⟩ | ⟨_, y, hy, _⟩)
    · by_cases e : i = k
      · subst e; exact .inr ⟨rfl, h2⟩
      · exact .inl ⟨by omega, h2⟩
    · simp at hy
theorem MatTo.skip {U : Nat → List Hp} {lb : Txt} {k t : Nat} {b : Option (List Nat)} {y : Hp} (h : MatTo U lb k t b) (hy : (U k)[t]? = some y) (hn : y.lb ≠ lb) : MatTo U lb k (t + 1) b := fun i j hi hj => by
  rw [h i j hi hj, List.take_add_one, hy]
  simp only [Option.toList_some, List.mem_append, List.mem_singleton]
  constructor
  · rintro (h1 | ⟨e, z, hz, h2⟩)
    · exact .inl h1
    · exact .inr ⟨e, z, .inl hz, h2⟩
  · rintro (h1 | ⟨e, z, hz | rfl, h2⟩)
    · exact .inl h1
    · exact .inr ⟨e, z, hz, h2⟩
    · exact absurd h2.1 hn
theorem MatTo.put {U : Nat → List Hp} {lb : Txt} {k t q : Nat} {b : Option (List Nat)} (h : MatTo U lb k t b) (hw : Wd (oldW b)) (hk : k < 64) (hy : (U k)[t]? = some ⟨lb, (q : Int)⟩) : MatTo U lb k (t + 1) (setO b k q) := fun i j hi hj => by
  rw [bit_set hw hk hi, Bool.or_eq_true, h i j hi hj, List.take_add_one, hy]
  simp only [Option.toList_some, List.mem_append, List.mem_singleton, decide_eq_true_eq]
  constructor
  · rintro ((h1 | ⟨e, z, hz, h2⟩) | ⟨rfl, rfl⟩)
    · exact .inl h1
    · exact .inr ⟨e, z, .inl hz, h2⟩
    · exact .inr ⟨rfl, _, .inr rfl, rfl, rfl⟩
  · rintro (h1 | ⟨e, z, hz | rfl, h2⟩)
    · exact .inl (.inl h1)
    · exact .inl (.inr ⟨e, z, hz, h2⟩)
    · exact .inr ⟨e, by have := h2.2; dsimp only at this; omega⟩
theorem MatTo.zero (U : Nat → List Hp) (lb : Txt) : MatTo U lb 0 0 none := fun i j _ _ => by
  constructor
  · intro h; cases h
  · rintro (⟨h, _⟩ | ⟨_, y, hy, _⟩)
    · omega
    · simp at hy
def MatP (w : World) (G : Gr) (lb : Txt) (side : Nat) (e : Ending) (w' : World) : Prop := ∃ q b, e = .returned (.tuple #[.pointer (some ⟨q, 0, none⟩), .int .i64 0]) ∧ QFresh w.heap.size q side b w' ∧ Below w.heap.size w w' ∧ MatOf G lb b
set_option maxHeartbeats 4000000 in
set_option maxRecDepth 20000 in
theorem matrix_gr (w : World) (F : Nat → Prop) (p : Nat) (G : Gr) (h : GrS w F p G) (ok : GOk G) (lb : Txt) (side : Nat) (hs : G.N.length ≤ side) (hs1 : 1 ≤ side) (hs2 : side ≤ 1024) :
    Calls Tryz.prog 59 #[.pointer (some ⟨p, 0, none⟩), .string lb, .int .i64 (side : Int)] w (MatP w G lb side) := by
  obtain ⟨U, V, ⟨O, ⟨r, nv, ov, iv, fo, fi⟩, hg, -⟩, ho⟩ := h
  have hf := ok.few
  have q1 : w.cell? ⟨p, 1, none⟩ = some (.map (some r)) := hg.blk.cell 1
  obtain ⟨nA, nc, e1, -, -⟩ := own_form hg.rn
  obtain ⟨oA, oc, e2, -, -⟩ := own_form hg.ro
  dsimp only at e1 e2
  subst e1
  subst e2
  obtain ⟨n, hn⟩ : ∃ n, G.N.length = n := ⟨_, rfl⟩
  have hn32 : n ≤ 32 := by omega
  rw [hn] at hs
  have H := Lib.hid (And.intro hg (And.intro ho (And.intro ok hn)))
  have hnew := qnew_any w side hs1 hs2
  have hlt : ¬ (side < n) := by omega
  clear hg ho ok hn hf
  go_enter Tryz.func59, Tryz.ntmps59
  go_wp2_with fail
  refine (is_any w p r q1).mono ?_
  rintro e w' ⟨rfl, hw⟩
  subst w'
  go_wp2_with fail
  refine hnew.mono ?_
  clear hnew q1
  rintro e W1 ⟨q, rfl, fr1, b1⟩
  have HF1 := Lib.hid fr1
  have HB1 := Lib.hid b1
  have hg1 := H.out.1.upd (Upd.of_below b1 (fun _ => False)) (fun _ _ => id)
  have q0 : W1.cell? ⟨p, 0, none⟩ = some (.slice nA n nc) := by rw [← H.out.2.2.2]; exact hg1.blk.cell 0
  have q2 : W1.cell? ⟨p, 2, none⟩ = some (.slice oA n oc) := by rw [← H.out.2.2.2]; exact hg1.blk.cell 2
  clear fr1 b1 hg1
  go_wp2_with fail
  clear q0 q2
  go_loopw [38] (fun i wr => ∃ k : Nat, k ≤ n ∧ i = .int .i64 k ∧ Hid (∃ b, QFresh w.heap.size q side b wr ∧ MatTo U lb k 0 b) ∧ Hid (Below w.heap.size w wr)) (fun i _ => n - (intOf i).toNat)
  case atStart => exact ⟨0, Nat.zero_le _, rfl, Lib.hid ⟨none, HF1.out, MatTo.zero U lb⟩, HB1⟩
  case round =>
    obtain ⟨k, hk, rfl, hq, hbw⟩ := hrel
    by_cases hkn : k < n
    · have hknI : (k : Int) < (n : Int) := by omega
      have hkw : IntKind.i64.wrap ((k : Int) + 1) = (k : Int) + 1 := IntWalk.i64_in _ (by omega)
      have hkN : k < G.N.length := by rw [H.out.2.2.2]; exact hkn
      have hg := H.out.1.upd (Upd.of_below hbw.out (fun _ => False)) (fun _ _ => id)
      obtain ⟨og, oc', e, -, co, -⟩ := row_get hg.ro hkN
      dsimp only at e co
      injection e with e e1 e2
      subst e
      clear e1 e2
      obtain ⟨A, cA, eA, -, -⟩ := own_form (hg.fo k)
      dsimp only at eA
      have hrow := H.out.1.fo k
      dsimp only at hrow
      rw [eA] at co hrow
      obtain ⟨m, hm⟩ : ∃ m, (U k).length = m := ⟨_, rfl⟩
      have hm256 : m ≤ 256 := by rw [← hm]; exact Nat.le_trans (H.out.2.1.len k).1 H.out.2.2.1.few.2
      rw [hm] at co
      have HM := Lib.hid (And.intro hm (RowR.of_own hrow))
      clear hg eA hrow hm
      go_wp2_with fail
      clear co
      generalize wr = W5 at hq hbw ⊢
      go_loopw [45] (fun i wr => ∃ t : Nat, t ≤ m ∧ i = .int .i64 t ∧ Hid (∃ b, QFresh w.heap.size q side b wr ∧ MatTo U lb k t b) ∧ Hid (Below w.heap.size w wr)) (fun i _ => m - (intOf i).toNat)
      case atStart => exact ⟨0, Nat.zero_le _, rfl, hq, hbw⟩
      case round =>
        obtain ⟨t, ht, rfl, hqt, hbt⟩ := hrel
        by_cases htm : t < m
        · have htmI : (t : Int) < (m : Int) := by omega
          have htw : IntKind.i64.wrap ((t : Int) + 1) = (t : Int) + 1 := IntWalk.i64_in _ (by omega)
          obtain ⟨⟨s, nd⟩, hx⟩ : ∃ x, (U k)[t]? = some x := ⟨(U k)[t]'(by rw [HM.out.1]; exact htm), List.getElem?_eq_getElem _⟩
          obtain ⟨ed, hed, -, hnd⟩ := (H.out.2.1.um k _).1 (List.mem_of_getElem? hx)
          injection hnd with hs0 hnd
          clear hs0
          have hqn := idxT_lt (H.out.2.2.1.ends ed hed).2
          rw [H.out.2.2.2] at hqn
          generalize idxT G.N ed.to = v at hnd hqn
          subst hnd
          clear hed
          obtain ⟨ab, ao, rfl, y0, y1⟩ := (HM.out.2.below hbt.out).hp hx
          dsimp only at y0 y1
          have k6 := Blk.new wr 103 #[.string s, .int .i64 (v : Int)]
          have u6 : Below wr.heap.size wr (wr.alloc (.cells #[.string s, .int .i64 (v : Int)] 103)) := (Below.refl _ _).alloc (Nat.le_refl _) _
          obtain ⟨b, hb1, hb2⟩ := hqt.out
          have H6 := Lib.hid (And.intro k6 (And.intro (hb1.below u6) (And.intro hb2 (And.intro (hbt.out.trans (u6.mono hbt.out.size)) hx))))
          clear k6 u6 hb1 hb2 hqt hbt hx
          go_upto_region 12 with (fail)
          generalize wr.alloc (.cells #[.string s, .int .i64 (v : Int)] 103) = W6 at H6 ⊢
          clear y0 y1
          have y0 : W6.cell? ⟨wr.heap.size, 0, none⟩ = some (.string s) := H6.out.1.cell 0
          have y1 : W6.cell? ⟨wr.heap.size, 1, none⟩ = some (.int .i64 (v : Int)) := H6.out.1.cell 1
          by_cases hsl : s = lb
          · subst hsl
            obtain ⟨F6, g6, n6⟩ := H6.out.2.1
            have hset := qset_any W6 F6 q side b g6 k v (by omega) (by omega) (by omega) (by omega)
            have HW := Lib.hid g6.wd
            have HN6 := Lib.hid n6
            clear g6 n6
            go_wp2_with fail
            refine hset.mono ?_
            clear hset y0 y1
            rintro e W7 ⟨rfl, hto⟩
            have hst := QFresh.step HN6.out H6.out.2.2.2.1.size hto
            have HF := Lib.hid hst
            clear hto hst
            go_wp2
            go_roundw
            case rel => exact ⟨t + 1, by omega, by go_num, Lib.hid ⟨_, HF.out.1, H6.out.2.2.1.put HW.out (by omega) H6.out.2.2.2.2⟩, Lib.hid (H6.out.2.2.2.1.trans HF.out.2)⟩
            case measure => simp [intOf]; omega
          · have hsb : (ByteArray.toList s == ByteArray.toList lb) = false := by rw [txt_beq]; exact decide_eq_false hsl
            go_wp2
            go_roundw
            case rel => exact ⟨t + 1, by omega, by go_num, Lib.hid ⟨b, H6.out.2.1, H6.out.2.2.1.skip H6.out.2.2.2.2 hsl⟩, Lib.hid H6.out.2.2.2.1⟩
            case measure => simp [intOf]; omega
        · obtain rfl : t = m := by omega
          go_wp2
          go_roundw
          case rel => exact ⟨k + 1, by omega, by go_num, Lib.hid (by
            obtain ⟨b, h1, h2⟩ := hqt.out
            rw [← HM.out.1] at h2
            exact ⟨b, h1, h2.next⟩), hbt⟩
          case measure => simp [intOf]; omega
    · obtain rfl : k = n := by omega
      have FIN := Lib.hid (show MatP w G lb side (.returned (.tuple #[.pointer (some ⟨q, 0, none⟩), .int .i64 0])) wr from by
        obtain ⟨b, h1, h2⟩ := hq.out
        rw [← H.out.2.2.2] at h2
        exact ⟨q, b, rfl, h1, hbw.out, h2.all H.out.2.1 H.out.2.2.1⟩)
      clear hq hbw
      go_wp2
      refine bodyPost_ret (v := .tuple #[.pointer (some ⟨q, 0, none⟩), .int .i64 0]) (by simp [results, Tryz.f59, go_sem]) rfl FIN.out
end Go.Proofs.YtddffnonlmfhdaaGreatDoor
namespace Go.Proofs.YtddffnonlmfhdaaGreatDoor
open Go.RowKit Go.Shelf
/-- The edges of a label, by the number of the label. -/
def ElG (G : Gr) (labels : List Txt) (k : Int) (i j : Nat) : Prop := ∃ lb, labels[k.toNat]? = some lb ∧ ∃ x ∈ G.X, x.lb = lb ∧ G.N[i]? = some x.fr ∧ G.N[j]? = some x.to
theorem ElG.lt {G : Gr} {labels : List Txt} {k : Int} {i j : Nat} (h : ElG G labels k i j) : i < G.N.length ∧ j < G.N.length := by
  obtain ⟨lb, -, x, -, -, h1, h2⟩ := h
  exact ⟨(List.getElem?_eq_some_iff.1 h1).1, (List.getElem?_eq_some_iff.1 h2).1⟩
theorem QuS.wdO {w : World} {F : Nat → Prop} {p side : Nat} {b : Option (List Nat)} (h : QuS w F p side b) : WdO b := by
  obtain ⟨O, dep, cnt, m, last, L, pv, lv, hq, ok, -⟩ := h
  exact fun r e => (ok.is r e).2.2.2.2
theorem diag_gives {El : Int → Nat → Nat → Prop} {n : Nat} (hn : n ≤ 64) {p : Pr} (hp : p.body = []) : Gives El n p (joinO none (cornW diag n)) := by
  have hd : Wd diag := diag_wd
  have hc := cornW_wd hd n
  refine ⟨WdO.joinO (b := none) (fun r e => by cases e) hc, ?_⟩
  rw [hp]
  intro i j hi
  rw [bit_joinO (b := none) zero64_wd hc hi, bit_corn hi, bit_diag hi]
  show (false || _) = true ↔ _
  simp only [Bool.false_or, Bool.and_eq_true, decide_eq_true_eq]
  constructor
  · rintro ⟨rfl, h1, -⟩; exact ⟨rfl, h1⟩
  · rintro ⟨rfl, h1⟩; exact ⟨rfl, h1, h1⟩
theorem mat_gives {G : Gr} {labels : List Txt} {n : Nat} {p : Pr} {s : Sy} {lb : Txt} {m : Option (List Nat)} (hm : WdO m) (hp : p.body = [s]) (hl : labels[s.at_.toNat]? = some lb) (h : MatOf G lb m) : Gives (ElG G labels) n p m := by
  refine ⟨hm, ?_⟩
  rw [hp]
  intro i j hi hj
  rw [h i j hi hj]
  constructor
  · rintro ⟨x, hx, e⟩; exact ⟨lb, hl, x, hx, e⟩
  · rintro ⟨lb', hl', x, hx, e⟩
    rw [hl] at hl'
    obtain rfl := Option.some.inj hl'
    exact ⟨x, hx, e⟩
def FirstQ (w : World) (F : Nat → Prop) (p side nodes nts : Nat) (B : Mats) (El : Int → Nat → Nat → Prop) (pr : Pr) (e : Ending) (w' : World) : Prop :=
  ∃ m, Gives El nodes pr m ∧ e = .returned (.bool (moreQ (B pr.head.toNat) m)) ∧ ClTo w F p side nodes nts (upM B pr.head.toNat (joinQ (B pr.head.toNat) m)) w'
set_option maxHeartbeats 4000000 in
set_option maxRecDepth 20000 in
theorem first0_any (w : World) (F : Nat → Prop) (p side nts : Nat) (B : Mats) (h : ClS w F p side side nts B) (a : Nat) (A : Option Addr) (cap : Nat) (ha : a < nts) (hs1 : 1 ≤ side) (hs64 : side ≤ 64) (El : Int → Nat → Nat → Prop) (lv gv : Value) :
    Calls Tryz.prog 110 #[.pointer (some ⟨p, 0, none⟩), .agg #[.int .i64 (a : Int), .slice A 0 cap], lv, gv] w (FirstQ w F p side side nts B El ⟨(a : Int), []⟩) := by
  obtain ⟨nodes, hnodes⟩ : ∃ nodes, side = nodes := ⟨_, rfl⟩
  have hnI : (1 : Int) ≤ (nodes : Int) := by omega
  rw [show ClS w F p side side nts B = ClS w F p side nodes nts B by rw [← hnodes]] at h
  have GG := Lib.hid (show ∀ e w', (∃ m, Gives El nodes ⟨(a : Int), []⟩ m ∧ e = .returned (.bool (moreQ (B a) m)) ∧ ClTo w F p side nodes nts (upM B a (joinQ (B a) m)) w') → FirstQ w F p side side nts B El ⟨(a : Int), []⟩ e w' from fun e w' h => by
    subst hnodes
    exact h)
  obtain ⟨O, pv, ad, hi, rfl⟩ := h
  obtain ⟨g, gc, rfl, -, -, -, -, -⟩ := own_cells hi.rows (by omega)
  have b1 : Below w.heap.size w (w.alloc (.cells #[.int .i64 (a : Int), .slice A 0 cap] 71)) := (Below.refl _ _).alloc (Nat.le_refl _) _
  have k1 := Blk.new w 71 #[.int .i64 (a : Int), .slice A 0 cap]
  have hi1 := hi.upd (Upd.of_below b1 (fun _ => False)) (fun _ _ => id)
  have SF : ∀ W, Below (w.alloc (.cells #[.int .i64 (a : Int), .slice A 0 cap] 71)).heap.size (w.alloc (.cells #[.int .i64 (a : Int), .slice A 0 cap] 71)) W →
      W.cell? ⟨p, 1, none⟩ = some (.slice (some ⟨g, 0, none⟩) nts gc) ∧ W.cell? ⟨w.heap.size, 0, none⟩ = some (.int .i64 (a : Int)) ∧ W.cell? ⟨g, a, none⟩ = some (.pointer (some ⟨ad a, 0, none⟩)) := fun W hW => by
    have hi2 := hi1.upd (Upd.of_below hW (fun _ => False)) (fun _ _ => id)
    have k2 := k1.upd (Upd.of_below hW (fun _ => False)) id
    obtain ⟨g', c', e, -, -, -, -, hg⟩ := own_cells hi2.rows (by omega)
    injection e with e
    injection e with e
    injection e with e
    subst e
    exact ⟨hi2.blk.cell 1, k2.cell 0, (hg a _ (ptC_at ha)).1⟩
  have HX := Lib.hid (And.intro hi1 b1)
  have HS := Lib.hid SF
  have haI : (a : Int) < (nts : Int) := by omega
  have qn : (w.alloc (.cells #[.int .i64 (a : Int), .slice A 0 cap] 71)).cell? ⟨p, 0, none⟩ = some (.int .i64 (nodes : Int)) := hi1.blk.cell 0
  have qs : (w.alloc (.cells #[.int .i64 (a : Int), .slice A 0 cap] 71)).cell? ⟨w.heap.size, 1, none⟩ = some (.slice A 0 cap) := k1.cell 1
  have hone := pone_any (w.alloc (.cells #[.int .i64 (a : Int), .slice A 0 cap] 71)) nodes (by omega) (by omega)
  have HV := Lib.hid (diag_gives (El := El) (n := nodes) (by omega) (p := ⟨(a : Int), []⟩) rfl)
  have HN := Lib.hid hnodes
  clear hi b1 k1 hi1 SF hnodes
  go_enter Tryz.func110, Tryz.ntmps110
  go_wp2_with fail
  refine hone.mono ?_
  clear hone
  rintro e W2 ⟨q, rfl, hfr, b2⟩
  rw [← HN.out] at hfr
  have HQ := Lib.hid hfr
  have HG : Hid (Gives El nodes ⟨(a : Int), []⟩ (joinO none (cornW diag side))) := Lib.hid (by rw [HN.out]; exact HV.out)
  generalize joinO none (cornW diag side) = m at HQ HG
  have B2 := Lib.hid b2
  clear hfr b2
  generalize w.alloc (.cells #[.int .i64 (a : Int), .slice A 0 cap] 71) = W1 at HX HS B2 HQ qn qs ⊢
  generalize w.heap.size = z at HS qs ⊢
  go_upto_region 8 with (fail)
  have HB3 := Lib.hid (show Below W2.heap.size W2 W2.drew from (Below.refl _ _).drew)
  have hS := HS.out W2.drew (B2.out.trans (HB3.out.mono B2.out.size))
  refine wp_region_late (fun W : World => W.cell? ⟨p, 1, none⟩ = some (.slice (some ⟨g, 0, none⟩) nts gc) ∧ W.cell? ⟨z, 0, none⟩ = some (.int .i64 (a : Int)) ∧ W.cell? ⟨g, a, none⟩ = some (.pointer (some ⟨ad a, 0, none⟩))) (lateFrom 9) (by kernel_rfl) ?_
  generalize W2.drew = W3 at HB3 hS ⊢
  intro hd
  (refine late_takeA (i := 0) rfl hd hS ?_; clear hd; intro hd; (try simp only [Act.put, List.getElem_toArray, List.getElem_cons_zero, List.setIfInBounds_toArray, List.set_cons_zero, List.set_cons_succ]))
  (refine late_takeA (i := 1) rfl hd hS ?_; clear hd; intro hd; (try simp only [Act.put, List.getElem_toArray, List.getElem_cons_succ, List.getElem_cons_zero, List.setIfInBounds_toArray, List.set_cons_zero, List.set_cons_succ]))
  (refine late_takeA (i := 2) rfl hd hS ?_; clear hd; intro hd; (try simp only [Act.put, List.getElem_toArray, List.getElem_cons_succ, List.getElem_cons_zero, List.setIfInBounds_toArray, List.set_cons_zero, List.set_cons_succ]))
  (refine late_takeA (i := 3) rfl hd hS ?_; clear hd; intro hd; (try simp only [Act.put, List.getElem_toArray, List.getElem_cons_succ, List.getElem_cons_zero, List.setIfInBounds_toArray, List.set_cons_zero, List.set_cons_succ]))
  (refine late_takeA (i := 4) rfl hd hS ?_; clear hd; intro hd; (try simp only [Act.put, List.getElem_toArray, List.getElem_cons_succ, List.getElem_cons_zero, List.setIfInBounds_toArray, List.set_cons_zero, List.set_cons_succ]))
  (refine late_takeA (i := 5) rfl hd hS ?_; clear hd; intro hd; (try simp only [Act.put, List.getElem_toArray, List.getElem_cons_succ, List.getElem_cons_zero, List.setIfInBounds_toArray, List.set_cons_zero, List.set_cons_succ]))
  (refine late_takeA (i := 6) rfl hd hS ?_; clear hd; intro hd; (try simp only [Act.put, List.getElem_toArray, List.getElem_cons_succ, List.getElem_cons_zero, List.setIfInBounds_toArray, List.set_cons_zero, List.set_cons_succ]))
  (refine late_takeA (i := 7) rfl hd hS ?_; clear hd; intro hd; (try simp only [Act.put, List.getElem_toArray, List.getElem_cons_succ, List.getElem_cons_zero, List.setIfInBounds_toArray, List.set_cons_zero, List.set_cons_succ]))
  (refine late_takeA (i := 8) rfl hd hS ?_; clear hd; intro hd; (try simp only [Act.put, List.getElem_toArray, List.getElem_cons_succ, List.getElem_cons_zero, List.setIfInBounds_toArray, List.set_cons_zero, List.set_cons_succ]))
  have hint : Hid (∃ Fa Fm, QuS W3 Fa (ad a) side (B a) ∧ QuS W3 Fm q side m ∧ (∀ q, Fa q → O q = some (.mat a)) ∧ ClI W3 O p side nodes nts (.slice (some ⟨g, 0, none⟩) nts gc) ad B) := Lib.hid (by
    have hi3 := HX.out.1.upd (Upd.of_below (B2.out.trans (HB3.out.mono B2.out.size)) (fun _ => False)) (fun _ _ => id)
    obtain ⟨Fa, a1, a2⟩ := hi3.mats a ha
    obtain ⟨Fm, m1, -⟩ := HQ.out
    exact ⟨Fa, Fm, a1, m1.below HB3.out, a2, hi3⟩)
  obtain ⟨Fa, Fm, a1, m1, a2, i3⟩ := hint.out
  have hcon := qjoin_any W3 Fa Fm (ad a) q side (B a) m a1 m1
  have HI := Lib.hid (And.intro i3 a2)
  clear a1 m1 i3 a2 hint hS
  refine late_run hd (L := [9]) (by kernel_rfl) (by decide) (fun ix hix hd2 => ?_)
  clear hd
  have hd := hd2
  clear hd2
  simp only [List.mem_cons, List.not_mem_nil, or_false] at hix
  subst hix
  refine late_do (S := (fun W : World => W.cell? ⟨p, 1, none⟩ = some (.slice (some ⟨g, 0, none⟩) nts gc) ∧ W.cell? ⟨z, 0, none⟩ = some (.int .i64 (a : Int)) ∧ W.cell? ⟨g, a, none⟩ = some (.pointer (some ⟨ad a, 0, none⟩)))) (late := lateFrom 9) rfl rfl (fun K hK => ?_)
  go_simp
  refine hcon.mono ?_
  clear hcon
  rintro e W4 ⟨rfl, hto⟩
  have FIN := Lib.hid (show ClTo w (fun q => O q ≠ none) p side nodes nts (upM B a (joinQ (B a) m)) W4 from (ClTo.after (HX.out.2.trans ((B2.out.trans (HB3.out.mono B2.out.size)).mono HX.out.2.size)) (HI.out.1.turn HI.out.2 hto)))
  clear hto
  refine hK _ _ (fun h _ => absurd h (by decide)) ?_
  clear hK K
  (try simp only [Act.put, List.getElem_toArray, List.getElem_cons_succ, List.getElem_cons_zero, List.setIfInBounds_toArray, List.set_cons_zero, List.set_cons_succ])
  (refine late_take0 (i := 10) (v := ?_) rfl (by kernel_rfl) hd (fun _ _ d _ _ h => by cases d <;> exact h) (by first | with_reducible rfl | kernel_rfl) ?_ ?_; rotate_left; (focus (intro wS; go_simp; (try with_reducible rfl); done)); clear hd; intro hd; (try simp only [Act.put, List.getElem_toArray, List.getElem_cons_succ, List.getElem_cons_zero, List.setIfInBounds_toArray, List.set_cons_zero, List.set_cons_succ]))
  (refine late_take0 (i := 11) (v := ?_) rfl (by kernel_rfl) hd (fun _ _ d _ _ h => by cases d <;> exact h) (by first | with_reducible rfl | kernel_rfl) ?_ ?_; rotate_left; (focus (intro wS; go_simp; (try with_reducible rfl); done)); clear hd; intro hd; (try simp only [Act.put, List.getElem_toArray, List.getElem_cons_succ, List.getElem_cons_zero, List.setIfInBounds_toArray, List.set_cons_zero, List.set_cons_succ]))
  (refine late_take0 (i := 12) (v := ?_) rfl (by kernel_rfl) hd (fun _ _ d _ _ h => by cases d <;> exact h) (by first | with_reducible rfl | kernel_rfl) ?_ ?_; rotate_left; (focus (intro wS; go_simp; (try with_reducible rfl); done)); clear hd; intro hd; (try simp only [Act.put, List.getElem_toArray, List.getElem_cons_succ, List.getElem_cons_zero, List.setIfInBounds_toArray, List.set_cons_zero, List.set_cons_succ]))
  (refine late_take0 (i := 13) (v := ?_) rfl (by kernel_rfl) hd (fun _ _ d _ _ h => by cases d <;> exact h) (by first | with_reducible rfl | kernel_rfl) ?_ ?_; rotate_left; (focus (intro wS; go_simp; (try with_reducible rfl); done)); clear hd; intro hd; (try simp only [Act.put, List.getElem_toArray, List.getElem_cons_succ, List.getElem_cons_zero, List.setIfInBounds_toArray, List.set_cons_zero, List.set_cons_succ]))
  (refine late_take0 (i := 14) (v := ?_) rfl (by kernel_rfl) hd (fun _ _ d _ _ h => by cases d <;> exact h) (by first | with_reducible rfl | kernel_rfl) ?_ ?_; rotate_left; (focus (intro wS; go_simp; (try with_reducible rfl); done)); clear hd; intro hd; (try simp only [Act.put, List.getElem_toArray, List.getElem_cons_succ, List.getElem_cons_zero, List.setIfInBounds_toArray, List.set_cons_zero, List.set_cons_succ]))
  refine late_done (by kernel_rfl) ?_
  go_wp2
  go_ret
  exact GG.out _ _ ⟨m, HG.out, rfl, FIN.out⟩
set_option maxHeartbeats 4000000 in
set_option maxRecDepth 20000 in
theorem first2_any (w : World) (p : Nat) (hd : Int) (A : Option Addr) (len cap : Nat) (hl : 2 ≤ len) (lv gv : Value) :
    Calls Tryz.prog 110 #[.pointer (some ⟨p, 0, none⟩), .agg #[.int .i64 hd, .slice A len cap], lv, gv] w (fun e w' => e = .returned (.bool false) ∧ Below w.heap.size w w') := by
  have b1 : Below w.heap.size w (w.alloc (.cells #[.int .i64 hd, .slice A len cap] 71)) := (Below.refl _ _).alloc (Nat.le_refl _) _
  have k1 := Blk.new w 71 #[.int .i64 hd, .slice A len cap]
  have q1 : (w.alloc (.cells #[.int .i64 hd, .slice A len cap] 71)).cell? ⟨w.heap.size, 1, none⟩ = some (.slice A len cap) := k1.cell 1
  have z0 : ((len : Int) == 0) = false := by simp; omega
  have z1 : ((len : Int) == 1) = false := by simp; omega
  have H := Lib.hid b1
  clear b1 k1
  go_enter Tryz.func110, Tryz.ntmps110
  go_wp2
  go_ret
  exact ⟨rfl, H.out⟩
end Go.Proofs.YtddffnonlmfhdaaGreatDoor
namespace Go.Proofs.YtddffnonlmfhdaaGreatDoor
open Go.RowKit Go.Shelf
set_option maxHeartbeats 4000000 in
set_option maxRecDepth 20000 in
theorem first1_any (w : World) (F : Nat → Prop) (p side nts : Nat) (B : Mats) (h : ClS w F p side side nts B) (a k : Nat) (lab : Bool) (A : Option Addr) (cap : Nat) (hr : RowR w A (syCells [⟨lab, k⟩])) (ha : a < nts) (hs1 : 1 ≤ side) (hs64 : side ≤ 64) (LA : Option Addr) (cl : Nat) (labels : List Txt) (hlab : RowR w LA (txtCells labels)) (lb : Txt) (hk : labels[k]? = some lb) (Fg : Nat → Prop) (pg : Nat) (G : Gr) (hG : GrS w Fg pg G) (ok : GOk G) (hn : G.N.length = side) :
    Calls Tryz.prog 110 #[.pointer (some ⟨p, 0, none⟩), .agg #[.int .i64 (a : Int), .slice A 1 cap], .slice LA labels.length cl, .pointer (some ⟨pg, 0, none⟩)] w (FirstQ w F p side side nts B (ElG G labels) ⟨(a : Int), [⟨lab, k⟩]⟩) := by
  obtain ⟨nodes, hnodes⟩ : ∃ nodes, side = nodes := ⟨_, rfl⟩
  have hnI : (1 : Int) ≤ (nodes : Int) := by omega
  rw [show ClS w F p side side nts B = ClS w F p side nodes nts B by rw [← hnodes]] at h
  have GG := Lib.hid (show ∀ e w', (∃ m, Gives (ElG G labels) nodes ⟨(a : Int), [⟨lab, k⟩]⟩ m ∧ e = .returned (.bool (moreQ (B a) m)) ∧ ClTo w F p side nodes nts (upM B a (joinQ (B a) m)) w') → FirstQ w F p side side nts B (ElG G labels) ⟨(a : Int), [⟨lab, k⟩]⟩ e w' from fun e w' h => by
    subst hnodes
    exact h)
  obtain ⟨O, pv, ad, hi, rfl⟩ := h
  obtain ⟨gb, go, rfl, -⟩ := hr 0 (.bool lab) rfl
  obtain ⟨lg, lo, rfl, -⟩ := hlab.txt hk
  obtain ⟨g, gc, rfl, -, -, -, -, -⟩ := own_cells hi.rows (by omega)
  have b1 : Below w.heap.size w (w.alloc (.cells #[.int .i64 (a : Int), .slice (some ⟨gb, go, none⟩) 1 cap] 71)) := (Below.refl _ _).alloc (Nat.le_refl _) _
  have k1 := Blk.new w 71 #[.int .i64 (a : Int), .slice (some ⟨gb, go, none⟩) 1 cap]
  have hi1 := hi.upd (Upd.of_below b1 (fun _ => False)) (fun _ _ => id)
  have SF : ∀ W, Below (w.alloc (.cells #[.int .i64 (a : Int), .slice (some ⟨gb, go, none⟩) 1 cap] 71)).heap.size (w.alloc (.cells #[.int .i64 (a : Int), .slice (some ⟨gb, go, none⟩) 1 cap] 71)) W →
      W.cell? ⟨p, 1, none⟩ = some (.slice (some ⟨g, 0, none⟩) nts gc) ∧ W.cell? ⟨w.heap.size, 0, none⟩ = some (.int .i64 (a : Int)) ∧ W.cell? ⟨g, a, none⟩ = some (.pointer (some ⟨ad a, 0, none⟩)) := fun W hW => by
    have hi2 := hi1.upd (Upd.of_below hW (fun _ => False)) (fun _ _ => id)
    have k2 := k1.upd (Upd.of_below hW (fun _ => False)) id
    obtain ⟨g', c', e, -, -, -, -, hg⟩ := own_cells hi2.rows (by omega)
    injection e with e
    injection e with e
    injection e with e
    subst e
    exact ⟨hi2.blk.cell 1, k2.cell 0, (hg a _ (ptC_at ha)).1⟩
  have HX := Lib.hid (And.intro hi1 b1)
  have HS := Lib.hid SF
  have haI : (a : Int) < (nts : Int) := by omega
  have qn : (w.alloc (.cells #[.int .i64 (a : Int), .slice (some ⟨gb, go, none⟩) 1 cap] 71)).cell? ⟨p, 0, none⟩ = some (.int .i64 (nodes : Int)) := hi1.blk.cell 0
  have qs : (w.alloc (.cells #[.int .i64 (a : Int), .slice (some ⟨gb, go, none⟩) 1 cap] 71)).cell? ⟨w.heap.size, 1, none⟩ = some (.slice (some ⟨gb, go, none⟩) 1 cap) := k1.cell 1
  have hr1 := hr.below3 b1
  have hl1 := hlab.below3 b1
  have S7 := Lib.hid (show ∀ W, Below (w.alloc (.cells #[.int .i64 (a : Int), .slice (some ⟨gb, go, none⟩) 1 cap] 71)).heap.size (w.alloc (.cells #[.int .i64 (a : Int), .slice (some ⟨gb, go, none⟩) 1 cap] 71)) W →
      W.cell? ⟨w.heap.size, 1, none⟩ = some (.slice (some ⟨gb, go, none⟩) 1 cap) ∧ W.cell? ⟨gb, go + 1, none⟩ = some (.int .i64 (k : Int)) ∧ W.cell? ⟨lg, lo + k, none⟩ = some (.string lb) ∧ W.cell? ⟨p, 0, none⟩ = some (.int .i64 (nodes : Int)) from fun W hW => by
    have hi2 := hi1.upd (Upd.of_below hW (fun _ => False)) (fun _ _ => id)
    have k2 := k1.upd (Upd.of_below hW (fun _ => False)) id
    have hr2 := hr1.below3 hW
    obtain ⟨b', o', e, c1⟩ := hr2 1 (.int .i64 (k : Int)) rfl
    injection e with e
    injection e with e1 e2
    subst e1
    subst e2
    obtain ⟨b', o', e, c2⟩ := (hl1.below3 hW).txt hk
    injection e with e
    injection e with e1 e2
    subst e1
    subst e2
    exact ⟨k2.cell 1, c1, c2, hi2.blk.cell 0⟩)
  have HG0 := Lib.hid (And.intro (hG.below b1) (And.intro ok (And.intro hn hk)))
  have hkI : (k : Int) < (labels.length : Int) := by have := (List.getElem?_eq_some_iff.1 hk).1; omega
  have hn64 : nodes ≤ 64 := by omega
  have HN := Lib.hid hnodes
  clear hi b1 k1 hi1 SF hnodes hr hlab hG ok hn hk hr1 hl1
  obtain ⟨nl, hnl⟩ : ∃ nl, labels.length = nl := ⟨_, rfl⟩
  rw [hnl] at hkI ⊢
  clear hnl
  go_enter Tryz.func110, Tryz.ntmps110
  go_upto_region 7 with (fail)
  generalize w.alloc (.cells #[.int .i64 (a : Int), .slice (some ⟨gb, go, none⟩) 1 cap] 71) = W1 at HX HS S7 HG0 qn qs ⊢
  generalize w.heap.size = z at HS S7 qs ⊢
  have HB1 := Lib.hid (show Below W1.heap.size W1 W1.drew from (Below.refl _ _).drew)
  have hS := S7.out W1.drew HB1.out
  refine wp_region_late (fun W : World => W.cell? ⟨z, 1, none⟩ = some (.slice (some ⟨gb, go, none⟩) 1 cap) ∧ W.cell? ⟨gb, go + 1, none⟩ = some (.int .i64 (k : Int)) ∧ W.cell? ⟨lg, lo + k, none⟩ = some (.string lb) ∧ W.cell? ⟨p, 0, none⟩ = some (.int .i64 (nodes : Int))) (lateFrom 13) (by kernel_rfl) ?_
  generalize W1.drew = V1 at HB1 hS ⊢
  intro hd
  (refine late_takeA (i := 0) rfl hd hS ?_; clear hd; intro hd; (try simp only [Act.put, List.getElem_toArray, List.getElem_cons_zero, List.setIfInBounds_toArray, List.set_cons_zero, List.set_cons_succ]))
  (refine late_takeA (i := 1) rfl hd hS ?_; clear hd; intro hd; (try simp only [Act.put, List.getElem_toArray, List.getElem_cons_succ, List.getElem_cons_zero, List.setIfInBounds_toArray, List.set_cons_zero, List.set_cons_succ]))
  (refine late_takeA (i := 2) rfl hd hS ?_; clear hd; intro hd; (try simp only [Act.put, List.getElem_toArray, List.getElem_cons_succ, List.getElem_cons_zero, List.setIfInBounds_toArray, List.set_cons_zero, List.set_cons_succ]))
  (refine late_takeA (i := 3) rfl hd hS ?_; clear hd; intro hd; (try simp only [Act.put, List.getElem_toArray, List.getElem_cons_succ, List.getElem_cons_zero, List.setIfInBounds_toArray, List.set_cons_zero, List.set_cons_succ]))
  (refine late_takeA (i := 4) rfl hd hS ?_; clear hd; intro hd; (try simp only [Act.put, List.getElem_toArray, List.getElem_cons_succ, List.getElem_cons_zero, List.setIfInBounds_toArray, List.set_cons_zero, List.set_cons_succ]))
  (refine late_takeA (i := 5) rfl hd hS ?_; clear hd; intro hd; (try simp only [Act.put, List.getElem_toArray, List.getElem_cons_succ, List.getElem_cons_zero, List.setIfInBounds_toArray, List.set_cons_zero, List.set_cons_succ]))
  (refine late_takeA (i := 6) rfl hd hS ?_; clear hd; intro hd; (try simp only [Act.put, List.getElem_toArray, List.getElem_cons_succ, List.getElem_cons_zero, List.setIfInBounds_toArray, List.set_cons_zero, List.set_cons_succ]))
  (refine late_takeA (i := 7) rfl hd hS ?_; clear hd; intro hd; (try simp only [Act.put, List.getElem_toArray, List.getElem_cons_succ, List.getElem_cons_zero, List.setIfInBounds_toArray, List.set_cons_zero, List.set_cons_succ]))
  (refine late_takeA (i := 8) rfl hd hS ?_; clear hd; intro hd; (try simp only [Act.put, List.getElem_toArray, List.getElem_cons_succ, List.getElem_cons_zero, List.setIfInBounds_toArray, List.set_cons_zero, List.set_cons_succ]))
  (refine late_takeA (i := 9) rfl hd hS ?_; clear hd; intro hd; (try simp only [Act.put, List.getElem_toArray, List.getElem_cons_succ, List.getElem_cons_zero, List.setIfInBounds_toArray, List.set_cons_zero, List.set_cons_succ]))
  (refine late_takeA (i := 10) rfl hd hS ?_; clear hd; intro hd; (try simp only [Act.put, List.getElem_toArray, List.getElem_cons_succ, List.getElem_cons_zero, List.setIfInBounds_toArray, List.set_cons_zero, List.set_cons_succ]))
  (refine late_takeA (i := 11) rfl hd hS ?_; clear hd; intro hd; (try simp only [Act.put, List.getElem_toArray, List.getElem_cons_succ, List.getElem_cons_zero, List.setIfInBounds_toArray, List.set_cons_zero, List.set_cons_succ]))
  (refine late_takeA (i := 12) rfl hd hS ?_; clear hd; intro hd; (try simp only [Act.put, List.getElem_toArray, List.getElem_cons_succ, List.getElem_cons_zero, List.setIfInBounds_toArray, List.set_cons_zero, List.set_cons_succ]))
  have hcon := matrix_gr V1 Fg pg G (HG0.out.1.below HB1.out) HG0.out.2.1 lb nodes (by rw [HG0.out.2.2.1, HN.out]; exact Nat.le_refl _) (by omega) (by omega)
  clear hS
  refine late_run hd (L := [13]) (by kernel_rfl) (by decide) (fun ix hix hd2 => ?_)
  clear hd
  have hd := hd2
  clear hd2
  simp only [List.mem_cons, List.not_mem_nil, or_false] at hix
  subst hix
  refine late_do (S := (fun W : World => W.cell? ⟨z, 1, none⟩ = some (.slice (some ⟨gb, go, none⟩) 1 cap) ∧ W.cell? ⟨gb, go + 1, none⟩ = some (.int .i64 (k : Int)) ∧ W.cell? ⟨lg, lo + k, none⟩ = some (.string lb) ∧ W.cell? ⟨p, 0, none⟩ = some (.int .i64 (nodes : Int)))) (late := lateFrom 13) rfl rfl (fun K hK => ?_)
  go_simp
  refine hcon.mono ?_
  clear hcon
  rintro e W2 ⟨q, m, rfl, hfr, b2, hmat⟩
  have HG : Hid (Gives (ElG G labels) nodes ⟨(a : Int), [⟨lab, k⟩]⟩ m) := Lib.hid (by
    obtain ⟨Fm, hq, -⟩ := hfr
    exact mat_gives hq.wdO rfl (by rw [Int.toNat_natCast]; exact HG0.out.2.2.2) hmat)
  rw [← HN.out] at hfr
  have HQ := Lib.hid hfr
  have B2 := Lib.hid (HB1.out.trans (b2.mono HB1.out.size))
  clear hfr b2 hmat
  refine hK _ _ (fun h _ => absurd h (by decide)) ?_
  clear hK K
  (try simp only [Act.put, List.getElem_toArray, List.getElem_cons_succ, List.getElem_cons_zero, List.setIfInBounds_toArray, List.set_cons_zero, List.set_cons_succ])
  (refine late_take0 (i := 14) (v := ?_) rfl (by kernel_rfl) hd (fun _ _ d _ _ h => by cases d <;> exact h) (by first | with_reducible rfl | kernel_rfl) ?_ ?_; rotate_left; (focus (intro wS; go_simp; (try with_reducible rfl); done)); clear hd; intro hd; (try simp only [Act.put, List.getElem_toArray, List.getElem_cons_succ, List.getElem_cons_zero, List.setIfInBounds_toArray, List.set_cons_zero, List.set_cons_succ]))
  (refine late_take0 (i := 15) (v := ?_) rfl (by kernel_rfl) hd (fun _ _ d _ _ h => by cases d <;> exact h) (by first | with_reducible rfl | kernel_rfl) ?_ ?_; rotate_left; (focus (intro wS; go_simp; (try with_reducible rfl); done)); clear hd; intro hd; (try simp only [Act.put, List.getElem_toArray, List.getElem_cons_succ, List.getElem_cons_zero, List.setIfInBounds_toArray, List.set_cons_zero, List.set_cons_succ]))
  (refine late_take0 (i := 16) (v := ?_) rfl (by kernel_rfl) hd (fun _ _ d _ _ h => by cases d <;> exact h) (by first | with_reducible rfl | kernel_rfl) ?_ ?_; rotate_left; (focus (intro wS; go_simp; (try with_reducible rfl); done)); clear hd; intro hd; (try simp only [Act.put, List.getElem_toArray, List.getElem_cons_succ, List.getElem_cons_zero, List.setIfInBounds_toArray, List.set_cons_zero, List.set_cons_succ]))
  (refine late_take0 (i := 17) (v := ?_) rfl (by kernel_rfl) hd (fun _ _ d _ _ h => by cases d <;> exact h) (by first | with_reducible rfl | kernel_rfl) ?_ ?_; rotate_left; (focus (intro wS; go_simp; (try with_reducible rfl); done)); clear hd; intro hd; (try simp only [Act.put, List.getElem_toArray, List.getElem_cons_succ, List.getElem_cons_zero, List.setIfInBounds_toArray, List.set_cons_zero, List.set_cons_succ]))
  refine late_done (by kernel_rfl) ?_
  go_upto_region 8 with (fail)
  have HB3 := Lib.hid (show Below W2.heap.size W2 W2.drew from (Below.refl _ _).drew)
  have hS := HS.out W2.drew (B2.out.trans (HB3.out.mono B2.out.size))
  refine wp_region_late (fun W : World => W.cell? ⟨p, 1, none⟩ = some (.slice (some ⟨g, 0, none⟩) nts gc) ∧ W.cell? ⟨z, 0, none⟩ = some (.int .i64 (a : Int)) ∧ W.cell? ⟨g, a, none⟩ = some (.pointer (some ⟨ad a, 0, none⟩))) (lateFrom 9) (by kernel_rfl) ?_
  generalize W2.drew = W3 at HB3 hS ⊢
  intro hd
  (refine late_takeA (i := 0) rfl hd hS ?_; clear hd; intro hd; (try simp only [Act.put, List.getElem_toArray, List.getElem_cons_zero, List.setIfInBounds_toArray, List.set_cons_zero, List.set_cons_succ]))
  (refine late_takeA (i := 1) rfl hd hS ?_; clear hd; intro hd; (try simp only [Act.put, List.getElem_toArray, List.getElem_cons_succ, List.getElem_cons_zero, List.setIfInBounds_toArray, List.set_cons_zero, List.set_cons_succ]))
  (refine late_takeA (i := 2) rfl hd hS ?_; clear hd; intro hd; (try simp only [Act.put, List.getElem_toArray, List.getElem_cons_succ, List.getElem_cons_zero, List.setIfInBounds_toArray, List.set_cons_zero, List.set_cons_succ]))
  (refine late_takeA (i := 3) rfl hd hS ?_; clear hd; intro hd; (try simp only [Act.put, List.getElem_toArray, List.getElem_cons_succ, List.getElem_cons_zero, List.setIfInBounds_toArray, List.set_cons_zero, List.set_cons_succ]))
  (refine late_takeA (i := 4) rfl hd hS ?_; clear hd; intro hd; (try simp only [Act.put, List.getElem_toArray, List.getElem_cons_succ, List.getElem_cons_zero, List.setIfInBounds_toArray, List.set_cons_zero, List.set_cons_succ]))
  (refine late_takeA (i := 5) rfl hd hS ?_; clear hd; intro hd; (try simp only [Act.put, List.getElem_toArray, List.getElem_cons_succ, List.getElem_cons_zero, List.setIfInBounds_toArray, List.set_cons_zero, List.set_cons_succ]))
  (refine late_takeA (i := 6) rfl hd hS ?_; clear hd; intro hd; (try simp only [Act.put, List.getElem_toArray, List.getElem_cons_succ, List.getElem_cons_zero, List.setIfInBounds_toArray, List.set_cons_zero, List.set_cons_succ]))
  (refine late_takeA (i := 7) rfl hd hS ?_; clear hd; intro hd; (try simp only [Act.put, List.getElem_toArray, List.getElem_cons_succ, List.getElem_cons_zero, List.setIfInBounds_toArray, List.set_cons_zero, List.set_cons_succ]))
  (refine late_takeA (i := 8) rfl hd hS ?_; clear hd; intro hd; (try simp only [Act.put, List.getElem_toArray, List.getElem_cons_succ, List.getElem_cons_zero, List.setIfInBounds_toArray, List.set_cons_zero, List.set_cons_succ]))
  have hint : Hid (∃ Fa Fm, QuS W3 Fa (ad a) side (B a) ∧ QuS W3 Fm q side m ∧ (∀ q, Fa q → O q = some (.mat a)) ∧ ClI W3 O p side nodes nts (.slice (some ⟨g, 0, none⟩) nts gc) ad B) := Lib.hid (by
    have hi3 := HX.out.1.upd (Upd.of_below (B2.out.trans (HB3.out.mono B2.out.size)) (fun _ => False)) (fun _ _ => id)
    obtain ⟨Fa, a1, a2⟩ := hi3.mats a ha
    obtain ⟨Fm, m1, -⟩ := HQ.out
    exact ⟨Fa, Fm, a1, m1.below HB3.out, a2, hi3⟩)
  obtain ⟨Fa, Fm, a1, m1, a2, i3⟩ := hint.out
  have hcon := qjoin_any W3 Fa Fm (ad a) q side (B a) m a1 m1
  have HI := Lib.hid (And.intro i3 a2)
  clear a1 m1 i3 a2 hint hS
  refine late_run hd (L := [9]) (by kernel_rfl) (by decide) (fun ix hix hd2 => ?_)
  clear hd
  have hd := hd2
  clear hd2
  simp only [List.mem_cons, List.not_mem_nil, or_false] at hix
  subst hix
  refine late_do (S := (fun W : World => W.cell? ⟨p, 1, none⟩ = some (.slice (some ⟨g, 0, none⟩) nts gc) ∧ W.cell? ⟨z, 0, none⟩ = some (.int .i64 (a : Int)) ∧ W.cell? ⟨g, a, none⟩ = some (.pointer (some ⟨ad a, 0, none⟩)))) (late := lateFrom 9) rfl rfl (fun K hK => ?_)
  go_simp
  refine hcon.mono ?_
  clear hcon
  rintro e W4 ⟨rfl, hto⟩
  have FIN := Lib.hid (show ClTo w (fun q => O q ≠ none) p side nodes nts (upM B a (joinQ (B a) m)) W4 from (ClTo.after (HX.out.2.trans ((B2.out.trans (HB3.out.mono B2.out.size)).mono HX.out.2.size)) (HI.out.1.turn HI.out.2 hto)))
  clear hto
  refine hK _ _ (fun h _ => absurd h (by decide)) ?_
  clear hK K
  (try simp only [Act.put, List.getElem_toArray, List.getElem_cons_succ, List.getElem_cons_zero, List.setIfInBounds_toArray, List.set_cons_zero, List.set_cons_succ])
  (refine late_take0 (i := 10) (v := ?_) rfl (by kernel_rfl) hd (fun _ _ d _ _ h => by cases d <;> exact h) (by first | with_reducible rfl | kernel_rfl) ?_ ?_; rotate_left; (focus (intro wS; go_simp; (try with_reducible rfl); done)); clear hd; intro hd; (try simp only [Act.put, List.getElem_toArray, List.getElem_cons_succ, List.getElem_cons_zero, List.setIfInBounds_toArray, List.set_cons_zero, List.set_cons_succ]))
  (refine late_take0 (i := 11) (v := ?_) rfl (by kernel_rfl) hd (fun _ _ d _ _ h => by cases d <;> exact h) (by first | with_reducible rfl | kernel_rfl) ?_ ?_; rotate_left; (focus (intro wS; go_simp; (try with_reducible rfl); done)); clear hd; intro hd; (try simp only [Act.put, List.getElem_toArray, List.getElem_cons_succ, List.getElem_cons_zero, List.setIfInBounds_toArray, List.set_cons_zero, List.set_cons_succ]))
  (refine late_take0 (i := 12) (v := ?_) rfl (by kernel_rfl) hd (fun _ _ d _ _ h => by cases d <;> exact h) (by first | with_reducible rfl | kernel_rfl) ?_ ?_; rotate_left; (focus (intro wS; go_simp; (try with_reducible rfl); done)); clear hd; intro hd; (try simp only [Act.put, List.getElem_toArray, List.getElem_cons_succ, List.getElem_cons_zero, List.setIfInBounds_toArray, List.set_cons_zero, List.set_cons_succ]))
  (refine late_take0 (i := 13) (v := ?_) rfl (by kernel_rfl) hd (fun _ _ d _ _ h => by cases d <;> exact h) (by first | with_reducible rfl | kernel_rfl) ?_ ?_; rotate_left; (focus (intro wS; go_simp; (try with_reducible rfl); done)); clear hd; intro hd; (try simp only [Act.put, List.getElem_toArray, List.getElem_cons_succ, List.getElem_cons_zero, List.setIfInBounds_toArray, List.set_cons_zero, List.set_cons_succ]))
  (refine late_take0 (i := 14) (v := ?_) rfl (by kernel_rfl) hd (fun _ _ d _ _ h => by cases d <;> exact h) (by first | with_reducible rfl | kernel_rfl) ?_ ?_; rotate_left; (focus (intro wS; go_simp; (try with_reducible rfl); done)); clear hd; intro hd; (try simp only [Act.put, List.getElem_toArray, List.getElem_cons_succ, List.getElem_cons_zero, List.setIfInBounds_toArray, List.set_cons_zero, List.set_cons_succ]))
  refine late_done (by kernel_rfl) ?_
  go_wp2
  go_ret
  exact GG.out _ _ ⟨m, HG.out, rfl, FIN.out⟩
end Go.Proofs.YtddffnonlmfhdaaGreatDoor
namespace Go.Proofs.YtddffnonlmfhdaaGreatDoor
open Go.RowKit Go.Shelf
/-- A production and where its body lies. -/
structure Pv where
  pr : Pr
  adr : Option Addr
  cap : Nat
def Pv.cells (v : Pv) : List Value := [.int .i64 v.pr.head, .slice v.adr v.pr.body.length v.cap]
def pvCells (l : List Pv) : List Value := l.flatMap Pv.cells
theorem pvCells_app (l : List Pv) (v : Pv) : pvCells (l ++ [v]) = pvCells l ++ v.cells := by simp [pvCells]
theorem pvCells_at {l : List Pv} {k : Nat} {v : Pv} (h : l[k]? = some v) : (pvCells l)[k * 2]? = some (.int .i64 v.pr.head) ∧ (pvCells l)[k * 2 + 1]? = some (.slice v.adr v.pr.body.length v.cap) :=
  ⟨flat_get Pv.cells 2 (fun _ => rfl) l k 0 v h (by omega), flat_get Pv.cells 2 (fun _ => rfl) l k 1 v h (by omega)⟩
theorem RowR.pv {w : World} {A : Option Addr} {l : List Pv} (h : RowR w A (pvCells l)) {k : Nat} {v : Pv} (hk : l[k]? = some v) :
    ∃ b o, A = some ⟨b, o, none⟩ ∧ w.cell? ⟨b, o + k * 2, none⟩ = some (.int .i64 v.pr.head) ∧ w.cell? ⟨b, o + k * 2 + 1, none⟩ = some (.slice v.adr v.pr.body.length v.cap) := by
  obtain ⟨b, o, rfl, c0⟩ := h _ _ (pvCells_at hk).1
  obtain ⟨b', o', e, c1⟩ := h _ _ (pvCells_at hk).2
  injection e with e
  injection e with e1 e2
  subst e1
  subst e2
  exact ⟨b, o, rfl, c0, c1⟩
/-- Productions as they lie in memory. -/
def PvR (w : World) (A : Option Addr) (l : List Pv) : Prop := RowR w A (pvCells l) ∧ ∀ v ∈ l, RowR w v.adr (syCells v.pr.body)
theorem PvR.below {w w' : World} {A : Option Addr} {l : List Pv} (h : PvR w A l) (hb : Below w.heap.size w w') : PvR w' A l := ⟨h.1.below3 hb, fun v hv => (h.2 v hv).below3 hb⟩

def uvC (uv : Nat → Value) (nts : Nat) : List Value := (List.range nts).map uv
theorem uvC_at {uv : Nat → Value} {nts k : Nat} (h : k < nts) : (uvC uv nts)[k]? = some (uv k) := by simp [uvC, h]
structure UsI (w : World) (U : Nat → Option (Option Nat)) (u nts : Nat) (uv : Nat → Value) (Q : Nat → List Pv) : Prop where
  blk : Blk w u 48 (uvC uv nts).toArray
  rows : ∀ k, k < nts → w.ownsRow 0 71 2 (uv k) (Q k).length (pvCells (Q k))
  ou : U u = some none
  our : ∀ k, k < nts → ∀ q, (uv k).ownBlock = some q → U q = some (some k)
  lt : ∀ q, U q ≠ none → q < w.heap.size
theorem UsI.upd {w w' : World} {U : Nat → Option (Option Nat)} {u nts : Nat} {uv : Nat → Value} {Q : Nat → List Pv} {G : Nat → Prop} (h : UsI w U u nts uv Q) (hu : Upd G w w') (hd : ∀ q, U q ≠ none → ¬ G q) : UsI w' U u nts uv Q := by
  have no : ∀ k t, U k = some t → ¬ G k := fun k t e => hd k (by simp [e])
  exact ⟨h.blk.upd hu (no _ _ h.ou), fun k hk => ownsRow_upd (h.rows k hk) hu (fun q hq => no _ _ (h.our k hk q hq)), h.ou, h.our, fun q hq => Nat.lt_of_lt_of_le (h.lt q hq) hu.size⟩
structure FilS (w V : World) (F : Nat → Prop) (p n nts pw pm u : Nat) (X : Nat → Prop) (B : Mats) (L : List Int) (Q : Nat → List Pv) (FC : Nat → Prop) (lv : Value) (U : Nat → Option (Option Nat)) (uv : Nat → Value) : Prop where
  cl : ClS V FC p n n nts B
  wk : WkI V pw pm nts lv L
  us : UsI V U u nts uv Q
  up : Upd F w V
  c1 : ∀ k, FC k → F k ∨ w.heap.size ≤ k
  c2 : ∀ k, WkF pw pm lv k → w.heap.size ≤ k
  c3 : ∀ k, U k ≠ none → w.heap.size ≤ k
  d12 : ∀ k, FC k → ¬ WkF pw pm lv k
  d13 : ∀ k, FC k → U k = none
  d23 : ∀ k, WkF pw pm lv k → U k = none
  x0 : ∀ k, X k → k < V.heap.size
  x1 : ∀ k, X k → ¬ FC k
  x2 : ∀ k, X k → ¬ WkF pw pm lv k
  x3 : ∀ k, X k → U k = none
/-- X: blocks beside all these. -/
def FilM (w V : World) (F : Nat → Prop) (p n nts pw pm u : Nat) (X : Nat → Prop) (B : Mats) (L : List Int) (Q : Nat → List Pv) : Prop := ∃ FC lv U uv, FilS w V F p n nts pw pm u X B L Q FC lv U uv
theorem WkI.lts {w : World} {p m nts : Nat} {lv : Value} {L : List Int} (h : WkI w p m nts lv L) : ∀ k, WkF p m lv k → k < w.heap.size := fun k hk => by
  rcases hk with e | e | e
  · subst e; exact h.ch.1.lt
  · subst e; exact h.mks.lt
  · exact (h.ch.2.lt k e).2
theorem cell_keep {w w' : World} (hb : Below w.heap.size w w') {q : Addr} {v : Value} (hc : w.cell? q = some v) : w'.cell? q = some v := by
  rw [hb.cell (World.block_lt_of_cell? w _ hc)]; exact hc
def NoX (_ : Nat) : Prop := False
section
variable {w V V' : World} {F X : Nat → Prop} {p n nts pw pm u : Nat} {B : Mats} {L : List Int} {Q : Nat → List Pv}
theorem FilM.below (h : FilM w V F p n nts pw pm u X B L Q) (hb : Below V.heap.size V V') : FilM w V' F p n nts pw pm u X B L Q := by
  obtain ⟨FC, lv, U, uv, h⟩ := h
  have hu := Upd.of_below hb (fun _ => False)
  exact ⟨FC, lv, U, uv, h.cl.below hb, h.wk.upd hu id id (fun _ _ => id), h.us.upd hu (fun _ _ => id), h.up.trans hu (fun _ h => h.elim), h.c1, h.c2, h.c3, h.d12, h.d13, h.d23, fun k hk => Nat.lt_of_lt_of_le (h.x0 k hk) hb.size, h.x1, h.x2, h.x3⟩
/-- A new block beside it. -/
theorem FilM.box (h : FilM w V F p n nts pw pm u NoX B L Q) (o : Obj) : FilM w (V.alloc o) F p n nts pw pm u (fun k => k = V.heap.size) B L Q := by
  have h1 := h.below (V' := V.alloc o) ((Below.refl _ _).alloc (Nat.le_refl _) _)
  obtain ⟨FC, lv, U, uv, h⟩ := h
  have hu := Upd.of_below ((Below.refl V.heap.size V).alloc (Nat.le_refl _) o) (fun _ => False)
  refine ⟨FC, lv, U, uv, h.cl.upd hu (fun _ _ => id), h.wk.upd hu id id (fun _ _ => id), h.us.upd hu (fun _ _ => id), h.up.trans hu (fun _ h => h.elim), h.c1, h.c2, h.c3, h.d12, h.d13, h.d23, fun k hk => by subst hk; simp, fun k hk e => ?_, fun k hk e => ?_, fun k hk => ?_⟩
  · have := h.cl.lt k e; omega
  · have := h.wk.lts k e; omega
  · cases hU : U k with
    | none => rfl
    | some t => have := h.us.lt k (by rw [hU]; exact nofun); omega
theorem FilM.bare (h : FilM w V F p n nts pw pm u X B L Q) : FilM w V F p n nts pw pm u NoX B L Q := by
  obtain ⟨FC, lv, U, uv, h⟩ := h
  exact ⟨FC, lv, U, uv, h.cl, h.wk, h.us, h.up, h.c1, h.c2, h.c3, h.d12, h.d13, h.d23, fun _ hk => hk.elim, fun _ hk => hk.elim, fun _ hk => hk.elim, fun _ hk => hk.elim⟩
/-- The closure turns. -/
theorem FilM.turn (h : FilM w V F p n nts pw pm u X B L Q) : ∃ FC, ClS V FC p n n nts B ∧ ∀ B' V', ClTo V FC p n n nts B' V' → FilM w V' F p n nts pw pm u X B' L Q ∧ (∀ o, V'.cell? ⟨u, o, none⟩ = V.cell? ⟨u, o, none⟩) ∧ ∀ b o, X b → V'.cell? ⟨b, o, none⟩ = V.cell? ⟨b, o, none⟩ := by
  obtain ⟨FC, lv, U, uv, h⟩ := h
  refine ⟨FC, h.cl, fun B' V' ⟨F', h1, h2, h3⟩ => ⟨⟨F', lv, U, uv, h1, h.wk.upd h2 (fun e => h.d12 _ e (.inl rfl)) (fun e => h.d12 _ e (.inr (.inl rfl))) (fun k hk e => h.d12 _ e (.inr (.inr hk))), h.us.upd h2 (fun q hq e => hq (h.d13 q e)), h.up.trans h2 h.c1, fun k hk => ?_, h.c2, h.c3, fun k hk e => ?_, fun k hk => ?_, h.d23, fun k hk => Nat.lt_of_lt_of_le (h.x0 k hk) h2.size, fun k hk e => ?_, h.x2, h.x3⟩,
    fun o => h2.cell (p := ⟨u, o, none⟩) h.us.blk.lt (fun e => by have := h.d13 _ e; rw [h.us.ou] at this; cases this), fun b o hb => h2.cell (p := ⟨b, o, none⟩) (h.x0 b hb) (h.x1 b hb)⟩⟩
  · rcases h3 k hk with h4 | h4
    · exact h.c1 k h4
    · exact .inr (Nat.le_trans h.up.size h4)
  · rcases h3 k hk with h4 | h4
    · exact h.d12 k h4 e
    · have := h.wk.lts k e; omega
  · rcases h3 k hk with h4 | h4
    · exact h.d13 k h4
    · cases hU : U k with
      | none => rfl
      | some t => have := h.us.lt k (by rw [hU]; exact nofun); omega
  · rcases h3 k e with h4 | h4
    · exact h.x1 k hk h4
    · have := h.x0 k hk; omega
/-- The work list turns. -/
theorem FilM.work (h : FilM w V F p n nts pw pm u X B L Q) : ∃ lv, WkI V pw pm nts lv L ∧ ∀ C V', WkT V pw pm nts lv C V' → (∃ L', C L' ∧ FilM w V' F p n nts pw pm u X B L' Q) ∧ (∀ o, V'.cell? ⟨u, o, none⟩ = V.cell? ⟨u, o, none⟩) ∧ ∀ b o, X b → V'.cell? ⟨b, o, none⟩ = V.cell? ⟨b, o, none⟩ := by
  obtain ⟨FC, lv, U, uv, h⟩ := h
  refine ⟨lv, h.wk, fun C V' ⟨lv', L', h1, h2, h3, h4⟩ => ⟨⟨L', h2, FC, lv', U, uv, h.cl.upd h3 h.d12, h1, h.us.upd h3 (fun q hq e => hq (h.d23 q e)), h.up.trans h3 (fun k hk => .inr (h.c2 k hk)), h.c1, fun k hk => ?_, h.c3, fun k hk e => ?_, h.d13, fun k hk => ?_, fun k hk => Nat.lt_of_lt_of_le (h.x0 k hk) h3.size, h.x1, fun k hk e => ?_, h.x3⟩,
    fun o => h3.cell (p := ⟨u, o, none⟩) h.us.blk.lt (fun e => by have := h.d23 _ e; rw [h.us.ou] at this; cases this), fun b o hb => h3.cell (p := ⟨b, o, none⟩) (h.x0 b hb) (h.x2 b hb)⟩⟩
  · rcases hk with e | e | e
    · exact h.c2 k (.inl e)
    · exact h.c2 k (.inr (.inl e))
    · rcases h4 k e with e | e
      · exact h.c2 k (.inr (.inr e))
      · exact Nat.le_trans h.up.size e
  · rcases e with e | e | e
    · exact h.d12 k hk (.inl e)
    · exact h.d12 k hk (.inr (.inl e))
    · rcases h4 k e with e | e
      · exact h.d12 k hk (.inr (.inr e))
      · have := h.cl.lt k hk; omega
  · rcases hk with e | e | e
    · exact h.d23 k (.inl e)
    · exact h.d23 k (.inr (.inl e))
    · rcases h4 k e with e | e
      · exact h.d23 k (.inr (.inr e))
      · cases hU : U k with
        | none => rfl
        | some t => have := h.us.lt k (by rw [hU]; exact nofun); omega
  · rcases e with e | e | e
    · exact h.x2 k hk (.inl e)
    · exact h.x2 k hk (.inr (.inl e))
    · rcases h4 k e with e | e
      · exact h.x2 k hk (.inr (.inr e))
      · have := h.x0 k hk; omega
/-- A use read. -/
theorem FilM.use (h : FilM w V F p n nts pw pm u X B L Q) {k : Nat} (hk : k < nts) : ∃ A c, V.cell? ⟨u, k, none⟩ = some (.slice A (Q k).length c) ∧ V.frozen? ⟨u, k, none⟩ = false ∧ RowR V A (pvCells (Q k)) := by
  obtain ⟨FC, lv, U, uv, h⟩ := h
  have own := h.us.rows k hk
  obtain ⟨A, c, e, -, -⟩ := own_form own
  rw [e] at own
  refine ⟨A, c, ?_, h.us.blk.frozen k, RowR.of_own own⟩
  rw [h.us.blk.cell k, List.getElem?_toArray, uvC_at hk, e]
theorem info_prod : (Tryz.prog.info? 71).map (fun i => (i.zero, i.size, i.bytes)) = some (some (.agg #[.int .i64 0, .slice none 0 0]), 2, 32) := by kernel_rfl
set_option maxRecDepth 20000 in
/-- One comes to a number's uses. -/
theorem FilM.push (h : FilM w V F p n nts pw pm u X B L Q) {k : Nat} (hk : k < nts) (v : Pv) (hl : (Q k).length ≤ 1000000) : ∃ A c A' c' W2, V.cell? ⟨u, k, none⟩ = some (.slice A (Q k).length c) ∧
    (Builtin.append_ #[48, 48] 48 #[.slice A (Q k).length c, .slice (some ⟨V.heap.size, 0, none⟩) 1 1]).run Tryz.prog (V.alloc (.cells #[.int .i64 v.pr.head, .slice v.adr v.pr.body.length v.cap] 71)) = .ok (.slice A' ((Q k).length + 1) c') W2 ∧
    W2.cell? ⟨u, k, none⟩ = some (.slice A (Q k).length c) ∧ W2.frozen? ⟨u, k, none⟩ = false ∧ Upd (fun q => w.heap.size ≤ q) V W2 ∧ (∀ b o, X b → W2.cell? ⟨b, o, none⟩ = V.cell? ⟨b, o, none⟩) ∧ FilM w (W2.setCell ⟨u, k, none⟩ (.slice A' ((Q k).length + 1) c')) F p n nts pw pm u X B L (fun q => if q = k then Q k ++ [v] else Q q) ∧ ∀ b o, X b → (W2.setCell ⟨u, k, none⟩ (.slice A' ((Q k).length + 1) c')).cell? ⟨b, o, none⟩ = V.cell? ⟨b, o, none⟩ := by
  obtain ⟨FC, lv, U, uv, h⟩ := h
  have own := h.us.rows k hk
  obtain ⟨A, c, e, -, -⟩ := own_form own
  have q0 : V.cell? ⟨u, k, none⟩ = some (.slice A (Q k).length c) := by rw [h.us.blk.cell k, List.getElem?_toArray, uvC_at hk, e]
  obtain ⟨v2, W2, happ, own2, u2, p2⟩ := push_own V 0 48 71 2 32 _ Tryz.underlying48 info_prod rfl (by decide) (uv k) (Q k).length (pvCells (Q k)) own v.cells 1 rfl (fun x hx => by
    rcases List.mem_cons.1 hx with rfl | hx
    · rfl
    · rw [List.mem_singleton.1 hx]; rfl) (by omega) (by unfold maxLen; omega) (Nat.zero_le _)
  obtain ⟨A', c', rfl, -, -⟩ := own_form own2
  have hn0 : ∀ q, (uv k).ownBlock = some q → U q = some (some k) := h.us.our k hk
  have hb2 := h.us.blk.upd u2 (fun e => by have := hn0 _ e; rw [h.us.ou] at this; cases this)
  have hu3 : Upd (fun q => (uv k).ownBlock = some q ∨ q = u) V (W2.setCell ⟨u, k, none⟩ (.slice A' ((Q k).length + 1) c')) := (u2.mono (fun q _ e => .inl e)).setCell (p := ⟨u, k, none⟩) (.inl (.inr rfl)) _
  have hUF : ∀ q, (uv k).ownBlock = some q ∨ q = u → U q ≠ none := fun q hq => hq.elim (fun e => by rw [hn0 q e]; exact nofun) (fun e => by rw [e, h.us.ou]; exact nofun)
  have hz := hu3.size
  have hwz : w.heap.size ≤ V.heap.size := h.up.size
  have hult : u < V.heap.size := h.us.blk.lt
  have ho2 := own2.lt
  refine ⟨A, c, A', c', W2, q0, by rw [← e]; exact happ, ?_, hb2.frozen k, u2.mono (fun q _ e => h.c3 q (hUF q (.inl e))), fun b o hb => u2.cell (p := ⟨b, o, none⟩) (h.x0 b hb) (fun e => hUF b (.inl e) (h.x3 b hb)), ⟨FC, lv, fun q => if q < V.heap.size then U q else if (Value.slice A' ((Q k).length + 1) c').ownBlock = some q then some (some k) else none, fun q => if q = k then .slice A' ((Q k).length + 1) c' else uv q, ?_, ?_, ?_, h.up.trans hu3 (fun q hq => .inr (h.c3 q (hUF q hq))), h.c1, h.c2, ?_, h.d12, ?_, ?_, fun b hb => Nat.lt_of_lt_of_le (h.x0 b hb) hu3.size, h.x1, h.x2, ?_⟩, fun b o hb => hu3.cell (p := ⟨b, o, none⟩) (h.x0 b hb) (fun e => hUF b e (h.x3 b hb))⟩
  · rw [hb2.cell k, List.getElem?_toArray, uvC_at hk, e]
  · exact h.cl.upd hu3 (fun q hq e => hUF q e (h.d13 q hq))
  · exact h.wk.upd hu3 (fun e => hUF _ e (h.d23 _ (.inl rfl))) (fun e => hUF _ e (h.d23 _ (.inr (.inl rfl)))) (fun q hq e => hUF q e (h.d23 q (.inr (.inr hq))))
  · have hbk := hb2.set k (.slice A' ((Q k).length + 1) c')
    refine ⟨?_, fun j hj => ?_, ?_, fun j hj q hq => ?_, fun q hq => ?_⟩
    · have e2 : (uvC uv nts).toArray.setIfInBounds k (.slice A' ((Q k).length + 1) c') = (uvC (fun q => if q = k then .slice A' ((Q k).length + 1) c' else uv q) nts).toArray := by
        rw [List.setIfInBounds_toArray]
        congr 1
        apply List.ext_getElem?
        intro i
        rw [List.getElem?_set]
        by_cases hi : k = i
        · subst hi
          rw [if_pos rfl, if_pos (by simpa [uvC] using hk), uvC_at hk, if_pos rfl]
        · rw [if_neg hi]
          by_cases hl : i < nts
          · rw [uvC_at hl, uvC_at hl, if_neg (fun e => hi e.symm)]
          · simp [uvC, hl]
      rw [e2] at hbk
      exact hbk
    · by_cases ej : j = k
      · subst ej
        simp only [if_true]
        rw [List.length_append, pvCells_app]
        exact ownsRow_upd own2 ((Upd.refl (fun q => q = u) W2).setCell (p := ⟨u, j, none⟩) (.inl rfl) (.slice A' ((Q j).length + 1) c')) (fun q hq e => by
          subst e
          rcases p2 q hq with h1 | h1
          · have := hn0 _ h1; rw [h.us.ou] at this; cases this
          · omega)
      · rw [if_neg ej, if_neg ej]
        exact ownsRow_upd (h.us.rows j hj) hu3 (fun q hq e => by
          have e1 := h.us.our j hj q hq
          rcases e with e | e
          · rw [hn0 q e] at e1
            injection e1 with e1
            injection e1 with e1
            exact ej e1.symm
          · rw [e, h.us.ou] at e1; cases e1)
    · show (if u < V.heap.size then U u else _) = _
      rw [if_pos hult]; exact h.us.ou
    · show (if q < V.heap.size then U q else _) = _
      by_cases ej : j = k
      · subst ej
        rw [if_pos rfl] at hq
        by_cases hl : q < V.heap.size
        · rw [if_pos hl]
          rcases p2 q hq with h1 | h1
          · exact hn0 q h1
          · omega
        · rw [if_neg hl, if_pos hq]
      · rw [if_neg ej] at hq
        have e1 := h.us.our j hj q hq
        rw [if_pos (h.us.lt q (by rw [e1]; exact nofun))]
        exact e1
    · by_cases hl : q < V.heap.size
      · omega
      · have hq : (if q < V.heap.size then U q else if (Value.slice A' ((Q k).length + 1) c').ownBlock = some q then some (some k) else none) ≠ none := hq
        rw [if_neg hl] at hq
        by_cases e1 : (Value.slice A' ((Q k).length + 1) c').ownBlock = some q
        · have := (ho2 q e1).2
          simpa [World.setCell] using this
        · rw [if_neg e1] at hq
          exact absurd rfl hq
  · intro q hq
    by_cases hl : q < V.heap.size
    · have hq : (if q < V.heap.size then U q else _) ≠ none := hq
      rw [if_pos hl] at hq
      exact h.c3 q hq
    · omega
  · intro q hq
    have hl := h.cl.lt q hq
    show (if q < V.heap.size then U q else _) = _
    rw [if_pos hl]; exact h.d13 q hq
  · intro q hq
    have hl := h.wk.lts q hq
    show (if q < V.heap.size then U q else _) = _
    rw [if_pos hl]; exact h.d23 q hq
  · intro q hq
    have hl := h.x0 q hq
    show (if q < V.heap.size then U q else _) = _
    rw [if_pos hl]; exact h.x3 q hq
end
/-- One is taken out of the work list, its mark is struck. -/
theorem WkI.pop {V V1 : World} {pw pm nts : Nat} {lv : Value} {L : List Int} {x : Int} (h : WkI V pw pm nts lv L) (ht : ChT V pw lv (.slice (some ⟨pm, 0, none⟩) nts nts) (fun L' => L.Perm (x :: L')) V1) :
    ∃ k : Nat, x = (k : Int) ∧ k < nts ∧ V1.cell? ⟨pw, 1, none⟩ = some (.slice (some ⟨pm, 0, none⟩) nts nts) ∧ (∃ b, V1.cell? ⟨pm, k, none⟩ = some (.bool b)) ∧ V1.frozen? ⟨pm, k, none⟩ = false ∧ WkT V pw pm nts lv (fun L' => L.Perm (x :: L')) (V1.setCell ⟨pm, k, none⟩ (.bool false)) := by
  obtain ⟨lv', L', h1, h2, h3, h4, h5⟩ := ht
  have hx := h.inL x (h2.mem_iff.2 (List.mem_cons_self ..))
  obtain ⟨k, rfl⟩ : ∃ k : Nat, x = (k : Int) := ⟨x.toNat, by omega⟩
  have hk : k < nts := by omega
  have hmb := h.mks.upd h3 (fun e => e.elim h.ne (fun e => h.nm _ e rfl))
  have hnm' : ∀ q, lv'.ownBlock = some q → ¬ q = pm := fun q hq e => by
    rcases h4 q hq with h6 | h6
    · exact h.nm q h6 e
    · have := h.mks.lt; subst e; omega
  have hnd := List.nodup_cons.1 (h2.nodup_iff.1 h.nd)
  refine ⟨k, rfl, hk, h1.1.cell 1, ⟨_, by rw [hmb.cell k, List.getElem?_toArray]; exact mkC_at hk⟩, hmb.frozen k, lv', L', ?_, h2, ?_, h4⟩
  · have us := (Upd.refl (fun q => q = pm) V1).setCell (p := ⟨pm, k, none⟩) (.inl rfl) (.bool false)
    refine ⟨h1.upd us (fun e => h.ne e.symm) hnm', ?_, h5, hnm', h.ne, fun y hy => h.inL y (h2.mem_iff.2 (List.mem_cons_of_mem _ hy)), hnd.2⟩
    have hb := hmb.set k (.bool false)
    rw [List.setIfInBounds_toArray, mkC_set false (L' := L') (fun y hy => by rw [h2.mem_iff, List.mem_cons]; exact ⟨.inr, fun h => h.resolve_left hy⟩) (decide_eq_false hnd.1)] at hb
    exact hb
  · exact (h3.mono (F' := WkF pw pm lv) (fun q _ hq => hq.imp id .inr)).setCell (p := ⟨pm, k, none⟩) (.inl (.inr (.inl rfl))) _
end Go.Proofs.YtddffnonlmfhdaaGreatDoor
