/- Edges: a graph as a value in memory; lists that rise; names. -/
import Derived.Test.YthmkgnifcbnkpaaGreatEdC
namespace Go.Proofs.YthmkgnifcbnkpaaGreat
open Go.RowKit

def txtCells (N : List Txt) : List Value := N.map Value.string
def edCells (E : List Ed) : List Value := E.flatMap Ed.cells
theorem txtCells_len (N : List Txt) : (txtCells N).length = N.length * 1 := by simp [txtCells]
theorem edCells_len (E : List Ed) : (edCells E).length = E.length * 3 := flat_len Ed.cells 3 (fun _ => rfl) E
theorem one_txt (N : List Txt) : ∀ u ∈ txtCells N, u.oneCell' = true := by
  intro u hu
  obtain ⟨f, _, rfl⟩ := List.mem_map.1 hu
  rfl
theorem one_ed (E : List Ed) : ∀ u ∈ edCells E, u.oneCell' = true := by
  intro u hu
  obtain ⟨f, _, hf⟩ := List.mem_flatMap.1 hu
  simp [Ed.cells] at hf
  rcases hf with rfl | rfl | rfl <;> rfl
/-- A text none too long. -/
def TxtOk (s : Txt) : Prop := s.size ≤ 9223372036854775807
def EdOk (x : Ed) : Prop := TxtOk x.fr ∧ TxtOk x.lb ∧ TxtOk x.to
theorem RowR.txt {w : World} {A : Option Addr} {N : List Txt} (h : RowR w A (txtCells N)) {k : Nat} {s : Txt} (hk : N[k]? = some s) :
    ∃ b o, A = some ⟨b, o, none⟩ ∧ w.cell? ⟨b, o + k, none⟩ = some (.string s) := h k (.string s) (by simp [txtCells, hk])
theorem RowR.ed {w : World} {B : Option Addr} {E : List Ed} (h : RowR w B (edCells E)) {k : Nat} {x : Ed} (hk : E[k]? = some x) :
    ∃ b o, B = some ⟨b, o, none⟩ ∧ w.cell? ⟨b, o + k * 3, none⟩ = some (.string x.fr) ∧ w.cell? ⟨b, o + k * 3 + 1, none⟩ = some (.string x.lb) ∧ w.cell? ⟨b, o + k * 3 + 2, none⟩ = some (.string x.to) := by
  have hg := fun j (hj : j < 3) => flat_get Ed.cells 3 (fun _ => rfl) E k j x hk hj
  obtain ⟨b, o, rfl, h0⟩ := h _ _ (hg 0 (by omega))
  obtain ⟨b1, o1, e1, h1⟩ := h _ _ (hg 1 (by omega))
  obtain ⟨b2, o2, e2, h2⟩ := h _ _ (hg 2 (by omega))
  injection e1 with e1; injection e1 with e1 e1'
  injection e2 with e2; injection e2 with e2 e2'
  subst e1; subst e1'; subst e2; subst e2'
  exact ⟨_, _, rfl, h0, h1, h2⟩

/-- A graph is none too great for a machine. -/
structure FitG (N : List Txt) (E : List Ed) : Prop where
  n : N.length * 16 ≤ 140737488355328
  e : E.length * 48 ≤ 140737488355328
  tn : ∀ s ∈ N, TxtOk s
  te : ∀ x ∈ E, EdOk x
/-- Both lists of a graph, where they lie. -/
structure ForG (w : World) (A : Option Addr) (c : Nat) (B : Option Addr) (d : Nat) (N : List Txt) (E : List Ed) : Prop where
  rn : RowR w A (txtCells N)
  re : RowR w B (edCells E)
  hc : N.length ≤ c
  hd : E.length ≤ d
  fit : FitG N E
theorem ForG.below {w w' : World} {A B : Option Addr} {c d : Nat} {N : List Txt} {E : List Ed} (h : ForG w A c B d N E) (hb : Below w.heap.size w w') : ForG w' A c B d N E := ⟨h.rn.below hb, h.re.below hb, h.hc, h.hd, h.fit⟩
def twoV (A : Option Addr) (n c : Nat) (B : Option Addr) (m d : Nat) : Value := .agg #[.slice A n c, .slice B m d]

/-! Lists that rise. -/
def upB {α : Type} (lt : α → α → Bool) : List α → Bool
  | [] => true
  | [_] => true
  | a :: b :: l => lt a b && upB lt (b :: l)
theorem upB_iff {α : Type} {lt : α → α → Bool} : ∀ (l : List α), upB lt l = true ↔ ∀ i a b, l[i]? = some a → l[i + 1]? = some b → lt a b = true
  | [] => by simp [upB]
  | [x] => by simp [upB]
  | x :: y :: l => by
    have ih := upB_iff (lt := lt) (y :: l)
    rw [upB, Bool.and_eq_true, ih]
    constructor
    · rintro ⟨h1, h2⟩ i a b ha hb
      cases i with
      | zero =>
        simp at ha hb
        subst ha; subst hb
        exact h1
      | succ i => exact h2 i a b (by simpa using ha) (by simpa using hb)
    · intro h
      exact ⟨h 0 x y rfl rfl, fun i a b ha hb => h (i + 1) a b (by simpa using ha) (by simpa using hb)⟩
theorem rises_of_up {α : Type} {lt : α → α → Bool} (hs : Sto lt) : ∀ {l : List α}, upB lt l = true → Rises lt l
  | [], _ => .nil
  | [_], _ => List.pairwise_singleton _ _
  | x :: y :: l, h => by
    rw [upB, Bool.and_eq_true] at h
    have ih := rises_of_up hs h.2
    refine List.pairwise_cons.2 ⟨fun z hz => ?_, ih⟩
    rcases List.mem_cons.1 hz with rfl | hz
    · exact h.1
    · exact hs.tr _ _ _ h.1 ((List.pairwise_cons.1 ih).1 z hz)
theorem up_of_rises {α : Type} {lt : α → α → Bool} : ∀ {l : List α}, Rises lt l → upB lt l = true
  | [], _ => rfl
  | [_], _ => rfl
  | x :: y :: l, h => by
    obtain ⟨h1, h2⟩ := List.pairwise_cons.1 h
    rw [upB, h1 y (by simp), up_of_rises h2]
    rfl
theorem up_false {α : Type} {lt : α → α → Bool} {l : List α} {i : Nat} {a b : α} (ha : l[i]? = some a) (hb : l[i + 1]? = some b) (h : lt a b = false) : upB lt l = false := by
  cases e : upB lt l
  · rfl
  · rw [(upB_iff l).1 e i a b ha hb] at h
    cases h

set_option maxHeartbeats 2000000 in
set_option maxRecDepth 100000 in
theorem rising_txt (w : World) (A : Option Addr) (c : Nat) (N : List Txt) (h : RowR w A (txtCells N)) (_hc : N.length ≤ c) (hn : N.length * 16 ≤ 140737488355328) :
    Calls Tryz.prog 90 #[.slice A N.length c, .func (.func 83) #[] #[]] w (Sam w (.bool (upB ltT N))) := by
  have HH := Lib.hid h
  clear h
  go_enter Tryz.func90, Tryz.ntmps90
  go_wp2_with fail
  go_loopw [5] (fun i wr => ∃ k : Nat, k ≤ N.length ∧ i = .int .i64 ((k : Int) + 1) ∧ Hid (Below w.heap.size w wr) ∧ Hid (∀ j, j < k → ∀ a b, N[j]? = some a → N[j + 1]? = some b → ltT a b = true)) (fun i _ => N.length + 1 - (intOf i).toNat)
  case atStart => exact ⟨0, Nat.zero_le _, rfl, Lib.hid (Below.refl _ _), Lib.hid (fun j hj => by omega)⟩
  case round =>
    obtain ⟨k, hk, rfl, hb, hall⟩ := hrel
    have hkw : IntKind.i64.wrap (k : Int) = (k : Int) := IntWalk.i64_in _ (by omega)
    have hkw2 : IntKind.i64.wrap ((k : Int) + 1 + 1) = (k : Int) + 1 + 1 := IntWalk.i64_in _ (by omega)
    by_cases hlt : k + 1 < N.length
    · have hltI : (k : Int) + 1 < (N.length : Int) := by omega
      have hltI2 : (k : Int) < (N.length : Int) := by omega
      have ht : ((k : Int) + 1).toNat = k + 1 := by omega
      have hn0 : (0 : Int) ≤ (k : Int) + 1 := by omega
      have h0 := HH.out.below hb.out
      obtain ⟨x, hx⟩ : ∃ x, N[k]? = some x := ⟨N[k], List.getElem?_eq_getElem _⟩
      obtain ⟨y, hy⟩ : ∃ y, N[k + 1]? = some y := ⟨N[k + 1], List.getElem?_eq_getElem _⟩
      obtain ⟨ab, ao, rfl, x0⟩ := h0.txt hx
      obtain ⟨_, _, e1, y0⟩ := h0.txt hy
      injection e1 with e1; injection e1 with e1 e2; subst e1; subst e2
      have HXY := Lib.hid (And.intro hx hy)
      clear h0 hx hy
      have b2' : Below wr.heap.size wr wr.drew := (Below.refl _ _).drew
      clear b2'
      go_upto_region 4 with (fail)
      refine wp_region_ord (fun w' => w'.cell? ⟨ab, ao + k, none⟩ = some (.string x) ∧ w'.cell? ⟨ab, ao + (k + 1), none⟩ = some (.string y)) 12 [(0, true), (1, true), (2, true), (3, true), (4, true), (5, true), (6, true), (7, true), (8, true), (9, true), (10, false), (11, true)] (by kernel_rfl) (by kernel_rfl) (fun _ _ d _ _ h => by cases d <;> exact h) ⟨x0, y0⟩ ?_
      iterate 10 (refine ord_take (v := ?_) rfl (by first | with_reducible rfl | kernel_rfl) ?_ ?_; rotate_left; (focus (intro wS hS; (try dsimp only at hS); go_split_ands; go_simp; (try with_reducible rfl); done)); (try simp only [Act.put, List.getElem_toArray, List.getElem_cons_succ, List.getElem_cons_zero, List.setIfInBounds_toArray, List.set_cons_zero, List.set_cons_succ]))
      refine ord_do rfl rfl (fun K hK => ?_)
      go_simp
      refine (compare_any x y _).mono ?_
      rintro e w2 ⟨rfl, rfl⟩
      have b2 : Below wr.heap.size wr wr.drew := (Below.refl _ _).drew
      have hcmp := cmpT_lt x y
      obtain ⟨v, hv⟩ : ∃ v, cmpT x y = v := ⟨_, rfl⟩
      rw [hv] at hcmp ⊢
      clear hv
      refine hK _ _ (fun _ => ⟨x0, y0⟩) ?_
      clear hK K
      (try simp only [Act.put, List.getElem_toArray, List.getElem_cons_succ, List.getElem_cons_zero, List.setIfInBounds_toArray, List.set_cons_zero, List.set_cons_succ])
      have HB := Lib.hid (hb.out.trans (b2.mono hb.out.size))
      have HC := Lib.hid hcmp
      clear hcmp b2
      by_cases hv : v < 0
      · have hv1 : decide (0 ≤ v) = false := by simpa using hv
        have hlt2 : ltT x y = true := by rw [← HC.out]; simpa using hv
        have HL := Lib.hid hlt2
        clear hlt2
        (refine ord_take (v := ?_) rfl (by first | with_reducible rfl | kernel_rfl) ?_ ?_; rotate_left; (focus (intro wS hS; (try dsimp only at hS); go_split_ands; go_simp; (try with_reducible rfl); done)); (try simp only [Act.put, List.getElem_toArray, List.getElem_cons_succ, List.getElem_cons_zero, List.setIfInBounds_toArray, List.set_cons_zero, List.set_cons_succ]))
        refine ord_done ?_
        go_wp2
        go_roundw
        case rel => exact ⟨k + 1, by omega, by go_num, HB, Lib.hid (fun j hj a b ha hb => by
          rcases Nat.lt_succ_iff_lt_or_eq.1 hj with h | rfl
          · exact hall.out j h a b ha hb
          · rw [HXY.out.1] at ha
            rw [HXY.out.2] at hb
            injection ha with ha
            injection hb with hb
            subst ha; subst hb
            exact HL.out)⟩
        case measure => simp [intOf]; omega
      · have hv1 : decide (0 ≤ v) = true := by simpa using hv
        have hlt2 : ltT x y = false := by rw [← HC.out]; simpa using hv
        have HL := Lib.hid hlt2
        clear hlt2
        (refine ord_take (v := ?_) rfl (by first | with_reducible rfl | kernel_rfl) ?_ ?_; rotate_left; (focus (intro wS hS; (try dsimp only at hS); go_split_ands; go_simp; (try with_reducible rfl); done)); (try simp only [Act.put, List.getElem_toArray, List.getElem_cons_succ, List.getElem_cons_zero, List.setIfInBounds_toArray, List.set_cons_zero, List.set_cons_succ]))
        refine ord_done ?_
        go_wp2
        go_ret
        exact ⟨retb (up_false HXY.out.1 HXY.out.2 HL.out).symm, HB.out⟩
    · have hgeI : (N.length : Int) ≤ (k : Int) + 1 := by omega
      go_wp2
      go_ret
      refine ⟨retb ?_, hb.out⟩
      refine ((upB_iff N).2 (fun i a b ha hb' => ?_)).symm
      have := (List.getElem?_eq_some_iff.1 hb').1
      exact hall.out i (by omega) a b ha hb'

set_option maxHeartbeats 2000000 in
set_option maxRecDepth 100000 in
theorem rising_ed (w : World) (A : Option Addr) (c : Nat) (N : List Ed) (h : RowR w A (edCells N)) (_hc : N.length ≤ c) (hn : N.length * 48 ≤ 140737488355328) :
    Calls Tryz.prog 91 #[.slice A N.length c, .func (.func 85) #[] #[]] w (Sam w (.bool (upB ltE N))) := by
  have HH := Lib.hid h
  clear h
  go_enter Tryz.func91, Tryz.ntmps91
  go_wp2_with fail
  go_loopw [5] (fun i wr => ∃ k : Nat, k ≤ N.length ∧ i = .int .i64 ((k : Int) + 1) ∧ Hid (Below w.heap.size w wr) ∧ Hid (∀ j, j < k → ∀ a b, N[j]? = some a → N[j + 1]? = some b → ltE a b = true)) (fun i _ => N.length + 1 - (intOf i).toNat)
  case atStart => exact ⟨0, Nat.zero_le _, rfl, Lib.hid (Below.refl _ _), Lib.hid (fun j hj => by omega)⟩
  case round =>
    obtain ⟨k, hk, rfl, hb, hall⟩ := hrel
    have hkw : IntKind.i64.wrap (k : Int) = (k : Int) := IntWalk.i64_in _ (by omega)
    have hkw2 : IntKind.i64.wrap ((k : Int) + 1 + 1) = (k : Int) + 1 + 1 := IntWalk.i64_in _ (by omega)
    by_cases hlt : k + 1 < N.length
    · have hltI : (k : Int) + 1 < (N.length : Int) := by omega
      have hltI2 : (k : Int) < (N.length : Int) := by omega
      have ht : ((k : Int) + 1).toNat = k + 1 := by omega
      have hn0 : (0 : Int) ≤ (k : Int) + 1 := by omega
      have h0 := HH.out.below hb.out
      obtain ⟨⟨x1, x2, x3⟩, hx⟩ : ∃ x, N[k]? = some x := ⟨N[k], List.getElem?_eq_getElem _⟩
      obtain ⟨⟨y1, y2, y3⟩, hy⟩ : ∃ y, N[k + 1]? = some y := ⟨N[k + 1], List.getElem?_eq_getElem _⟩
      obtain ⟨ab, ao, rfl, x0, x0', x0''⟩ := h0.ed hx
      obtain ⟨_, _, e1, y0, y0', y0''⟩ := h0.ed hy
      injection e1 with e1; injection e1 with e1 e2; subst e1; subst e2
      dsimp only at x0 x0' x0'' y0 y0' y0''
      have HXY := Lib.hid (And.intro hx hy)
      clear h0 hx hy
      have b2' : Below wr.heap.size wr wr.drew := (Below.refl _ _).drew
      clear b2'
      go_upto_region 4 with (fail)
      refine wp_region_ord (fun w' => w'.cell? ⟨ab, ao + k * 3, none⟩ = some (.string x1) ∧ w'.cell? ⟨ab, ao + k * 3 + 1, none⟩ = some (.string x2) ∧ w'.cell? ⟨ab, ao + k * 3 + 2, none⟩ = some (.string x3) ∧ w'.cell? ⟨ab, ao + (k + 1) * 3, none⟩ = some (.string y1) ∧ w'.cell? ⟨ab, ao + (k + 1) * 3 + 1, none⟩ = some (.string y2) ∧ w'.cell? ⟨ab, ao + (k + 1) * 3 + 2, none⟩ = some (.string y3)) 12 [(0, true), (1, true), (2, true), (3, true), (4, true), (5, true), (6, true), (7, true), (8, true), (9, true), (10, false), (11, true)] (by kernel_rfl) (by kernel_rfl) (fun _ _ d _ _ h => by cases d <;> exact h) ⟨x0, x0', x0'', y0, y0', y0''⟩ ?_
      iterate 10 (refine ord_take (v := ?_) rfl (by first | with_reducible rfl | kernel_rfl) ?_ ?_; rotate_left; (focus (intro wS hS; (try dsimp only at hS); go_split_ands; go_simp; (try with_reducible rfl); done)); (try simp only [Act.put, List.getElem_toArray, List.getElem_cons_succ, List.getElem_cons_zero, List.setIfInBounds_toArray, List.set_cons_zero, List.set_cons_succ]))
      refine ord_do rfl rfl (fun K hK => ?_)
      go_simp
      refine (order_edge ⟨x1, x2, x3⟩ ⟨y1, y2, y3⟩ _).mono ?_
      intro e w2 hL
      have b2 : Below wr.heap.size wr w2 := (Below.refl wr.heap.size wr).drew.trans hL.below
      obtain ⟨rfl, -⟩ := hL
      have hcmp := cmpE_lt ⟨x1, x2, x3⟩ ⟨y1, y2, y3⟩
      obtain ⟨v, hv⟩ : ∃ v, cmpE ⟨x1, x2, x3⟩ ⟨y1, y2, y3⟩ = v := ⟨_, rfl⟩
      rw [hv] at hcmp ⊢
      clear hv
      have sb : w2.cell? ⟨ab, ao + k * 3, none⟩ = some (.string x1) ∧ w2.cell? ⟨ab, ao + k * 3 + 1, none⟩ = some (.string x2) ∧ w2.cell? ⟨ab, ao + k * 3 + 2, none⟩ = some (.string x3) ∧ w2.cell? ⟨ab, ao + (k + 1) * 3, none⟩ = some (.string y1) ∧ w2.cell? ⟨ab, ao + (k + 1) * 3 + 1, none⟩ = some (.string y2) ∧ w2.cell? ⟨ab, ao + (k + 1) * 3 + 2, none⟩ = some (.string y3) := by
        have hbl : ab < wr.heap.size := World.block_lt_of_cell? wr _ x0
        have cc := fun j => b2.cell (p := ⟨ab, j, none⟩) hbl
        exact ⟨(cc _).trans x0, (cc _).trans x0', (cc _).trans x0'', (cc _).trans y0, (cc _).trans y0', (cc _).trans y0''⟩
      refine hK _ _ (fun _ => sb) ?_
      clear hK K
      (try simp only [Act.put, List.getElem_toArray, List.getElem_cons_succ, List.getElem_cons_zero, List.setIfInBounds_toArray, List.set_cons_zero, List.set_cons_succ])
      have HB := Lib.hid (hb.out.trans (b2.mono hb.out.size))
      have HC := Lib.hid hcmp
      clear hcmp b2
      by_cases hv : v < 0
      · have hv1 : decide (0 ≤ v) = false := by simpa using hv
        have hlt2 : ltE ⟨x1, x2, x3⟩ ⟨y1, y2, y3⟩ = true := by rw [← HC.out]; simpa using hv
        have HL := Lib.hid hlt2
        clear hlt2
        (refine ord_take (v := ?_) rfl (by first | with_reducible rfl | kernel_rfl) ?_ ?_; rotate_left; (focus (intro wS hS; (try dsimp only at hS); go_split_ands; go_simp; (try with_reducible rfl); done)); (try simp only [Act.put, List.getElem_toArray, List.getElem_cons_succ, List.getElem_cons_zero, List.setIfInBounds_toArray, List.set_cons_zero, List.set_cons_succ]))
        refine ord_done ?_
        go_wp2
        go_roundw
        case rel => exact ⟨k + 1, by omega, by go_num, HB, Lib.hid (fun j hj a b ha hb => by
          rcases Nat.lt_succ_iff_lt_or_eq.1 hj with h | rfl
          · exact hall.out j h a b ha hb
          · rw [HXY.out.1] at ha
            rw [HXY.out.2] at hb
            injection ha with ha
            injection hb with hb
            subst ha; subst hb
            exact HL.out)⟩
        case measure => simp [intOf]; omega
      · have hv1 : decide (0 ≤ v) = true := by simpa using hv
        have hlt2 : ltE ⟨x1, x2, x3⟩ ⟨y1, y2, y3⟩ = false := by rw [← HC.out]; simpa using hv
        have HL := Lib.hid hlt2
        clear hlt2
        (refine ord_take (v := ?_) rfl (by first | with_reducible rfl | kernel_rfl) ?_ ?_; rotate_left; (focus (intro wS hS; (try dsimp only at hS); go_split_ands; go_simp; (try with_reducible rfl); done)); (try simp only [Act.put, List.getElem_toArray, List.getElem_cons_succ, List.getElem_cons_zero, List.setIfInBounds_toArray, List.set_cons_zero, List.set_cons_succ]))
        refine ord_done ?_
        go_wp2
        go_ret
        exact ⟨retb (up_false HXY.out.1 HXY.out.2 HL.out).symm, HB.out⟩
    · have hgeI : (N.length : Int) ≤ (k : Int) + 1 := by omega
      go_wp2
      go_ret
      refine ⟨retb ?_, hb.out⟩
      refine ((upB_iff N).2 (fun i a b ha hb' => ?_)).symm
      have := (List.getElem?_eq_some_iff.1 hb').1
      exact hall.out i (by omega) a b ha hb'
end Go.Proofs.YthmkgnifcbnkpaaGreat
