/- Edges: the text of a graph. -/
import Derived.Test.YthmkgnifcbnkpaaGreatEdF
import Derived.Test.YthmkgnifcbnkpaaGreatLayB
import Derived.Laws.Concat
namespace Go.Proofs.YthmkgnifcbnkpaaGreat
open Go.RowKit

/-- A builder in block b holds these bytes. -/
def IsB (w : World) (b : Nat) (l : List UInt8) : Prop := Lib.IsBuilderF 125 5 b b (Lib.byteCells l) w
theorem IsB.alloc {w : World} {b : Nat} {l : List UInt8} (h : IsB w b l) (o : Obj) : IsB (w.alloc o) b l := Lib.IsBuilderF.alloc h o
theorem IsB.below {w w' : World} {b : Nat} {l : List UInt8} (h : IsB w b l) (hb : Below w.heap.size w w') : IsB w' b l := by
  have hg : w.grownBy w' none := (Upd.of_below hb (fun _ => False)).to_grown (fun _ _ e => e.elim)
  have key : ∀ p, Lib.BuilderAtF 125 5 b b p (Lib.byteCells l) w → Lib.BuilderAtF 125 5 b b p (Lib.byteCells l) w' := fun p ⟨h1, v, h2, h3, h4⟩ =>
    ⟨h1, v, (hb.block b (Array.getElem?_eq_some_iff.1 h2).1).trans h2, h3.kept hg (by cases v.ownBlock <;> simp), h4⟩
  exact h.imp (key _) (key _)
theorem IsB.new (w : World) : IsB (w.alloc (.cells #[.pointer none, .slice none 0 0] 125)) w.heap.size [] :=
  .inl ⟨Nat.le_refl _, .slice none 0 0, heap_alloc_new w _, World.ownsRowF_nil _ _ _ _, by simp [Value.ownBlock]⟩
theorem bwrite (w : World) (b : Nat) (l : List UInt8) (s : Txt) (h : IsB w b l) (hl : l.length + s.size ≤ 140737488355328) (hb : b ≤ w.heap.size) :
    Calls Tryz.prog 94 #[.pointer (some ⟨b, 0, none⟩), .string s] w fun e w' => e = .returned (.tuple #[.int .i64 s.size, .nilIface]) ∧ IsB w' b (l ++ s.data.toList) ∧ Below b w w' ∧ Lib.OthersKept 5 (some b) w w' := by
  have hcon := Any.Builder_WriteString_k writeStr bExtra b b (Lib.byteCells l) s w h (by rw [Lib.byteCells_length]; exact hl) hb
  change Calls Tryz.prog 94 _ _ _ at hcon
  refine hcon.mono ?_
  rintro e w' ⟨rfl, h1, h2, h3⟩
  refine ⟨rfl, .inr ?_, h2, h3⟩
  have : Lib.byteCells (l ++ s.data.toList) = Lib.byteCells l ++ Lib.strCells s := by rw [Lib.strCells_eq]; simp [Lib.byteCells]
  rw [this]
  exact h1
theorem bstring (w : World) (b : Nat) (l : List UInt8) (h : IsB w b l) (hb : b ≤ w.heap.size) :
    Calls Tryz.prog 95 #[.pointer (some ⟨b, 0, none⟩)] w fun e w' => e = .returned (.string ⟨l.toArray⟩) ∧ Below b w w' := by
  have hcon := Any.Builder_String_any_k strOf bExtra b b l w h hb
  change Calls Tryz.prog 95 _ _ _ at hcon
  exact hcon.mono fun e w' hh => ⟨hh.1, hh.2.2.1⟩
theorem own_kept {w w' : World} {base n b : Nat} {v : Value} {xs : List Value} (h : w.ownsRow base 9 1 v n xs) (hk : Lib.OthersKept 5 (some b) w w') (hb : v.ownBlock ≠ some b) : w'.ownsRow base 9 1 v n xs := by
  refine ⟨h.1, ?_⟩
  rcases h.2 with h2 | ⟨g, cap, cur, rfl, h3, hg, r⟩
  · exact .inl h2
  · exact .inr ⟨g, cap, cur, rfl, h3, hk g _ hg (fun e => hb e) (fun c fz e => by injection e with _ e _; exact absurd e (by decide)), r⟩

def sepL : List UInt8 := [32, 59, 10]
def lineN (s : Txt) : List UInt8 := s.data.toList ++ sepL
def lineE (x : Ed) : List UInt8 := x.fr.data.toList ++ [32] ++ x.lb.data.toList ++ [32] ++ x.to.data.toList ++ sepL
def textL (N : List Txt) (E : List Ed) : List UInt8 := (loneL N E).flatMap lineN ++ E.flatMap lineE
/-- All names are short. -/
structure Short (N : List Txt) (E : List Ed) : Prop where
  n : ∀ s ∈ N, s.size ≤ 16
  e : ∀ x ∈ E, x.fr.size ≤ 16 ∧ x.lb.size ≤ 16 ∧ x.to.size ≤ 16
theorem nameB_short {s : Txt} (h : nameB s = true) : 1 ≤ s.size ∧ s.size ≤ 16 := by
  unfold nameB at h
  rw [Bool.and_eq_true] at h
  exact of_decide_eq_true h.1
theorem labelB_name {s : Txt} (h : labelB s = true) : nameB s = true := by
  unfold labelB at h
  rw [Bool.and_eq_true] at h
  exact h.1
theorem Short.of {N : List Txt} {E : List Ed} (h : namedB N E = true) : Short N E := by
  unfold namedB at h
  rw [Bool.and_eq_true, List.all_eq_true, List.all_eq_true] at h
  refine ⟨fun s hs => (nameB_short (h.1 s hs)).2, fun x hx => ?_⟩
  have := h.2 x hx
  unfold edNamed at this
  rw [Bool.and_eq_true, Bool.and_eq_true] at this
  exact ⟨(nameB_short this.1).2, (nameB_short (labelB_name this.2.1)).2, (nameB_short this.2.2).2⟩
theorem size_list (s : Txt) : s.data.toList.length = s.size := by rw [Array.length_toList]; rfl
theorem flat_le {α β : Type} {f : α → List β} {c : Nat} : ∀ {l : List α}, (∀ x ∈ l, (f x).length ≤ c) → (l.flatMap f).length ≤ l.length * c
  | [], _ => by simp
  | x :: l, h => by
    have h1 := h x (by simp)
    have h2 := flat_le (l := l) (fun y hy => h y (by simp [hy]))
    simp only [List.flatMap_cons, List.length_append, List.length_cons, Nat.add_mul]
    omega
theorem lineN_le {s : Txt} (h : s.size ≤ 16) : (lineN s).length ≤ 19 := by simp [lineN, sepL]; omega
theorem lineE_le {x : Ed} (h : x.fr.size ≤ 16 ∧ x.lb.size ≤ 16 ∧ x.to.size ≤ 16) : (lineE x).length ≤ 53 := by simp [lineE, sepL]; omega
theorem loneL_sub {N : List Txt} {E : List Ed} {s : Txt} (h : s ∈ loneL N E) : s ∈ N := (List.mem_filter.1 h).1
theorem loneL_len (N : List Txt) (E : List Ed) : (loneL N E).length ≤ N.length := List.length_filter_le _ _
theorem data_app (a b : Txt) : (a ++ b).data.toList = a.data.toList ++ b.data.toList := by simp
theorem size_app (a b : Txt) : (a ++ b).size = a.size + b.size := by simp
theorem add_run (a b : Txt) (h : a.size + b.size ≤ 1000) : ∀ w, (Op.stringOp .add a b).run Tryz.prog w = .ok (.string (a ++ b)) w := fun w => run_string_add_sum w a b (by omega)

set_option maxHeartbeats 8000000 in
set_option maxRecDepth 100000 in
theorem text_any (w : World) (A : Option Addr) (c : Nat) (B : Option Addr) (d : Nat) (N : List Txt) (E : List Ed) (h : ForG w A c B d N E) (hs : Short N E) (hN : N.length ≤ 32) (hE : E.length ≤ 256) :
    Calls Tryz.prog 54 #[twoV A N.length c B E.length d] w (Sam w (.string ⟨(textL N E).toArray⟩)) := by
  have k0 := (Blk.new w 25 #[.slice A N.length c, .slice B E.length d]).alloc (.cells #[.pointer none, .slice none 0 0] 125)
  have i0 := IsB.new (w.alloc (.cells #[.slice A N.length c, .slice B E.length d] 25))
  simp only [World.size_alloc] at i0
  have u0 : Below w.heap.size w ((w.alloc (.cells #[.slice A N.length c, .slice B E.length d] 25)).alloc (.cells #[.pointer none, .slice none 0 0] 125)) := by (repeat (first | exact Below.refl _ _ | apply Below.drew | refine Below.alloc ?_ (by first | exact Nat.le_refl _ | (simp; done) | (simp; omega)) _ | refine Below.setCell ?_ (by first | exact Nat.le_refl _ | (simp; done) | (simp; omega)) _))
  have hz : ((w.alloc (.cells #[.slice A N.length c, .slice B E.length d] 25)).alloc (.cells #[.pointer none, .slice none 0 0] 125)).heap.size = w.heap.size + 2 := by simp
  have HB := Lib.hid (show ∀ (j : Nat) (x : Ed), E[j]? = some x → ∃ b o, B = some ⟨b, o, none⟩ ∧ b < w.heap.size from fun j x hx => by obtain ⟨b, o, e, y0, -⟩ := h.re.ed hx; exact ⟨b, o, e, World.block_lt_of_cell? _ _ y0⟩)
  have HS := Lib.hid hs
  have H := Lib.hid (And.intro (h.below u0) (And.intro k0 (And.intro u0 (And.intro i0 hz))))
  clear h k0 u0 i0 hz hs
  unfold twoV
  go_enter Tryz.func54, Tryz.ntmps54
  go_upto_region 2 with (fail)
  generalize (w.alloc (.cells #[.slice A N.length c, .slice B E.length d] 25)).alloc (.cells #[.pointer none, .slice none 0 0] 125) = W1 at H ⊢
  have q0 : W1.cell? ⟨w.heap.size, 0, none⟩ = some (.slice A N.length c) := H.out.2.1.cell 0
  have q1 : W1.cell? ⟨w.heap.size, 1, none⟩ = some (.slice B E.length d) := H.out.2.1.cell 1
  go_wp2_with fail
  refine (lone_any W1 A c B d N E H.out.1).mono ?_
  rintro e w2 ⟨v, rfl, own2, b2⟩
  obtain ⟨A2, c2, rfl, -, -⟩ := own_form own2
  obtain ⟨n2, hn2⟩ : ∃ n2, (loneL N E).length = n2 := ⟨_, rfl⟩
  have hn2' : n2 ≤ 32 := by rw [← hn2]; exact Nat.le_trans (loneL_len N E) hN
  have i2 := H.out.2.2.2.1.below b2
  have bb2 := H.out.2.2.1.trans (b2.mono H.out.2.2.1.size)
  have hz2 := b2.size
  have HBM := Lib.hid (b2.mono (show w.heap.size + 1 ≤ W1.heap.size from by have := H.out.2.2.2.2; omega))
  have hown : (Value.slice A2 (loneL N E).length c2).ownBlock ≠ some (w.heap.size + 1) := fun e => by
    have := (own2.lt _ e).1
    have := H.out.2.2.2.2
    omega
  have H2 := Lib.hid (And.intro i2 (And.intro bb2 (And.intro (H.out.1.below b2) (And.intro own2 (And.intro hown (H.out.2.1.upd (Upd.of_below b2 (fun _ => False)) id))))))
  have hzz : w.heap.size + 2 ≤ w2.heap.size := by have := H.out.2.2.2.2; omega
  clear i2 b2 bb2 own2 hown q0 q1 hz2
  rw [hn2]
  have HN2 := Lib.hid hn2
  clear hn2
  go_wp2_with fail
  go_loopw [5, 11] (fun _ i wr => ∃ k : Nat, k ≤ n2 ∧ i = .int .i64 k ∧ Hid (Below (w.heap.size + 1) w2 wr) ∧ Hid (Lib.OthersKept 5 (some (w.heap.size + 1)) w2 wr) ∧ Hid (IsB wr (w.heap.size + 1) (((loneL N E).take k).flatMap lineN))) (fun _ i _ => n2 - (intOf i).toNat)
  case atStart => exact ⟨0, Nat.zero_le _, rfl, Lib.hid (Below.refl _ _), Lib.hid (Lib.OthersKept.refl _ _ _), Lib.hid (by simpa using H2.out.1)⟩
  case round =>
    obtain ⟨k, hk, rfl, hb, ho, hi⟩ := hrel
    by_cases hlt : k < n2
    · have hltI : (k : Int) < (n2 : Int) := by omega
      have hkw : IntKind.i64.wrap ((k : Int) + 1) = (k : Int) + 1 := IntWalk.i64_in _ (by omega)
      obtain ⟨s, hx⟩ : ∃ x, (loneL N E)[k]? = some x := ⟨(loneL N E)[k]'(by rw [HN2.out]; exact hlt), List.getElem?_eq_getElem _⟩
      have ow := own_kept H2.out.2.2.2.1 ho.out H2.out.2.2.2.2.1
      have rw2 := RowR.of_own ow
      obtain ⟨ab, ao, rfl, x0⟩ := rw2.txt hx
      have hsz : s.size ≤ 16 := HS.out.n s (loneL_sub (List.mem_of_getElem? hx))
      have a1 := add_run s ⟨#[32, 59, 10]⟩ (by show s.size + 3 ≤ 1000; omega)
      have hll : (((loneL N E).take k).flatMap lineN).length ≤ k * 19 := by
        have := flat_le (f := lineN) (c := 19) (l := (loneL N E).take k) (fun x hx => lineN_le (HS.out.n x (loneL_sub (List.mem_of_mem_take hx))))
        have h3 : ((loneL N E).take k).length ≤ k := by rw [List.length_take]; omega
        exact Nat.le_trans this (Nat.mul_le_mul_right _ h3)
      have hcon := bwrite wr (w.heap.size + 1) _ (s ++ ⟨#[32, 59, 10]⟩) hi.out (by rw [size_app]; show _ + (s.size + 3) ≤ _; omega) (by have := hb.out.size; omega)
      rw [data_app, show (s.data.toList ++ (⟨#[32, 59, 10]⟩ : Txt).data.toList) = lineN s from rfl] at hcon
      have htk : ((loneL N E).take k).flatMap lineN ++ lineN s = ((loneL N E).take (k + 1)).flatMap lineN := by rw [take_snoc' hx]; simp
      rw [htk] at hcon
      have HX := Lib.hid hcon
      clear hcon htk hll hx ow rw2
      go_wp2_with fail
      refine HX.out.mono ?_
      rintro e w5 ⟨rfl, i5, b5, o5⟩
      have H5 := Lib.hid (And.intro (hb.out.trans b5) (And.intro (ho.out.trans o5) i5))
      clear i5 b5 o5
      go_wp2
      go_roundw
      case rel => exact ⟨k + 1, by omega, by go_num, Lib.hid H5.out.1, Lib.hid H5.out.2.1, Lib.hid H5.out.2.2⟩
      case measure => simp [intOf]; omega
    · obtain rfl : k = n2 := by omega
      obtain ⟨W4, hW4⟩ : ∃ W, W = wr := ⟨_, rfl⟩
      subst hW4
      have i4 : IsB W4 (w.heap.size + 1) ((loneL N E).flatMap lineN) := by
        have := hi.out
        rw [List.take_of_length_le (by rw [HN2.out]; exact Nat.le_refl _)] at this
        exact this
      have hll : ((loneL N E).flatMap lineN).length ≤ 32 * 19 := by
        have := flat_le (f := lineN) (c := 19) (l := loneL N E) (fun x hx => lineN_le (HS.out.n x (loneL_sub hx)))
        rw [HN2.out] at this
        exact Nat.le_trans this (Nat.mul_le_mul_right _ hn2')
      have bb4 : Below (w.heap.size + 1) W1 W4 := by
        exact HBM.out.trans hb.out
      have k4 : W4.cell? ⟨w.heap.size, 1, none⟩ = some (.slice B E.length d) := (bb4.cell (p := ⟨w.heap.size, 1, none⟩) (by show w.heap.size < _; omega)).trans (H.out.2.1.cell 1)
      have q1 := k4
      have bw4 : Below w.heap.size w W4 := H.out.2.2.1.trans (bb4.mono (by omega))
      have HI4 := Lib.hid (And.intro i4 (And.intro hll (And.intro bb4 bw4)))
      have hz4 : w.heap.size + 2 ≤ W4.heap.size := Nat.le_trans hzz hb.out.size
      clear i4 hll bb4 bw4 k4 hb ho hi hlt
      go_wp2_with fail
      clear q1
      go_loopw [7, 22] (fun _ i wr => ∃ k : Nat, k ≤ E.length ∧ i = .int .i64 k ∧ Hid (Below (w.heap.size + 1) W4 wr) ∧ Hid (IsB wr (w.heap.size + 1) ((loneL N E).flatMap lineN ++ (E.take k).flatMap lineE))) (fun _ i _ => E.length - (intOf i).toNat)
      case atStart => exact ⟨0, Nat.zero_le _, rfl, Lib.hid (Below.refl _ _), Lib.hid (by simpa using HI4.out.1)⟩
      case round =>
        obtain ⟨k, hk, rfl, hb, hi⟩ := hrel
        by_cases hlt : k < E.length
        · have hltI : (k : Int) < (E.length : Int) := by omega
          have hkw : IntKind.i64.wrap ((k : Int) + 1) = (k : Int) + 1 := IntWalk.i64_in _ (by omega)
          obtain ⟨⟨s0, s1, s2⟩, hx⟩ : ∃ x, E[k]? = some x := ⟨E[k], List.getElem?_eq_getElem _⟩
          obtain ⟨ab, ao, rfl, hab⟩ := HB.out k _ hx
          obtain ⟨ab', ao', e, y0, y1, y2⟩ := H.out.1.re.ed hx
          injection e with e; injection e with e e2; subst e; subst e2
          dsimp only at y0 y1 y2
          have bz := HI4.out.2.2.1.trans hb.out
          have cc := fun i => bz.cell (p := ⟨ab, i, none⟩) (by show ab < _; omega)
          have x0 := (cc _).trans y0
          have x1 := (cc _).trans y1
          have x2 := (cc _).trans y2
          have hsz := HS.out.e _ (List.mem_of_getElem? hx)
          dsimp only at hsz
          have hll : (((loneL N E).flatMap lineN) ++ (E.take k).flatMap lineE).length ≤ 32 * 19 + 256 * 53 := by
            have h2 := HI4.out.2.1
            have := flat_le (f := lineE) (c := 53) (l := E.take k) (fun x hx => lineE_le (HS.out.e x (List.mem_of_mem_take hx)))
            have h3 : (E.take k).length ≤ 256 := by rw [List.length_take]; omega
            have h4 := Nat.le_trans this (Nat.mul_le_mul_right _ h3)
            rw [List.length_append]
            omega
          have kx := Blk.new wr 39 #[.string s0, .string s1, .string s2]
          have bx : Below wr.heap.size wr (wr.alloc (.cells #[.string s0, .string s1, .string s2] 39)) := (Below.refl _ _).alloc (Nat.le_refl _) _
          have ix := hi.out.alloc (.cells #[.string s0, .string s1, .string s2] 39)
          have hzr := hb.out.size
          have HX := Lib.hid (And.intro hx (And.intro kx (And.intro (hb.out.trans (bx.mono (by omega))) ix)))
          have hzx : (wr.alloc (.cells #[.string s0, .string s1, .string s2] 39)).heap.size = wr.heap.size + 1 := by simp
          clear hx kx bx ix y0 y1 y2 cc bz
          go_upto_region 10 with (fail)
          generalize wr.alloc (.cells #[.string s0, .string s1, .string s2] 39) = W5 at HX hzx ⊢
          clear x0 x1 x2
          have x0 : W5.cell? ⟨wr.heap.size, 0, none⟩ = some (.string s0) := HX.out.2.1.cell 0
          have x1 : W5.cell? ⟨wr.heap.size, 1, none⟩ = some (.string s1) := HX.out.2.1.cell 1
          have x2 : W5.cell? ⟨wr.heap.size, 2, none⟩ = some (.string s2) := HX.out.2.1.cell 2
          obtain ⟨t0, ht0⟩ : ∃ t, s0 ++ (⟨#[32]⟩ : Txt) = t := ⟨_, rfl⟩
          have z0 : t0.size = s0.size + 1 := by rw [← ht0, size_app]; rfl
          obtain ⟨t1, ht1⟩ : ∃ t, t0 ++ s1 = t := ⟨_, rfl⟩
          have z1 : t1.size = t0.size + s1.size := by rw [← ht1, size_app]
          obtain ⟨t2, ht2⟩ : ∃ t, t1 ++ (⟨#[32]⟩ : Txt) = t := ⟨_, rfl⟩
          have z2 : t2.size = t1.size + 1 := by rw [← ht2, size_app]; rfl
          obtain ⟨t3, ht3⟩ : ∃ t, t2 ++ s2 = t := ⟨_, rfl⟩
          have z3 : t3.size = t2.size + s2.size := by rw [← ht3, size_app]
          obtain ⟨t4, ht4⟩ : ∃ t, t3 ++ (⟨#[32, 59, 10]⟩ : Txt) = t := ⟨_, rfl⟩
          have z4 : t4.size = t3.size + 3 := by rw [← ht4, size_app]; rfl
          have hdat : t4.data.toList = lineE ⟨s0, s1, s2⟩ := by
            rw [← ht4, data_app, ← ht3, data_app, ← ht2, data_app, ← ht1, data_app, ← ht0, data_app]
            rfl
          have a0 := add_run s0 ⟨#[32]⟩ (by show s0.size + 1 ≤ 1000; omega)
          have a1 := add_run t0 s1 (by omega)
          have a2 := add_run t1 ⟨#[32]⟩ (by show t1.size + 1 ≤ 1000; omega)
          have a3 := add_run t2 s2 (by omega)
          have a4 := add_run t3 ⟨#[32, 59, 10]⟩ (by show t3.size + 3 ≤ 1000; omega)
          rw [ht0] at a0
          rw [ht1] at a1
          rw [ht2] at a2
          rw [ht3] at a3
          rw [ht4] at a4
          have hcon := bwrite W5 (w.heap.size + 1) _ t4 HX.out.2.2.2 (by omega) (by omega)
          have htk : (loneL N E).flatMap lineN ++ (E.take k).flatMap lineE ++ t4.data.toList = (loneL N E).flatMap lineN ++ (E.take (k + 1)).flatMap lineE := by rw [take_snoc' HX.out.1, hdat]; simp
          rw [htk] at hcon
          have HC := Lib.hid hcon
          clear hcon htk hll ht0 ht1 ht2 ht3 ht4 z0 z1 z2 z3 z4 hdat hsz
          go_wp2_with fail
          refine HC.out.mono ?_
          rintro e w6 ⟨rfl, i6, b6, -⟩
          have H6 := Lib.hid (And.intro (HX.out.2.2.1.trans b6) i6)
          clear i6 b6
          go_wp2
          go_roundw
          case rel => exact ⟨k + 1, by omega, by go_num, Lib.hid H6.out.1, Lib.hid H6.out.2⟩
          case measure => simp [intOf]; omega
        · obtain rfl : k = E.length := by omega
          have hcon := bstring wr (w.heap.size + 1) _ hi.out (by have := hb.out.size; omega)
          rw [List.take_length] at hcon
          have HC := Lib.hid hcon
          have bwr := HI4.out.2.2.2.trans (hb.out.mono (by omega))
          have HW := Lib.hid bwr
          clear hcon bwr
          go_wp2_with fail
          refine HC.out.mono ?_
          rintro e w6 ⟨rfl, b6⟩
          have FIN := Lib.hid (HW.out.trans (b6.mono (by omega)))
          clear b6
          go_wp2
          go_ret
          exact ⟨rfl, FIN.out⟩
end Go.Proofs.YthmkgnifcbnkpaaGreat
