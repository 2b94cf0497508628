/- Forests: where a fact stands (slices.Index, sppf.Find). -/
import Derived.Test.YtbppbgdmoihooaaTrG
namespace Go.Proofs.Ytbppbgdmoihooaa
open Go.RowKit

theorem fact_stood : Try.prog.stoodInHeld 101 = false := by kernel_rfl
theorem fact_part (W : World) (a b c : Int) (k : Nat) (x : Int) (h : [a, b, c][k]? = some x) : (part 3 #[.int .i64 a, .int .i64 b, .int .i64 c] k).run Try.prog W = .ok (.int .i64 x) W := by
  match k, h with
  | 0, h => simp at h; subst h; simp [part, isAgg, run_underlying Try.underlying3]
  | 1, h => simp at h; subst h; simp [part, isAgg, run_underlying Try.underlying3]
  | 2, h => simp at h; subst h; simp [part, isAgg, run_underlying Try.underlying3]
  | k + 3, h => simp at h
set_option maxRecDepth 20000 in
theorem fact_eql (W : World) (a0 a1 a2 b0 b1 b2 : Int) : (binOp .eql 101 (.agg #[.int .i64 a0, .int .i64 a1, .int .i64 a2]) (.agg #[.int .i64 b0, .int .i64 b1, .int .i64 b2])).run Try.prog W = .ok (.bool (decide ((⟨a0, a1, a2⟩ : Fct) = ⟨b0, b1, b2⟩))) W := by
  have hs : Try.prog.underlying 101 = some (.struct (Try.prog.fieldsOf 101)) := by kernel_rfl
  have h9 := fun a b => run_equalIn_int (P := Try.prog) W 9998 3 .i64 .i64 a b Try.underlying3
  have pa := fact_part W a0 a1 a2
  have pb := fact_part W b0 b1 b2
  have hd : decide ((⟨a0, a1, a2⟩ : Fct) = ⟨b0, b1, b2⟩) = (a0 == b0 && (a1 == b1 && a2 == b2)) := by
    rw [Bool.eq_iff_iff]
    simp
  rw [hd]
  have e : (Op.equal 101 (.agg #[.int .i64 a0, .int .i64 a1, .int .i64 a2]) (.agg #[.int .i64 b0, .int .i64 b1, .int .i64 b2])).run Try.prog W = .ok (a0 == b0 && (a1 == b1 && a2 == b2)) W := by
    show (Op.equalIn (9999 + 1) _ _ _).run _ _ = _
    rw [run_equalIn_struct (P := Try.prog) W 9999 _ _ _ hs fact_stood]
    simp only [Program.fieldsOf, Try.underlying101, Op.eqFields]
    rw [if_pos (by decide), if_pos (by decide), if_pos (by decide)]
    simp only [Sem.run_bind, pa 0 a0 rfl, pb 0 b0 rfl, h9, Result.andThen_ok]
    cases a0 == b0
    · simp
    · simp only [Bool.not_true, Bool.false_eq_true, if_false, Sem.run_bind, pa 1 a1 rfl, pb 1 b1 rfl, h9, Result.andThen_ok, Bool.true_and]
      cases a1 == b1
      · simp
      · simp only [Bool.not_true, Bool.false_eq_true, if_false, Sem.run_bind, pa 2 a2 rfl, pb 2 b2 rfl, h9, Result.andThen_ok, Bool.true_and]
        cases a2 == b2 <;> simp
  clear pa pb h9 hs hd
  simp only [binOp]
  simp [e]

/-- The first place of a fact, or -1. -/
def idxFrom (f : Fct) : List Fct → Nat → Int
  | [], _ => -1
  | g :: S, k => if g = f then (k : Int) else idxFrom f S (k + 1)
def idxI (S : List Fct) (f : Fct) : Int := idxFrom f S 0
theorem idxFrom_hit {f : Fct} : ∀ (S : List Fct) (n k : Nat), S[k]? = some f → (∀ i, i < k → S[i]? ≠ some f) → idxFrom f S n = ((n + k : Nat) : Int)
  | [], n, k, h, _ => by simp at h
  | g :: S, n, 0, h, _ => by
    have e : g = f := by simpa using h
    simp [idxFrom, e]
  | g :: S, n, k + 1, h, hno => by
    have e : g ≠ f := fun e => hno 0 (by omega) (by simp [e])
    have := idxFrom_hit S (n + 1) k (by simpa using h) (fun i hi => by have := hno (i + 1) (by omega); simpa using this)
    simp only [idxFrom, if_neg e, this]
    omega
theorem idxFrom_none {f : Fct} : ∀ (S : List Fct) (n : Nat), (∀ i, i < S.length → S[i]? ≠ some f) → idxFrom f S n = -1
  | [], n, _ => rfl
  | g :: S, n, hno => by
    have e : g ≠ f := fun e => hno 0 (by simp) (by simp [e])
    have := idxFrom_none S (n + 1) (fun i hi => by have := hno (i + 1) (by simpa using hi); simpa using this)
    simp only [idxFrom, if_neg e, this]
theorem idxI_hit {S : List Fct} {f : Fct} {k : Nat} (h : S[k]? = some f) (hno : ∀ i, i < k → S[i]? ≠ some f) : idxI S f = (k : Int) := by
  unfold idxI
  rw [idxFrom_hit S 0 k h hno]
  simp
theorem idxI_none {S : List Fct} {f : Fct} (hno : ∀ i, i < S.length → S[i]? ≠ some f) : idxI S f = -1 := idxFrom_none S 0 hno
theorem idxFrom_cases (f : Fct) : ∀ (S : List Fct) (n : Nat), idxFrom f S n = -1 ∨ ∃ k : Nat, idxFrom f S n = ((n + k : Nat) : Int) ∧ S[k]? = some f
  | [], n => .inl rfl
  | g :: S, n => by
    by_cases e : g = f
    · exact .inr ⟨0, by simp [idxFrom, e], by simp [e]⟩
    · rcases idxFrom_cases f S (n + 1) with h | ⟨k, h, hk⟩
      · exact .inl (by simpa [idxFrom, e] using h)
      · exact .inr ⟨k + 1, by simp only [idxFrom, if_neg e, h]; omega, by simpa using hk⟩
theorem idxI_cases (S : List Fct) (f : Fct) : idxI S f = -1 ∨ ∃ k : Nat, idxI S f = (k : Int) ∧ S[k]? = some f := by
  rcases idxFrom_cases f S 0 with h | ⟨k, h, hk⟩
  · exact .inl h
  · exact .inr ⟨k, by unfold idxI; rw [h]; simp, hk⟩
def IdxPost (w : World) (S : List Fct) (f : Fct) (e : Ending) (w' : World) : Prop := e = .returned (.int .i64 (idxI S f)) ∧ Below w.heap.size w w'

set_option maxHeartbeats 2000000 in
set_option maxRecDepth 20000 in
theorem sindex_any (w : World) (A : Option Addr) (c : Nat) (S : List Fct) (f : Fct) (h : RowR w A (factCells S)) (hc : S.length ≤ c) (hS : S.length * 24 ≤ 140737488355328) :
    Calls Try.prog 77 #[.slice A S.length c, f.agg] w (IdxPost w S f) := by
  obtain ⟨f0, f1, f2⟩ := f
  have hcI : (S.length : Int) ≤ (c : Int) := by omega
  have k0 := Blk.new w 101 #[.int .i64 f0, .int .i64 f1, .int .i64 f2]
  have u0 : Below w.heap.size w (w.alloc (.cells #[.int .i64 f0, .int .i64 f1, .int .i64 f2] 101)) := (Below.refl _ _).alloc (Nat.le_refl _) _
  have H := Lib.hid (And.intro (h.below u0) (And.intro k0 u0))
  clear h k0 u0
  unfold Fct.agg
  go_enter Try.func77, Try.ntmps77
  go_upto_region 1 with (fail)
  generalize w.alloc (.cells #[.int .i64 f0, .int .i64 f1, .int .i64 f2] 101) = W0 at H ⊢
  go_wp2_with fail
  go_loopw [5, 8] (fun _ iv wr => ∃ k nq : Nat, k ≤ S.length ∧ iv = .int .i64 k ∧ wr = W0.drewN nq ∧ Hid (∀ i, i < k → S[i]? ≠ some ⟨f0, f1, f2⟩)) (fun _ iv _ => S.length - (intOf iv).toNat)
  case atStart => exact ⟨0, 0, Nat.zero_le _, rfl, rfl, Lib.hid (fun i hi => by omega)⟩
  case round =>
    obtain ⟨k, nq, hk, rfl, rfl, hno⟩ := hrel
    by_cases hlt : k < S.length
    · have hltI : (k : Int) < (S.length : Int) := by omega
      obtain ⟨⟨g0, g1, g2⟩, hf⟩ : ∃ f, S[k]? = some f := ⟨S[k], List.getElem?_eq_getElem hlt⟩
      obtain ⟨gb, go, rfl, b0, b1, b2⟩ := H.out.1.fact hf
      have a0 : W0.cell? ⟨w.heap.size, 0, none⟩ = some (.int .i64 f0) := H.out.2.1.cell 0
      have a1 : W0.cell? ⟨w.heap.size, 1, none⟩ = some (.int .i64 f1) := H.out.2.1.cell 1
      have a2 : W0.cell? ⟨w.heap.size, 2, none⟩ = some (.int .i64 f2) := H.out.2.1.cell 2
      have HF := Lib.hid hf
      have hn := fun W => fact_eql W f0 f1 f2 g0 g1 g2
      have hkw : IntKind.i64.wrap (k : Int) = (k : Int) := IntWalk.i64_in _ (by omega)
      by_cases he : (⟨g0, g1, g2⟩ : Fct) = ⟨f0, f1, f2⟩
      · have hd : decide ((⟨f0, f1, f2⟩ : Fct) = ⟨g0, g1, g2⟩) = true := by simpa using he.symm
        rw [hd] at hn
        have HE := Lib.hid he
        clear hf he hd
        go_upto_region 4 with (fail)
        refine wp_region_ord (fun w' => w'.cell? ⟨w.heap.size, 0, none⟩ = some (.int .i64 f0) ∧ w'.cell? ⟨w.heap.size, 1, none⟩ = some (.int .i64 f1) ∧ w'.cell? ⟨w.heap.size, 2, none⟩ = some (.int .i64 f2) ∧ w'.cell? ⟨gb, go + k * 3, none⟩ = some (.int .i64 g0) ∧ w'.cell? ⟨gb, go + k * 3 + 1, none⟩ = some (.int .i64 g1) ∧ w'.cell? ⟨gb, go + k * 3 + 2, none⟩ = some (.int .i64 g2)) 6 [(0, true), (1, true), (2, true), (3, true), (4, true), (5, true)] (by kernel_rfl) (by kernel_rfl) (fun _ _ d _ _ h => by cases d <;> exact h) ⟨a0, a1, a2, b0, b1, b2⟩ ?_
        iterate 6 (refine ord_take (v := ?_) rfl (by first | with_reducible rfl | kernel_rfl) ?_ ?_; rotate_left; (focus (intro wS hS; (try dsimp only at hS); go_split_ands; go_simp; (try with_reducible rfl); done)); (try simp only [Act.put, List.getElem_toArray, List.getElem_cons_succ, List.getElem_cons_zero, List.setIfInBounds_toArray, List.set_cons_zero, List.set_cons_succ]))
        refine ord_done ?_
        go_wp2
        go_ret
        refine ⟨?_, below_drewN H.out.2.2 (nq + 1)⟩
        rw [idxI_hit (HF.out.trans (by rw [HE.out])) hno.out]
        rfl
      · have hd : decide ((⟨f0, f1, f2⟩ : Fct) = ⟨g0, g1, g2⟩) = false := by simpa using fun h1 h2 h3 => he (by rw [h1, h2, h3])
        rw [hd] at hn
        have HE := Lib.hid he
        clear hf he hd
        go_upto_region 4 with (fail)
        refine wp_region_ord (fun w' => w'.cell? ⟨w.heap.size, 0, none⟩ = some (.int .i64 f0) ∧ w'.cell? ⟨w.heap.size, 1, none⟩ = some (.int .i64 f1) ∧ w'.cell? ⟨w.heap.size, 2, none⟩ = some (.int .i64 f2) ∧ w'.cell? ⟨gb, go + k * 3, none⟩ = some (.int .i64 g0) ∧ w'.cell? ⟨gb, go + k * 3 + 1, none⟩ = some (.int .i64 g1) ∧ w'.cell? ⟨gb, go + k * 3 + 2, none⟩ = some (.int .i64 g2)) 6 [(0, true), (1, true), (2, true), (3, true), (4, true), (5, true)] (by kernel_rfl) (by kernel_rfl) (fun _ _ d _ _ h => by cases d <;> exact h) ⟨a0, a1, a2, b0, b1, b2⟩ ?_
        iterate 6 (refine ord_take (v := ?_) rfl (by first | with_reducible rfl | kernel_rfl) ?_ ?_; rotate_left; (focus (intro wS hS; (try dsimp only at hS); go_split_ands; go_simp; (try with_reducible rfl); done)); (try simp only [Act.put, List.getElem_toArray, List.getElem_cons_succ, List.getElem_cons_zero, List.setIfInBounds_toArray, List.set_cons_zero, List.set_cons_succ]))
        refine ord_done ?_
        go_wp2
        go_roundw
        case rel => exact ⟨k + 1, nq + 1, by omega, by go_num, rfl, Lib.hid (fun i hi => (by
          rcases Nat.lt_succ_iff_lt_or_eq.1 hi with h | rfl
          · exact hno.out i h
          · rw [HF.out]; exact fun e => HE.out (Option.some.inj e)))⟩
        case measure => simp [intOf]; omega
    · obtain rfl : k = S.length := by omega
      go_wp2
      go_ret
      refine ⟨?_, below_drewN H.out.2.2 nq⟩
      rw [idxI_none hno.out]
      rfl

def FindPost (w : World) (S : List Fct) (f : Fct) (e : Ending) (w' : World) : Prop := e = .returned (.tuple #[.int .i64 (max (idxI S f) 0), .bool (decide (0 ≤ idxI S f))]) ∧ Below w.heap.size w w'
set_option maxHeartbeats 2000000 in
set_option maxRecDepth 20000 in
theorem find_any (w : World) (A : Option Addr) (c : Nat) (B : Option Addr) (m d : Nat) (S : List Fct) (f : Fct) (h : RowR w A (factCells S)) (hc : S.length ≤ c) (hS : S.length * 24 ≤ 140737488355328) :
    Calls Try.prog 49 #[forV A S.length c B m d, f.agg] w (FindPost w S f) := by
  obtain ⟨f0, f1, f2⟩ := f
  have k0 := (Blk.new w 75 #[.slice A S.length c, .slice B m d]).alloc (.cells #[.int .i64 f0, .int .i64 f1, .int .i64 f2] 101)
  have k1 := Blk.new (w.alloc (.cells #[.slice A S.length c, .slice B m d] 75)) 101 #[.int .i64 f0, .int .i64 f1, .int .i64 f2]
  simp only [World.size_alloc] at k1
  have u0 : Below w.heap.size w ((w.alloc (.cells #[.slice A S.length c, .slice B m d] 75)).alloc (.cells #[.int .i64 f0, .int .i64 f1, .int .i64 f2] 101)) := by (repeat (first | exact Below.refl _ _ | apply Below.drew | refine Below.alloc ?_ (by first | exact Nat.le_refl _ | (simp; done) | (simp; omega)) _ | refine Below.setCell ?_ (by first | exact Nat.le_refl _ | (simp; done) | (simp; omega)) _))
  have H := Lib.hid (And.intro (h.below u0) (And.intro k0 (And.intro k1 (And.intro u0 (And.intro hc hS)))))
  clear h k0 k1 u0 hc hS
  unfold Fct.agg forV
  go_enter Try.func49, Try.ntmps49
  go_upto_region 1 with (fail)
  generalize (w.alloc (.cells #[.slice A S.length c, .slice B m d] 75)).alloc (.cells #[.int .i64 f0, .int .i64 f1, .int .i64 f2] 101) = W0 at H ⊢
  have q0 : W0.cell? ⟨w.heap.size, 0, none⟩ = some (.slice A S.length c) := H.out.2.1.cell 0
  have a0 : W0.cell? ⟨w.heap.size + 1, 0, none⟩ = some (.int .i64 f0) := H.out.2.2.1.cell 0
  have a1 : W0.cell? ⟨w.heap.size + 1, 1, none⟩ = some (.int .i64 f1) := H.out.2.2.1.cell 1
  have a2 : W0.cell? ⟨w.heap.size + 1, 2, none⟩ = some (.int .i64 f2) := H.out.2.2.1.cell 2
  go_wp2_with fail
  refine (sindex_any W0 A c S ⟨f0, f1, f2⟩ H.out.1 H.out.2.2.2.2.1 H.out.2.2.2.2.2).mono ?_
  rintro e w1 ⟨rfl, b1⟩
  have HB := Lib.hid (H.out.2.2.2.1.trans (b1.mono H.out.2.2.2.1.size))
  clear b1 q0 a0 a1 a2
  obtain ⟨x, hx⟩ : ∃ x, idxI S ⟨f0, f1, f2⟩ = x := ⟨_, rfl⟩
  rw [hx]
  by_cases h : 0 ≤ x
  · go_wp2
    go_ret2
    refine ⟨?_, HB.out⟩
    rw [hx, Int.max_eq_left h, decide_eq_true h]
    rfl
  · have h' : x < 0 := by omega
    have HX := Lib.hid h'
    go_wp2
    go_ret2
    refine ⟨?_, HB.out⟩
    rw [hx, Int.max_eq_right (Int.le_of_lt HX.out), decide_eq_false (by have := HX.out; omega)]
    rfl
end Go.Proofs.Ytbppbgdmoihooaa
