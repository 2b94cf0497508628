/- Forests: two that are the same (bywayref22.Same says true of them). -/
import Derived.Test.YtbppbgdmoihooaaTrA
import Derived.Test.YtbppbgdmoihooaaOrdPre
import Derived.Test.YtbppbgdmoihooaaTrR
namespace Go.Proofs.Ytbppbgdmoihooaa
open Go.RowKit

theorem stood_fact : Try.prog.stoodInHeld 101 = false := by kernel_rfl
theorem part_fact (W : World) (a b c : Int) (k : Nat) (x : Int) (h : [a, b, c][k]? = some x) : (part 3 #[.int .i64 a, .int .i64 b, .int .i64 c] k).run Try.prog W = .ok (.int .i64 x) W := by
  match k, h with
  | 0, h => simp at h; subst h; simp [part, isAgg, run_underlying Try.underlying3]
  | 1, h => simp at h; subst h; simp [part, isAgg, run_underlying Try.underlying3]
  | 2, h => simp at h; subst h; simp [part, isAgg, run_underlying Try.underlying3]
  | k + 3, h => simp at h
set_option maxRecDepth 20000 in
theorem equal_fact (W : World) (a b : Fct) : (Op.equal 101 a.agg b.agg).run Try.prog W = .ok (decide (a = b)) W := by
  obtain ⟨a0, a1, a2⟩ := a
  obtain ⟨b0, b1, b2⟩ := b
  have hs : Try.prog.underlying 101 = some (.struct (Try.prog.fieldsOf 101)) := by kernel_rfl
  have h9 := fun a b => run_equalIn_int (P := Try.prog) W 9998 3 .i64 .i64 a b Try.underlying3
  have pa := part_fact W a0 a1 a2
  have pb := part_fact W b0 b1 b2
  have hd : decide ((⟨a0, a1, a2⟩ : Fct) = ⟨b0, b1, b2⟩) = (a0 == b0 && (a1 == b1 && a2 == b2)) := by
    rw [Bool.eq_iff_iff]
    simp
  rw [hd]
  show (Op.equalIn (9999 + 1) _ _ _).run _ _ = _
  unfold Fct.agg
  rw [run_equalIn_struct (P := Try.prog) W 9999 _ _ _ hs stood_fact]
  simp only [Program.fieldsOf, Try.underlying101, Op.eqFields]
  rw [if_pos (by decide), if_pos (by decide), if_pos (by decide)]
  simp only [Sem.run_bind, pa 0 a0 rfl, pb 0 b0 rfl, h9, Result.andThen_ok]
  cases a0 == b0
  · simp
  · simp only [Bool.not_true, Bool.false_eq_true, if_false, Sem.run_bind, pa 1 a1 rfl, pb 1 b1 rfl, h9, Result.andThen_ok, Bool.true_and]
    cases a1 == b1
    · simp
    · simp only [Bool.not_true, Bool.false_eq_true, if_false, Sem.run_bind, pa 2 a2 rfl, pb 2 b2 rfl, h9, Result.andThen_ok, Bool.true_and]
      cases a2 == b2 <;> simp
theorem neq_fact (W : World) (f : Fct) : (binOp .neq 101 f.agg f.agg).run Try.prog W = .ok (.bool false) W := by
  have h := equal_fact W f f
  unfold Fct.agg at h ⊢
  simp only [binOp]
  simp [h]
set_option maxRecDepth 20000 in
theorem neq_pack (W : World) (p : Pk) : (binOp .neq 125 p.agg p.agg).run Try.prog W = .ok (.bool false) W := by
  have h := eql_pack W p p
  unfold Pk.agg at h ⊢
  simp only [binOp] at h ⊢
  cases hq : (Op.equal 125 (.agg #[.int .i64 p.spot, .int .i64 p.prod, .int .i64 p.mid, .int .i64 p.left, .int .i64 p.right]) (.agg #[.int .i64 p.spot, .int .i64 p.prod, .int .i64 p.mid, .int .i64 p.left, .int .i64 p.right])).run Try.prog W with
  | ok b w' =>
    simp [hq] at h
    obtain ⟨rfl, rfl⟩ := h
    simp [hq]
  | _ => simp [hq] at h

set_option maxHeartbeats 2000000 in
set_option maxRecDepth 20000 in
theorem same_any (w : World) (A : Option Addr) (c : Nat) (B : Option Addr) (d : Nat) (A' : Option Addr) (c' : Nat) (B' : Option Addr) (d' : Nat) (S : List Fct) (P : List Pk) (hs : RowR w A (factCells S)) (hp : RowR w B (packCells P)) (hs' : RowR w A' (factCells S)) (hp' : RowR w B' (packCells P))
    (hb : S.length * 24 ≤ 140737488355328 ∧ P.length * 40 ≤ 140737488355328 ∧ S.length ≤ c ∧ S.length ≤ c' ∧ P.length ≤ d ∧ P.length ≤ d') :
    Calls Try.prog 35 #[forV A S.length c B P.length d, forV A' S.length c' B' P.length d'] w (Sam w (.bool true)) := by
  have hcI : (S.length : Int) ≤ (c : Int) := by omega
  have hdI : (P.length : Int) ≤ (d : Int) := by omega
  have hcI' : (S.length : Int) ≤ (c' : Int) := by omega
  have hdI' : (P.length : Int) ≤ (d' : Int) := by omega
  have k0 := (Blk.new w 75 #[.slice A S.length c, .slice B P.length d]).alloc (.cells #[.slice A' S.length c', .slice B' P.length d'] 75)
  have k1 := Blk.new (w.alloc (.cells #[.slice A S.length c, .slice B P.length d] 75)) 75 #[.slice A' S.length c', .slice B' P.length d']
  simp only [World.size_alloc] at k1
  have u0 : Below w.heap.size w ((w.alloc (.cells #[.slice A S.length c, .slice B P.length d] 75)).alloc (.cells #[.slice A' S.length c', .slice B' P.length d'] 75)) := by (repeat (first | exact Below.refl _ _ | apply Below.drew | refine Below.alloc ?_ (by first | exact Nat.le_refl _ | (simp; done) | (simp; omega)) _ | refine Below.setCell ?_ (by first | exact Nat.le_refl _ | (simp; done) | (simp; omega)) _))
  have H := Lib.hid (And.intro (hs.below u0) (And.intro (hp.below u0) (And.intro (hs'.below u0) (And.intro (hp'.below u0) (And.intro k0 (And.intro k1 u0))))))
  clear hs hp hs' hp' k0 k1 u0
  go_enter Try.func35, Try.ntmps35
  unfold forV
  go_upto_region 1 with (fail)
  generalize (w.alloc (.cells #[.slice A S.length c, .slice B P.length d] 75)).alloc (.cells #[.slice A' S.length c', .slice B' P.length d'] 75) = W0 at H ⊢
  have q0 : W0.cell? ⟨w.heap.size, 0, none⟩ = some (.slice A S.length c) := H.out.2.2.2.2.1.cell 0
  have q1 : W0.cell? ⟨w.heap.size, 1, none⟩ = some (.slice B P.length d) := H.out.2.2.2.2.1.cell 1
  have q2 : W0.cell? ⟨w.heap.size + 1, 0, none⟩ = some (.slice A' S.length c') := H.out.2.2.2.2.2.1.cell 0
  have q3 : W0.cell? ⟨w.heap.size + 1, 1, none⟩ = some (.slice B' P.length d') := H.out.2.2.2.2.2.1.cell 1
  go_wp2_with fail
  clear q0 q1 q2 q3
  go_loopw [5] (fun iv wr => ∃ k nq : Nat, k ≤ S.length ∧ iv = .int .i64 k ∧ wr = W0.drewN nq) (fun iv _ => S.length - (intOf iv).toNat)
  case atStart => exact ⟨0, 0, Nat.zero_le _, rfl, rfl⟩
  case round =>
    obtain ⟨k, nq, hk, rfl, rfl⟩ := hrel
    have q0 : W0.cell? ⟨w.heap.size, 0, none⟩ = some (.slice A S.length c) := H.out.2.2.2.2.1.cell 0
    have q2 : W0.cell? ⟨w.heap.size + 1, 0, none⟩ = some (.slice A' S.length c') := H.out.2.2.2.2.2.1.cell 0
    by_cases hlt : k < S.length
    · have hltI : (k : Int) < (S.length : Int) := by omega
      obtain ⟨⟨f0, f1, f2⟩, hf⟩ : ∃ f, S[k]? = some f := ⟨S[k], List.getElem?_eq_getElem hlt⟩
      obtain ⟨fb, fo, rfl, a0, a1, a2⟩ := H.out.1.fact hf
      obtain ⟨gb, go, rfl, b0, b1, b2⟩ := H.out.2.2.1.fact hf
      have HF := Lib.hid hf
      have hn := fun W => neq_fact W ⟨f0, f1, f2⟩
      simp only [Fct.agg] at hn
      have hkw : IntKind.i64.wrap (k : Int) = (k : Int) := IntWalk.i64_in _ (by omega)
      clear hf
      go_upto_region 6 with (fail)
      refine wp_region_ord (fun w' => w'.cell? ⟨w.heap.size, 0, none⟩ = some (.slice (some ⟨fb, fo, none⟩) S.length c) ∧ w'.cell? ⟨w.heap.size + 1, 0, none⟩ = some (.slice (some ⟨gb, go, none⟩) S.length c') ∧ w'.cell? ⟨fb, fo + k * 3, none⟩ = some (.int .i64 f0) ∧ w'.cell? ⟨fb, fo + k * 3 + 1, none⟩ = some (.int .i64 f1) ∧ w'.cell? ⟨fb, fo + k * 3 + 2, none⟩ = some (.int .i64 f2) ∧
        w'.cell? ⟨gb, go + k * 3, none⟩ = some (.int .i64 f0) ∧ w'.cell? ⟨gb, go + k * 3 + 1, none⟩ = some (.int .i64 f1) ∧ w'.cell? ⟨gb, go + k * 3 + 2, none⟩ = some (.int .i64 f2)) 11 [(0, true), (1, true), (2, true), (3, true), (4, true), (5, true), (6, true), (7, true), (8, true), (9, true), (10, true)] (by kernel_rfl) (by kernel_rfl) (fun _ _ d _ _ h => by cases d <;> exact h) ⟨q0, q2, a0, a1, a2, b0, b1, b2⟩ ?_
      iterate 11 (refine ord_take (v := ?_) rfl (by first | with_reducible rfl | kernel_rfl) ?_ ?_; rotate_left; (focus (intro wS hS; (try dsimp only at hS); go_split_ands; go_simp; (try with_reducible rfl); done)); (try simp only [Act.put, List.getElem_toArray, List.getElem_cons_succ, List.getElem_cons_zero, List.setIfInBounds_toArray, List.set_cons_zero, List.set_cons_succ]))
      refine ord_done ?_
      go_wp2
      go_roundw
      case rel => exact ⟨k + 1, nq + 1, by omega, by go_num, rfl⟩
      case measure => simp [intOf]; omega
    · obtain rfl : k = S.length := by omega
      clear hlt
      go_wp2_with fail
      clear q0 q2
      go_loopw [6] (fun iv wr => ∃ k nq : Nat, k ≤ P.length ∧ iv = .int .i64 k ∧ wr = W0.drewN nq) (fun iv _ => P.length - (intOf iv).toNat)
      case atStart => exact ⟨0, nq, Nat.zero_le _, rfl, rfl⟩
      case round =>
        obtain ⟨k, nq', hk', rfl, rfl⟩ := hrel
        have q1 : W0.cell? ⟨w.heap.size, 1, none⟩ = some (.slice B P.length d) := H.out.2.2.2.2.1.cell 1
        have q3 : W0.cell? ⟨w.heap.size + 1, 1, none⟩ = some (.slice B' P.length d') := H.out.2.2.2.2.2.1.cell 1
        by_cases hlt : k < P.length
        · have hltI : (k : Int) < (P.length : Int) := by omega
          obtain ⟨⟨f0, f1, f2, f3, f4⟩, hf⟩ : ∃ f, P[k]? = some f := ⟨P[k], List.getElem?_eq_getElem hlt⟩
          obtain ⟨fb, fo, rfl, a0, a1, a2, a3, a4⟩ := H.out.2.1.pack hf
          obtain ⟨gb, go, rfl, b0, b1, b2, b3, b4⟩ := H.out.2.2.2.1.pack hf
          have HF := Lib.hid hf
          have hn := fun W => neq_pack W ⟨f0, f1, f2, f3, f4⟩
          simp only [Pk.agg] at hn
          have hkw : IntKind.i64.wrap (k : Int) = (k : Int) := IntWalk.i64_in _ (by omega)
          clear hf
          go_upto_region 11 with (fail)
          refine wp_region_ord (fun w' => w'.cell? ⟨w.heap.size, 1, none⟩ = some (.slice (some ⟨fb, fo, none⟩) P.length d) ∧ w'.cell? ⟨w.heap.size + 1, 1, none⟩ = some (.slice (some ⟨gb, go, none⟩) P.length d') ∧ w'.cell? ⟨fb, fo + k * 5, none⟩ = some (.int .i64 f0) ∧ w'.cell? ⟨fb, fo + k * 5 + 1, none⟩ = some (.int .i64 f1) ∧ w'.cell? ⟨fb, fo + k * 5 + 2, none⟩ = some (.int .i64 f2) ∧ w'.cell? ⟨fb, fo + k * 5 + 3, none⟩ = some (.int .i64 f3) ∧ w'.cell? ⟨fb, fo + k * 5 + 4, none⟩ = some (.int .i64 f4) ∧
            w'.cell? ⟨gb, go + k * 5, none⟩ = some (.int .i64 f0) ∧ w'.cell? ⟨gb, go + k * 5 + 1, none⟩ = some (.int .i64 f1) ∧ w'.cell? ⟨gb, go + k * 5 + 2, none⟩ = some (.int .i64 f2) ∧ w'.cell? ⟨gb, go + k * 5 + 3, none⟩ = some (.int .i64 f3) ∧ w'.cell? ⟨gb, go + k * 5 + 4, none⟩ = some (.int .i64 f4)) 11 [(0, true), (1, true), (2, true), (3, true), (4, true), (5, true), (6, true), (7, true), (8, true), (9, true), (10, true)] (by kernel_rfl) (by kernel_rfl) (fun _ _ d _ _ h => by cases d <;> exact h) ⟨q1, q3, a0, a1, a2, a3, a4, b0, b1, b2, b3, b4⟩ ?_
          iterate 11 (refine ord_take (v := ?_) rfl (by first | with_reducible rfl | kernel_rfl) ?_ ?_; rotate_left; (focus (intro wS hS; (try dsimp only at hS); go_split_ands; go_simp; (try with_reducible rfl); done)); (try simp only [Act.put, List.getElem_toArray, List.getElem_cons_succ, List.getElem_cons_zero, List.setIfInBounds_toArray, List.set_cons_zero, List.set_cons_succ]))
          refine ord_done ?_
          go_wp2
          go_roundw
          case rel => exact ⟨k + 1, nq' + 1, by omega, by go_num, rfl⟩
          case measure => simp [intOf]; omega
        · obtain rfl : k = P.length := by omega
          clear hlt
          go_wp2
          go_ret
          exact ⟨rfl, below_drewN H.out.2.2.2.2.2.2 _⟩
end Go.Proofs.Ytbppbgdmoihooaa
