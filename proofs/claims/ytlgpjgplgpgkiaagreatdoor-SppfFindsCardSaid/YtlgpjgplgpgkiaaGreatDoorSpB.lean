/- Forests (bywaylaw22): the walk of SppfFinds (written by mkSpB.py). -/
import Derived.Test.YtlgpjgplgpgkiaaGreatDoorSpA
import Derived.Test.YtlgpjgplgpgkiaaGreatDoorFnd
import Derived.Test.YtlgpjgplgpgkiaaGreatDoorPackIt
namespace Go.Proofs.YtlgpjgplgpgkiaaGreatDoor
open Go.RowKit

theorem pack_stood : Tryz.prog.stoodInHeld 42 = false := by kernel_rfl
theorem pack_part (W : World) (a b c d e : Int) (k : Nat) (x : Int) (h : [a, b, c, d, e][k]? = some x) : (part 3 #[.int .i64 a, .int .i64 b, .int .i64 c, .int .i64 d, .int .i64 e] k).run Tryz.prog W = .ok (.int .i64 x) W := by
  match k, h with
  | 0, h => simp at h; subst h; simp [part, isAgg, run_underlying Tryz.underlying3]
  | 1, h => simp at h; subst h; simp [part, isAgg, run_underlying Tryz.underlying3]
  | 2, h => simp at h; subst h; simp [part, isAgg, run_underlying Tryz.underlying3]
  | 3, h => simp at h; subst h; simp [part, isAgg, run_underlying Tryz.underlying3]
  | 4, h => simp at h; subst h; simp [part, isAgg, run_underlying Tryz.underlying3]
  | k + 5, h => simp at h
set_option maxRecDepth 20000 in
theorem pack_neq (W : World) (a0 a1 a2 a3 a4 b0 b1 b2 b3 b4 : Int) : (binOp .neq 42 (.agg #[.int .i64 a0, .int .i64 a1, .int .i64 a2, .int .i64 a3, .int .i64 a4]) (.agg #[.int .i64 b0, .int .i64 b1, .int .i64 b2, .int .i64 b3, .int .i64 b4])).run Tryz.prog W = .ok (.bool (!decide ((⟨a0, a1, a2, a3, a4⟩ : Pk) = ⟨b0, b1, b2, b3, b4⟩))) W := by
  have hs : Tryz.prog.underlying 42 = some (.struct (Tryz.prog.fieldsOf 42)) := by kernel_rfl
  have h9 := fun a b => run_equalIn_int (P := Tryz.prog) W 9998 3 .i64 .i64 a b Tryz.underlying3
  have pa := pack_part W a0 a1 a2 a3 a4
  have pb := pack_part W b0 b1 b2 b3 b4
  have e : (Op.equal 42 (.agg #[.int .i64 a0, .int .i64 a1, .int .i64 a2, .int .i64 a3, .int .i64 a4]) (.agg #[.int .i64 b0, .int .i64 b1, .int .i64 b2, .int .i64 b3, .int .i64 b4])).run Tryz.prog W = .ok (a0 == b0 && (a1 == b1 && (a2 == b2 && (a3 == b3 && a4 == b4)))) W := by
    show (Op.equalIn (9999 + 1) _ _ _).run _ _ = _
    rw [run_equalIn_struct (P := Tryz.prog) W 9999 _ _ _ hs pack_stood]
    simp only [Program.fieldsOf, Tryz.underlying42, Op.eqFields]
    rw [if_pos (by decide), if_pos (by decide), if_pos (by decide), if_pos (by decide), if_pos (by decide)]
    simp only [Sem.run_bind, pa 0 a0 rfl, pb 0 b0 rfl, h9, Result.andThen_ok]
    cases a0 == b0
    · simp
    · simp only [Bool.not_true, Bool.false_eq_true, if_false, Sem.run_bind, pa 1 a1 rfl, pb 1 b1 rfl, h9, Result.andThen_ok, Bool.true_and]
      cases a1 == b1
      · simp
      · simp only [Bool.not_true, Bool.false_eq_true, if_false, Sem.run_bind, pa 2 a2 rfl, pb 2 b2 rfl, h9, Result.andThen_ok, Bool.true_and]
        cases a2 == b2
        · simp
        · simp only [Bool.not_true, Bool.false_eq_true, if_false, Sem.run_bind, pa 3 a3 rfl, pb 3 b3 rfl, h9, Result.andThen_ok, Bool.true_and]
          cases a3 == b3
          · simp
          · simp only [Bool.not_true, Bool.false_eq_true, if_false, Sem.run_bind, pa 4 a4 rfl, pb 4 b4 rfl, h9, Result.andThen_ok, Bool.true_and]
            cases a4 == b4 <;> simp
  have hd : decide ((⟨a0, a1, a2, a3, a4⟩ : Pk) = ⟨b0, b1, b2, b3, b4⟩) = (a0 == b0 && (a1 == b1 && (a2 == b2 && (a3 == b3 && a4 == b4)))) := by
    rw [Bool.eq_iff_iff]
    simp
  rw [hd]
  clear hd pa pb h9 hs
  simp only [binOp]
  simp [e]

set_option maxHeartbeats 2000000 in
set_option maxRecDepth 20000 in
theorem rindex_any (w : World) (A : Option Addr) (c : Nat) (S : List Fct) (f : Fct) (h : RowR w A (factCells S)) (hc : S.length ≤ c) (hS : S.length * 24 ≤ 140737488355328) :
    Calls Tryz.prog 12 #[.slice A S.length c, f.agg] w (IdxPost w S f) := by
  obtain ⟨f0, f1, f2⟩ := f
  have hcI : (S.length : Int) ≤ (c : Int) := by omega
  have k0 := Blk.new w 33 #[.int .i64 f0, .int .i64 f1, .int .i64 f2]
  have u0 : Below w.heap.size w (w.alloc (.cells #[.int .i64 f0, .int .i64 f1, .int .i64 f2] 33)) := (Below.refl _ _).alloc (Nat.le_refl _) _
  have H := Lib.hid (And.intro (h.below u0) (And.intro k0 u0))
  clear h k0 u0
  unfold Fct.agg
  go_enter Tryz.func12, Tryz.ntmps12
  go_upto_region 1 with (fail)
  generalize w.alloc (.cells #[.int .i64 f0, .int .i64 f1, .int .i64 f2] 33) = W0 at H ⊢
  go_wp2_with fail
  go_loopw [5] (fun iv wr => ∃ k nq : Nat, k ≤ S.length ∧ iv = .int .i64 k ∧ wr = W0.drewN nq ∧ Hid (∀ i, i < k → S[i]? ≠ some ⟨f0, f1, f2⟩)) (fun iv _ => S.length - (intOf iv).toNat)
  case atStart => exact ⟨0, 0, Nat.zero_le _, rfl, rfl, Lib.hid (fun i hi => by omega)⟩
  case round =>
    obtain ⟨k, nq, hk, rfl, rfl, hno⟩ := hrel
    by_cases hlt : k < S.length
    · have hltI : (k : Int) < (S.length : Int) := by omega
      obtain ⟨⟨g0, g1, g2⟩, hf⟩ : ∃ f, S[k]? = some f := ⟨S[k], List.getElem?_eq_getElem hlt⟩
      obtain ⟨gb, go, rfl, b0, b1, b2⟩ := H.out.1.fact hf
      have a0 : W0.cell? ⟨w.heap.size, 0, none⟩ = some (.int .i64 f0) := H.out.2.1.cell 0
      have a1 : W0.cell? ⟨w.heap.size, 1, none⟩ = some (.int .i64 f1) := H.out.2.1.cell 1
      have a2 : W0.cell? ⟨w.heap.size, 2, none⟩ = some (.int .i64 f2) := H.out.2.1.cell 2
      have HF := Lib.hid hf
      have hn := fun W => fact_eql W g0 g1 g2 f0 f1 f2
      have hkw : IntKind.i64.wrap (k : Int) = (k : Int) := IntWalk.i64_in _ (by omega)
      by_cases he : (⟨g0, g1, g2⟩ : Fct) = ⟨f0, f1, f2⟩
      · have hd : decide ((⟨g0, g1, g2⟩ : Fct) = ⟨f0, f1, f2⟩) = true := by simpa using he
        rw [hd] at hn
        have HE := Lib.hid he
        clear hf he hd
        go_upto_region 4 with (fail)
        refine wp_region_ord (fun w' => w'.cell? ⟨w.heap.size, 0, none⟩ = some (.int .i64 f0) ∧ w'.cell? ⟨w.heap.size, 1, none⟩ = some (.int .i64 f1) ∧ w'.cell? ⟨w.heap.size, 2, none⟩ = some (.int .i64 f2) ∧ w'.cell? ⟨gb, go + k * 3, none⟩ = some (.int .i64 g0) ∧ w'.cell? ⟨gb, go + k * 3 + 1, none⟩ = some (.int .i64 g1) ∧ w'.cell? ⟨gb, go + k * 3 + 2, none⟩ = some (.int .i64 g2)) 6 [(0, true), (1, true), (2, true), (3, true), (4, true), (5, true)] (by kernel_rfl) (by kernel_rfl) (fun _ _ d _ _ h => by cases d <;> exact h) ⟨a0, a1, a2, b0, b1, b2⟩ ?_
        iterate 6 (refine ord_take (v := ?_) rfl (by first | with_reducible rfl | kernel_rfl) ?_ ?_; rotate_left; (focus (intro wS hS; (try dsimp only at hS); go_split_ands; go_simp; (try with_reducible rfl); done)); (try simp only [Act.put, List.getElem_toArray, List.getElem_cons_succ, List.getElem_cons_zero, List.setIfInBounds_toArray, List.set_cons_zero, List.set_cons_succ]))
        refine ord_done ?_
        go_wp2
        go_ret
        refine ⟨?_, below_drewN H.out.2.2 (nq + 1)⟩
        rw [idxI_hit (HF.out.trans (by rw [HE.out])) hno.out]
        rfl
      · have hd : decide ((⟨g0, g1, g2⟩ : Fct) = ⟨f0, f1, f2⟩) = false := by simpa using he
        rw [hd] at hn
        have HE := Lib.hid he
        clear hf he hd
        go_upto_region 4 with (fail)
        refine wp_region_ord (fun w' => w'.cell? ⟨w.heap.size, 0, none⟩ = some (.int .i64 f0) ∧ w'.cell? ⟨w.heap.size, 1, none⟩ = some (.int .i64 f1) ∧ w'.cell? ⟨w.heap.size, 2, none⟩ = some (.int .i64 f2) ∧ w'.cell? ⟨gb, go + k * 3, none⟩ = some (.int .i64 g0) ∧ w'.cell? ⟨gb, go + k * 3 + 1, none⟩ = some (.int .i64 g1) ∧ w'.cell? ⟨gb, go + k * 3 + 2, none⟩ = some (.int .i64 g2)) 6 [(0, true), (1, true), (2, true), (3, true), (4, true), (5, true)] (by kernel_rfl) (by kernel_rfl) (fun _ _ d _ _ h => by cases d <;> exact h) ⟨a0, a1, a2, b0, b1, b2⟩ ?_
        iterate 6 (refine ord_take (v := ?_) rfl (by first | with_reducible rfl | kernel_rfl) ?_ ?_; rotate_left; (focus (intro wS hS; (try dsimp only at hS); go_split_ands; go_simp; (try with_reducible rfl); done)); (try simp only [Act.put, List.getElem_toArray, List.getElem_cons_succ, List.getElem_cons_zero, List.setIfInBounds_toArray, List.set_cons_zero, List.set_cons_succ]))
        refine ord_done ?_
        go_wp2
        go_roundw
        case rel => exact ⟨k + 1, nq + 1, by omega, by go_num, rfl, Lib.hid (fun i hi => (by
          rcases Nat.lt_succ_iff_lt_or_eq.1 hi with h | rfl
          · exact hno.out i h
          · rw [HF.out]; exact fun e => HE.out (Option.some.inj e)))⟩
        case measure => simp [intOf]; omega
    · obtain rfl : k = S.length := by omega
      go_wp2
      go_ret
      refine ⟨?_, below_drewN H.out.2.2 nq⟩
      rw [idxI_none hno.out]
      rfl

theorem sfind_yes (w : World) (A : Option Addr) (c : Nat) (B : Option Addr) (m d : Nat) (S : List Fct) (f : Fct) (h : RowR w A (factCells S)) (hc : S.length ≤ c) (hS : S.length * 24 ≤ 140737488355328) (x : Int) (hx : idxI S f = x) (h0 : 0 ≤ x) :
    Calls Tryz.prog 11 #[forV A S.length c B m d, f.agg] w (Sam w (.tuple #[.int .i64 x, .bool true])) :=
  (find_any w A c B m d S f h hc hS).mono fun _ _ hf => ⟨by rw [hf.1, hx, Int.max_eq_left h0, decide_eq_true h0], hf.2⟩
theorem sfind_no (w : World) (A : Option Addr) (c : Nat) (B : Option Addr) (m d : Nat) (S : List Fct) (f : Fct) (h : RowR w A (factCells S)) (hc : S.length ≤ c) (hS : S.length * 24 ≤ 140737488355328) (hx : idxI S f = -1) :
    Calls Tryz.prog 11 #[forV A S.length c B m d, f.agg] w (Sam w (.tuple #[.int .i64 0, .bool false])) :=
  (find_any w A c B m d S f h hc hS).mono fun _ _ hf => ⟨by rw [hf.1, hx]; rfl, hf.2⟩
theorem rindex_val (w : World) (A : Option Addr) (c : Nat) (S : List Fct) (f : Fct) (h : RowR w A (factCells S)) (hc : S.length ≤ c) (hS : S.length * 24 ≤ 140737488355328) (x : Int) (hx : idxI S f = x) :
    Calls Tryz.prog 12 #[.slice A S.length c, f.agg] w (Sam w (.int .i64 x)) :=
  (rindex_any w A c S f h hc hS).mono fun _ _ hf => ⟨by rw [hf.1, hx], hf.2⟩

open Go.Shelf
attribute [local go_sem] Oper.semAt_some

/-- All that a function has gathered of one finished round is let go. -/
theorem leaves_one {P : Program} {fn : Func} {tmps : Array Value} {R : Ending → World → Prop} {F : Fence} {n D : Nat} {w : World} (hd : w.heap[D]? = some (.deferred (some [])))
    (hfin : ∃ v, (results fn tmps).run P (w.putObj D (.deferred none)) = .ok v (w.putObj D (.deferred none)) ∧ R (.returned v) (w.putObj D (.deferred none))) : LeavesInM F n P fn tmps R [{ target := .collected D, args := #[] }] .returning w :=
  ⟨by simp, .inl ⟨D, _, rfl, run_takeDeferred hd, hfin⟩⟩
/-- A post that no panic reaches. -/
def noPan (Q : Exit → Act → World → Prop) : Exit → Act → World → Prop
  | .panic _, _, _ => False
  | e, a, w => Q e a w
theorem wp_noPan {P : Program} {c : Code} {Q : Exit → Act → World → Prop} {a : Act} {w : World} (h : c.wp P (noPan Q) a w) : c.wp P Q a w := fun b k cs => by
  obtain ⟨e, a', w', hq, ha⟩ := h b k cs
  refine ⟨e, a', w', ?_, ha⟩
  cases e <;> first | exact hq | exact hq.elim
/-- What came is not what should have come. -/
def BadPk (L : List Pk) (pre : List {_p : Pk // True}) : Prop := ∃ i : Nat, i < pre.length ∧ (pre.map (·.1))[i]? ≠ L[i]?
theorem BadPk.no {s : Int} {P : List Pk} {hQ : ∀ p ∈ ofSpot s P, True} {pre : List {_p : Pk // True}} (h : BadPk (ofSpot s P) pre) (hp : ∃ k, k ≤ (ofSpot s P).length ∧ pre = (spotL s P (fun _ => True) hQ).take k) : False := by
  obtain ⟨k, hk, rfl⟩ := hp
  obtain ⟨i, hi, h⟩ := h
  refine h ?_
  have hm : (spotL s P (fun _ => True) hQ).map (·.1) = ofSpot s P := by unfold spotL; simp
  rw [List.length_take] at hi
  rw [List.map_take, List.getElem?_take, if_pos (by omega), hm]
theorem BadPk.mk {L : List Pk} {pre : List {_p : Pk // True}} {p : Pk} {hp : True} {q : Pk} (h : L[pre.length]? = some q) (hn : ¬ p = q) : BadPk L (pre ++ [⟨p, hp⟩]) :=
  ⟨pre.length, by simp, by rw [List.map_append, List.getElem?_append_right (by simp), h]; simp; exact hn⟩

/-- Where the walk stands when the packs are gone over. -/
structure AtPk (w W : World) (br b12 b13 : Nat) (V : Value) : Prop where
  r : Blk W br 4 #[.bool false]
  v : Blk W b12 23 #[V]
  b : Below w.heap.size w W
  lt : w.heap.size ≤ br ∧ br < b12 ∧ b12 < b13 ∧ b13 < W.heap.size

set_option maxHeartbeats 16000000 in
set_option maxRecDepth 100000 in
theorem finds_yes (w : World) (A : Option Addr) (c : Nat) (B : Option Addr) (d : Nat) (S : List Fct) (P : List Pk) (f : Fct) (spot leave : Int) (x : Int) (hx : idxI S f = x) (h0 : 0 ≤ x) (h : ForR w A c B d S P) :
    Calls Tryz.prog 4 #[forV A S.length c B P.length d, f.agg, .int .i64 spot, .int .i64 leave] w (Sam w (.bool true)) := by
  obtain ⟨f0, f1, f2⟩ := f
  have hP8 : P.length * 40 ≤ 140737488355328 := h.fit.p
  have k0 := (((Blk.new w 25 #[.slice A S.length c, .slice B P.length d]).alloc (.cells #[.int .i64 f0, .int .i64 f1, .int .i64 f2] 33)).alloc (.cells #[.int .i64 leave] 3)).alloc (.cells #[.bool false] 4)
  have k1 := ((Blk.new (w.alloc (.cells #[.slice A S.length c, .slice B P.length d] 25)) 33 #[.int .i64 f0, .int .i64 f1, .int .i64 f2]).alloc (.cells #[.int .i64 leave] 3)).alloc (.cells #[.bool false] 4)
  have k2 := (Blk.new ((w.alloc (.cells #[.slice A S.length c, .slice B P.length d] 25)).alloc (.cells #[.int .i64 f0, .int .i64 f1, .int .i64 f2] 33)) 3 #[.int .i64 leave]).alloc (.cells #[.bool false] 4)
  have k3 := Blk.new (((w.alloc (.cells #[.slice A S.length c, .slice B P.length d] 25)).alloc (.cells #[.int .i64 f0, .int .i64 f1, .int .i64 f2] 33)).alloc (.cells #[.int .i64 leave] 3)) 4 #[.bool false]
  have u0 : Below w.heap.size w ((((w.alloc (.cells #[.slice A S.length c, .slice B P.length d] 25)).alloc (.cells #[.int .i64 f0, .int .i64 f1, .int .i64 f2] 33)).alloc (.cells #[.int .i64 leave] 3)).alloc (.cells #[.bool false] 4)) := by (repeat (first | exact Below.refl _ _ | apply Below.drew | refine Below.alloc ?_ (by first | exact Nat.le_refl _ | (simp; done) | (simp; omega)) _ | refine Below.setCell ?_ (by first | exact Nat.le_refl _ | (simp; done) | (simp; omega)) _))
  simp only [World.size_alloc] at k1 k2 k3
  have H := Lib.hid (And.intro h (And.intro k0 (And.intro k1 (And.intro k2 (And.intro k3 u0)))))
  clear h k0 k1 k2 k3 u0
  refine (callsIn_wide (n := 5)).1 ?_
  refine callsIn_of_wp_marks Tryz.func4 rfl trivial ?_ rfl
  simp only [Tryz.ntmps4, List.size_toArray, List.length_cons, List.length_nil, Nat.reduceAdd, Nat.reduceSub, Array.replicate_succ, Array.replicate_zero, List.push_toArray, List.append_toArray, List.nil_append, List.cons_append]
  refine wpIn_wide.2 ?_
  unfold forV Fct.agg
  go_upto_region 1 with (fail)
  generalize (((w.alloc (.cells #[.slice A S.length c, .slice B P.length d] 25)).alloc (.cells #[.int .i64 f0, .int .i64 f1, .int .i64 f2] 33)).alloc (.cells #[.int .i64 leave] 3)).alloc (.cells #[.bool false] 4) = W0 at H ⊢
  have up : ∀ w', Below W0.heap.size W0 w' → w'.cell? ⟨w.heap.size, 0, none⟩ = some (.slice A S.length c) ∧ w'.cell? ⟨w.heap.size, 1, none⟩ = some (.slice B P.length d) ∧ w'.cell? ⟨w.heap.size + 1, 0, none⟩ = some (.int .i64 f0) ∧ w'.cell? ⟨w.heap.size + 1, 1, none⟩ = some (.int .i64 f1) ∧ w'.cell? ⟨w.heap.size + 1, 2, none⟩ = some (.int .i64 f2) := fun w' hb => by
    have hk := H.out.2.1.upd (Upd.of_below hb (fun _ => False)) id
    have hf := H.out.2.2.1.upd (Upd.of_below hb (fun _ => False)) id
    exact ⟨hk.cell 0, hk.cell 1, hf.cell 0, hf.cell 1, hf.cell 2⟩
  have UP := Lib.hid up
  clear up
  refine wp_noPan ?_
  refine wp_region_ord (fun w' => w'.cell? ⟨w.heap.size, 0, none⟩ = some (.slice A S.length c) ∧ w'.cell? ⟨w.heap.size, 1, none⟩ = some (.slice B P.length d) ∧ w'.cell? ⟨w.heap.size + 1, 0, none⟩ = some (.int .i64 f0) ∧ w'.cell? ⟨w.heap.size + 1, 1, none⟩ = some (.int .i64 f1) ∧ w'.cell? ⟨w.heap.size + 1, 2, none⟩ = some (.int .i64 f2)) 9 [(0, true), (2, true), (1, false), (3, false), (4, true), (5, true), (6, true), (7, true), (8, true)] (by kernel_rfl) (by kernel_rfl) (fun _ _ _ _ _ h => h.elim) (UP.out _ (Below.refl _ _).drew) ?_
  iterate 2 (refine ord_take (v := ?_) rfl (by first | with_reducible rfl | kernel_rfl) ?_ ?_; rotate_left; (focus (intro wS hS; (try dsimp only at hS); go_split_ands; go_simp; (try with_reducible rfl); done)); (try simp only [Act.put, List.getElem_toArray, List.getElem_cons_succ, List.getElem_cons_zero, List.setIfInBounds_toArray, List.set_cons_zero, List.set_cons_succ]))
  refine ord_do rfl rfl (fun K hK => ?_)
  go_simp
  refine (copy_any _ A c B d S P (H.out.1.below (H.out.2.2.2.2.2.trans ((Below.refl W0.heap.size W0).drew.mono H.out.2.2.2.2.2.size)))).mono ?_
  intro e w2 hn
  obtain ⟨A1, c1, B1, d1, rfl, F1, b2⟩ := hn.at H.out.1.fit
  have b02 : Below W0.heap.size W0 w2 := (Below.refl W0.heap.size W0).drew.trans b2
  refine hK _ _ (fun _ => UP.out _ b02) ?_
  clear hK K hn
  (try simp only [Act.put, List.getElem_toArray, List.getElem_cons_succ, List.getElem_cons_zero, List.setIfInBounds_toArray, List.set_cons_zero, List.set_cons_succ])
  have HF1 := Lib.hid (And.intro F1 b02)
  clear F1 b2 b02
  unfold forV
  refine ord_do rfl rfl (fun K hK => ?_)
  go_simp
  refine (sfind_yes w2 A1 c1 B1 P.length d1 S ⟨f0, f1, f2⟩ HF1.out.1.rs HF1.out.1.hc H.out.1.fit.s x hx h0).mono ?_
  rintro e w3 ⟨rfl, b3⟩
  have b03 : Below W0.heap.size W0 w3 := HF1.out.2.trans (b3.mono HF1.out.2.size)
  refine hK _ _ (fun _ => UP.out _ b03) ?_
  clear hK K
  (try simp only [Act.put, List.getElem_toArray, List.getElem_cons_succ, List.getElem_cons_zero, List.setIfInBounds_toArray, List.set_cons_zero, List.set_cons_succ])
  have HB3 := Lib.hid b03
  clear b3 b03
  iterate 5 (refine ord_take (v := ?_) rfl (by first | with_reducible rfl | kernel_rfl) ?_ ?_; rotate_left; (focus (intro wS hS; (try dsimp only at hS); go_split_ands; go_simp; (try with_reducible rfl); done)); (try simp only [Act.put, List.getElem_toArray, List.getElem_cons_succ, List.getElem_cons_zero, List.setIfInBounds_toArray, List.set_cons_zero, List.set_cons_succ]))
  refine ord_done ?_
  dsimp only [noPan]
  obtain ⟨q0, q1, q2, q3, q4⟩ := UP.out _ HB3.out
  go_wp2_with fail
  refine (rindex_val w3 A c S ⟨f0, f1, f2⟩ (H.out.1.rs.below (H.out.2.2.2.2.2.trans (HB3.out.mono H.out.2.2.2.2.2.size))) H.out.1.hc H.out.1.fit.s x hx).mono ?_
  rintro e w4 ⟨rfl, b4⟩
  have HB4 := Lib.hid (HB3.out.trans (b4.mono HB3.out.size))
  clear b4 q0 q1 q2 q3 q4
  go_wp2_with fail
  refine (head22_any w4).mono ?_
  rintro e w5 ⟨rfl, b5⟩
  have HB5 := Lib.hid (HB4.out.trans (b5.mono HB4.out.size))
  clear b5
  obtain ⟨q0, q1, -, -, -⟩ := UP.out _ HB5.out
  go_wp2_with fail
  have bw5 := H.out.2.2.2.2.2.trans (HB5.out.mono H.out.2.2.2.2.2.size)
  refine (packsOf_any w5 A c B d S P spot (H.out.1.below bw5)).mono ?_
  rintro e w6 ⟨v6, rfl, own6, b6⟩
  obtain ⟨A2, c2, rfl, hc2, -⟩ := own_form own6
  have HB6 := Lib.hid (HB5.out.trans (b6.mono HB5.out.size))
  obtain ⟨L, hL⟩ : ∃ L, ofSpot spot P = L := ⟨_, rfl⟩
  rw [hL] at own6 hc2 ⊢
  have hLP : L.length ≤ P.length := by rw [← hL]; exact ofSpot_len spot P
  have k12 := (Blk.new w6 23 #[.slice A2 L.length c2]).alloc (.cells #[.int .i64 0] 3)
  have k13 := Blk.new (w6.alloc (.cells #[.slice A2 L.length c2] 23)) 3 #[.int .i64 0]
  have bX : Below w6.heap.size w6 ((w6.alloc (.cells #[.slice A2 L.length c2] 23)).alloc (.cells #[.int .i64 0] 3)) := by (repeat (first | exact Below.refl _ _ | apply Below.drew | refine Below.alloc ?_ (by first | exact Nat.le_refl _ | (simp; done) | (simp; omega)) _ | refine Below.setCell ?_ (by first | exact Nat.le_refl _ | (simp; done) | (simp; omega)) _))
  simp only [World.size_alloc] at k13
  have HX := Lib.hid (And.intro k12 (And.intro k13 (And.intro bX (And.intro own6 (And.intro b6 hc2)))))
  have HL := Lib.hid hL
  clear k12 k13 bX own6 b6 hc2 hL q0 q1 bw5
  go_upto_region 7 with (fail)
  generalize (w6.alloc (.cells #[.slice A2 L.length c2] 23)).alloc (.cells #[.int .i64 0] 3) = W7 at HX ⊢
  have HB7 := Lib.hid (HB6.out.trans (HX.out.2.2.1.mono HB6.out.size))
  obtain ⟨q0, q1, -, -, -⟩ := UP.out _ HB7.out
  go_wp2_with fail
  refine (copy_any W7 A c B d S P (H.out.1.below (H.out.2.2.2.2.2.trans (HB7.out.mono H.out.2.2.2.2.2.size)))).mono ?_
  intro e w8 hn
  obtain ⟨A3, c3, B3, d3, rfl, F3, b8⟩ := hn.at H.out.1.fit
  have HF3 := Lib.hid (And.intro F3 b8)
  clear hn F3 b8 q0 q1
  unfold forV
  go_wp2_with fail
  refine (packs_any w8 A3 c3 B3 d3 S P spot HF3.out.1).mono ?_
  rintro e w9 ⟨bl, bs, v, rfl, kl, ks, own9, b9, hbl, hbs⟩
  have b79 := HF3.out.2.trans (b9.mono HF3.out.2.size)
  have k13' := HX.out.2.1.upd (Upd.of_below b79 (fun _ => False)) id
  have own2 := ownsRow_upd (ownsRow_upd HX.out.2.2.2.1 (Upd.of_below HX.out.2.2.1 (fun _ => False)) (fun _ _ => id)) (Upd.of_below b79 (fun _ => False)) (fun _ _ => id)
  have at9 : AtPk w w9 (w.heap.size + 1 + 1 + 1) w6.heap.size (w6.heap.size + 1) (.slice A2 L.length c2) := by
    have b69 := HX.out.2.2.1.trans (b79.mono HX.out.2.2.1.size)
    have b09 := HB6.out.trans (b69.mono HB6.out.size)
    have k3 := H.out.2.2.2.2.1.upd (Upd.of_below b09 (fun _ => False)) id
    refine ⟨k3, HX.out.1.upd (Upd.of_below b79 (fun _ => False)) id, H.out.2.2.2.2.2.trans (b09.mono H.out.2.2.2.2.2.size), by omega, ?_, by omega, k13'.lt⟩
    have := H.out.2.2.2.2.1.lt
    have := HB6.out.size
    omega
  have k2' := H.out.2.2.2.1.upd (Upd.of_below (HB7.out.trans (b79.mono HB7.out.size)) (fun _ => False)) id
  have h13 : w6.heap.size + 1 < w8.heap.size := Nat.lt_of_lt_of_le HX.out.2.1.lt HF3.out.2.size
  have h56 : w5.heap.size ≤ w6.heap.size := HX.out.2.2.2.2.1.size
  have h05 : W0.heap.size ≤ w5.heap.size := HB5.out.size
  have lA2 : ∀ q, (Value.slice A2 L.length c2).ownBlock = some q → q < w6.heap.size := fun q hq => (HX.out.2.2.2.1.lt q hq).2
  have H9 := Lib.hid (And.intro at9 (And.intro k13' (And.intro own2 (And.intro kl (And.intro ks (And.intro own9 (And.intro b9 (And.intro hbl (And.intro hbs (And.intro k2' (And.intro h13 lA2)))))))))))
  clear at9 k13' own2 kl ks own9 b9 hbl hbs k2' b79 lA2
  go_wp2
  have hQ : ∀ p ∈ ofSpot spot P, True := fun _ _ => trivial
  obtain ⟨at9, k13', own2, kl, ks, own9, b9, hbl, hbs, k2', -, lA2⟩ := H9.out
  have hl9 := at9.lt
  have zz := b9.size
  refine wp_range 5 (by omega) (gf := 42) (lb := #[.pointer (some ⟨bl, 0, none⟩), .pointer (some ⟨bs, 0, none⟩)]) rfl (enters_of Tryz.func42 (by kernel_rfl) rfl)
    (packs_stops Fence.wide (5 - 1) trivial rfl (by omega) bl bs w9.heap.size w8.heap.size (fun q => q = w6.heap.size + 1) P spot v (fun _ => True) hQ hP8 w9 kl.lt (Nat.le_refl _) (kl.cell 0) (ks.cell 0) ⟨ks.lt, by omega⟩ own9 (fun q hq => ⟨(own9.lt q hq).2, by have := (own9.lt q hq).1; omega⟩))
    KpF.trans (KpF.put (Nat.le_refl _)) (Below.refl _ _) (fun _ => rfl)
    (fun pre W => Upd (fun q => q = w6.heap.size + 1) w9 W ∧ Blk W (w6.heap.size + 1) 3 #[.int .i64 (pre.length : Int)])
    (fun c pre W => c = .ret ∧ (BadPk L pre ∨ (Blk W (w.heap.size + 1 + 1 + 1) 4 #[.bool true] ∧ Upd (fun q => q = w6.heap.size + 1 ∨ q = w.heap.size + 1 + 1 + 1) w9 W)))
    ?hI ?hIx ?h0
    (fun T x b => (T.setIfInBounds 57 x.1.agg).setIfInBounds 14 (.pointer (some ⟨b, 0, none⟩)))
    (fun x b W => Blk W b 42 x.1.cells.toArray ∧ w9.heap.size ≤ b)
    ?hBx ?assign ?body ?done ?stop
  case hI => exact fun s X Y row h hg hr => ⟨h.1.keep hg (Nat.le_refl _) hr, h.2.keep hg hr⟩
  case hIx => exact fun c s X Y row h hg hr => ⟨h.1, h.2.imp id fun h => ⟨h.1.keep hg hr, h.2.keep hg (Nat.le_refl _) hr⟩⟩
  case h0 => exact ⟨Upd.refl _ _, k13'⟩
  case hBx => exact fun x b s X Y row h hg hr => ⟨h.1.keep hg hr, h.2⟩
  case assign =>
    rintro l pre ⟨⟨p0, p1, p2, p3, p4⟩, hp⟩ W K hi hK
    dsimp only [encP, Pk.agg]
    have HI := Lib.hid hi
    clear hi
    gi_wp2
    exact hK W.heap.size _ ((KeepsOthers.alloc W _).from _) (Upd.alloc (Upd.refl _ _) _) ⟨HI.out.1.alloc _, HI.out.2.alloc _⟩ ⟨Blk.new W _ _, HI.out.1.size⟩
  case body =>
    rintro lp pre ⟨⟨p0, p1, p2, p3, p4⟩, hp⟩ b W hlw hrw ⟨U, k13⟩ ⟨kx, hbx⟩ hlt
    rw [HL.out] at hlt
    obtain ⟨⟨m0, m1, m2, m3, m4⟩, hm⟩ : ∃ m, L[pre.length]? = some m := ⟨L[pre.length], List.getElem?_eq_getElem hlt⟩
    obtain ⟨gl, cc, hv, hob, -, -, -, hcell⟩ := own_cells own2 (by omega)
    injection hv with hA _ hcc
    subst hA
    have hgl : gl < w6.heap.size := lA2 gl hob
    have hg := fun j (hj : j < 5) => flat_get Pk.cells 5 (fun _ => rfl) L pre.length j _ hm hj
    have kc : ∀ {q : Addr} {u : Value}, w9.cell? q = some u → q.block ≠ w6.heap.size + 1 → W.cell? q = some u := fun {q u} h1 h2 => (Upd.cell U (World.block_lt_of_cell? w9 _ h1) h2).trans h1
    have s0 : W.cell? ⟨gl, pre.length * 5, none⟩ = some (.int .i64 m0) := kc (hcell _ _ (hg 0 (by omega))).1 (by show gl ≠ _; omega)
    have s1 : W.cell? ⟨gl, pre.length * 5 + 1, none⟩ = some (.int .i64 m1) := kc (hcell _ _ (hg 1 (by omega))).1 (by show gl ≠ _; omega)
    have s2 : W.cell? ⟨gl, pre.length * 5 + 2, none⟩ = some (.int .i64 m2) := kc (hcell _ _ (hg 2 (by omega))).1 (by show gl ≠ _; omega)
    have s3 : W.cell? ⟨gl, pre.length * 5 + 3, none⟩ = some (.int .i64 m3) := kc (hcell _ _ (hg 3 (by omega))).1 (by show gl ≠ _; omega)
    have s4 : W.cell? ⟨gl, pre.length * 5 + 4, none⟩ = some (.int .i64 m4) := kc (hcell _ _ (hg 4 (by omega))).1 (by show gl ≠ _; omega)
    have c13 : W.cell? ⟨w6.heap.size + 1, 0, none⟩ = some (.int .i64 (pre.length : Int)) := k13.cell 0
    have c12 : W.cell? ⟨w6.heap.size, 0, none⟩ = some (.slice (some ⟨gl, 0, none⟩) L.length c2) := (at9.v.upd U (by omega)).cell 0
    have x0 : W.cell? ⟨b, 0, none⟩ = some (.int .i64 p0) := kx.cell 0
    have x1 : W.cell? ⟨b, 1, none⟩ = some (.int .i64 p1) := kx.cell 1
    have x2 : W.cell? ⟨b, 2, none⟩ = some (.int .i64 p2) := kx.cell 2
    have x3 : W.cell? ⟨b, 3, none⟩ = some (.int .i64 p3) := kx.cell 3
    have x4 : W.cell? ⟨b, 4, none⟩ = some (.int .i64 p4) := kx.cell 4
    have kr : Blk W (w.heap.size + 1 + 1 + 1) 4 #[.bool false] := at9.r.upd U (by omega)
    have kle : Blk W (w.heap.size + 1 + 1) 3 #[.int .i64 leave] := k2'.upd U (by omega)
    have q2 : W.drew.cell? ⟨w.heap.size + 1 + 1 + 1, 0, none⟩ = some (.bool false) := kr.cell 0
    have q3 : W.drew.frozen? ⟨w.heap.size + 1 + 1 + 1, 0, none⟩ = false := kr.drew.frozen 0
    have q4 : W.drew.cell? ⟨w.heap.size + 1 + 1, 0, none⟩ = some (.int .i64 leave) := kle.cell 0
    have q7 : W.cell? ⟨w.heap.size + 1 + 1, 0, none⟩ = some (.int .i64 leave) := kle.cell 0
    have q8 : W.cell? ⟨w.heap.size + 1 + 1 + 1, 0, none⟩ = some (.bool false) := kr.cell 0
    have q9 : W.frozen? ⟨w.heap.size + 1 + 1 + 1, 0, none⟩ = false := kr.frozen 0
    have q10 : W.frozen? ⟨w6.heap.size + 1, 0, none⟩ = false := k13.frozen 0
    have q5 : W.drew.cell? ⟨w6.heap.size + 1, 0, none⟩ = some (.int .i64 (pre.length : Int)) := k13.cell 0
    have q6 : W.drew.frozen? ⟨w6.heap.size + 1, 0, none⟩ = false := k13.drew.frozen 0
    have hne1 : w6.heap.size + 1 ≠ w.heap.size + 1 + 1 := by omega
    have hne2 : w6.heap.size + 1 ≠ w.heap.size + 1 + 1 + 1 := by omega
    have hge : decide (L.length ≤ pre.length) = false := by simp; omega
    have hw1 : IntKind.i64.wrap ((pre.length : Int) + 1) = (pre.length : Int) + 1 := IntWalk.i64_in _ (by omega)
    have hltI : (pre.length : Int) < (L.length : Int) := by omega
    have hcI : (L.length : Int) ≤ (c2 : Int) := by have := HX.out.2.2.2.2.2; omega
    have hpe := fun W => pack_neq W p0 p1 p2 p3 p4 m0 m1 m2 m3 m4
    have HBd := Lib.hid (And.intro U (And.intro k13 (And.intro kr hm)))
    clear U k13 kx kr kle hm hcell hg hob hcc kc k13' own2 at9 kl ks own9 b9 k2' lA2 hQ hrw
    simp only [List.setIfInBounds_toArray, List.set_cons_zero, List.set_cons_succ]
    gi_wp2
    refine wpIn_region_ord (fun W => W.cell? ⟨w6.heap.size + 1, 0, none⟩ = some (.int .i64 (pre.length : Int)) ∧ W.cell? ⟨w6.heap.size, 0, none⟩ = some (.slice (some ⟨gl, 0, none⟩) L.length c2) ∧
        W.cell? ⟨gl, pre.length * 5, none⟩ = some (.int .i64 m0) ∧ W.cell? ⟨gl, pre.length * 5 + 1, none⟩ = some (.int .i64 m1) ∧ W.cell? ⟨gl, pre.length * 5 + 2, none⟩ = some (.int .i64 m2) ∧ W.cell? ⟨gl, pre.length * 5 + 3, none⟩ = some (.int .i64 m3) ∧ W.cell? ⟨gl, pre.length * 5 + 4, none⟩ = some (.int .i64 m4) ∧
        W.cell? ⟨b, 0, none⟩ = some (.int .i64 p0) ∧ W.cell? ⟨b, 1, none⟩ = some (.int .i64 p1) ∧ W.cell? ⟨b, 2, none⟩ = some (.int .i64 p2) ∧ W.cell? ⟨b, 3, none⟩ = some (.int .i64 p3) ∧ W.cell? ⟨b, 4, none⟩ = some (.int .i64 p4))
      12 [(0, true), (1, true), (2, true), (3, true), (4, true), (5, true), (6, true), (7, true), (8, true), (9, true), (10, true), (11, true)]
      (by kernel_rfl) (by kernel_rfl) (by kernel_rfl) (fun ⟨_, _, h⟩ => h) (fun _ _ _ _ _ h => h) ⟨c13, c12, s0, s1, s2, s3, s4, x0, x1, x2, x3, x4⟩ ?_
    by_cases hxy : (⟨p0, p1, p2, p3, p4⟩ : Pk) = ⟨m0, m1, m2, m3, m4⟩
    · have hd : decide ((⟨p0, p1, p2, p3, p4⟩ : Pk) = ⟨m0, m1, m2, m3, m4⟩) = true := by simpa using hxy
      rw [hd] at hpe
      clear hd hxy
      iterate 12 (refine ord_take (v := ?_) rfl (by first | with_reducible rfl | kernel_rfl) ?_ ?_; rotate_left; (focus (intro wS hS; (try dsimp only at hS); go_split_ands; go_simp; (try with_reducible rfl); done)); (try simp only [Act.put, List.getElem_toArray, List.getElem_cons_succ, List.getElem_cons_zero, List.setIfInBounds_toArray, List.set_cons_zero, List.set_cons_succ]))
      refine ord_done ?_
      clear c12 s0 s1 s2 s3 s4 x0 x1 x2 x3 x4 hpe
      have U' := HBd.out.1
      have fin2 : Upd (fun q => w9.heap.size ≤ q ∨ q = w6.heap.size + 1) W (W.setCell ⟨w6.heap.size + 1, 0, none⟩ (.int .i64 ((pre.length : Int) + 1))).drew := ((Upd.refl (fun q => w9.heap.size ≤ q ∨ q = w6.heap.size + 1) W).setCell (p := ⟨w6.heap.size + 1, 0, none⟩) (.inl (.inr rfl)) _).drew
      have fin1 : Upd (fun q => q = w6.heap.size + 1) w9 (W.setCell ⟨w6.heap.size + 1, 0, none⟩ (.int .i64 ((pre.length : Int) + 1))).drew := (U'.setCell (p := ⟨w6.heap.size + 1, 0, none⟩) (.inl rfl) _).drew
      have fin3 := (HBd.out.2.1.set 0 (.int .i64 ((pre.length : Int) + 1))).drew
      have hus : Upd (fun q => q = w6.heap.size + 1) W (W.setCell ⟨w6.heap.size + 1, 0, none⟩ (.int .i64 ((pre.length : Int) + 1))).drew := ((Upd.refl (fun q => q = w6.heap.size + 1) W).setCell (p := ⟨w6.heap.size + 1, 0, none⟩) (.inl rfl) _).drew
      have fin4 := (HBd.out.2.2.1.upd hus (by omega)).set 0 (.bool true)
      have fin5 : ∀ V : World, Upd (fun q => q = w6.heap.size + 1) w9 V → Upd (fun q => q = w6.heap.size + 1 ∨ q = w.heap.size + 1 + 1 + 1) w9 (V.setCell ⟨w.heap.size + 1 + 1 + 1, 0, none⟩ (.bool true)) := fun V hV => (hV.mono (fun i _ e => .inl e)).setCell (p := ⟨w.heap.size + 1 + 1 + 1, 0, none⟩) (.inl (.inr rfl)) _
      have FIN := Lib.hid (And.intro fin1 (And.intro fin2 (And.intro fin3 (And.intro fin4 (fin5 _ fin1)))))
      clear fin1 fin2 fin3 fin4 fin5 U' hus
      by_cases he : (pre.length : Int) + 1 = leave
      · have he' : ((pre.length : Int) + 1 == leave) = true := by simpa using he
        clear he
        gi_wp2
        exact ⟨(((KeepsOthers.setCell W _ _).trans (KeepsOthers.drew _)).trans (KeepsOthers.setCell _ _ _)).from _, rfl, .inr ⟨FIN.out.2.2.2.1, FIN.out.2.2.2.2⟩⟩
      · have he' : ((pre.length : Int) + 1 == leave) = false := by simpa using he
        clear he
        gi_wp2
        refine ⟨((KeepsOthers.setCell W _ _).trans (KeepsOthers.drew _)).from _, FIN.out.2.1, FIN.out.1, ?_⟩
        have := FIN.out.2.2.1
        rw [List.length_append]
        exact this
    · have hd : decide ((⟨p0, p1, p2, p3, p4⟩ : Pk) = ⟨m0, m1, m2, m3, m4⟩) = false := by simpa using hxy
      rw [hd] at hpe
      clear hd
      iterate 12 (refine ord_take (v := ?_) rfl (by first | with_reducible rfl | kernel_rfl) ?_ ?_; rotate_left; (focus (intro wS hS; (try dsimp only at hS); go_split_ands; go_simp; (try with_reducible rfl); done)); (try simp only [Act.put, List.getElem_toArray, List.getElem_cons_succ, List.getElem_cons_zero, List.setIfInBounds_toArray, List.set_cons_zero, List.set_cons_succ]))
      refine ord_done ?_
      clear c13 c12 s0 s1 s2 s3 s4 x0 x1 x2 x3 x4 hpe
      gi_wp2
      exact ⟨((KeepsOthers.setCell W _ _).trans (KeepsOthers.drew _)).from _, rfl, .inl (BadPk.mk HBd.out.2.2.2 hxy)⟩
  case done =>
    rintro D xs W hD rfl ⟨U, k13⟩ hd
    rw [spotL_len, HL.out] at k13
    have c13 : W.cell? ⟨w6.heap.size + 1, 0, none⟩ = some (.int .i64 (L.length : Int)) := k13.cell 0
    have c12 : W.cell? ⟨w6.heap.size, 0, none⟩ = some (.slice A2 L.length c2) := (at9.v.upd U (by omega)).cell 0
    have kr : Blk W (w.heap.size + 1 + 1 + 1) 4 #[.bool false] := at9.r.upd U (by omega)
    have q2 : W.cell? ⟨w.heap.size + 1 + 1 + 1, 0, none⟩ = some (.bool false) := kr.cell 0
    have q3 : W.frozen? ⟨w.heap.size + 1 + 1 + 1, 0, none⟩ = false := kr.frozen 0
    have krF := kr.set 0 (.bool true)
    have eD : (W.setCell ⟨w.heap.size + 1 + 1 + 1, 0, none⟩ (.bool true)).heap[D]? = some (.deferred (some [])) := (KeepsOthers.setCell _ _ _).same D _ hd rfl
    have bW : Below w.heap.size w (W.setCell ⟨w.heap.size + 1 + 1 + 1, 0, none⟩ (.bool true)) := (at9.b.trans (U.below (fun q _ e => by omega) at9.b.size)).setCell (p := ⟨w.heap.size + 1 + 1 + 1, 0, none⟩) (by show w.heap.size ≤ w.heap.size + 1 + 1 + 1; omega) _
    have HFi := Lib.hid (And.intro krF (And.intro eD bW))
    have hDw : w.heap.size + 1 + 1 + 1 < D ∧ w.heap.size ≤ D := by omega
    clear U k13 kr krF eD bW hd at9 kl ks own9 b9 k2' lA2 k13' own2 hQ
    go_wp2
    refine leaves_one HFi.out.2.1 ?_
    have kU := HFi.out.1.grown (grownBy_putObj' _ D (.deferred none)) (fun e => by injection e with e; omega)
    have bG := HFi.out.2.2.trans ((Upd.of_grown (grownBy_putObj' _ D (.deferred none))).below (fun q _ e => by injection e with e; omega) HFi.out.2.2.size)
    have hc8 := kU.cell 0
    simp only [List.setIfInBounds_toArray, List.set_cons_zero, List.getElem?_toArray, List.getElem?_cons_zero] at hc8
    exact ⟨.bool true, by simp [results, Tryz.f4, go_sem, hc8], rfl, bG⟩
  case stop =>
    rintro D c pre W hD hp ⟨rfl, hbad | ⟨krF, U⟩⟩ hd
    · rw [← HL.out] at hbad
      exact (BadPk.no hbad hp).elim
    · have eD := hd
      have bW : Below w.heap.size w W := at9.b.trans (U.below (fun q _ e => by omega) at9.b.size)
      have HFi := Lib.hid (And.intro krF (And.intro eD bW))
      have hDw : w.heap.size + 1 + 1 + 1 < D ∧ w.heap.size ≤ D := by omega
      clear U krF eD bW hd at9 kl ks own9 b9 k2' lA2 k13' own2 hp hQ
      go_wp2
      refine leaves_one HFi.out.2.1 ?_
      have kU := HFi.out.1.grown (grownBy_putObj' _ D (.deferred none)) (fun e => by injection e with e; omega)
      have bG := HFi.out.2.2.trans ((Upd.of_grown (grownBy_putObj' _ D (.deferred none))).below (fun q _ e => by injection e with e; omega) HFi.out.2.2.size)
      have hc8 := kU.cell 0
      simp only [List.getElem?_toArray, List.getElem?_cons_zero] at hc8
      exact ⟨.bool true, by simp [results, Tryz.f4, go_sem, hc8], rfl, bG⟩

set_option maxHeartbeats 16000000 in
set_option maxRecDepth 100000 in
theorem finds_no (w : World) (A : Option Addr) (c : Nat) (B : Option Addr) (d : Nat) (S : List Fct) (P : List Pk) (f : Fct) (spot leave : Int) (hx : idxI S f = -1) (h : ForR w A c B d S P) :
    Calls Tryz.prog 4 #[forV A S.length c B P.length d, f.agg, .int .i64 spot, .int .i64 leave] w (Sam w (.bool true)) := by
  obtain ⟨f0, f1, f2⟩ := f
  have hP8 : P.length * 40 ≤ 140737488355328 := h.fit.p
  have k0 := (((Blk.new w 25 #[.slice A S.length c, .slice B P.length d]).alloc (.cells #[.int .i64 f0, .int .i64 f1, .int .i64 f2] 33)).alloc (.cells #[.int .i64 leave] 3)).alloc (.cells #[.bool false] 4)
  have k1 := ((Blk.new (w.alloc (.cells #[.slice A S.length c, .slice B P.length d] 25)) 33 #[.int .i64 f0, .int .i64 f1, .int .i64 f2]).alloc (.cells #[.int .i64 leave] 3)).alloc (.cells #[.bool false] 4)
  have k2 := (Blk.new ((w.alloc (.cells #[.slice A S.length c, .slice B P.length d] 25)).alloc (.cells #[.int .i64 f0, .int .i64 f1, .int .i64 f2] 33)) 3 #[.int .i64 leave]).alloc (.cells #[.bool false] 4)
  have k3 := Blk.new (((w.alloc (.cells #[.slice A S.length c, .slice B P.length d] 25)).alloc (.cells #[.int .i64 f0, .int .i64 f1, .int .i64 f2] 33)).alloc (.cells #[.int .i64 leave] 3)) 4 #[.bool false]
  have u0 : Below w.heap.size w ((((w.alloc (.cells #[.slice A S.length c, .slice B P.length d] 25)).alloc (.cells #[.int .i64 f0, .int .i64 f1, .int .i64 f2] 33)).alloc (.cells #[.int .i64 leave] 3)).alloc (.cells #[.bool false] 4)) := by (repeat (first | exact Below.refl _ _ | apply Below.drew | refine Below.alloc ?_ (by first | exact Nat.le_refl _ | (simp; done) | (simp; omega)) _ | refine Below.setCell ?_ (by first | exact Nat.le_refl _ | (simp; done) | (simp; omega)) _))
  simp only [World.size_alloc] at k1 k2 k3
  have H := Lib.hid (And.intro h (And.intro k0 (And.intro k1 (And.intro k2 (And.intro k3 u0)))))
  clear h k0 k1 k2 k3 u0
  refine (callsIn_wide (n := 5)).1 ?_
  refine callsIn_of_wp_marks Tryz.func4 rfl trivial ?_ rfl
  simp only [Tryz.ntmps4, List.size_toArray, List.length_cons, List.length_nil, Nat.reduceAdd, Nat.reduceSub, Array.replicate_succ, Array.replicate_zero, List.push_toArray, List.append_toArray, List.nil_append, List.cons_append]
  refine wpIn_wide.2 ?_
  unfold forV Fct.agg
  go_upto_region 1 with (fail)
  generalize (((w.alloc (.cells #[.slice A S.length c, .slice B P.length d] 25)).alloc (.cells #[.int .i64 f0, .int .i64 f1, .int .i64 f2] 33)).alloc (.cells #[.int .i64 leave] 3)).alloc (.cells #[.bool false] 4) = W0 at H ⊢
  have up : ∀ w', Below W0.heap.size W0 w' → w'.cell? ⟨w.heap.size, 0, none⟩ = some (.slice A S.length c) ∧ w'.cell? ⟨w.heap.size, 1, none⟩ = some (.slice B P.length d) ∧ w'.cell? ⟨w.heap.size + 1, 0, none⟩ = some (.int .i64 f0) ∧ w'.cell? ⟨w.heap.size + 1, 1, none⟩ = some (.int .i64 f1) ∧ w'.cell? ⟨w.heap.size + 1, 2, none⟩ = some (.int .i64 f2) := fun w' hb => by
    have hk := H.out.2.1.upd (Upd.of_below hb (fun _ => False)) id
    have hf := H.out.2.2.1.upd (Upd.of_below hb (fun _ => False)) id
    exact ⟨hk.cell 0, hk.cell 1, hf.cell 0, hf.cell 1, hf.cell 2⟩
  have UP := Lib.hid up
  clear up
  refine wp_noPan ?_
  refine wp_region_ord (fun w' => w'.cell? ⟨w.heap.size, 0, none⟩ = some (.slice A S.length c) ∧ w'.cell? ⟨w.heap.size, 1, none⟩ = some (.slice B P.length d) ∧ w'.cell? ⟨w.heap.size + 1, 0, none⟩ = some (.int .i64 f0) ∧ w'.cell? ⟨w.heap.size + 1, 1, none⟩ = some (.int .i64 f1) ∧ w'.cell? ⟨w.heap.size + 1, 2, none⟩ = some (.int .i64 f2)) 9 [(0, true), (2, true), (1, false), (3, false), (4, true), (5, true), (6, true), (7, true), (8, true)] (by kernel_rfl) (by kernel_rfl) (fun _ _ _ _ _ h => h.elim) (UP.out _ (Below.refl _ _).drew) ?_
  iterate 2 (refine ord_take (v := ?_) rfl (by first | with_reducible rfl | kernel_rfl) ?_ ?_; rotate_left; (focus (intro wS hS; (try dsimp only at hS); go_split_ands; go_simp; (try with_reducible rfl); done)); (try simp only [Act.put, List.getElem_toArray, List.getElem_cons_succ, List.getElem_cons_zero, List.setIfInBounds_toArray, List.set_cons_zero, List.set_cons_succ]))
  refine ord_do rfl rfl (fun K hK => ?_)
  go_simp
  refine (copy_any _ A c B d S P (H.out.1.below (H.out.2.2.2.2.2.trans ((Below.refl W0.heap.size W0).drew.mono H.out.2.2.2.2.2.size)))).mono ?_
  intro e w2 hn
  obtain ⟨A1, c1, B1, d1, rfl, F1, b2⟩ := hn.at H.out.1.fit
  have b02 : Below W0.heap.size W0 w2 := (Below.refl W0.heap.size W0).drew.trans b2
  refine hK _ _ (fun _ => UP.out _ b02) ?_
  clear hK K hn
  (try simp only [Act.put, List.getElem_toArray, List.getElem_cons_succ, List.getElem_cons_zero, List.setIfInBounds_toArray, List.set_cons_zero, List.set_cons_succ])
  have HF1 := Lib.hid (And.intro F1 b02)
  clear F1 b2 b02
  unfold forV
  refine ord_do rfl rfl (fun K hK => ?_)
  go_simp
  refine (sfind_no w2 A1 c1 B1 P.length d1 S ⟨f0, f1, f2⟩ HF1.out.1.rs HF1.out.1.hc H.out.1.fit.s hx).mono ?_
  rintro e w3 ⟨rfl, b3⟩
  have b03 : Below W0.heap.size W0 w3 := HF1.out.2.trans (b3.mono HF1.out.2.size)
  refine hK _ _ (fun _ => UP.out _ b03) ?_
  clear hK K
  (try simp only [Act.put, List.getElem_toArray, List.getElem_cons_succ, List.getElem_cons_zero, List.setIfInBounds_toArray, List.set_cons_zero, List.set_cons_succ])
  have HB3 := Lib.hid b03
  clear b3 b03
  iterate 5 (refine ord_take (v := ?_) rfl (by first | with_reducible rfl | kernel_rfl) ?_ ?_; rotate_left; (focus (intro wS hS; (try dsimp only at hS); go_split_ands; go_simp; (try with_reducible rfl); done)); (try simp only [Act.put, List.getElem_toArray, List.getElem_cons_succ, List.getElem_cons_zero, List.setIfInBounds_toArray, List.set_cons_zero, List.set_cons_succ]))
  refine ord_done ?_
  dsimp only [noPan]
  obtain ⟨q0, q1, q2, q3, q4⟩ := UP.out _ HB3.out
  go_wp2_with fail
  refine (rindex_val w3 A c S ⟨f0, f1, f2⟩ (H.out.1.rs.below (H.out.2.2.2.2.2.trans (HB3.out.mono H.out.2.2.2.2.2.size))) H.out.1.hc H.out.1.fit.s (-1) hx).mono ?_
  rintro e w4 ⟨rfl, b4⟩
  have HB4 := Lib.hid (HB3.out.trans (b4.mono HB3.out.size))
  clear b4 q0 q1 q2 q3 q4
  go_wp2_with fail
  refine (head22_any w4).mono ?_
  rintro e w5 ⟨rfl, b5⟩
  have HB5 := Lib.hid (HB4.out.trans (b5.mono HB4.out.size))
  clear b5
  obtain ⟨q0, q1, -, -, -⟩ := UP.out _ HB5.out
  go_wp2_with fail
  have bw5 := H.out.2.2.2.2.2.trans (HB5.out.mono H.out.2.2.2.2.2.size)
  refine (packsOf_any w5 A c B d S P spot (H.out.1.below bw5)).mono ?_
  rintro e w6 ⟨v6, rfl, own6, b6⟩
  obtain ⟨A2, c2, rfl, hc2, -⟩ := own_form own6
  have HB6 := Lib.hid (HB5.out.trans (b6.mono HB5.out.size))
  obtain ⟨L, hL⟩ : ∃ L, ofSpot spot P = L := ⟨_, rfl⟩
  rw [hL] at own6 hc2 ⊢
  have hLP : L.length ≤ P.length := by rw [← hL]; exact ofSpot_len spot P
  have k12 := (Blk.new w6 23 #[.slice A2 L.length c2]).alloc (.cells #[.int .i64 0] 3)
  have k13 := Blk.new (w6.alloc (.cells #[.slice A2 L.length c2] 23)) 3 #[.int .i64 0]
  have bX : Below w6.heap.size w6 ((w6.alloc (.cells #[.slice A2 L.length c2] 23)).alloc (.cells #[.int .i64 0] 3)) := by (repeat (first | exact Below.refl _ _ | apply Below.drew | refine Below.alloc ?_ (by first | exact Nat.le_refl _ | (simp; done) | (simp; omega)) _ | refine Below.setCell ?_ (by first | exact Nat.le_refl _ | (simp; done) | (simp; omega)) _))
  simp only [World.size_alloc] at k13
  have HX := Lib.hid (And.intro k12 (And.intro k13 (And.intro bX (And.intro own6 (And.intro b6 hc2)))))
  have HL := Lib.hid hL
  clear k12 k13 bX own6 b6 hc2 hL q0 q1 bw5
  go_upto_region 7 with (fail)
  generalize (w6.alloc (.cells #[.slice A2 L.length c2] 23)).alloc (.cells #[.int .i64 0] 3) = W7 at HX ⊢
  have HB7 := Lib.hid (HB6.out.trans (HX.out.2.2.1.mono HB6.out.size))
  obtain ⟨q0, q1, -, -, -⟩ := UP.out _ HB7.out
  go_wp2_with fail
  refine (copy_any W7 A c B d S P (H.out.1.below (H.out.2.2.2.2.2.trans (HB7.out.mono H.out.2.2.2.2.2.size)))).mono ?_
  intro e w8 hn
  obtain ⟨A3, c3, B3, d3, rfl, F3, b8⟩ := hn.at H.out.1.fit
  have HF3 := Lib.hid (And.intro F3 b8)
  clear hn F3 b8 q0 q1
  unfold forV
  go_wp2_with fail
  refine (packs_any w8 A3 c3 B3 d3 S P spot HF3.out.1).mono ?_
  rintro e w9 ⟨bl, bs, v, rfl, kl, ks, own9, b9, hbl, hbs⟩
  have b79 := HF3.out.2.trans (b9.mono HF3.out.2.size)
  have k13' := HX.out.2.1.upd (Upd.of_below b79 (fun _ => False)) id
  have own2 := ownsRow_upd (ownsRow_upd HX.out.2.2.2.1 (Upd.of_below HX.out.2.2.1 (fun _ => False)) (fun _ _ => id)) (Upd.of_below b79 (fun _ => False)) (fun _ _ => id)
  have at9 : AtPk w w9 (w.heap.size + 1 + 1 + 1) w6.heap.size (w6.heap.size + 1) (.slice A2 L.length c2) := by
    have b69 := HX.out.2.2.1.trans (b79.mono HX.out.2.2.1.size)
    have b09 := HB6.out.trans (b69.mono HB6.out.size)
    have k3 := H.out.2.2.2.2.1.upd (Upd.of_below b09 (fun _ => False)) id
    refine ⟨k3, HX.out.1.upd (Upd.of_below b79 (fun _ => False)) id, H.out.2.2.2.2.2.trans (b09.mono H.out.2.2.2.2.2.size), by omega, ?_, by omega, k13'.lt⟩
    have := H.out.2.2.2.2.1.lt
    have := HB6.out.size
    omega
  have k2' := H.out.2.2.2.1.upd (Upd.of_below (HB7.out.trans (b79.mono HB7.out.size)) (fun _ => False)) id
  have h13 : w6.heap.size + 1 < w8.heap.size := Nat.lt_of_lt_of_le HX.out.2.1.lt HF3.out.2.size
  have h56 : w5.heap.size ≤ w6.heap.size := HX.out.2.2.2.2.1.size
  have h05 : W0.heap.size ≤ w5.heap.size := HB5.out.size
  have lA2 : ∀ q, (Value.slice A2 L.length c2).ownBlock = some q → q < w6.heap.size := fun q hq => (HX.out.2.2.2.1.lt q hq).2
  have H9 := Lib.hid (And.intro at9 (And.intro k13' (And.intro own2 (And.intro kl (And.intro ks (And.intro own9 (And.intro b9 (And.intro hbl (And.intro hbs (And.intro k2' (And.intro h13 lA2)))))))))))
  clear at9 k13' own2 kl ks own9 b9 hbl hbs k2' b79 lA2
  go_wp2
  have hQ : ∀ p ∈ ofSpot spot P, True := fun _ _ => trivial
  obtain ⟨at9, k13', own2, kl, ks, own9, b9, hbl, hbs, k2', -, lA2⟩ := H9.out
  have hl9 := at9.lt
  have zz := b9.size
  refine wp_range 5 (by omega) (gf := 42) (lb := #[.pointer (some ⟨bl, 0, none⟩), .pointer (some ⟨bs, 0, none⟩)]) rfl (enters_of Tryz.func42 (by kernel_rfl) rfl)
    (packs_stops Fence.wide (5 - 1) trivial rfl (by omega) bl bs w9.heap.size w8.heap.size (fun q => q = w6.heap.size + 1) P spot v (fun _ => True) hQ hP8 w9 kl.lt (Nat.le_refl _) (kl.cell 0) (ks.cell 0) ⟨ks.lt, by omega⟩ own9 (fun q hq => ⟨(own9.lt q hq).2, by have := (own9.lt q hq).1; omega⟩))
    KpF.trans (KpF.put (Nat.le_refl _)) (Below.refl _ _) (fun _ => rfl)
    (fun pre W => Upd (fun q => q = w6.heap.size + 1) w9 W ∧ Blk W (w6.heap.size + 1) 3 #[.int .i64 (pre.length : Int)])
    (fun c pre W => c = .ret ∧ (BadPk L pre ∨ (Blk W (w.heap.size + 1 + 1 + 1) 4 #[.bool true] ∧ Upd (fun q => q = w6.heap.size + 1 ∨ q = w.heap.size + 1 + 1 + 1) w9 W)))
    ?hI ?hIx ?h0
    (fun T x b => (T.setIfInBounds 57 x.1.agg).setIfInBounds 14 (.pointer (some ⟨b, 0, none⟩)))
    (fun x b W => Blk W b 42 x.1.cells.toArray ∧ w9.heap.size ≤ b)
    ?hBx ?assign ?body ?done ?stop
  case hI => exact fun s X Y row h hg hr => ⟨h.1.keep hg (Nat.le_refl _) hr, h.2.keep hg hr⟩
  case hIx => exact fun c s X Y row h hg hr => ⟨h.1, h.2.imp id fun h => ⟨h.1.keep hg hr, h.2.keep hg (Nat.le_refl _) hr⟩⟩
  case h0 => exact ⟨Upd.refl _ _, k13'⟩
  case hBx => exact fun x b s X Y row h hg hr => ⟨h.1.keep hg hr, h.2⟩
  case assign =>
    rintro l pre ⟨⟨p0, p1, p2, p3, p4⟩, hp⟩ W K hi hK
    dsimp only [encP, Pk.agg]
    have HI := Lib.hid hi
    clear hi
    gi_wp2
    exact hK W.heap.size _ ((KeepsOthers.alloc W _).from _) (Upd.alloc (Upd.refl _ _) _) ⟨HI.out.1.alloc _, HI.out.2.alloc _⟩ ⟨Blk.new W _ _, HI.out.1.size⟩
  case body =>
    rintro lp pre ⟨⟨p0, p1, p2, p3, p4⟩, hp⟩ b W hlw hrw ⟨U, k13⟩ ⟨kx, hbx⟩ hlt
    rw [HL.out] at hlt
    obtain ⟨⟨m0, m1, m2, m3, m4⟩, hm⟩ : ∃ m, L[pre.length]? = some m := ⟨L[pre.length], List.getElem?_eq_getElem hlt⟩
    obtain ⟨gl, cc, hv, hob, -, -, -, hcell⟩ := own_cells own2 (by omega)
    injection hv with hA _ hcc
    subst hA
    have hgl : gl < w6.heap.size := lA2 gl hob
    have hg := fun j (hj : j < 5) => flat_get Pk.cells 5 (fun _ => rfl) L pre.length j _ hm hj
    have kc : ∀ {q : Addr} {u : Value}, w9.cell? q = some u → q.block ≠ w6.heap.size + 1 → W.cell? q = some u := fun {q u} h1 h2 => (Upd.cell U (World.block_lt_of_cell? w9 _ h1) h2).trans h1
    have s0 : W.cell? ⟨gl, pre.length * 5, none⟩ = some (.int .i64 m0) := kc (hcell _ _ (hg 0 (by omega))).1 (by show gl ≠ _; omega)
    have s1 : W.cell? ⟨gl, pre.length * 5 + 1, none⟩ = some (.int .i64 m1) := kc (hcell _ _ (hg 1 (by omega))).1 (by show gl ≠ _; omega)
    have s2 : W.cell? ⟨gl, pre.length * 5 + 2, none⟩ = some (.int .i64 m2) := kc (hcell _ _ (hg 2 (by omega))).1 (by show gl ≠ _; omega)
    have s3 : W.cell? ⟨gl, pre.length * 5 + 3, none⟩ = some (.int .i64 m3) := kc (hcell _ _ (hg 3 (by omega))).1 (by show gl ≠ _; omega)
    have s4 : W.cell? ⟨gl, pre.length * 5 + 4, none⟩ = some (.int .i64 m4) := kc (hcell _ _ (hg 4 (by omega))).1 (by show gl ≠ _; omega)
    have c13 : W.cell? ⟨w6.heap.size + 1, 0, none⟩ = some (.int .i64 (pre.length : Int)) := k13.cell 0
    have c12 : W.cell? ⟨w6.heap.size, 0, none⟩ = some (.slice (some ⟨gl, 0, none⟩) L.length c2) := (at9.v.upd U (by omega)).cell 0
    have x0 : W.cell? ⟨b, 0, none⟩ = some (.int .i64 p0) := kx.cell 0
    have x1 : W.cell? ⟨b, 1, none⟩ = some (.int .i64 p1) := kx.cell 1
    have x2 : W.cell? ⟨b, 2, none⟩ = some (.int .i64 p2) := kx.cell 2
    have x3 : W.cell? ⟨b, 3, none⟩ = some (.int .i64 p3) := kx.cell 3
    have x4 : W.cell? ⟨b, 4, none⟩ = some (.int .i64 p4) := kx.cell 4
    have kr : Blk W (w.heap.size + 1 + 1 + 1) 4 #[.bool false] := at9.r.upd U (by omega)
    have kle : Blk W (w.heap.size + 1 + 1) 3 #[.int .i64 leave] := k2'.upd U (by omega)
    have q2 : W.drew.cell? ⟨w.heap.size + 1 + 1 + 1, 0, none⟩ = some (.bool false) := kr.cell 0
    have q3 : W.drew.frozen? ⟨w.heap.size + 1 + 1 + 1, 0, none⟩ = false := kr.drew.frozen 0
    have q4 : W.drew.cell? ⟨w.heap.size + 1 + 1, 0, none⟩ = some (.int .i64 leave) := kle.cell 0
    have q7 : W.cell? ⟨w.heap.size + 1 + 1, 0, none⟩ = some (.int .i64 leave) := kle.cell 0
    have q8 : W.cell? ⟨w.heap.size + 1 + 1 + 1, 0, none⟩ = some (.bool false) := kr.cell 0
    have q9 : W.frozen? ⟨w.heap.size + 1 + 1 + 1, 0, none⟩ = false := kr.frozen 0
    have q10 : W.frozen? ⟨w6.heap.size + 1, 0, none⟩ = false := k13.frozen 0
    have q5 : W.drew.cell? ⟨w6.heap.size + 1, 0, none⟩ = some (.int .i64 (pre.length : Int)) := k13.cell 0
    have q6 : W.drew.frozen? ⟨w6.heap.size + 1, 0, none⟩ = false := k13.drew.frozen 0
    have hne1 : w6.heap.size + 1 ≠ w.heap.size + 1 + 1 := by omega
    have hne2 : w6.heap.size + 1 ≠ w.heap.size + 1 + 1 + 1 := by omega
    have hge : decide (L.length ≤ pre.length) = false := by simp; omega
    have hw1 : IntKind.i64.wrap ((pre.length : Int) + 1) = (pre.length : Int) + 1 := IntWalk.i64_in _ (by omega)
    have hltI : (pre.length : Int) < (L.length : Int) := by omega
    have hcI : (L.length : Int) ≤ (c2 : Int) := by have := HX.out.2.2.2.2.2; omega
    have hpe := fun W => pack_neq W p0 p1 p2 p3 p4 m0 m1 m2 m3 m4
    have HBd := Lib.hid (And.intro U (And.intro k13 (And.intro kr hm)))
    clear U k13 kx kr kle hm hcell hg hob hcc kc k13' own2 at9 kl ks own9 b9 k2' lA2 hQ hrw
    simp only [List.setIfInBounds_toArray, List.set_cons_zero, List.set_cons_succ]
    gi_wp2
    refine wpIn_region_ord (fun W => W.cell? ⟨w6.heap.size + 1, 0, none⟩ = some (.int .i64 (pre.length : Int)) ∧ W.cell? ⟨w6.heap.size, 0, none⟩ = some (.slice (some ⟨gl, 0, none⟩) L.length c2) ∧
        W.cell? ⟨gl, pre.length * 5, none⟩ = some (.int .i64 m0) ∧ W.cell? ⟨gl, pre.length * 5 + 1, none⟩ = some (.int .i64 m1) ∧ W.cell? ⟨gl, pre.length * 5 + 2, none⟩ = some (.int .i64 m2) ∧ W.cell? ⟨gl, pre.length * 5 + 3, none⟩ = some (.int .i64 m3) ∧ W.cell? ⟨gl, pre.length * 5 + 4, none⟩ = some (.int .i64 m4) ∧
        W.cell? ⟨b, 0, none⟩ = some (.int .i64 p0) ∧ W.cell? ⟨b, 1, none⟩ = some (.int .i64 p1) ∧ W.cell? ⟨b, 2, none⟩ = some (.int .i64 p2) ∧ W.cell? ⟨b, 3, none⟩ = some (.int .i64 p3) ∧ W.cell? ⟨b, 4, none⟩ = some (.int .i64 p4))
      12 [(0, true), (1, true), (2, true), (3, true), (4, true), (5, true), (6, true), (7, true), (8, true), (9, true), (10, true), (11, true)]
      (by kernel_rfl) (by kernel_rfl) (by kernel_rfl) (fun ⟨_, _, h⟩ => h) (fun _ _ _ _ _ h => h) ⟨c13, c12, s0, s1, s2, s3, s4, x0, x1, x2, x3, x4⟩ ?_
    by_cases hxy : (⟨p0, p1, p2, p3, p4⟩ : Pk) = ⟨m0, m1, m2, m3, m4⟩
    · have hd : decide ((⟨p0, p1, p2, p3, p4⟩ : Pk) = ⟨m0, m1, m2, m3, m4⟩) = true := by simpa using hxy
      rw [hd] at hpe
      clear hd hxy
      iterate 12 (refine ord_take (v := ?_) rfl (by first | with_reducible rfl | kernel_rfl) ?_ ?_; rotate_left; (focus (intro wS hS; (try dsimp only at hS); go_split_ands; go_simp; (try with_reducible rfl); done)); (try simp only [Act.put, List.getElem_toArray, List.getElem_cons_succ, List.getElem_cons_zero, List.setIfInBounds_toArray, List.set_cons_zero, List.set_cons_succ]))
      refine ord_done ?_
      clear c12 s0 s1 s2 s3 s4 x0 x1 x2 x3 x4 hpe
      have U' := HBd.out.1
      have fin2 : Upd (fun q => w9.heap.size ≤ q ∨ q = w6.heap.size + 1) W (W.setCell ⟨w6.heap.size + 1, 0, none⟩ (.int .i64 ((pre.length : Int) + 1))).drew := ((Upd.refl (fun q => w9.heap.size ≤ q ∨ q = w6.heap.size + 1) W).setCell (p := ⟨w6.heap.size + 1, 0, none⟩) (.inl (.inr rfl)) _).drew
      have fin1 : Upd (fun q => q = w6.heap.size + 1) w9 (W.setCell ⟨w6.heap.size + 1, 0, none⟩ (.int .i64 ((pre.length : Int) + 1))).drew := (U'.setCell (p := ⟨w6.heap.size + 1, 0, none⟩) (.inl rfl) _).drew
      have fin3 := (HBd.out.2.1.set 0 (.int .i64 ((pre.length : Int) + 1))).drew
      have hus : Upd (fun q => q = w6.heap.size + 1) W (W.setCell ⟨w6.heap.size + 1, 0, none⟩ (.int .i64 ((pre.length : Int) + 1))).drew := ((Upd.refl (fun q => q = w6.heap.size + 1) W).setCell (p := ⟨w6.heap.size + 1, 0, none⟩) (.inl rfl) _).drew
      have fin4 := (HBd.out.2.2.1.upd hus (by omega)).set 0 (.bool true)
      have fin5 : ∀ V : World, Upd (fun q => q = w6.heap.size + 1) w9 V → Upd (fun q => q = w6.heap.size + 1 ∨ q = w.heap.size + 1 + 1 + 1) w9 (V.setCell ⟨w.heap.size + 1 + 1 + 1, 0, none⟩ (.bool true)) := fun V hV => (hV.mono (fun i _ e => .inl e)).setCell (p := ⟨w.heap.size + 1 + 1 + 1, 0, none⟩) (.inl (.inr rfl)) _
      have FIN := Lib.hid (And.intro fin1 (And.intro fin2 (And.intro fin3 (And.intro fin4 (fin5 _ fin1)))))
      clear fin1 fin2 fin3 fin4 fin5 U' hus
      by_cases he : (pre.length : Int) + 1 = leave
      · have he' : ((pre.length : Int) + 1 == leave) = true := by simpa using he
        clear he
        gi_wp2
        exact ⟨(((KeepsOthers.setCell W _ _).trans (KeepsOthers.drew _)).trans (KeepsOthers.setCell _ _ _)).from _, rfl, .inr ⟨FIN.out.2.2.2.1, FIN.out.2.2.2.2⟩⟩
      · have he' : ((pre.length : Int) + 1 == leave) = false := by simpa using he
        clear he
        gi_wp2
        refine ⟨((KeepsOthers.setCell W _ _).trans (KeepsOthers.drew _)).from _, FIN.out.2.1, FIN.out.1, ?_⟩
        have := FIN.out.2.2.1
        rw [List.length_append]
        exact this
    · have hd : decide ((⟨p0, p1, p2, p3, p4⟩ : Pk) = ⟨m0, m1, m2, m3, m4⟩) = false := by simpa using hxy
      rw [hd] at hpe
      clear hd
      iterate 12 (refine ord_take (v := ?_) rfl (by first | with_reducible rfl | kernel_rfl) ?_ ?_; rotate_left; (focus (intro wS hS; (try dsimp only at hS); go_split_ands; go_simp; (try with_reducible rfl); done)); (try simp only [Act.put, List.getElem_toArray, List.getElem_cons_succ, List.getElem_cons_zero, List.setIfInBounds_toArray, List.set_cons_zero, List.set_cons_succ]))
      refine ord_done ?_
      clear c13 c12 s0 s1 s2 s3 s4 x0 x1 x2 x3 x4 hpe
      gi_wp2
      exact ⟨((KeepsOthers.setCell W _ _).trans (KeepsOthers.drew _)).from _, rfl, .inl (BadPk.mk HBd.out.2.2.2 hxy)⟩
  case done =>
    rintro D xs W hD rfl ⟨U, k13⟩ hd
    rw [spotL_len, HL.out] at k13
    have c13 : W.cell? ⟨w6.heap.size + 1, 0, none⟩ = some (.int .i64 (L.length : Int)) := k13.cell 0
    have c12 : W.cell? ⟨w6.heap.size, 0, none⟩ = some (.slice A2 L.length c2) := (at9.v.upd U (by omega)).cell 0
    have kr : Blk W (w.heap.size + 1 + 1 + 1) 4 #[.bool false] := at9.r.upd U (by omega)
    have q2 : W.cell? ⟨w.heap.size + 1 + 1 + 1, 0, none⟩ = some (.bool false) := kr.cell 0
    have q3 : W.frozen? ⟨w.heap.size + 1 + 1 + 1, 0, none⟩ = false := kr.frozen 0
    have krF := kr.set 0 (.bool true)
    have eD : (W.setCell ⟨w.heap.size + 1 + 1 + 1, 0, none⟩ (.bool true)).heap[D]? = some (.deferred (some [])) := (KeepsOthers.setCell _ _ _).same D _ hd rfl
    have bW : Below w.heap.size w (W.setCell ⟨w.heap.size + 1 + 1 + 1, 0, none⟩ (.bool true)) := (at9.b.trans (U.below (fun q _ e => by omega) at9.b.size)).setCell (p := ⟨w.heap.size + 1 + 1 + 1, 0, none⟩) (by show w.heap.size ≤ w.heap.size + 1 + 1 + 1; omega) _
    have HFi := Lib.hid (And.intro krF (And.intro eD bW))
    have hDw : w.heap.size + 1 + 1 + 1 < D ∧ w.heap.size ≤ D := by omega
    clear U k13 kr krF eD bW hd at9 kl ks own9 b9 k2' lA2 k13' own2 hQ
    go_wp2
    refine leaves_one HFi.out.2.1 ?_
    have kU := HFi.out.1.grown (grownBy_putObj' _ D (.deferred none)) (fun e => by injection e with e; omega)
    have bG := HFi.out.2.2.trans ((Upd.of_grown (grownBy_putObj' _ D (.deferred none))).below (fun q _ e => by injection e with e; omega) HFi.out.2.2.size)
    have hc8 := kU.cell 0
    simp only [List.setIfInBounds_toArray, List.set_cons_zero, List.getElem?_toArray, List.getElem?_cons_zero] at hc8
    exact ⟨.bool true, by simp [results, Tryz.f4, go_sem, hc8], rfl, bG⟩
  case stop =>
    rintro D c pre W hD hp ⟨rfl, hbad | ⟨krF, U⟩⟩ hd
    · rw [← HL.out] at hbad
      exact (BadPk.no hbad hp).elim
    · have eD := hd
      have bW : Below w.heap.size w W := at9.b.trans (U.below (fun q _ e => by omega) at9.b.size)
      have HFi := Lib.hid (And.intro krF (And.intro eD bW))
      have hDw : w.heap.size + 1 + 1 + 1 < D ∧ w.heap.size ≤ D := by omega
      clear U krF eD bW hd at9 kl ks own9 b9 k2' lA2 k13' own2 hp hQ
      go_wp2
      refine leaves_one HFi.out.2.1 ?_
      have kU := HFi.out.1.grown (grownBy_putObj' _ D (.deferred none)) (fun e => by injection e with e; omega)
      have bG := HFi.out.2.2.trans ((Upd.of_grown (grownBy_putObj' _ D (.deferred none))).below (fun q _ e => by injection e with e; omega) HFi.out.2.2.size)
      have hc8 := kU.cell 0
      simp only [List.getElem?_toArray, List.getElem?_cons_zero] at hc8
      exact ⟨.bool true, by simp [results, Tryz.f4, go_sem, hc8], rfl, bG⟩
end Go.Proofs.YtlgpjgplgpgkiaaGreatDoor
