/- Forests: may a forest be: the walk of sppf.Check. -/
import Derived.Test.YtbppbgdmoihooaaTrE
import Derived.IntWalk
import Derived.Deep.Cut
namespace Go.Proofs.Ytbppbgdmoihooaa
open Go.RowKit

theorem goes_val (w : World) (A : Option Addr) (c : Nat) (B : Option Addr) (m d : Nat) (S : List Fct) (p : Pk) (g : Bool) (hg : p.goes S = g) (hr : RowR w A (factCells S)) (hc : S.length ≤ c) :
    Calls Try.prog 75 #[forV A S.length c B m d, p.agg] w fun e w' => e = .returned (.bool g) ∧ Below w.heap.size w w' := by
  subst hg
  exact goes_any w A c B m d S p hr hc
theorem MapIs.len_run {w : World} {Pg : Program} {k : TypeId} {r : Nat} {kv : List (Value × Value)} (h : MapIs w Pg k r kv) {t e : TypeId} (ht : Pg.underlying t = some (.map k e)) (ty : TypeId) :
    (Builtin.len_ #[t] ty #[.map (some r)]).run Pg w = .ok (.int .i64 (kv.length : Int)) w := by
  obtain ⟨es, clock, hb, rfl, _, _⟩ := h
  simp [Builtin.len_, run_underlying ht, MapKept.run_getObj_map hb, Result.andThen, goInt]
theorem Told.upd {w w' : World} {r : Nat} {P : List Pk} {k : Nat} {ks : List Int} {kv : List (Value × Value)} {F : Nat → Prop} (h : Told w r P k ks kv) (hb : Upd F w w') (hF : ¬ F r) : Told w' r P k ks kv := ⟨h.m.upd hb hF, h.e, h.v, h.h⟩

/-- Check's answer. -/
def CkPost (w : World) (S : List Fct) (P : List Pk) (err ok : Int) (e : Ending) (w' : World) : Prop := (OkFor S P → e = .returned (.int .i64 ok)) ∧ (¬ OkFor S P → e = .returned (.int .i64 err)) ∧ Below w.heap.size w w'

set_option maxHeartbeats 8000000 in
set_option maxRecDepth 20000 in
theorem check_any (w : World) (A : Option Addr) (c : Nat) (B : Option Addr) (d : Nat) (S : List Fct) (P : List Pk) (h : ForR w A c B d S P) :
    Calls Try.prog 48 #[forV A S.length c B P.length d] w (CkPost w S P 320 0) := by
  have k0 := Blk.new w 75 #[.slice A S.length c, .slice B P.length d]
  have u0 : Below w.heap.size w (w.alloc (.cells #[.slice A S.length c, .slice B P.length d] 75)) := (Below.refl _ _).alloc (Nat.le_refl _) _
  have hcI : (S.length : Int) ≤ (c : Int) := by have := h.hc; omega
  have hdI : (P.length : Int) ≤ (d : Int) := by have := h.hd; omega
  have hS8 : S.length ≤ 100000000000000 := by have := h.fit.s; omega
  have hP8 : P.length ≤ 100000000000000 := by have := h.fit.p; omega
  have H := Lib.hid (And.intro h (And.intro k0 u0))
  clear h k0 u0
  have hmm := @run_makeMap Try.prog
  go_enter Try.func48, Try.ntmps48
  unfold forV
  go_wp2_with fail
  generalize w.alloc (.cells #[.slice A S.length c, .slice B P.length d] 75) = W0 at H ⊢
  go_loopw [3, 11] (fun ov iv wr => ∃ (b : Bool) (k : Nat), k ≤ S.length ∧ ov = .bool b ∧ iv = .int .i64 k ∧ (b = true ↔ RiseS S k) ∧ Below W0.heap.size W0 wr) (fun _ iv _ => S.length - (intOf iv).toNat)
  case atStart => exact ⟨true, 0, Nat.zero_le _, rfl, rfl, ⟨fun _ i f g hi => by omega, fun _ => rfl⟩, Below.refl _ _⟩
  case round =>
    obtain ⟨b, k, hk, rfl, rfl, hb, bel⟩ := hrel
    have HB := Lib.hid (And.intro hb bel)
    clear hb bel
    by_cases hlt : k < S.length
    · cases b with
      | false =>
        go_wp2
        refine wp_region_ord (fun _ => True) 21 [(0, true), (1, true), (2, true), (3, true), (4, true), (5, true), (6, true), (7, true), (8, true), (9, true), (10, true), (11, true), (12, true), (13, true), (14, true), (15, true), (16, false), (17, true), (18, true), (19, true), (20, true)] (by kernel_rfl) (by kernel_rfl) (fun _ _ d _ _ h => by cases d <;> exact h) trivial ?_
        iterate 2 (refine ord_take (v := ?_) rfl (by first | with_reducible rfl | kernel_rfl) ?_ ?_; rotate_left; (focus (intro wS hS; (try dsimp only at hS); go_split_ands; go_simp; (try with_reducible rfl); done)); (try simp only [Act.put, List.getElem_toArray, List.getElem_cons_succ, List.getElem_cons_zero, List.setIfInBounds_toArray, List.set_cons_zero, List.set_cons_succ]))
        iterate 14 (refine ord_skip rfl (by kernel_rfl) ?_; (try simp only [Act.put, List.getElem_toArray, List.getElem_cons_succ, List.getElem_cons_zero, List.setIfInBounds_toArray, List.set_cons_zero, List.set_cons_succ]))
        iterate 1 (refine ord_skipf rfl (by kernel_rfl) (by first | assumption | trivial | exact UP.out _ H5.out) ?_; (try simp only [Act.put, List.getElem_toArray, List.getElem_cons_succ, List.getElem_cons_zero, List.setIfInBounds_toArray, List.set_cons_zero, List.set_cons_succ]))
        iterate 2 (refine ord_skip rfl (by kernel_rfl) ?_; (try simp only [Act.put, List.getElem_toArray, List.getElem_cons_succ, List.getElem_cons_zero, List.setIfInBounds_toArray, List.set_cons_zero, List.set_cons_succ]))
        iterate 2 (refine ord_take (v := ?_) rfl (by first | with_reducible rfl | kernel_rfl) ?_ ?_; rotate_left; (focus (intro wS hS; (try dsimp only at hS); go_split_ands; go_simp; (try with_reducible rfl); done)); (try simp only [Act.put, List.getElem_toArray, List.getElem_cons_succ, List.getElem_cons_zero, List.setIfInBounds_toArray, List.set_cons_zero, List.set_cons_succ]))
        refine ord_done ?_
        go_wp2
        go_roundw
        case rel => exact ⟨false, k + 1, by omega, rfl, by go_num, ⟨fun h => (by cases h), fun h => HB.out.1.2 (RiseS.succ.1 h).1⟩, HB.out.2.drew⟩
        case measure => simp [intOf]; omega
      | true =>
        by_cases hk0 : k = 0
        · subst hk0
          go_wp2
          refine wp_region_ord (fun _ => True) 21 [(0, true), (1, true), (2, true), (3, true), (4, true), (5, true), (6, true), (7, true), (8, true), (9, true), (10, true), (11, true), (12, true), (13, true), (14, true), (15, true), (16, false), (17, true), (18, true), (19, true), (20, true)] (by kernel_rfl) (by kernel_rfl) (fun _ _ d _ _ h => by cases d <;> exact h) trivial ?_
          iterate 5 (refine ord_take (v := ?_) rfl (by first | with_reducible rfl | kernel_rfl) ?_ ?_; rotate_left; (focus (intro wS hS; (try dsimp only at hS); go_split_ands; go_simp; (try with_reducible rfl); done)); (try simp only [Act.put, List.getElem_toArray, List.getElem_cons_succ, List.getElem_cons_zero, List.setIfInBounds_toArray, List.set_cons_zero, List.set_cons_succ]))
          iterate 11 (refine ord_skip rfl (by kernel_rfl) ?_; (try simp only [Act.put, List.getElem_toArray, List.getElem_cons_succ, List.getElem_cons_zero, List.setIfInBounds_toArray, List.set_cons_zero, List.set_cons_succ]))
          iterate 1 (refine ord_skipf rfl (by kernel_rfl) (by first | assumption | trivial | exact UP.out _ H5.out) ?_; (try simp only [Act.put, List.getElem_toArray, List.getElem_cons_succ, List.getElem_cons_zero, List.setIfInBounds_toArray, List.set_cons_zero, List.set_cons_succ]))
          iterate 1 (refine ord_skip rfl (by kernel_rfl) ?_; (try simp only [Act.put, List.getElem_toArray, List.getElem_cons_succ, List.getElem_cons_zero, List.setIfInBounds_toArray, List.set_cons_zero, List.set_cons_succ]))
          iterate 3 (refine ord_take (v := ?_) rfl (by first | with_reducible rfl | kernel_rfl) ?_ ?_; rotate_left; (focus (intro wS hS; (try dsimp only at hS); go_split_ands; go_simp; (try with_reducible rfl); done)); (try simp only [Act.put, List.getElem_toArray, List.getElem_cons_succ, List.getElem_cons_zero, List.setIfInBounds_toArray, List.set_cons_zero, List.set_cons_succ]))
          refine ord_done ?_
          go_wp2
          go_roundw
          case rel => exact ⟨true, 1, by omega, rfl, by go_num, ⟨fun _ i f g hi => by omega, fun _ => rfl⟩, HB.out.2.drew⟩
          case measure => simp [intOf]; omega
        · obtain ⟨j, rfl⟩ : ∃ j, k = j + 1 := ⟨k - 1, by omega⟩
          obtain ⟨⟨f0, f1, f2⟩, hf⟩ : ∃ f, S[j + 1]? = some f := ⟨S[j + 1], List.getElem?_eq_getElem hlt⟩
          obtain ⟨⟨g0, g1, g2⟩, hg⟩ : ∃ f, S[j]? = some f := ⟨S[j]'(by omega), List.getElem?_eq_getElem _⟩
          have rs := ((H.out.1.rs.below H.out.2.2).below HB.out.2)
          obtain ⟨gb, go, rfl, a0, a1, a2⟩ := rs.fact hf
          obtain ⟨gb', go', e', b0, b1, b2⟩ := rs.fact hg
          injection e' with e'; injection e' with e' e''; subst e'; subst e''
          have q0 : wr.cell? ⟨w.heap.size, 0, none⟩ = some (.slice (some ⟨gb, go, none⟩) S.length c) := (HB.out.2.cell (p := ⟨w.heap.size, 0, none⟩) H.out.2.1.lt).trans (H.out.2.1.cell 0)
          have up : ∀ w' : World, Below wr.heap.size wr w' → w'.cell? ⟨w.heap.size, 0, none⟩ = some (.slice (some ⟨gb, go, none⟩) S.length c) ∧ w'.cell? ⟨gb, go + (j + 1) * 3, none⟩ = some (.int .i64 f0) ∧ w'.cell? ⟨gb, go + (j + 1) * 3 + 1, none⟩ = some (.int .i64 f1) ∧ w'.cell? ⟨gb, go + (j + 1) * 3 + 2, none⟩ = some (.int .i64 f2) ∧
              w'.cell? ⟨gb, go + j * 3, none⟩ = some (.int .i64 g0) ∧ w'.cell? ⟨gb, go + j * 3 + 1, none⟩ = some (.int .i64 g1) ∧ w'.cell? ⟨gb, go + j * 3 + 2, none⟩ = some (.int .i64 g2) := by
            intro w' hb
            have u : ∀ b o u, wr.cell? ⟨b, o, none⟩ = some u → w'.cell? ⟨b, o, none⟩ = some u := fun b o u h => (hb.cell (p := ⟨b, o, none⟩) (World.block_lt_of_cell? wr _ h)).trans h
            exact ⟨u _ _ _ q0, u _ _ _ a0, u _ _ _ a1, u _ _ _ a2, u _ _ _ b0, u _ _ _ b1, u _ _ _ b2⟩
          have UP := Lib.hid up
          have HF := Lib.hid (And.intro hf hg)
          clear up hf hg rs a0 a1 a2 b0 b1 b2 q0 hk0
          have hj1 : (0 : Int) ≤ (j : Int) + 1 := by omega
          have hj2 : (((j : Int) + 1) == 0) = false := by simp; omega
          have hlt' : (j : Int) < (S.length : Int) := by omega
          go_wp2
          refine wp_region_ord (fun w' => w'.cell? ⟨w.heap.size, 0, none⟩ = some (.slice (some ⟨gb, go, none⟩) S.length c) ∧ w'.cell? ⟨gb, go + (j + 1) * 3, none⟩ = some (.int .i64 f0) ∧ w'.cell? ⟨gb, go + (j + 1) * 3 + 1, none⟩ = some (.int .i64 f1) ∧ w'.cell? ⟨gb, go + (j + 1) * 3 + 2, none⟩ = some (.int .i64 f2) ∧
              w'.cell? ⟨gb, go + j * 3, none⟩ = some (.int .i64 g0) ∧ w'.cell? ⟨gb, go + j * 3 + 1, none⟩ = some (.int .i64 g1) ∧ w'.cell? ⟨gb, go + j * 3 + 2, none⟩ = some (.int .i64 g2)) 21 [(0, true), (1, true), (2, true), (3, true), (4, true), (5, true), (6, true), (7, true), (8, true), (9, true), (10, true), (11, true), (12, true), (13, true), (14, true), (15, true), (16, false), (17, true), (18, true), (19, true), (20, true)] (by kernel_rfl) (by kernel_rfl) (fun _ _ d _ _ h => by cases d <;> exact h) (UP.out _ (Below.refl _ _).drew) ?_
          have hwj : IntKind.i64.wrap (j : Int) = (j : Int) := IntWalk.i64_in _ (by omega)
          by_cases hbb : Fct.lt ⟨g0, g1, g2⟩ ⟨f0, f1, f2⟩ = true
          · have e9 := fct_lt_iff ⟨g0, g1, g2⟩ ⟨f0, f1, f2⟩
            rw [hbb] at e9
            dsimp only at e9
            have HBB := Lib.hid hbb
            clear hbb
            iterate 16 (refine ord_take (v := ?_) rfl (by first | with_reducible rfl | kernel_rfl) ?_ ?_; rotate_left; (focus (intro wS hS; (try dsimp only at hS); go_split_ands; go_simp; (try with_reducible rfl); done)); (try simp only [Act.put, List.getElem_toArray, List.getElem_cons_succ, List.getElem_cons_zero, List.setIfInBounds_toArray, List.set_cons_zero, List.set_cons_succ]))
            (refine ord_dog rfl (by first | with_reducible rfl | kernel_rfl) (fun K hK => ?_); go_simp)
            refine (order_any _ ⟨g0, g1, g2⟩ ⟨f0, f1, f2⟩).mono ?_
            rintro e w' ⟨rfl, hb'⟩
            refine hK _ _ (fun _ => UP.out _ ((Below.drew (Below.refl _ _)).trans hb')) ?_
            have HW := Lib.hid hb'
            clear hK K hb'
            iterate 4 (refine ord_take (v := ?_) rfl (by first | with_reducible rfl | kernel_rfl) ?_ ?_; rotate_left; (focus (intro wS hS; (try dsimp only at hS); go_split_ands; go_simp; (try with_reducible rfl); done)); (try simp only [Act.put, List.getElem_toArray, List.getElem_cons_succ, List.getElem_cons_zero, List.setIfInBounds_toArray, List.set_cons_zero, List.set_cons_succ]))
            clear hwj
            refine ord_done ?_
            go_wp2
            go_roundw
            case rel =>
              refine ⟨true, j + 1 + 1, by omega, rfl, by go_num, ⟨fun _ => RiseS.succ.2 ⟨HB.out.1.1 trivial, fun f g _ hf hg => ?_⟩, fun _ => rfl⟩, HB.out.2.trans ((below_undrew2 _ _).trans (HW.out.mono HB.out.2.size))⟩
              have h1 := HF.out.2.symm.trans hf
              have h2 := HF.out.1.symm.trans hg
              injection h1 with h1
              injection h2 with h2
              subst h1; subst h2
              exact HBB.out
            case measure => simp [intOf]; omega
          · have hbb : Fct.lt ⟨g0, g1, g2⟩ ⟨f0, f1, f2⟩ = false := by simpa using hbb
            have e9 := fct_lt_iff ⟨g0, g1, g2⟩ ⟨f0, f1, f2⟩
            rw [hbb] at e9
            dsimp only at e9
            have HBB := Lib.hid hbb
            clear hbb
            iterate 16 (refine ord_take (v := ?_) rfl (by first | with_reducible rfl | kernel_rfl) ?_ ?_; rotate_left; (focus (intro wS hS; (try dsimp only at hS); go_split_ands; go_simp; (try with_reducible rfl); done)); (try simp only [Act.put, List.getElem_toArray, List.getElem_cons_succ, List.getElem_cons_zero, List.setIfInBounds_toArray, List.set_cons_zero, List.set_cons_succ]))
            (refine ord_dog rfl (by first | with_reducible rfl | kernel_rfl) (fun K hK => ?_); go_simp)
            refine (order_any _ ⟨g0, g1, g2⟩ ⟨f0, f1, f2⟩).mono ?_
            rintro e w' ⟨rfl, hb'⟩
            refine hK _ _ (fun _ => UP.out _ ((Below.drew (Below.refl _ _)).trans hb')) ?_
            have HW := Lib.hid hb'
            clear hK K hb'
            iterate 4 (refine ord_take (v := ?_) rfl (by first | with_reducible rfl | kernel_rfl) ?_ ?_; rotate_left; (focus (intro wS hS; (try dsimp only at hS); go_split_ands; go_simp; (try with_reducible rfl); done)); (try simp only [Act.put, List.getElem_toArray, List.getElem_cons_succ, List.getElem_cons_zero, List.setIfInBounds_toArray, List.set_cons_zero, List.set_cons_succ]))
            clear hwj
            refine ord_done ?_
            go_wp2
            go_roundw
            case rel => exact ⟨false, j + 1 + 1, by omega, rfl, by go_num, ⟨fun h => (by cases h), fun h => by have := (RiseS.succ.1 h).2 _ _ (by omega) HF.out.2 HF.out.1; rw [HBB.out] at this; cases this⟩, HB.out.2.trans ((below_undrew2 _ _).trans (HW.out.mono HB.out.2.size))⟩
            case measure => simp [intOf]; omega
    · obtain rfl : k = S.length := by omega
      clear hlt
      obtain ⟨wo, rfl⟩ : ∃ wo : World, wo = wr := ⟨_, rfl⟩
      have kb := (H.out.2.1.upd (Upd.of_below HB.out.2 (fun _ => False)) id).alloc (.map #[] 0)
      have q1 : (wo.alloc (.map #[] 0)).cell? ⟨w.heap.size, 1, none⟩ = some (.slice B P.length d) := kb.cell 1
      have bW : Below w.heap.size w (wo.alloc (.map #[] 0)) := by
        have b1 := H.out.2.2.trans (HB.out.2.mono H.out.2.2.size)
        exact b1.alloc b1.size _
      have tW : Told (wo.alloc (.map #[] 0)) wo.heap.size P 0 [] [] := ⟨MapIs.made wo _ _, rfl, by simp, by simp⟩
      have zW : (wo.alloc (.map #[] 0)).heap.size = wo.heap.size + 1 := by simp
      have z0 : w.heap.size < wo.heap.size := by have := H.out.2.1.lt; have := HB.out.2.size; omega
      have HW1 := Lib.hid (And.intro kb (And.intro bW (And.intro tW (And.intro zW z0))))
      clear kb bW tW zW z0
      go_wp2
      clear q1 hmm
      generalize wo.alloc (.map #[] 0) = W1 at HW1 ⊢
      go_loopw [3, 39] (fun ov iv wr => ∃ (b : Bool) (k : Nat) (ks : List Int) (kv : List (Value × Value)), k ≤ P.length ∧ ov = .bool b ∧ iv = .int .i64 k ∧ (b = true ↔ RiseS S S.length ∧ RiseP S P k) ∧ Told wr wo.heap.size P k ks kv ∧ Upd (fun q => q = wo.heap.size) W1 wr) (fun _ iv _ => P.length - (intOf iv).toNat)
      case atStart => exact ⟨b, 0, [], [], Nat.zero_le _, rfl, rfl, ⟨fun h => ⟨HB.out.1.1 h, fun i p hi => by omega, fun i p q hi => by omega⟩, fun h => HB.out.1.2 h.1⟩, HW1.out.2.2.1, Upd.refl _ _⟩
      case round =>
        obtain ⟨b, k, ks, kv, hk, rfl, rfl, hb, told, upd⟩ := hrel
        have HR := Lib.hid (And.intro hb (And.intro told upd))
        clear hb told upd
        by_cases hlt : k < P.length
        · obtain ⟨⟨p0, p1, p2, p3, p4⟩, hp⟩ : ∃ p, P[k]? = some p := ⟨P[k], List.getElem?_eq_getElem hlt⟩
          have bwr : Below w.heap.size w wr := HW1.out.2.1.trans (HR.out.2.2.below (fun i _ e => by have := HW1.out.2.2.2.2; omega) HW1.out.2.1.size)
          have rp : RowR wr B (packCells P) := H.out.1.rp.below bwr
          have rs : RowR wr A (factCells S) := H.out.1.rs.below bwr
          have kb : Blk wr w.heap.size 75 #[.slice A S.length c, .slice B P.length d] := HW1.out.1.upd HR.out.2.2 (fun e => by have := HW1.out.2.2.2.2; omega)
          obtain ⟨gb, go, rfl, a0, a1, a2, a3, a4⟩ := rp.pack hp
          have wf := H.out.1.fit.wf _ (List.mem_of_getElem? hp)
          have lwr : wo.heap.size < wr.heap.size := HR.out.2.1.m.lt
          have lw0 := kb.lt
          have HX := Lib.hid (And.intro hp (And.intro bwr (And.intro rp (And.intro rs (And.intro kb (And.intro wf (And.intro lwr lw0)))))))
          clear hp bwr rp rs kb wf
          have hlt' : (k : Int) < (P.length : Int) := by omega
          have kx := Blk.new wr 125 #[.int .i64 p0, .int .i64 p1, .int .i64 p2, .int .i64 p3, .int .i64 p4]
          have bx : Below wr.heap.size wr (wr.alloc (.cells #[.int .i64 p0, .int .i64 p1, .int .i64 p2, .int .i64 p3, .int .i64 p4] 125)) := (Below.refl _ _).alloc (Nat.le_refl _) _
          have zx : wr.heap.size < (wr.alloc (.cells #[.int .i64 p0, .int .i64 p1, .int .i64 p2, .int .i64 p3, .int .i64 p4] 125)).heap.size := by simp
          have HK := Lib.hid (And.intro kx (And.intro bx zx))
          clear kx bx zx
          go_upto_region 11 with (fail)
          clear a0 a1 a2 a3 a4
          generalize wr.alloc (.cells #[.int .i64 p0, .int .i64 p1, .int .i64 p2, .int .i64 p3, .int .i64 p4] 125) = wa at HK ⊢
          have BA := Lib.hid ((Below.refl _ wr).trans HK.out.2.1.drew)
          have HC := Lib.hid H.out.1.hc
          cases b with
          | false =>
            refine wp_region_ord (fun _ => True) 22 [(0, true), (1, true), (2, true), (3, true), (4, false), (5, true), (6, true), (7, true), (8, true), (9, true), (10, true), (11, true), (12, true), (13, true), (14, true), (15, true), (16, true), (17, false), (18, true), (19, true), (20, true), (21, true)] (by kernel_rfl) (by kernel_rfl) (fun _ _ d _ _ h => by cases d <;> exact h) trivial ?_
            iterate 2 (refine ord_take (v := ?_) rfl (by first | with_reducible rfl | kernel_rfl) ?_ ?_; rotate_left; (focus (intro wS hS; (try dsimp only at hS); go_split_ands; go_simp; (try with_reducible rfl); done)); (try simp only [Act.put, List.getElem_toArray, List.getElem_cons_succ, List.getElem_cons_zero, List.setIfInBounds_toArray, List.set_cons_zero, List.set_cons_succ]))
            iterate 2 (refine ord_skip rfl (by kernel_rfl) ?_; (try simp only [Act.put, List.getElem_toArray, List.getElem_cons_succ, List.getElem_cons_zero, List.setIfInBounds_toArray, List.set_cons_zero, List.set_cons_succ]))
            iterate 1 (refine ord_skipf rfl (by kernel_rfl) (by first | assumption | trivial | exact UP.out _ H5.out) ?_; (try simp only [Act.put, List.getElem_toArray, List.getElem_cons_succ, List.getElem_cons_zero, List.setIfInBounds_toArray, List.set_cons_zero, List.set_cons_succ]))
            iterate 2 (refine ord_take (v := ?_) rfl (by first | with_reducible rfl | kernel_rfl) ?_ ?_; rotate_left; (focus (intro wS hS; (try dsimp only at hS); go_split_ands; go_simp; (try with_reducible rfl); done)); (try simp only [Act.put, List.getElem_toArray, List.getElem_cons_succ, List.getElem_cons_zero, List.setIfInBounds_toArray, List.set_cons_zero, List.set_cons_succ]))
            iterate 10 (refine ord_skip rfl (by kernel_rfl) ?_; (try simp only [Act.put, List.getElem_toArray, List.getElem_cons_succ, List.getElem_cons_zero, List.setIfInBounds_toArray, List.set_cons_zero, List.set_cons_succ]))
            iterate 1 (refine ord_skipf rfl (by kernel_rfl) (by first | assumption | trivial | exact UP.out _ H5.out) ?_; (try simp only [Act.put, List.getElem_toArray, List.getElem_cons_succ, List.getElem_cons_zero, List.setIfInBounds_toArray, List.set_cons_zero, List.set_cons_succ]))
            iterate 2 (refine ord_skip rfl (by kernel_rfl) ?_; (try simp only [Act.put, List.getElem_toArray, List.getElem_cons_succ, List.getElem_cons_zero, List.setIfInBounds_toArray, List.set_cons_zero, List.set_cons_succ]))
            iterate 2 (refine ord_take (v := ?_) rfl (by first | with_reducible rfl | kernel_rfl) ?_ ?_; rotate_left; (focus (intro wS hS; (try dsimp only at hS); go_split_ands; go_simp; (try with_reducible rfl); done)); (try simp only [Act.put, List.getElem_toArray, List.getElem_cons_succ, List.getElem_cons_zero, List.setIfInBounds_toArray, List.set_cons_zero, List.set_cons_succ]))
            refine ord_done ?_
            have T := HR.out.2.1.upd (Upd.of_below BA.out (fun _ => False)) id
            obtain ⟨z, w9, ks', kv', hl, hz0, hz1, hm, T', hg, hs⟩ := T.step HX.out.1 HX.out.2.2.2.2.2.1.1
            have x0 := (HK.out.1.drew).cell 0
            simp only [List.getElem?_toArray, List.getElem?_cons_zero] at x0
            have UX : Upd (fun q => q = wo.heap.size) W1 w9 := (HR.out.2.2.trans (Upd.of_below BA.out (fun _ => False)) (fun _ h => h.elim)).grown hg (fun q e => .inl (by injection e with e; exact e.symm))
            have HT := Lib.hid (And.intro T' UX)
            dsimp only at hl hm
            clear T T' UX hg hs
            go_wp2
            go_roundw
            case rel => exact ⟨false, k + 1, ks', kv', by omega, rfl, by go_num, ⟨fun h => (by cases h), fun h => HR.out.1.2 ⟨h.1, (RiseP.succ.1 h.2).1⟩⟩, HT.out.1, HT.out.2⟩
            case measure => simp [intOf]; omega
          | true =>
            have UP : Hid (∀ w' : World, Below wa.drew.heap.size wa.drew w' → w'.cell? ⟨w.heap.size, 0, none⟩ = some (.slice A S.length c) ∧ w'.cell? ⟨w.heap.size, 1, none⟩ = some (.slice (some ⟨gb, go, none⟩) P.length d) ∧ w'.cell? ⟨wr.heap.size, 0, none⟩ = some (.int .i64 p0) ∧ w'.cell? ⟨wr.heap.size, 1, none⟩ = some (.int .i64 p1) ∧ w'.cell? ⟨wr.heap.size, 2, none⟩ = some (.int .i64 p2) ∧ w'.cell? ⟨wr.heap.size, 3, none⟩ = some (.int .i64 p3) ∧ w'.cell? ⟨wr.heap.size, 4, none⟩ = some (.int .i64 p4)) := Lib.hid (fun w' hb => by
              have u : ∀ b o v, wa.drew.cell? ⟨b, o, none⟩ = some v → w'.cell? ⟨b, o, none⟩ = some v := fun b o v h => (hb.cell (p := ⟨b, o, none⟩) (World.block_lt_of_cell? wa.drew _ h)).trans h
              exact ⟨u _ _ _ ((HX.out.2.2.2.2.1.upd (Upd.of_below HK.out.2.1 (fun _ => False)) id).cell 0), u _ _ _ ((HX.out.2.2.2.2.1.upd (Upd.of_below HK.out.2.1 (fun _ => False)) id).cell 1), u _ _ _ (HK.out.1.cell 0), u _ _ _ (HK.out.1.cell 1), u _ _ _ (HK.out.1.cell 2), u _ _ _ (HK.out.1.cell 3), u _ _ _ (HK.out.1.cell 4)⟩)
            by_cases hgo : (⟨p0, p1, p2, p3, p4⟩ : Pk).goes S = true
            · have HGO := Lib.hid hgo
              clear hgo
              by_cases hk0 : k = 0
              · subst hk0
                refine wp_region_ord (fun w' => w'.cell? ⟨w.heap.size, 0, none⟩ = some (.slice A S.length c) ∧ w'.cell? ⟨w.heap.size, 1, none⟩ = some (.slice (some ⟨gb, go, none⟩) P.length d) ∧ w'.cell? ⟨wr.heap.size, 0, none⟩ = some (.int .i64 p0) ∧ w'.cell? ⟨wr.heap.size, 1, none⟩ = some (.int .i64 p1) ∧ w'.cell? ⟨wr.heap.size, 2, none⟩ = some (.int .i64 p2) ∧ w'.cell? ⟨wr.heap.size, 3, none⟩ = some (.int .i64 p3) ∧ w'.cell? ⟨wr.heap.size, 4, none⟩ = some (.int .i64 p4)) 22 [(0, true), (1, true), (2, true), (3, true), (4, false), (5, true), (6, true), (7, true), (8, true), (9, true), (10, true), (11, true), (12, true), (13, true), (14, true), (15, true), (16, true), (17, false), (18, true), (19, true), (20, true), (21, true)] (by kernel_rfl) (by kernel_rfl) (fun _ _ d _ _ h => by cases d <;> exact h) (UP.out _ (Below.refl _ _)) ?_
                iterate 4 (refine ord_take (v := ?_) rfl (by first | with_reducible rfl | kernel_rfl) ?_ ?_; rotate_left; (focus (intro wS hS; (try dsimp only at hS); go_split_ands; go_simp; (try with_reducible rfl); done)); (try simp only [Act.put, List.getElem_toArray, List.getElem_cons_succ, List.getElem_cons_zero, List.setIfInBounds_toArray, List.set_cons_zero, List.set_cons_succ]))
                (refine ord_dog rfl (by first | with_reducible rfl | kernel_rfl) (fun K hK => ?_); go_simp)
                refine (goes_val _ A c _ P.length d S ⟨p0, p1, p2, p3, p4⟩ true HGO.out (HX.out.2.2.2.1.below BA.out) HC.out).mono ?_
                rintro e w4 ⟨rfl, hb4⟩
                refine hK _ _ (fun _ => UP.out _ hb4) ?_
                have H4 := Lib.hid (BA.out.trans (hb4.mono BA.out.size))
                have H5 := Lib.hid hb4
                clear hK K hb4
                (try simp only [Act.put, List.getElem_toArray, List.getElem_cons_succ, List.getElem_cons_zero, List.setIfInBounds_toArray, List.set_cons_zero, List.set_cons_succ])
                iterate 5 (refine ord_take (v := ?_) rfl (by first | with_reducible rfl | kernel_rfl) ?_ ?_; rotate_left; (focus (intro wS hS; (try dsimp only at hS); go_split_ands; go_simp; (try with_reducible rfl); done)); (try simp only [Act.put, List.getElem_toArray, List.getElem_cons_succ, List.getElem_cons_zero, List.setIfInBounds_toArray, List.set_cons_zero, List.set_cons_succ]))
                iterate 7 (refine ord_skip rfl (by kernel_rfl) ?_; (try simp only [Act.put, List.getElem_toArray, List.getElem_cons_succ, List.getElem_cons_zero, List.setIfInBounds_toArray, List.set_cons_zero, List.set_cons_succ]))
                iterate 1 (refine ord_skipf rfl (by kernel_rfl) (by first | assumption | trivial | exact UP.out _ H5.out) ?_; (try simp only [Act.put, List.getElem_toArray, List.getElem_cons_succ, List.getElem_cons_zero, List.setIfInBounds_toArray, List.set_cons_zero, List.set_cons_succ]))
                iterate 1 (refine ord_skip rfl (by kernel_rfl) ?_; (try simp only [Act.put, List.getElem_toArray, List.getElem_cons_succ, List.getElem_cons_zero, List.setIfInBounds_toArray, List.set_cons_zero, List.set_cons_succ]))
                iterate 3 (refine ord_take (v := ?_) rfl (by first | with_reducible rfl | kernel_rfl) ?_ ?_; rotate_left; (focus (intro wS hS; (try dsimp only at hS); go_split_ands; go_simp; (try with_reducible rfl); done)); (try simp only [Act.put, List.getElem_toArray, List.getElem_cons_succ, List.getElem_cons_zero, List.setIfInBounds_toArray, List.set_cons_zero, List.set_cons_succ]))
                refine ord_done ?_
                have T := HR.out.2.1.upd (Upd.of_below H4.out (fun _ => False)) id
                obtain ⟨z, w9, ks', kv', hl, hz0, hz1, hm, T', hg, hs⟩ := T.step HX.out.1 HX.out.2.2.2.2.2.1.1
                have x0 := (HK.out.1.drew.upd (Upd.of_below H5.out (fun _ => False)) id).cell 0
                simp only [List.getElem?_toArray, List.getElem?_cons_zero] at x0
                have UX : Upd (fun q => q = wo.heap.size) W1 w9 := (HR.out.2.2.trans (Upd.of_below H4.out (fun _ => False)) (fun _ h => h.elim)).grown hg (fun q e => .inl (by injection e with e; exact e.symm))
                have HT := Lib.hid (And.intro T' UX)
                dsimp only at hl hm
                clear T T' UX hg hs
                go_wp2
                go_roundw
                case rel => exact ⟨true, 0 + 1, ks', kv', by omega, rfl, by go_num, ⟨fun _ => ⟨(HR.out.1.1 (by first | trivial | rfl)).1, RiseP.succ.2 ⟨(HR.out.1.1 (by first | trivial | rfl)).2, fun p hp => (by have := HX.out.1.symm.trans hp; injection this with this; rw [← this]; exact HGO.out), fun _ _ h => (by omega)⟩⟩, fun _ => rfl⟩, HT.out.1, HT.out.2⟩
                case measure => simp [intOf]; omega
              · obtain ⟨j, rfl⟩ : ∃ j, k = j + 1 := ⟨k - 1, by omega⟩
                obtain ⟨⟨g0, g1, g2, g3, g4⟩, hg⟩ : ∃ f, P[j]? = some f := ⟨P[j]'(by omega), List.getElem?_eq_getElem _⟩
                obtain ⟨gb', go', e', b0, b1, b2, b3, b4⟩ := HX.out.2.2.1.pack hg
                injection e' with e'; injection e' with e' e''; subst e'; subst e''
                clear UP
                have UP : Hid (∀ w' : World, Below wa.drew.heap.size wa.drew w' → w'.cell? ⟨w.heap.size, 0, none⟩ = some (.slice A S.length c) ∧ w'.cell? ⟨w.heap.size, 1, none⟩ = some (.slice (some ⟨gb, go, none⟩) P.length d) ∧ w'.cell? ⟨wr.heap.size, 0, none⟩ = some (.int .i64 p0) ∧ w'.cell? ⟨wr.heap.size, 1, none⟩ = some (.int .i64 p1) ∧ w'.cell? ⟨wr.heap.size, 2, none⟩ = some (.int .i64 p2) ∧ w'.cell? ⟨wr.heap.size, 3, none⟩ = some (.int .i64 p3) ∧ w'.cell? ⟨wr.heap.size, 4, none⟩ = some (.int .i64 p4) ∧ w'.cell? ⟨gb, go + j * 5, none⟩ = some (.int .i64 g0) ∧ w'.cell? ⟨gb, go + j * 5 + 1, none⟩ = some (.int .i64 g1) ∧ w'.cell? ⟨gb, go + j * 5 + 2, none⟩ = some (.int .i64 g2) ∧ w'.cell? ⟨gb, go + j * 5 + 3, none⟩ = some (.int .i64 g3) ∧ w'.cell? ⟨gb, go + j * 5 + 4, none⟩ = some (.int .i64 g4)) := Lib.hid (fun w' hb => by
                  have u : ∀ b o v, wa.drew.cell? ⟨b, o, none⟩ = some v → w'.cell? ⟨b, o, none⟩ = some v := fun b o v h => (hb.cell (p := ⟨b, o, none⟩) (World.block_lt_of_cell? wa.drew _ h)).trans h
                  exact ⟨u _ _ _ ((HX.out.2.2.2.2.1.upd (Upd.of_below HK.out.2.1 (fun _ => False)) id).cell 0), u _ _ _ ((HX.out.2.2.2.2.1.upd (Upd.of_below HK.out.2.1 (fun _ => False)) id).cell 1), u _ _ _ (HK.out.1.cell 0), u _ _ _ (HK.out.1.cell 1), u _ _ _ (HK.out.1.cell 2), u _ _ _ (HK.out.1.cell 3), u _ _ _ (HK.out.1.cell 4), u _ _ _ ((HK.out.2.1.cell (p := ⟨gb, go + j * 5, none⟩) (World.block_lt_of_cell? wr _ b0)).trans b0), u _ _ _ ((HK.out.2.1.cell (p := ⟨gb, go + j * 5 + 1, none⟩) (World.block_lt_of_cell? wr _ b1)).trans b1), u _ _ _ ((HK.out.2.1.cell (p := ⟨gb, go + j * 5 + 2, none⟩) (World.block_lt_of_cell? wr _ b2)).trans b2), u _ _ _ ((HK.out.2.1.cell (p := ⟨gb, go + j * 5 + 3, none⟩) (World.block_lt_of_cell? wr _ b3)).trans b3), u _ _ _ ((HK.out.2.1.cell (p := ⟨gb, go + j * 5 + 4, none⟩) (World.block_lt_of_cell? wr _ b4)).trans b4)⟩)
                have HG := Lib.hid hg
                clear hg b0 b1 b2 b3 b4 hk0
                have hj2 : (((j : Int) + 1) == 0) = false := by simp; omega
                have hwj : IntKind.i64.wrap (j : Int) = (j : Int) := IntWalk.i64_in _ (by omega)
                have hj3 : (j : Int) < (P.length : Int) := by omega
                by_cases hbb : Pk.lt ⟨g0, g1, g2, g3, g4⟩ ⟨p0, p1, p2, p3, p4⟩ = true
                · have e9 := pk_lt_iff ⟨g0, g1, g2, g3, g4⟩ ⟨p0, p1, p2, p3, p4⟩
                  rw [hbb] at e9
                  dsimp only at e9
                  have HBB := Lib.hid hbb
                  clear hbb
                  refine wp_region_ord (fun w' => w'.cell? ⟨w.heap.size, 0, none⟩ = some (.slice A S.length c) ∧ w'.cell? ⟨w.heap.size, 1, none⟩ = some (.slice (some ⟨gb, go, none⟩) P.length d) ∧ w'.cell? ⟨wr.heap.size, 0, none⟩ = some (.int .i64 p0) ∧ w'.cell? ⟨wr.heap.size, 1, none⟩ = some (.int .i64 p1) ∧ w'.cell? ⟨wr.heap.size, 2, none⟩ = some (.int .i64 p2) ∧ w'.cell? ⟨wr.heap.size, 3, none⟩ = some (.int .i64 p3) ∧ w'.cell? ⟨wr.heap.size, 4, none⟩ = some (.int .i64 p4) ∧ w'.cell? ⟨gb, go + j * 5, none⟩ = some (.int .i64 g0) ∧ w'.cell? ⟨gb, go + j * 5 + 1, none⟩ = some (.int .i64 g1) ∧ w'.cell? ⟨gb, go + j * 5 + 2, none⟩ = some (.int .i64 g2) ∧ w'.cell? ⟨gb, go + j * 5 + 3, none⟩ = some (.int .i64 g3) ∧ w'.cell? ⟨gb, go + j * 5 + 4, none⟩ = some (.int .i64 g4)) 22 [(0, true), (1, true), (2, true), (3, true), (4, false), (5, true), (6, true), (7, true), (8, true), (9, true), (10, true), (11, true), (12, true), (13, true), (14, true), (15, true), (16, true), (17, false), (18, true), (19, true), (20, true), (21, true)] (by kernel_rfl) (by kernel_rfl) (fun _ _ d _ _ h => by cases d <;> exact h) (UP.out _ (Below.refl _ _)) ?_
                  iterate 4 (refine ord_take (v := ?_) rfl (by first | with_reducible rfl | kernel_rfl) ?_ ?_; rotate_left; (focus (intro wS hS; (try dsimp only at hS); go_split_ands; go_simp; (try with_reducible rfl); done)); (try simp only [Act.put, List.getElem_toArray, List.getElem_cons_succ, List.getElem_cons_zero, List.setIfInBounds_toArray, List.set_cons_zero, List.set_cons_succ]))
                  (refine ord_dog rfl (by first | with_reducible rfl | kernel_rfl) (fun K hK => ?_); go_simp)
                  refine (goes_val _ A c _ P.length d S ⟨p0, p1, p2, p3, p4⟩ true HGO.out (HX.out.2.2.2.1.below BA.out) HC.out).mono ?_
                  rintro e w4 ⟨rfl, hb4⟩
                  refine hK _ _ (fun _ => UP.out _ hb4) ?_
                  have H4 := Lib.hid (BA.out.trans (hb4.mono BA.out.size))
                  have H5 := Lib.hid hb4
                  clear hK K hb4
                  (try simp only [Act.put, List.getElem_toArray, List.getElem_cons_succ, List.getElem_cons_zero, List.setIfInBounds_toArray, List.set_cons_zero, List.set_cons_succ])
                  iterate 12 (refine ord_take (v := ?_) rfl (by first | with_reducible rfl | kernel_rfl) ?_ ?_; rotate_left; (focus (intro wS hS; (try dsimp only at hS); go_split_ands; go_simp; (try with_reducible rfl); done)); (try simp only [Act.put, List.getElem_toArray, List.getElem_cons_succ, List.getElem_cons_zero, List.setIfInBounds_toArray, List.set_cons_zero, List.set_cons_succ]))
                  (refine ord_dog rfl (by first | with_reducible rfl | kernel_rfl) (fun K hK => ?_); go_simp)
                  refine (byPlace_any _ ⟨g0, g1, g2, g3, g4⟩ ⟨p0, p1, p2, p3, p4⟩).mono ?_
                  rintro e w5 ⟨rfl, hb5⟩
                  refine hK _ _ (fun _ => UP.out _ (H5.out.trans (hb5.mono H5.out.size))) ?_
                  have H6 := Lib.hid (H4.out.trans (hb5.mono H4.out.size))
                  have H7 := Lib.hid (H5.out.trans (hb5.mono H5.out.size))
                  clear hK K hb5
                  iterate 4 (refine ord_take (v := ?_) rfl (by first | with_reducible rfl | kernel_rfl) ?_ ?_; rotate_left; (focus (intro wS hS; (try dsimp only at hS); go_split_ands; go_simp; (try with_reducible rfl); done)); (try simp only [Act.put, List.getElem_toArray, List.getElem_cons_succ, List.getElem_cons_zero, List.setIfInBounds_toArray, List.set_cons_zero, List.set_cons_succ]))
                  clear hwj
                  refine ord_done ?_
                  have T := HR.out.2.1.upd (Upd.of_below H6.out (fun _ => False)) id
                  obtain ⟨z, w9, ks', kv', hl, hz0, hz1, hm, T', hg, hs⟩ := T.step HX.out.1 HX.out.2.2.2.2.2.1.1
                  have x0 := (HK.out.1.drew.upd (Upd.of_below H7.out (fun _ => False)) id).cell 0
                  simp only [List.getElem?_toArray, List.getElem?_cons_zero] at x0
                  have UX : Upd (fun q => q = wo.heap.size) W1 w9 := (HR.out.2.2.trans (Upd.of_below H6.out (fun _ => False)) (fun _ h => h.elim)).grown hg (fun q e => .inl (by injection e with e; exact e.symm))
                  have HT := Lib.hid (And.intro T' UX)
                  dsimp only at hl hm
                  clear T T' UX hg hs
                  go_wp2
                  go_roundw
                  case rel => exact ⟨true, j + 1 + 1, ks', kv', by omega, rfl, by go_num, ⟨fun _ => ⟨(HR.out.1.1 (by first | trivial | rfl)).1, RiseP.succ.2 ⟨(HR.out.1.1 (by first | trivial | rfl)).2, fun p hp => (by have := HX.out.1.symm.trans hp; injection this with this; rw [← this]; exact HGO.out), fun p q _ hp hq => (by have h1 := HG.out.symm.trans hp; have h2 := HX.out.1.symm.trans hq; injection h1 with h1; injection h2 with h2; rw [← h1, ← h2]; exact HBB.out)⟩⟩, fun _ => rfl⟩, HT.out.1, HT.out.2⟩
                  case measure => simp [intOf]; omega
                · have hbb : Pk.lt ⟨g0, g1, g2, g3, g4⟩ ⟨p0, p1, p2, p3, p4⟩ = false := by simpa using hbb
                  have e9 := pk_lt_iff ⟨g0, g1, g2, g3, g4⟩ ⟨p0, p1, p2, p3, p4⟩
                  rw [hbb] at e9
                  dsimp only at e9
                  have HBB := Lib.hid hbb
                  clear hbb
                  refine wp_region_ord (fun w' => w'.cell? ⟨w.heap.size, 0, none⟩ = some (.slice A S.length c) ∧ w'.cell? ⟨w.heap.size, 1, none⟩ = some (.slice (some ⟨gb, go, none⟩) P.length d) ∧ w'.cell? ⟨wr.heap.size, 0, none⟩ = some (.int .i64 p0) ∧ w'.cell? ⟨wr.heap.size, 1, none⟩ = some (.int .i64 p1) ∧ w'.cell? ⟨wr.heap.size, 2, none⟩ = some (.int .i64 p2) ∧ w'.cell? ⟨wr.heap.size, 3, none⟩ = some (.int .i64 p3) ∧ w'.cell? ⟨wr.heap.size, 4, none⟩ = some (.int .i64 p4) ∧ w'.cell? ⟨gb, go + j * 5, none⟩ = some (.int .i64 g0) ∧ w'.cell? ⟨gb, go + j * 5 + 1, none⟩ = some (.int .i64 g1) ∧ w'.cell? ⟨gb, go + j * 5 + 2, none⟩ = some (.int .i64 g2) ∧ w'.cell? ⟨gb, go + j * 5 + 3, none⟩ = some (.int .i64 g3) ∧ w'.cell? ⟨gb, go + j * 5 + 4, none⟩ = some (.int .i64 g4)) 22 [(0, true), (1, true), (2, true), (3, true), (4, false), (5, true), (6, true), (7, true), (8, true), (9, true), (10, true), (11, true), (12, true), (13, true), (14, true), (15, true), (16, true), (17, false), (18, true), (19, true), (20, true), (21, true)] (by kernel_rfl) (by kernel_rfl) (fun _ _ d _ _ h => by cases d <;> exact h) (UP.out _ (Below.refl _ _)) ?_
                  iterate 4 (refine ord_take (v := ?_) rfl (by first | with_reducible rfl | kernel_rfl) ?_ ?_; rotate_left; (focus (intro wS hS; (try dsimp only at hS); go_split_ands; go_simp; (try with_reducible rfl); done)); (try simp only [Act.put, List.getElem_toArray, List.getElem_cons_succ, List.getElem_cons_zero, List.setIfInBounds_toArray, List.set_cons_zero, List.set_cons_succ]))
                  (refine ord_dog rfl (by first | with_reducible rfl | kernel_rfl) (fun K hK => ?_); go_simp)
                  refine (goes_val _ A c _ P.length d S ⟨p0, p1, p2, p3, p4⟩ true HGO.out (HX.out.2.2.2.1.below BA.out) HC.out).mono ?_
                  rintro e w4 ⟨rfl, hb4⟩
                  refine hK _ _ (fun _ => UP.out _ hb4) ?_
                  have H4 := Lib.hid (BA.out.trans (hb4.mono BA.out.size))
                  have H5 := Lib.hid hb4
                  clear hK K hb4
                  (try simp only [Act.put, List.getElem_toArray, List.getElem_cons_succ, List.getElem_cons_zero, List.setIfInBounds_toArray, List.set_cons_zero, List.set_cons_succ])
                  iterate 12 (refine ord_take (v := ?_) rfl (by first | with_reducible rfl | kernel_rfl) ?_ ?_; rotate_left; (focus (intro wS hS; (try dsimp only at hS); go_split_ands; go_simp; (try with_reducible rfl); done)); (try simp only [Act.put, List.getElem_toArray, List.getElem_cons_succ, List.getElem_cons_zero, List.setIfInBounds_toArray, List.set_cons_zero, List.set_cons_succ]))
                  (refine ord_dog rfl (by first | with_reducible rfl | kernel_rfl) (fun K hK => ?_); go_simp)
                  refine (byPlace_any _ ⟨g0, g1, g2, g3, g4⟩ ⟨p0, p1, p2, p3, p4⟩).mono ?_
                  rintro e w5 ⟨rfl, hb5⟩
                  refine hK _ _ (fun _ => UP.out _ (H5.out.trans (hb5.mono H5.out.size))) ?_
                  have H6 := Lib.hid (H4.out.trans (hb5.mono H4.out.size))
                  have H7 := Lib.hid (H5.out.trans (hb5.mono H5.out.size))
                  clear hK K hb5
                  iterate 4 (refine ord_take (v := ?_) rfl (by first | with_reducible rfl | kernel_rfl) ?_ ?_; rotate_left; (focus (intro wS hS; (try dsimp only at hS); go_split_ands; go_simp; (try with_reducible rfl); done)); (try simp only [Act.put, List.getElem_toArray, List.getElem_cons_succ, List.getElem_cons_zero, List.setIfInBounds_toArray, List.set_cons_zero, List.set_cons_succ]))
                  clear hwj
                  refine ord_done ?_
                  have T := HR.out.2.1.upd (Upd.of_below H6.out (fun _ => False)) id
                  obtain ⟨z, w9, ks', kv', hl, hz0, hz1, hm, T', hg, hs⟩ := T.step HX.out.1 HX.out.2.2.2.2.2.1.1
                  have x0 := (HK.out.1.drew.upd (Upd.of_below H7.out (fun _ => False)) id).cell 0
                  simp only [List.getElem?_toArray, List.getElem?_cons_zero] at x0
                  have UX : Upd (fun q => q = wo.heap.size) W1 w9 := (HR.out.2.2.trans (Upd.of_below H6.out (fun _ => False)) (fun _ h => h.elim)).grown hg (fun q e => .inl (by injection e with e; exact e.symm))
                  have HT := Lib.hid (And.intro T' UX)
                  dsimp only at hl hm
                  clear T T' UX hg hs
                  go_wp2
                  go_roundw
                  case rel => exact ⟨false, j + 1 + 1, ks', kv', by omega, rfl, by go_num, ⟨fun h => (by cases h), fun h => by have := (RiseP.succ.1 h.2).2.2 _ _ (by omega) HG.out HX.out.1; rw [HBB.out] at this; cases this⟩, HT.out.1, HT.out.2⟩
                  case measure => simp [intOf]; omega
            · have hgo' : (⟨p0, p1, p2, p3, p4⟩ : Pk).goes S = false := by simpa using hgo
              have HGO := Lib.hid hgo'
              clear hgo hgo'
              refine wp_region_ord (fun w' => w'.cell? ⟨w.heap.size, 0, none⟩ = some (.slice A S.length c) ∧ w'.cell? ⟨w.heap.size, 1, none⟩ = some (.slice (some ⟨gb, go, none⟩) P.length d) ∧ w'.cell? ⟨wr.heap.size, 0, none⟩ = some (.int .i64 p0) ∧ w'.cell? ⟨wr.heap.size, 1, none⟩ = some (.int .i64 p1) ∧ w'.cell? ⟨wr.heap.size, 2, none⟩ = some (.int .i64 p2) ∧ w'.cell? ⟨wr.heap.size, 3, none⟩ = some (.int .i64 p3) ∧ w'.cell? ⟨wr.heap.size, 4, none⟩ = some (.int .i64 p4)) 22 [(0, true), (1, true), (2, true), (3, true), (4, false), (5, true), (6, true), (7, true), (8, true), (9, true), (10, true), (11, true), (12, true), (13, true), (14, true), (15, true), (16, true), (17, false), (18, true), (19, true), (20, true), (21, true)] (by kernel_rfl) (by kernel_rfl) (fun _ _ d _ _ h => by cases d <;> exact h) (UP.out _ (Below.refl _ _)) ?_
              iterate 4 (refine ord_take (v := ?_) rfl (by first | with_reducible rfl | kernel_rfl) ?_ ?_; rotate_left; (focus (intro wS hS; (try dsimp only at hS); go_split_ands; go_simp; (try with_reducible rfl); done)); (try simp only [Act.put, List.getElem_toArray, List.getElem_cons_succ, List.getElem_cons_zero, List.setIfInBounds_toArray, List.set_cons_zero, List.set_cons_succ]))
              (refine ord_dog rfl (by first | with_reducible rfl | kernel_rfl) (fun K hK => ?_); go_simp)
              refine (goes_val _ A c _ P.length d S ⟨p0, p1, p2, p3, p4⟩ false HGO.out (HX.out.2.2.2.1.below BA.out) HC.out).mono ?_
              rintro e w4 ⟨rfl, hb4⟩
              refine hK _ _ (fun _ => UP.out _ hb4) ?_
              have H4 := Lib.hid (BA.out.trans (hb4.mono BA.out.size))
              have H5 := Lib.hid hb4
              clear hK K hb4
              (try simp only [Act.put, List.getElem_toArray, List.getElem_cons_succ, List.getElem_cons_zero, List.setIfInBounds_toArray, List.set_cons_zero, List.set_cons_succ])
              iterate 2 (refine ord_take (v := ?_) rfl (by first | with_reducible rfl | kernel_rfl) ?_ ?_; rotate_left; (focus (intro wS hS; (try dsimp only at hS); go_split_ands; go_simp; (try with_reducible rfl); done)); (try simp only [Act.put, List.getElem_toArray, List.getElem_cons_succ, List.getElem_cons_zero, List.setIfInBounds_toArray, List.set_cons_zero, List.set_cons_succ]))
              iterate 10 (refine ord_skip rfl (by kernel_rfl) ?_; (try simp only [Act.put, List.getElem_toArray, List.getElem_cons_succ, List.getElem_cons_zero, List.setIfInBounds_toArray, List.set_cons_zero, List.set_cons_succ]))
              iterate 1 (refine ord_skipf rfl (by kernel_rfl) (by first | assumption | trivial | exact UP.out _ H5.out) ?_; (try simp only [Act.put, List.getElem_toArray, List.getElem_cons_succ, List.getElem_cons_zero, List.setIfInBounds_toArray, List.set_cons_zero, List.set_cons_succ]))
              iterate 2 (refine ord_skip rfl (by kernel_rfl) ?_; (try simp only [Act.put, List.getElem_toArray, List.getElem_cons_succ, List.getElem_cons_zero, List.setIfInBounds_toArray, List.set_cons_zero, List.set_cons_succ]))
              iterate 2 (refine ord_take (v := ?_) rfl (by first | with_reducible rfl | kernel_rfl) ?_ ?_; rotate_left; (focus (intro wS hS; (try dsimp only at hS); go_split_ands; go_simp; (try with_reducible rfl); done)); (try simp only [Act.put, List.getElem_toArray, List.getElem_cons_succ, List.getElem_cons_zero, List.setIfInBounds_toArray, List.set_cons_zero, List.set_cons_succ]))
              refine ord_done ?_
              have T := HR.out.2.1.upd (Upd.of_below H4.out (fun _ => False)) id
              obtain ⟨z, w9, ks', kv', hl, hz0, hz1, hm, T', hg, hs⟩ := T.step HX.out.1 HX.out.2.2.2.2.2.1.1
              have x0 := (HK.out.1.drew.upd (Upd.of_below H5.out (fun _ => False)) id).cell 0
              simp only [List.getElem?_toArray, List.getElem?_cons_zero] at x0
              have UX : Upd (fun q => q = wo.heap.size) W1 w9 := (HR.out.2.2.trans (Upd.of_below H4.out (fun _ => False)) (fun _ h => h.elim)).grown hg (fun q e => .inl (by injection e with e; exact e.symm))
              have HT := Lib.hid (And.intro T' UX)
              dsimp only at hl hm
              clear T T' UX hg hs
              go_wp2
              go_roundw
              case rel => exact ⟨false, k + 1, ks', kv', by omega, rfl, by go_num, ⟨fun h => (by cases h), fun h => by have := (RiseP.succ.1 h.2).2.1 _ HX.out.1; rw [HGO.out] at this; cases this⟩, HT.out.1, HT.out.2⟩
              case measure => simp [intOf]; omega
        · obtain rfl : k = P.length := by omega
          clear hlt
          have kb : Blk wr w.heap.size 75 #[.slice A S.length c, .slice B P.length d] := HW1.out.1.upd HR.out.2.2 (fun e => by have := HW1.out.2.2.2.2; omega)
          have q0 : wr.cell? ⟨w.heap.size, 0, none⟩ = some (.slice A S.length c) := kb.cell 0
          have bwr : Below w.heap.size w wr := HW1.out.2.1.trans (HR.out.2.2.below (fun i _ e => by have := HW1.out.2.2.2.2; omega) HW1.out.2.1.size)
          have HX := Lib.hid bwr
          clear kb bwr
          cases b with
          | false =>
            go_wp2
            go_ret
            exact ⟨fun h => (by have := HR.out.1.2 ⟨h.s, h.p⟩; cases this), fun _ => rfl, HX.out⟩
          | true =>
            have hlen := HR.out.2.1.m.len_run Try.underlying138 3
            have esz : kv.length = ks.length := by
              have h2 := congrArg List.length HR.out.2.1.e
              simp at h2
              exact h2
            have HE := Lib.hid esz
            clear esz
            have hall := HR.out.2.1.all (HR.out.1.1 (by first | trivial | rfl)).2
            have HA := Lib.hid hall
            clear hall
            by_cases hn : ks.length = S.length
            · have e1 : ((kv.length : Int) != (S.length : Int)) = false := by simp; have := HE.out; omega
              have HN := Lib.hid hn
              clear hn
              go_wp2
              go_ret
              exact ⟨fun _ => rfl, fun h => (h ⟨(HR.out.1.1 (by first | trivial | rfl)).1, (HR.out.1.1 (by first | trivial | rfl)).2, HA.out.1 HN.out⟩).elim, HX.out⟩
            · have e1 : ((kv.length : Int) != (S.length : Int)) = true := by simp; have := HE.out; omega
              have HN := Lib.hid hn
              clear hn
              go_wp2
              go_ret
              exact ⟨fun h => (HN.out (HA.out.2 h.all)).elim, fun _ => rfl, HX.out⟩
end Go.Proofs.Ytbppbgdmoihooaa
