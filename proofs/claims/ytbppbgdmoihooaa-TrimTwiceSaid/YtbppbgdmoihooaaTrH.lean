/- Forests: may a forest be, by the document (bywayref22.CheckForest). -/
import Derived.Test.YtbppbgdmoihooaaTrG
namespace Go.Proofs.Ytbppbgdmoihooaa
open Go.RowKit

theorem less_val (w : World) (f h : Fct) (b : Bool) (hb : f.lt h = b) : Calls Try.prog 64 #[f.agg, h.agg] w fun e w' => e = .returned (.bool b) ∧ Below w.heap.size w w' := by
  subst hb
  exact less_any w f h
theorem packLess_val (w : World) (f h : Pk) (b : Bool) (hb : f.lt h = b) : Calls Try.prog 66 #[f.agg, h.agg] w fun e w' => e = .returned (.bool b) ∧ Below w.heap.size w w' := by
  subst hb
  exact packLess_any w f h
theorem rgoes_val (w : World) (A : Option Addr) (c : Nat) (B : Option Addr) (m d : Nat) (S : List Fct) (p : Pk) (g : Bool) (hg : p.goes S = g) (hr : RowR w A (factCells S)) (hc : S.length ≤ c) :
    Calls Try.prog 65 #[forV A S.length c B m d, p.agg] w fun e w' => e = .returned (.bool g) ∧ Below w.heap.size w w' := by
  subst hg
  exact rgoes_any w A c B m d S p hr hc

set_option maxHeartbeats 8000000 in
set_option maxRecDepth 20000 in
theorem checkForest_any (w : World) (A : Option Addr) (c : Nat) (B : Option Addr) (d : Nat) (S : List Fct) (P : List Pk) (h : ForR w A c B d S P) :
    Calls Try.prog 34 #[forV A S.length c B P.length d] w (CkPost w S P 320 0) := by
  have k0 := Blk.new w 75 #[.slice A S.length c, .slice B P.length d]
  have u0 : Below w.heap.size w (w.alloc (.cells #[.slice A S.length c, .slice B P.length d] 75)) := (Below.refl _ _).alloc (Nat.le_refl _) _
  have hcI : (S.length : Int) ≤ (c : Int) := by have := h.hc; omega
  have hdI : (P.length : Int) ≤ (d : Int) := by have := h.hd; omega
  have hS8 : S.length ≤ 100000000000000 := by have := h.fit.s; omega
  have hP8 : P.length ≤ 100000000000000 := by have := h.fit.p; omega
  have H := Lib.hid (And.intro h (And.intro k0 u0))
  have HC := Lib.hid h.hc
  clear h k0 u0
  go_enter Try.func34, Try.ntmps34
  unfold forV
  go_wp2_with fail
  generalize w.alloc (.cells #[.slice A S.length c, .slice B P.length d] 75) = W0 at H ⊢
  go_loopw [3] (fun iv wr => ∃ j : Nat, iv = .int .i64 ((j : Int) + 1) ∧ (j = 0 ∨ j < S.length) ∧ RiseS S (j + 1) ∧ Below W0.heap.size W0 wr) (fun iv _ => S.length - (intOf iv).toNat)
  case atStart => exact ⟨0, rfl, .inl rfl, fun i f g hi => by omega, Below.refl _ _⟩
  case round =>
    obtain ⟨j, rfl, hj, hb, bel⟩ := hrel
    have kb := H.out.2.1.upd (Upd.of_below bel (fun _ => False)) id
    have q0 : wr.cell? ⟨w.heap.size, 0, none⟩ = some (.slice A S.length c) := kb.cell 0
    have hj8 : j ≤ 100000000000000 := by omega
    have HB := Lib.hid (And.intro hb bel)
    have HK := Lib.hid kb
    clear hb bel kb
    by_cases hlt : j + 1 < S.length
    · obtain ⟨⟨f0, f1, f2⟩, hf⟩ : ∃ f, S[j + 1]? = some f := ⟨S[j + 1], List.getElem?_eq_getElem hlt⟩
      obtain ⟨⟨g0, g1, g2⟩, hg⟩ : ∃ f, S[j]? = some f := ⟨S[j]'(by omega), List.getElem?_eq_getElem _⟩
      have rs := ((H.out.1.rs.below H.out.2.2).below HB.out.2)
      obtain ⟨gb, go, rfl, a0, a1, a2⟩ := rs.fact hf
      obtain ⟨gb', go', e', b0, b1, b2⟩ := rs.fact hg
      injection e' with e'; injection e' with e' e''; subst e'; subst e''
      have UP : Hid (∀ w' : World, Below wr.drew.heap.size wr.drew w' → w'.cell? ⟨w.heap.size, 0, none⟩ = some (.slice (some ⟨gb, go, none⟩) S.length c) ∧ w'.cell? ⟨gb, go + (j + 1) * 3, none⟩ = some (.int .i64 f0) ∧ w'.cell? ⟨gb, go + (j + 1) * 3 + 1, none⟩ = some (.int .i64 f1) ∧ w'.cell? ⟨gb, go + (j + 1) * 3 + 2, none⟩ = some (.int .i64 f2) ∧ w'.cell? ⟨gb, go + j * 3, none⟩ = some (.int .i64 g0) ∧ w'.cell? ⟨gb, go + j * 3 + 1, none⟩ = some (.int .i64 g1) ∧ w'.cell? ⟨gb, go + j * 3 + 2, none⟩ = some (.int .i64 g2)) := Lib.hid (fun w' hb => by
        have u : ∀ b o v, wr.cell? ⟨b, o, none⟩ = some v → w'.cell? ⟨b, o, none⟩ = some v := fun b o v h => (hb.cell (p := ⟨b, o, none⟩) (World.block_lt_of_cell? wr _ h)).trans h
        exact ⟨u _ _ _ q0, u _ _ _ a0, u _ _ _ a1, u _ _ _ a2, u _ _ _ b0, u _ _ _ b1, u _ _ _ b2⟩)
      have HF := Lib.hid (And.intro hf hg)
      clear hf hg rs a0 a1 a2 b0 b1 b2
      have hlt' : (j : Int) + 1 < (S.length : Int) := by omega
      have hlt2 : (j : Int) < (S.length : Int) := by omega
      have hj0 : (0 : Int) ≤ (j : Int) + 1 := by omega
      go_wp2
      have hwj : IntKind.i64.wrap (j : Int) = (j : Int) := IntWalk.i64_in _ (by omega)
      by_cases hbb : Fct.lt ⟨g0, g1, g2⟩ ⟨f0, f1, f2⟩ = true
      · have HBB := Lib.hid hbb
        clear hbb
        refine wp_region_ord (fun w' => w'.cell? ⟨w.heap.size, 0, none⟩ = some (.slice (some ⟨gb, go, none⟩) S.length c) ∧ w'.cell? ⟨gb, go + (j + 1) * 3, none⟩ = some (.int .i64 f0) ∧ w'.cell? ⟨gb, go + (j + 1) * 3 + 1, none⟩ = some (.int .i64 f1) ∧ w'.cell? ⟨gb, go + (j + 1) * 3 + 2, none⟩ = some (.int .i64 f2) ∧ w'.cell? ⟨gb, go + j * 3, none⟩ = some (.int .i64 g0) ∧ w'.cell? ⟨gb, go + j * 3 + 1, none⟩ = some (.int .i64 g1) ∧ w'.cell? ⟨gb, go + j * 3 + 2, none⟩ = some (.int .i64 g2)) 13 [(0, true), (1, true), (2, true), (3, true), (4, true), (5, true), (6, true), (7, true), (8, true), (9, true), (10, true), (11, false), (12, true)] (by kernel_rfl) (by kernel_rfl) (fun _ _ d _ _ h => by cases d <;> exact h) (UP.out _ (Below.refl _ _)) ?_
        iterate 11 (refine ord_take (v := ?_) rfl (by first | with_reducible rfl | kernel_rfl) ?_ ?_; rotate_left; (focus (intro wS hS; (try dsimp only at hS); go_split_ands; go_simp; (try with_reducible rfl); done)); (try simp only [Act.put, List.getElem_toArray, List.getElem_cons_succ, List.getElem_cons_zero, List.setIfInBounds_toArray, List.set_cons_zero, List.set_cons_succ]))
        (refine ord_dog rfl (by first | with_reducible rfl | kernel_rfl) (fun K hK => ?_); go_simp)
        refine (less_val _ ⟨g0, g1, g2⟩ ⟨f0, f1, f2⟩ true HBB.out).mono ?_
        rintro e w4 ⟨rfl, hb4⟩
        refine hK _ _ (fun _ => UP.out _ hb4) ?_
        have H4 := Lib.hid ((Below.refl _ wr).drew.trans hb4)
        clear hK K hb4
        (try simp only [Act.put, List.getElem_toArray, List.getElem_cons_succ, List.getElem_cons_zero, List.setIfInBounds_toArray, List.set_cons_zero, List.set_cons_succ])
        iterate 1 (refine ord_take (v := ?_) rfl (by first | with_reducible rfl | kernel_rfl) ?_ ?_; rotate_left; (focus (intro wS hS; (try dsimp only at hS); go_split_ands; go_simp; (try with_reducible rfl); done)); (try simp only [Act.put, List.getElem_toArray, List.getElem_cons_succ, List.getElem_cons_zero, List.setIfInBounds_toArray, List.set_cons_zero, List.set_cons_succ]))
        clear hwj
        refine ord_done ?_
        go_wp2
        go_roundw
        case rel => exact ⟨j + 1, by go_num, .inr hlt, RiseS.succ.2 ⟨HB.out.1, fun f g _ hf hg => (by
          have h1 := HF.out.2.symm.trans hf
          have h2 := HF.out.1.symm.trans hg
          injection h1 with h1
          injection h2 with h2
          rw [← h1, ← h2]
          exact HBB.out)⟩, HB.out.2.trans (H4.out.mono HB.out.2.size)⟩
        case measure => simp [intOf]; omega
      · have hbb' : Fct.lt ⟨g0, g1, g2⟩ ⟨f0, f1, f2⟩ = false := by simpa using hbb
        have HBB := Lib.hid hbb'
        clear hbb hbb'
        refine wp_region_ord (fun w' => w'.cell? ⟨w.heap.size, 0, none⟩ = some (.slice (some ⟨gb, go, none⟩) S.length c) ∧ w'.cell? ⟨gb, go + (j + 1) * 3, none⟩ = some (.int .i64 f0) ∧ w'.cell? ⟨gb, go + (j + 1) * 3 + 1, none⟩ = some (.int .i64 f1) ∧ w'.cell? ⟨gb, go + (j + 1) * 3 + 2, none⟩ = some (.int .i64 f2) ∧ w'.cell? ⟨gb, go + j * 3, none⟩ = some (.int .i64 g0) ∧ w'.cell? ⟨gb, go + j * 3 + 1, none⟩ = some (.int .i64 g1) ∧ w'.cell? ⟨gb, go + j * 3 + 2, none⟩ = some (.int .i64 g2)) 13 [(0, true), (1, true), (2, true), (3, true), (4, true), (5, true), (6, true), (7, true), (8, true), (9, true), (10, true), (11, false), (12, true)] (by kernel_rfl) (by kernel_rfl) (fun _ _ d _ _ h => by cases d <;> exact h) (UP.out _ (Below.refl _ _)) ?_
        iterate 11 (refine ord_take (v := ?_) rfl (by first | with_reducible rfl | kernel_rfl) ?_ ?_; rotate_left; (focus (intro wS hS; (try dsimp only at hS); go_split_ands; go_simp; (try with_reducible rfl); done)); (try simp only [Act.put, List.getElem_toArray, List.getElem_cons_succ, List.getElem_cons_zero, List.setIfInBounds_toArray, List.set_cons_zero, List.set_cons_succ]))
        (refine ord_dog rfl (by first | with_reducible rfl | kernel_rfl) (fun K hK => ?_); go_simp)
        refine (less_val _ ⟨g0, g1, g2⟩ ⟨f0, f1, f2⟩ false HBB.out).mono ?_
        rintro e w4 ⟨rfl, hb4⟩
        refine hK _ _ (fun _ => UP.out _ hb4) ?_
        have H4 := Lib.hid ((Below.refl _ wr).drew.trans hb4)
        clear hK K hb4
        (try simp only [Act.put, List.getElem_toArray, List.getElem_cons_succ, List.getElem_cons_zero, List.setIfInBounds_toArray, List.set_cons_zero, List.set_cons_succ])
        iterate 1 (refine ord_take (v := ?_) rfl (by first | with_reducible rfl | kernel_rfl) ?_ ?_; rotate_left; (focus (intro wS hS; (try dsimp only at hS); go_split_ands; go_simp; (try with_reducible rfl); done)); (try simp only [Act.put, List.getElem_toArray, List.getElem_cons_succ, List.getElem_cons_zero, List.setIfInBounds_toArray, List.set_cons_zero, List.set_cons_succ]))
        clear hwj
        refine ord_done ?_
        go_wp2
        go_ret
        exact ⟨fun h => (show False from (by have := h.s j _ _ hlt HF.out.2 HF.out.1; rw [HBB.out] at this; cases this)).elim, fun _ => rfl, H.out.2.2.trans ((HB.out.2.trans (H4.out.mono HB.out.2.size)).mono H.out.2.2.size)⟩
    · have riseS : RiseS S S.length := fun i f g hi hf hg => HB.out.1 i f g (by omega) hf hg
      have RS := Lib.hid riseS
      clear riseS
      have hge : decide ((j : Int) + 1 < (S.length : Int)) = false := by simp; omega
      obtain ⟨wo, rfl⟩ : ∃ wo : World, wo = wr := ⟨_, rfl⟩
      go_wp2
      clear hge
      go_loopw [4] (fun iv wr => ∃ k : Nat, k ≤ P.length ∧ iv = .int .i64 k ∧ RiseP S P k ∧ Below W0.heap.size W0 wr) (fun iv _ => P.length - (intOf iv).toNat)
      case atStart => exact ⟨0, Nat.zero_le _, rfl, ⟨fun i p hi => by omega, fun i p q hi => by omega⟩, HB.out.2⟩
      case round =>
        obtain ⟨k, hk, rfl, hb, bel⟩ := hrel
        have kb := H.out.2.1.upd (Upd.of_below bel (fun _ => False)) id
        have q0 : wr.cell? ⟨w.heap.size, 0, none⟩ = some (.slice A S.length c) := kb.cell 0
        have q1 : wr.cell? ⟨w.heap.size, 1, none⟩ = some (.slice B P.length d) := kb.cell 1
        have HB := Lib.hid (And.intro hb bel)
        have HRS := Lib.hid ((H.out.1.rs.below H.out.2.2).below bel)
        clear hb bel kb
        by_cases hlt : k < P.length
        · obtain ⟨⟨p0, p1, p2, p3, p4⟩, hp⟩ : ∃ p, P[k]? = some p := ⟨P[k], List.getElem?_eq_getElem hlt⟩
          obtain ⟨gb, go, rfl, a0, a1, a2, a3, a4⟩ := ((H.out.1.rp.below H.out.2.2).below HB.out.2).pack hp
          have HP := Lib.hid hp
          have hlt' : (k : Int) < (P.length : Int) := by omega
          by_cases hgo : (⟨p0, p1, p2, p3, p4⟩ : Pk).goes S = true
          · have HGO := Lib.hid hgo
            clear hgo
            by_cases hk0 : k = 0
            · have z1 : decide ((0 : Int) < (k : Int)) = false := by simp; omega
              have z2 : decide (0 < k) = false := by simp; omega
              have HZ := Lib.hid hk0
              clear hk0
              have UP : Hid (∀ w' : World, Below wr.drew.heap.size wr.drew w' → w'.cell? ⟨w.heap.size, 0, none⟩ = some (.slice A S.length c) ∧ w'.cell? ⟨w.heap.size, 1, none⟩ = some (.slice (some ⟨gb, go, none⟩) P.length d) ∧ w'.cell? ⟨gb, go + k * 5, none⟩ = some (.int .i64 p0) ∧ w'.cell? ⟨gb, go + k * 5 + 1, none⟩ = some (.int .i64 p1) ∧ w'.cell? ⟨gb, go + k * 5 + 2, none⟩ = some (.int .i64 p2) ∧ w'.cell? ⟨gb, go + k * 5 + 3, none⟩ = some (.int .i64 p3) ∧ w'.cell? ⟨gb, go + k * 5 + 4, none⟩ = some (.int .i64 p4)) := Lib.hid (fun w' hb => by
                have u : ∀ b o v, wr.cell? ⟨b, o, none⟩ = some v → w'.cell? ⟨b, o, none⟩ = some v := fun b o v h => (hb.cell (p := ⟨b, o, none⟩) (World.block_lt_of_cell? wr _ h)).trans h
                exact ⟨u _ _ _ q0, u _ _ _ q1, u _ _ _ a0, u _ _ _ a1, u _ _ _ a2, u _ _ _ a3, u _ _ _ a4⟩)
              clear hp a0 a1 a2 a3 a4
              go_wp2
              refine wp_region_ord (fun w' => w'.cell? ⟨w.heap.size, 0, none⟩ = some (.slice A S.length c) ∧ w'.cell? ⟨w.heap.size, 1, none⟩ = some (.slice (some ⟨gb, go, none⟩) P.length d) ∧ w'.cell? ⟨gb, go + k * 5, none⟩ = some (.int .i64 p0) ∧ w'.cell? ⟨gb, go + k * 5 + 1, none⟩ = some (.int .i64 p1) ∧ w'.cell? ⟨gb, go + k * 5 + 2, none⟩ = some (.int .i64 p2) ∧ w'.cell? ⟨gb, go + k * 5 + 3, none⟩ = some (.int .i64 p3) ∧ w'.cell? ⟨gb, go + k * 5 + 4, none⟩ = some (.int .i64 p4)) 27 [(0, true), (1, true), (2, true), (3, true), (4, true), (5, true), (6, false), (7, true), (8, true), (9, true), (10, true), (11, true), (12, true), (13, true), (14, true), (15, true), (16, true), (17, true), (18, true), (19, true), (20, true), (21, true), (22, true), (23, false), (24, true), (25, true), (26, true)] (by kernel_rfl) (by kernel_rfl) (fun _ _ d _ _ h => by cases d <;> exact h) (UP.out _ (Below.refl _ _)) ?_
              iterate 6 (refine ord_take (v := ?_) rfl (by first | with_reducible rfl | kernel_rfl) ?_ ?_; rotate_left; (focus (intro wS hS; (try dsimp only at hS); go_split_ands; go_simp; (try with_reducible rfl); done)); (try simp only [Act.put, List.getElem_toArray, List.getElem_cons_succ, List.getElem_cons_zero, List.setIfInBounds_toArray, List.set_cons_zero, List.set_cons_succ]))
              (refine ord_dog rfl (by first | with_reducible rfl | kernel_rfl) (fun K hK => ?_); go_simp)
              refine (rgoes_val _ A c _ P.length d S ⟨p0, p1, p2, p3, p4⟩ true HGO.out (HRS.out.below (Below.refl _ wr).drew) HC.out).mono ?_
              rintro e w4 ⟨rfl, hb4⟩
              refine hK _ _ (fun _ => UP.out _ hb4) ?_
              have H4 := Lib.hid ((Below.refl _ wr).drew.trans hb4)
              have H5 := Lib.hid hb4
              clear hK K hb4
              (try simp only [Act.put, List.getElem_toArray, List.getElem_cons_succ, List.getElem_cons_zero, List.setIfInBounds_toArray, List.set_cons_zero, List.set_cons_succ])
              iterate 5 (refine ord_take (v := ?_) rfl (by first | with_reducible rfl | kernel_rfl) ?_ ?_; rotate_left; (focus (intro wS hS; (try dsimp only at hS); go_split_ands; go_simp; (try with_reducible rfl); done)); (try simp only [Act.put, List.getElem_toArray, List.getElem_cons_succ, List.getElem_cons_zero, List.setIfInBounds_toArray, List.set_cons_zero, List.set_cons_succ]))
              iterate 11 (refine ord_skip rfl (by kernel_rfl) ?_; (try simp only [Act.put, List.getElem_toArray, List.getElem_cons_succ, List.getElem_cons_zero, List.setIfInBounds_toArray, List.set_cons_zero, List.set_cons_succ]))
              iterate 1 (refine ord_skipf rfl (by kernel_rfl) (by first | assumption | trivial | exact UP.out _ H5.out) ?_; (try simp only [Act.put, List.getElem_toArray, List.getElem_cons_succ, List.getElem_cons_zero, List.setIfInBounds_toArray, List.set_cons_zero, List.set_cons_succ]))
              iterate 1 (refine ord_skip rfl (by kernel_rfl) ?_; (try simp only [Act.put, List.getElem_toArray, List.getElem_cons_succ, List.getElem_cons_zero, List.setIfInBounds_toArray, List.set_cons_zero, List.set_cons_succ]))
              iterate 2 (refine ord_take (v := ?_) rfl (by first | with_reducible rfl | kernel_rfl) ?_ ?_; rotate_left; (focus (intro wS hS; (try dsimp only at hS); go_split_ands; go_simp; (try with_reducible rfl); done)); (try simp only [Act.put, List.getElem_toArray, List.getElem_cons_succ, List.getElem_cons_zero, List.setIfInBounds_toArray, List.set_cons_zero, List.set_cons_succ]))
              refine ord_done ?_
              go_wp2
              go_roundw
              case rel => exact ⟨k + 1, by omega, by go_num, RiseP.succ.2 ⟨HB.out.1, fun p hp => (by have := HP.out.symm.trans hp; injection this with this; rw [← this]; exact HGO.out), fun _ _ h => (by have := HZ.out; omega)⟩, HB.out.2.trans (H4.out.mono HB.out.2.size)⟩
              case measure => simp [intOf]; omega
            · obtain ⟨j, rfl⟩ : ∃ j, k = j + 1 := ⟨k - 1, by omega⟩
              obtain ⟨⟨g0, g1, g2, g3, g4⟩, hg⟩ : ∃ f, P[j]? = some f := ⟨P[j]'(by omega), List.getElem?_eq_getElem _⟩
              obtain ⟨gb', go', e', b0, b1, b2, b3, b4⟩ := ((H.out.1.rp.below H.out.2.2).below HB.out.2).pack hg
              injection e' with e'; injection e' with e' e''; subst e'; subst e''
              have UP : Hid (∀ w' : World, Below wr.drew.heap.size wr.drew w' → w'.cell? ⟨w.heap.size, 0, none⟩ = some (.slice A S.length c) ∧ w'.cell? ⟨w.heap.size, 1, none⟩ = some (.slice (some ⟨gb, go, none⟩) P.length d) ∧ w'.cell? ⟨gb, go + (j + 1) * 5, none⟩ = some (.int .i64 p0) ∧ w'.cell? ⟨gb, go + (j + 1) * 5 + 1, none⟩ = some (.int .i64 p1) ∧ w'.cell? ⟨gb, go + (j + 1) * 5 + 2, none⟩ = some (.int .i64 p2) ∧ w'.cell? ⟨gb, go + (j + 1) * 5 + 3, none⟩ = some (.int .i64 p3) ∧ w'.cell? ⟨gb, go + (j + 1) * 5 + 4, none⟩ = some (.int .i64 p4) ∧ w'.cell? ⟨gb, go + j * 5, none⟩ = some (.int .i64 g0) ∧ w'.cell? ⟨gb, go + j * 5 + 1, none⟩ = some (.int .i64 g1) ∧ w'.cell? ⟨gb, go + j * 5 + 2, none⟩ = some (.int .i64 g2) ∧ w'.cell? ⟨gb, go + j * 5 + 3, none⟩ = some (.int .i64 g3) ∧ w'.cell? ⟨gb, go + j * 5 + 4, none⟩ = some (.int .i64 g4)) := Lib.hid (fun w' hb => by
                have u : ∀ b o v, wr.cell? ⟨b, o, none⟩ = some v → w'.cell? ⟨b, o, none⟩ = some v := fun b o v h => (hb.cell (p := ⟨b, o, none⟩) (World.block_lt_of_cell? wr _ h)).trans h
                exact ⟨u _ _ _ q0, u _ _ _ q1, u _ _ _ a0, u _ _ _ a1, u _ _ _ a2, u _ _ _ a3, u _ _ _ a4, u _ _ _ b0, u _ _ _ b1, u _ _ _ b2, u _ _ _ b3, u _ _ _ b4⟩)
              have HG := Lib.hid hg
              clear hg hp a0 a1 a2 a3 a4 b0 b1 b2 b3 b4 hk0
              have hj0 : (0 : Int) ≤ (j : Int) + 1 := by omega
              have hj1 : decide ((0 : Int) < (j : Int) + 1) = true := by simp <;> omega
              have hj3 : (j : Int) < (P.length : Int) := by omega
              go_wp2
              have hwj : IntKind.i64.wrap (j : Int) = (j : Int) := IntWalk.i64_in _ (by omega)
              by_cases hbb : Pk.lt ⟨g0, g1, g2, g3, g4⟩ ⟨p0, p1, p2, p3, p4⟩ = true
              · have HBB := Lib.hid hbb
                clear hbb
                refine wp_region_ord (fun w' => w'.cell? ⟨w.heap.size, 0, none⟩ = some (.slice A S.length c) ∧ w'.cell? ⟨w.heap.size, 1, none⟩ = some (.slice (some ⟨gb, go, none⟩) P.length d) ∧ w'.cell? ⟨gb, go + (j + 1) * 5, none⟩ = some (.int .i64 p0) ∧ w'.cell? ⟨gb, go + (j + 1) * 5 + 1, none⟩ = some (.int .i64 p1) ∧ w'.cell? ⟨gb, go + (j + 1) * 5 + 2, none⟩ = some (.int .i64 p2) ∧ w'.cell? ⟨gb, go + (j + 1) * 5 + 3, none⟩ = some (.int .i64 p3) ∧ w'.cell? ⟨gb, go + (j + 1) * 5 + 4, none⟩ = some (.int .i64 p4) ∧ w'.cell? ⟨gb, go + j * 5, none⟩ = some (.int .i64 g0) ∧ w'.cell? ⟨gb, go + j * 5 + 1, none⟩ = some (.int .i64 g1) ∧ w'.cell? ⟨gb, go + j * 5 + 2, none⟩ = some (.int .i64 g2) ∧ w'.cell? ⟨gb, go + j * 5 + 3, none⟩ = some (.int .i64 g3) ∧ w'.cell? ⟨gb, go + j * 5 + 4, none⟩ = some (.int .i64 g4)) 27 [(0, true), (1, true), (2, true), (3, true), (4, true), (5, true), (6, false), (7, true), (8, true), (9, true), (10, true), (11, true), (12, true), (13, true), (14, true), (15, true), (16, true), (17, true), (18, true), (19, true), (20, true), (21, true), (22, true), (23, false), (24, true), (25, true), (26, true)] (by kernel_rfl) (by kernel_rfl) (fun _ _ d _ _ h => by cases d <;> exact h) (UP.out _ (Below.refl _ _)) ?_
                iterate 6 (refine ord_take (v := ?_) rfl (by first | with_reducible rfl | kernel_rfl) ?_ ?_; rotate_left; (focus (intro wS hS; (try dsimp only at hS); go_split_ands; go_simp; (try with_reducible rfl); done)); (try simp only [Act.put, List.getElem_toArray, List.getElem_cons_succ, List.getElem_cons_zero, List.setIfInBounds_toArray, List.set_cons_zero, List.set_cons_succ]))
                (refine ord_dog rfl (by first | with_reducible rfl | kernel_rfl) (fun K hK => ?_); go_simp)
                refine (rgoes_val _ A c _ P.length d S ⟨p0, p1, p2, p3, p4⟩ true HGO.out (HRS.out.below (Below.refl _ wr).drew) HC.out).mono ?_
                rintro e w4 ⟨rfl, hb4⟩
                refine hK _ _ (fun _ => UP.out _ hb4) ?_
                have H4 := Lib.hid ((Below.refl _ wr).drew.trans hb4)
                have H5 := Lib.hid hb4
                clear hK K hb4
                (try simp only [Act.put, List.getElem_toArray, List.getElem_cons_succ, List.getElem_cons_zero, List.setIfInBounds_toArray, List.set_cons_zero, List.set_cons_succ])
                iterate 16 (refine ord_take (v := ?_) rfl (by first | with_reducible rfl | kernel_rfl) ?_ ?_; rotate_left; (focus (intro wS hS; (try dsimp only at hS); go_split_ands; go_simp; (try with_reducible rfl); done)); (try simp only [Act.put, List.getElem_toArray, List.getElem_cons_succ, List.getElem_cons_zero, List.setIfInBounds_toArray, List.set_cons_zero, List.set_cons_succ]))
                (refine ord_dog rfl (by first | with_reducible rfl | kernel_rfl) (fun K hK => ?_); go_simp)
                refine (packLess_val _ ⟨g0, g1, g2, g3, g4⟩ ⟨p0, p1, p2, p3, p4⟩ true HBB.out).mono ?_
                rintro e w5 ⟨rfl, hb5⟩
                refine hK _ _ (fun _ => UP.out _ (H5.out.trans (hb5.mono H5.out.size))) ?_
                have H6 := Lib.hid (H4.out.trans (hb5.mono H4.out.size))
                clear hK K hb5
                (try simp only [Act.put, List.getElem_toArray, List.getElem_cons_succ, List.getElem_cons_zero, List.setIfInBounds_toArray, List.set_cons_zero, List.set_cons_succ])
                iterate 3 (refine ord_take (v := ?_) rfl (by first | with_reducible rfl | kernel_rfl) ?_ ?_; rotate_left; (focus (intro wS hS; (try dsimp only at hS); go_split_ands; go_simp; (try with_reducible rfl); done)); (try simp only [Act.put, List.getElem_toArray, List.getElem_cons_succ, List.getElem_cons_zero, List.setIfInBounds_toArray, List.set_cons_zero, List.set_cons_succ]))
                clear hwj
                refine ord_done ?_
                go_wp2
                go_roundw
                case rel => exact ⟨j + 1 + 1, by omega, by go_num, RiseP.succ.2 ⟨HB.out.1, fun p hp => (by have := HP.out.symm.trans hp; injection this with this; rw [← this]; exact HGO.out), fun p q _ hp hq => (by have h1 := HG.out.symm.trans hp; have h2 := HP.out.symm.trans hq; injection h1 with h1; injection h2 with h2; rw [← h1, ← h2]; exact HBB.out)⟩, HB.out.2.trans (H6.out.mono HB.out.2.size)⟩
                case measure => simp [intOf]; omega
              · have hbb' : Pk.lt ⟨g0, g1, g2, g3, g4⟩ ⟨p0, p1, p2, p3, p4⟩ = false := by simpa using hbb
                have HBB := Lib.hid hbb'
                clear hbb hbb'
                refine wp_region_ord (fun w' => w'.cell? ⟨w.heap.size, 0, none⟩ = some (.slice A S.length c) ∧ w'.cell? ⟨w.heap.size, 1, none⟩ = some (.slice (some ⟨gb, go, none⟩) P.length d) ∧ w'.cell? ⟨gb, go + (j + 1) * 5, none⟩ = some (.int .i64 p0) ∧ w'.cell? ⟨gb, go + (j + 1) * 5 + 1, none⟩ = some (.int .i64 p1) ∧ w'.cell? ⟨gb, go + (j + 1) * 5 + 2, none⟩ = some (.int .i64 p2) ∧ w'.cell? ⟨gb, go + (j + 1) * 5 + 3, none⟩ = some (.int .i64 p3) ∧ w'.cell? ⟨gb, go + (j + 1) * 5 + 4, none⟩ = some (.int .i64 p4) ∧ w'.cell? ⟨gb, go + j * 5, none⟩ = some (.int .i64 g0) ∧ w'.cell? ⟨gb, go + j * 5 + 1, none⟩ = some (.int .i64 g1) ∧ w'.cell? ⟨gb, go + j * 5 + 2, none⟩ = some (.int .i64 g2) ∧ w'.cell? ⟨gb, go + j * 5 + 3, none⟩ = some (.int .i64 g3) ∧ w'.cell? ⟨gb, go + j * 5 + 4, none⟩ = some (.int .i64 g4)) 27 [(0, true), (1, true), (2, true), (3, true), (4, true), (5, true), (6, false), (7, true), (8, true), (9, true), (10, true), (11, true), (12, true), (13, true), (14, true), (15, true), (16, true), (17, true), (18, true), (19, true), (20, true), (21, true), (22, true), (23, false), (24, true), (25, true), (26, true)] (by kernel_rfl) (by kernel_rfl) (fun _ _ d _ _ h => by cases d <;> exact h) (UP.out _ (Below.refl _ _)) ?_
                iterate 6 (refine ord_take (v := ?_) rfl (by first | with_reducible rfl | kernel_rfl) ?_ ?_; rotate_left; (focus (intro wS hS; (try dsimp only at hS); go_split_ands; go_simp; (try with_reducible rfl); done)); (try simp only [Act.put, List.getElem_toArray, List.getElem_cons_succ, List.getElem_cons_zero, List.setIfInBounds_toArray, List.set_cons_zero, List.set_cons_succ]))
                (refine ord_dog rfl (by first | with_reducible rfl | kernel_rfl) (fun K hK => ?_); go_simp)
                refine (rgoes_val _ A c _ P.length d S ⟨p0, p1, p2, p3, p4⟩ true HGO.out (HRS.out.below (Below.refl _ wr).drew) HC.out).mono ?_
                rintro e w4 ⟨rfl, hb4⟩
                refine hK _ _ (fun _ => UP.out _ hb4) ?_
                have H4 := Lib.hid ((Below.refl _ wr).drew.trans hb4)
                have H5 := Lib.hid hb4
                clear hK K hb4
                (try simp only [Act.put, List.getElem_toArray, List.getElem_cons_succ, List.getElem_cons_zero, List.setIfInBounds_toArray, List.set_cons_zero, List.set_cons_succ])
                iterate 16 (refine ord_take (v := ?_) rfl (by first | with_reducible rfl | kernel_rfl) ?_ ?_; rotate_left; (focus (intro wS hS; (try dsimp only at hS); go_split_ands; go_simp; (try with_reducible rfl); done)); (try simp only [Act.put, List.getElem_toArray, List.getElem_cons_succ, List.getElem_cons_zero, List.setIfInBounds_toArray, List.set_cons_zero, List.set_cons_succ]))
                (refine ord_dog rfl (by first | with_reducible rfl | kernel_rfl) (fun K hK => ?_); go_simp)
                refine (packLess_val _ ⟨g0, g1, g2, g3, g4⟩ ⟨p0, p1, p2, p3, p4⟩ false HBB.out).mono ?_
                rintro e w5 ⟨rfl, hb5⟩
                refine hK _ _ (fun _ => UP.out _ (H5.out.trans (hb5.mono H5.out.size))) ?_
                have H6 := Lib.hid (H4.out.trans (hb5.mono H4.out.size))
                clear hK K hb5
                (try simp only [Act.put, List.getElem_toArray, List.getElem_cons_succ, List.getElem_cons_zero, List.setIfInBounds_toArray, List.set_cons_zero, List.set_cons_succ])
                iterate 3 (refine ord_take (v := ?_) rfl (by first | with_reducible rfl | kernel_rfl) ?_ ?_; rotate_left; (focus (intro wS hS; (try dsimp only at hS); go_split_ands; go_simp; (try with_reducible rfl); done)); (try simp only [Act.put, List.getElem_toArray, List.getElem_cons_succ, List.getElem_cons_zero, List.setIfInBounds_toArray, List.set_cons_zero, List.set_cons_succ]))
                clear hwj
                refine ord_done ?_
                go_wp2
                go_ret
                exact ⟨fun h => (show False from (by have := h.p.2 j _ _ hlt HG.out HP.out; rw [HBB.out] at this; cases this)).elim, fun _ => rfl, H.out.2.2.trans ((HB.out.2.trans (H6.out.mono HB.out.2.size)).mono H.out.2.2.size)⟩
          · have hgo' : (⟨p0, p1, p2, p3, p4⟩ : Pk).goes S = false := by simpa using hgo
            have HGO := Lib.hid hgo'
            clear hgo hgo'
            have UP : Hid (∀ w' : World, Below wr.drew.heap.size wr.drew w' → w'.cell? ⟨w.heap.size, 0, none⟩ = some (.slice A S.length c) ∧ w'.cell? ⟨w.heap.size, 1, none⟩ = some (.slice (some ⟨gb, go, none⟩) P.length d) ∧ w'.cell? ⟨gb, go + k * 5, none⟩ = some (.int .i64 p0) ∧ w'.cell? ⟨gb, go + k * 5 + 1, none⟩ = some (.int .i64 p1) ∧ w'.cell? ⟨gb, go + k * 5 + 2, none⟩ = some (.int .i64 p2) ∧ w'.cell? ⟨gb, go + k * 5 + 3, none⟩ = some (.int .i64 p3) ∧ w'.cell? ⟨gb, go + k * 5 + 4, none⟩ = some (.int .i64 p4)) := Lib.hid (fun w' hb => by
              have u : ∀ b o v, wr.cell? ⟨b, o, none⟩ = some v → w'.cell? ⟨b, o, none⟩ = some v := fun b o v h => (hb.cell (p := ⟨b, o, none⟩) (World.block_lt_of_cell? wr _ h)).trans h
              exact ⟨u _ _ _ q0, u _ _ _ q1, u _ _ _ a0, u _ _ _ a1, u _ _ _ a2, u _ _ _ a3, u _ _ _ a4⟩)
            clear hp a0 a1 a2 a3 a4
            go_wp2
            refine wp_region_ord (fun w' => w'.cell? ⟨w.heap.size, 0, none⟩ = some (.slice A S.length c) ∧ w'.cell? ⟨w.heap.size, 1, none⟩ = some (.slice (some ⟨gb, go, none⟩) P.length d) ∧ w'.cell? ⟨gb, go + k * 5, none⟩ = some (.int .i64 p0) ∧ w'.cell? ⟨gb, go + k * 5 + 1, none⟩ = some (.int .i64 p1) ∧ w'.cell? ⟨gb, go + k * 5 + 2, none⟩ = some (.int .i64 p2) ∧ w'.cell? ⟨gb, go + k * 5 + 3, none⟩ = some (.int .i64 p3) ∧ w'.cell? ⟨gb, go + k * 5 + 4, none⟩ = some (.int .i64 p4)) 27 [(0, true), (1, true), (2, true), (3, true), (4, true), (5, true), (6, false), (7, true), (8, true), (9, true), (10, true), (11, true), (12, true), (13, true), (14, true), (15, true), (16, true), (17, true), (18, true), (19, true), (20, true), (21, true), (22, true), (23, false), (24, true), (25, true), (26, true)] (by kernel_rfl) (by kernel_rfl) (fun _ _ d _ _ h => by cases d <;> exact h) (UP.out _ (Below.refl _ _)) ?_
            iterate 6 (refine ord_take (v := ?_) rfl (by first | with_reducible rfl | kernel_rfl) ?_ ?_; rotate_left; (focus (intro wS hS; (try dsimp only at hS); go_split_ands; go_simp; (try with_reducible rfl); done)); (try simp only [Act.put, List.getElem_toArray, List.getElem_cons_succ, List.getElem_cons_zero, List.setIfInBounds_toArray, List.set_cons_zero, List.set_cons_succ]))
            (refine ord_dog rfl (by first | with_reducible rfl | kernel_rfl) (fun K hK => ?_); go_simp)
            refine (rgoes_val _ A c _ P.length d S ⟨p0, p1, p2, p3, p4⟩ false HGO.out (HRS.out.below (Below.refl _ wr).drew) HC.out).mono ?_
            rintro e w4 ⟨rfl, hb4⟩
            refine hK _ _ (fun _ => UP.out _ hb4) ?_
            have H4 := Lib.hid ((Below.refl _ wr).drew.trans hb4)
            have H5 := Lib.hid hb4
            clear hK K hb4
            (try simp only [Act.put, List.getElem_toArray, List.getElem_cons_succ, List.getElem_cons_zero, List.setIfInBounds_toArray, List.set_cons_zero, List.set_cons_succ])
            iterate 2 (refine ord_take (v := ?_) rfl (by first | with_reducible rfl | kernel_rfl) ?_ ?_; rotate_left; (focus (intro wS hS; (try dsimp only at hS); go_split_ands; go_simp; (try with_reducible rfl); done)); (try simp only [Act.put, List.getElem_toArray, List.getElem_cons_succ, List.getElem_cons_zero, List.setIfInBounds_toArray, List.set_cons_zero, List.set_cons_succ]))
            iterate 14 (refine ord_skip rfl (by kernel_rfl) ?_; (try simp only [Act.put, List.getElem_toArray, List.getElem_cons_succ, List.getElem_cons_zero, List.setIfInBounds_toArray, List.set_cons_zero, List.set_cons_succ]))
            iterate 1 (refine ord_skipf rfl (by kernel_rfl) (by first | assumption | trivial | exact UP.out _ H5.out) ?_; (try simp only [Act.put, List.getElem_toArray, List.getElem_cons_succ, List.getElem_cons_zero, List.setIfInBounds_toArray, List.set_cons_zero, List.set_cons_succ]))
            iterate 2 (refine ord_skip rfl (by kernel_rfl) ?_; (try simp only [Act.put, List.getElem_toArray, List.getElem_cons_succ, List.getElem_cons_zero, List.setIfInBounds_toArray, List.set_cons_zero, List.set_cons_succ]))
            iterate 1 (refine ord_take (v := ?_) rfl (by first | with_reducible rfl | kernel_rfl) ?_ ?_; rotate_left; (focus (intro wS hS; (try dsimp only at hS); go_split_ands; go_simp; (try with_reducible rfl); done)); (try simp only [Act.put, List.getElem_toArray, List.getElem_cons_succ, List.getElem_cons_zero, List.setIfInBounds_toArray, List.set_cons_zero, List.set_cons_succ]))
            refine ord_done ?_
            go_wp2
            go_ret
            exact ⟨fun h => (show False from (by have := h.p.1 k _ hlt HP.out; rw [HGO.out] at this; cases this)).elim, fun _ => rfl, H.out.2.2.trans ((HB.out.2.trans (H4.out.mono HB.out.2.size)).mono H.out.2.2.size)⟩
        · obtain rfl : k = P.length := by omega
          clear hlt
          obtain ⟨w8, rfl⟩ : ∃ w8 : World, w8 = wr := ⟨_, rfl⟩
          go_wp2
          go_loopw [5] (fun iv wr => ∃ s : Nat, s ≤ S.length ∧ iv = .int .i64 s ∧ (∀ q : Nat, q < s → ∃ p ∈ P, p.spot = q) ∧ Below W0.heap.size W0 wr) (fun iv _ => S.length - (intOf iv).toNat)
          case atStart => exact ⟨0, Nat.zero_le _, rfl, fun q hq => by omega, HB.out.2⟩
          case round =>
            obtain ⟨s, hs, rfl, hall, bel⟩ := hrel
            have kb := H.out.2.1.upd (Upd.of_below bel (fun _ => False)) id
            have q0 : wr.cell? ⟨w.heap.size, 0, none⟩ = some (.slice A S.length c) := kb.cell 0
            have q1 : wr.cell? ⟨w.heap.size, 1, none⟩ = some (.slice B P.length d) := kb.cell 1
            have HA := Lib.hid (And.intro hall bel)
            clear hall bel kb
            by_cases hlt : s < S.length
            · have hlt' : (s : Int) < (S.length : Int) := by omega
              go_wp2_with fail
              refine (packsOf_any wr A c B d S P (s : Int) ((H.out.1.below H.out.2.2).below HA.out.2)).mono ?_
              rintro e w4 ⟨v, rfl, row, hb4⟩
              obtain ⟨A', c', rfl, -, -⟩ := own_form row
              have H4 := Lib.hid hb4
              clear row hb4
              by_cases hn : (ofSpot (s : Int) P).length = 0
              · have HN := Lib.hid hn
                rw [hn]
                clear hn
                go_wp2
                go_ret
                exact ⟨fun h => (by
                  obtain ⟨p, hp, e⟩ := h.all s hlt
                  have : p ∈ ofSpot (s : Int) P := List.mem_filter.2 ⟨hp, by simpa using e⟩
                  have := List.length_pos_of_mem this
                  have := HN.out
                  omega : False).elim, fun _ => rfl, H.out.2.2.trans ((HA.out.2.trans (H4.out.mono HA.out.2.size)).mono H.out.2.2.size)⟩
              · have e1 : ((ofSpot (s : Int) P).length == 0) = false := by simpa using hn
                have e2 : (((ofSpot (s : Int) P).length : Int) == 0) = false := by simp; intro h; exact hn (by simp [h])
                have HN := Lib.hid hn
                clear hn
                generalize hq : (ofSpot (s : Int) P).length = nn at e1 e2 HN ⊢
                have HQ := Lib.hid hq
                clear hq
                go_wp2
                go_roundw
                case rel =>
                  refine ⟨s + 1, by omega, by go_num, fun q hq => ?_, HA.out.2.trans (H4.out.mono HA.out.2.size)⟩
                  by_cases e : q < s
                  · exact HA.out.1 q e
                  · obtain rfl : q = s := by omega
                    obtain ⟨p, hp⟩ := List.exists_mem_of_length_pos (l := ofSpot (q : Int) P) (by have := HQ.out; have := HN.out; omega)
                    obtain ⟨h1, h2⟩ := List.mem_filter.1 hp
                    exact ⟨p, h1, by simpa using h2⟩
                case measure => simp [intOf]; omega
            · obtain rfl : s = S.length := by omega
              clear hlt
              go_wp2
              go_ret
              exact ⟨fun _ => rfl, fun h => (h ⟨RS.out, HB.out.1, HA.out.1⟩).elim, H.out.2.2.trans (HA.out.2.mono H.out.2.2.size)⟩
end Go.Proofs.Ytbppbgdmoihooaa
