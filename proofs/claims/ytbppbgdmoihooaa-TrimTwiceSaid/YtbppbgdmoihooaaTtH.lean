/- Forests: the walk of bywaylaw29.TrimTwice at a spot, of too many packs. -/
import Derived.Test.YtbppbgdmoihooaaTtF
namespace Go.Proofs.Ytbppbgdmoihooaa
open Go.RowKit

set_option maxHeartbeats 8000000 in
set_option maxRecDepth 100000 in
theorem twice_many (w : World) (A : Option Addr) (c : Nat) (B : Option Addr) (d : Nat) (S : List Fct) (P : List Pk) (s : Nat) (h : ForR w A c B d S P) (T : List Int) (ho : OkFor S P) (hT : Settled P S.length T) (hs : s < S.length) (hz : 4096 < at0 T (s : Int)) :
    Calls Try.prog 10 #[forV A S.length c B P.length d, .int .i64 (s : Int)] w (Sam w (.bool true)) := by
  obtain ⟨⟨f0, f1, f2⟩, hf⟩ : ∃ f, S[s]? = some f := ⟨S[s], List.getElem?_eq_getElem hs⟩
  obtain ⟨ab, ao, rfl, x0, x1, x2⟩ := h.rs.fact hf
  dsimp only at x0 x1 x2
  have xb : ab < w.heap.size := World.block_lt_of_cell? w _ x0
  have hS8 : S.length ≤ 140737488355328 := by have := h.fit.s; omega
  have HX := Lib.hid (And.intro x0 (And.intro x1 (And.intro x2 hf)))
  have HZ := Lib.hid hz
  have HHR := Lib.hid (fun (R : List Bool) (hR : RchB P (fun x => x = (s : Int)) S.length R) => again_facts ho h.fit hf hR)
  clear x0 x1 x2 hf hz
  obtain ⟨ho1, fit1, T1, hT1, hcs, hcp⟩ := twice_facts ho h.fit hT
  have HT := Lib.hid hT
  have fit := h.fit
  have HW := Lib.hid (fun (W : World) (hW : w.alloc (.cells #[.slice (some ⟨ab, ao, none⟩) S.length c, .slice B P.length d] 75) = W) => Tw.first h hW)
  have HFIT := Lib.hid fit
  clear h fit
  go_enter Try.func10, Try.ntmps10
  unfold forV
  go_upto_region 1 with (fail)
  obtain ⟨W0, hW0⟩ : ∃ W0, w.alloc (.cells #[.slice (some ⟨ab, ao, none⟩) S.length c, .slice B P.length d] 75) = W0 := ⟨_, rfl⟩
  rw [hW0]
  have TW0 := Lib.hid (HW.out W0 hW0)
  clear hW0 HW
  have HS := Lib.hid (And.intro fit1 (And.intro hT1 (And.intro hcs hcp)))
  clear fit1 hT1 hcs hcp hT
  have q0 : W0.cell? ⟨w.heap.size, 0, none⟩ = some (.slice (some ⟨ab, ao, none⟩) S.length c) := (TW0.out.f _ (.head _)).k.cell 0
  have q1 : W0.cell? ⟨w.heap.size, 1, none⟩ = some (.slice B P.length d) := (TW0.out.f _ (.head _)).k.cell 1
  go_wp2_with fail
  refine (copy_any W0 _ c B d S P ((TW0.out.f _ (.head _)).forR HFIT.out)).mono ?_
  intro e w1 hn
  obtain ⟨A1, c1, B1, d1, rfl, F1, b1⟩ := hn.at HFIT.out
  have HF := Lib.hid F1
  have TW1 := Lib.hid (TW0.out.below b1)
  clear hn F1 b1 q0 q1 TW0
  unfold forV
  go_wp2_with fail
  refine (ttrim_yes w1 A1 c1 B1 d1 S P T HF.out ho HT.out).mono ?_
  rintro e w2 ⟨A2, c2, B2, d2, rfl, ra, rb, hca, hcb, b2⟩
  generalize cutS S (endsB T) = S1 at ho1 HS ra hca ⊢
  generalize cutP P (endsB T) = P1 at ho1 HS rb hcb ⊢
  have TW2 := Lib.hid ((TW1.out.below b2).push ra rb hca hcb).1
  clear ra rb hca hcb b2 TW1 HF
  (try unfold forV)
  go_upto_region 2 with (fail)
  generalize w2.alloc (.cells #[.slice A2 S1.length c2, .slice B2 P1.length d2] 75) = W3 at TW2 ⊢
  go_wp2_with fail
  refine (head_any W3).mono ?_
  rintro e w4 ⟨rfl, b4⟩
  have TW4 := Lib.hid (TW2.out.below b4)
  clear b4 TW2
  have q0 : w4.cell? ⟨w2.heap.size, 0, none⟩ = some (.slice A2 S1.length c2) := (TW4.out.f _ (.head _)).k.cell 0
  have q1 : w4.cell? ⟨w2.heap.size, 1, none⟩ = some (.slice B2 P1.length d2) := (TW4.out.f _ (.head _)).k.cell 1
  go_wp2_with fail
  refine (ttrim_yes w4 A2 c2 B2 d2 S1 P1 T1 ((TW4.out.f _ (.head _)).forR HS.out.1) ho1 HS.out.2.1).mono ?_
  rw [HS.out.2.2.1, HS.out.2.2.2]
  rintro e w5 ⟨A5, c5, B5, d5, rfl, ra, rb, hca, hcb, b5⟩
  have TW5 := Lib.hid ((TW4.out.below b5).push ra rb hca hcb).1
  clear ra rb hca hcb b5 TW4 q0 q1
  (try unfold forV)
  go_upto_region 7 with (fail)
  generalize w5.alloc (.cells #[.slice A5 S1.length c5, .slice B5 P1.length d5] 75) = W6 at TW5 ⊢
  have q0 : W6.cell? ⟨w2.heap.size, 0, none⟩ = some (.slice A2 S1.length c2) := (TW5.out.f _ (.tail _ (.head _))).k.cell 0
  have q1 : W6.cell? ⟨w2.heap.size, 1, none⟩ = some (.slice B2 P1.length d2) := (TW5.out.f _ (.tail _ (.head _))).k.cell 1
  go_wp2_with fail
  refine (check_yes W6 A2 c2 B2 d2 S1 P1 ((TW5.out.f _ (.tail _ (.head _))).forR HS.out.1) ho1).mono ?_
  rintro e w7 ⟨rfl, b7⟩
  have TW7 := Lib.hid (TW5.out.below b7)
  clear b7 q0 q1 TW5
  have q0 : w7.cell? ⟨w2.heap.size, 0, none⟩ = some (.slice A2 S1.length c2) := (TW7.out.f _ (.tail _ (.head _))).k.cell 0
  have q1 : w7.cell? ⟨w2.heap.size, 1, none⟩ = some (.slice B2 P1.length d2) := (TW7.out.f _ (.tail _ (.head _))).k.cell 1
  have q2 : w7.cell? ⟨w5.heap.size, 0, none⟩ = some (.slice A5 S1.length c5) := (TW7.out.f _ (.head _)).k.cell 0
  have q3 : w7.cell? ⟨w5.heap.size, 1, none⟩ = some (.slice B5 P1.length d5) := (TW7.out.f _ (.head _)).k.cell 1
  go_wp2_with fail
  refine (same_any w7 A2 c2 B2 d2 A5 c5 B5 d5 S1 P1 (TW7.out.f _ (.tail _ (.head _))).rs (TW7.out.f _ (.tail _ (.head _))).rp (TW7.out.f _ (.head _)).rs (TW7.out.f _ (.head _)).rp ⟨HS.out.1.s, HS.out.1.p, (TW7.out.f _ (.tail _ (.head _))).hc, (TW7.out.f _ (.head _)).hc, (TW7.out.f _ (.tail _ (.head _))).hd, (TW7.out.f _ (.head _)).hd⟩).mono ?_
  rintro e w8 ⟨rfl, b8⟩
  have TW8 := Lib.hid (TW7.out.below b8)
  clear b8 q0 q1 q2 q3 TW7 HS ho1
  have q0 : w8.cell? ⟨w.heap.size, 0, none⟩ = some (.slice (some ⟨ab, ao, none⟩) S.length c) := (TW8.out.f _ (.tail _ (.tail _ (.head _)))).k.cell 0
  have q1 : w8.cell? ⟨w.heap.size, 1, none⟩ = some (.slice B P.length d) := (TW8.out.f _ (.tail _ (.tail _ (.head _)))).k.cell 1
  have hsI : (s : Int) < (S.length : Int) := by omega
  go_wp2_with fail
  refine (treach_yes w8 _ c B d S P s ((TW8.out.f _ (.tail _ (.tail _ (.head _)))).forR HFIT.out) ho hs).mono ?_
  rintro e w9 ⟨R, hR, A9, c9, B9, d9, rfl, ra, rb, hca, hcb, b9⟩
  obtain ⟨at2, ho2, fit2, hidx, hlt2, hall⟩ := HHR.out R hR
  clear HHR hR
  generalize cutS S R = S2 at ra hca ho2 fit2 hidx hlt2 hall ⊢
  generalize cutP P R = P2 at rb hcb ho2 fit2 hall ⊢
  have HR := Lib.hid (And.intro fit2 (And.intro hidx hall))
  have TW9 := Lib.hid ((TW8.out.below b9).push ra rb hca hcb).1
  clear ra rb hca hcb b9 TW8 q0 q1 fit2 hidx hall
  (try unfold forV)
  go_upto_region 12 with (fail)
  generalize w9.alloc (.cells #[.slice A9 S2.length c9, .slice B9 P2.length d9] 75) = W10 at TW9 ⊢
  have up : ∀ W, Below W10.heap.size W10 W → W.cell? ⟨w9.heap.size, 0, none⟩ = some (.slice A9 S2.length c9) ∧ W.cell? ⟨w9.heap.size, 1, none⟩ = some (.slice B9 P2.length d9) ∧ W.cell? ⟨w.heap.size, 0, none⟩ = some (.slice (some ⟨ab, ao, none⟩) S.length c) ∧ W.cell? ⟨ab, ao + s * 3, none⟩ = some (.int .i64 f0) ∧ W.cell? ⟨ab, ao + s * 3 + 1, none⟩ = some (.int .i64 f1) ∧ W.cell? ⟨ab, ao + s * 3 + 2, none⟩ = some (.int .i64 f2) := fun W hb => by
    have h1 := TW9.out.below hb
    have h2 := (h1.f _ (.head _)).k
    have h3 := (h1.f _ (.tail _ (.tail _ (.tail _ (.head _))))).k
    exact ⟨h2.cell 0, h2.cell 1, h3.cell 0, (h1.b.cell (p := ⟨ab, ao + s * 3, none⟩) xb).trans HX.out.1, (h1.b.cell (p := ⟨ab, ao + s * 3 + 1, none⟩) xb).trans HX.out.2.1, (h1.b.cell (p := ⟨ab, ao + s * 3 + 2, none⟩) xb).trans HX.out.2.2.1⟩
  have UP := Lib.hid up
  have U0 := Lib.hid (up W10 (Below.refl _ _))
  clear up
  go_wp2
  refine wp_region_ord (fun W => W.cell? ⟨w9.heap.size, 0, none⟩ = some (.slice A9 S2.length c9) ∧ W.cell? ⟨w9.heap.size, 1, none⟩ = some (.slice B9 P2.length d9) ∧ W.cell? ⟨w.heap.size, 0, none⟩ = some (.slice (some ⟨ab, ao, none⟩) S.length c) ∧ W.cell? ⟨ab, ao + s * 3, none⟩ = some (.int .i64 f0) ∧ W.cell? ⟨ab, ao + s * 3 + 1, none⟩ = some (.int .i64 f1) ∧ W.cell? ⟨ab, ao + s * 3 + 2, none⟩ = some (.int .i64 f2)) 12 [(0, true), (1, true), (2, true), (3, true), (4, true), (5, true), (6, false), (7, true), (8, true), (9, true), (10, true), (11, true)] (by kernel_rfl) (by kernel_rfl) (fun _ _ d _ _ h => by cases d <;> exact h) U0.out ?_
  iterate 6 (refine ord_take (v := ?_) rfl (by first | with_reducible rfl | kernel_rfl) ?_ ?_; rotate_left; (focus (intro wS hS; (try dsimp only at hS); go_split_ands; go_simp; (try with_reducible rfl); done)); (try simp only [Act.put, List.getElem_toArray, List.getElem_cons_succ, List.getElem_cons_zero, List.setIfInBounds_toArray, List.set_cons_zero, List.set_cons_succ]))
  refine ord_do rfl rfl (fun K hK => ?_)
  go_simp
  have HF3 := Lib.hid ((TW9.out.below (Below.refl W10.heap.size W10).drew).f _ (.head _))
  refine (find_at W10.drew A9 c9 B9 P2.length d9 S2 ⟨f0, f1, f2⟩ HF3.out.rs HF3.out.hc HR.out.1.s at2 HR.out.2.1).mono ?_
  rintro e w11 ⟨rfl, b11⟩
  have b10 : Below W10.heap.size W10 w11 := (Below.refl W10.heap.size W10).drew.trans b11
  refine hK _ _ (fun _ => UP.out _ b10) ?_
  clear hK K
  (try simp only [Act.put, List.getElem_toArray, List.getElem_cons_succ, List.getElem_cons_zero, List.setIfInBounds_toArray, List.set_cons_zero, List.set_cons_succ])
  iterate 5 (refine ord_take (v := ?_) rfl (by first | with_reducible rfl | kernel_rfl) ?_ ?_; rotate_left; (focus (intro wS hS; (try dsimp only at hS); go_split_ands; go_simp; (try with_reducible rfl); done)); (try simp only [Act.put, List.getElem_toArray, List.getElem_cons_succ, List.getElem_cons_zero, List.setIfInBounds_toArray, List.set_cons_zero, List.set_cons_succ]))
  refine ord_done ?_
  have TW11 := Lib.hid (TW9.out.below b10)
  clear b10 b11 U0 UP HF3 TW9
  have q0 : w11.cell? ⟨w9.heap.size, 0, none⟩ = some (.slice A9 S2.length c9) := (TW11.out.f _ (.head _)).k.cell 0
  have q1 : w11.cell? ⟨w9.heap.size, 1, none⟩ = some (.slice B9 P2.length d9) := (TW11.out.f _ (.head _)).k.cell 1
  go_wp2_with fail
  refine (treach_yes w11 A9 c9 B9 d9 S2 P2 at2 ((TW11.out.f _ (.head _)).forR HR.out.1) ho2 hlt2).mono ?_
  rintro e w12 ⟨R', hR', A12, c12, B12, d12, rfl, ra, rb, hca, hcb, b12⟩
  obtain ⟨hc1, hc2⟩ := HR.out.2.2 R' hR'
  rw [hc1] at ra hca ⊢
  rw [hc2] at rb hcb ⊢
  have TW12 := Lib.hid ((TW11.out.below b12).push ra rb hca hcb).1
  clear ra rb hca hcb b12 TW11 q0 q1 hc1 hc2 hR'
  (try unfold forV)
  go_upto_region 14 with (fail)
  generalize w12.alloc (.cells #[.slice A12 S2.length c12, .slice B12 P2.length d12] 75) = W13 at TW12 ⊢
  have q0 : W13.cell? ⟨w.heap.size, 0, none⟩ = some (.slice (some ⟨ab, ao, none⟩) S.length c) := (TW12.out.f _ (.tail _ (.tail _ (.tail _ (.tail _ (.head _)))))).k.cell 0
  have q1 : W13.cell? ⟨w.heap.size, 1, none⟩ = some (.slice B P.length d) := (TW12.out.f _ (.tail _ (.tail _ (.tail _ (.tail _ (.head _)))))).k.cell 1
  go_wp2_with fail
  refine (tends_yes W13 _ c B d S P T ((TW12.out.f _ (.tail _ (.tail _ (.tail _ (.tail _ (.head _)))))).forR HFIT.out) ho HT.out).mono ?_
  rintro e w14 ⟨gE, rfl, hgE, -, b14⟩
  rw [endsB_len, HT.out.len]
  have TW14 := Lib.hid (TW12.out.below b14)
  have HE14 := Lib.hid hgE
  clear b14 TW12 q0 q1 hgE
  have q0 : w14.cell? ⟨w.heap.size, 0, none⟩ = some (.slice (some ⟨ab, ao, none⟩) S.length c) := (TW14.out.f _ (.tail _ (.tail _ (.tail _ (.tail _ (.head _)))))).k.cell 0
  have q1 : w14.cell? ⟨w.heap.size, 1, none⟩ = some (.slice B P.length d) := (TW14.out.f _ (.tail _ (.tail _ (.tail _ (.tail _ (.head _)))))).k.cell 1
  go_wp2_with fail
  refine (tsmall_yes w14 _ c B d S P ((TW14.out.f _ (.tail _ (.tail _ (.tail _ (.tail _ (.head _)))))).forR HFIT.out) ho).mono ?_
  rintro e w15 ⟨gS, T', rfl, hT', hgS, -, b15⟩
  rw [hT'.uniq HT.out ho.spots] at hgS
  have TW15 := Lib.hid (TW14.out.below b15)
  have HE15 := Lib.hid (And.intro (HE14.out.upd (Upd.of_below b15 (fun _ => False)) id) hgS)
  clear b15 TW14 q0 q1 hgS HE14 hT'
  have q0 : w15.cell? ⟨w.heap.size, 0, none⟩ = some (.slice (some ⟨ab, ao, none⟩) S.length c) := (TW15.out.f _ (.tail _ (.tail _ (.tail _ (.tail _ (.head _)))))).k.cell 0
  have q1 : w15.cell? ⟨w.heap.size, 1, none⟩ = some (.slice B P.length d) := (TW15.out.f _ (.tail _ (.tail _ (.tail _ (.tail _ (.head _)))))).k.cell 1
  go_wp2_with fail
  refine (tcount_some w15 _ c B d S P s _ ((TW15.out.f _ (.tail _ (.tail _ (.tail _ (.tail _ (.head _)))))).forR HFIT.out) ho hs HT.out (by have := HZ.out; omega)).mono ?_
  rintro e w16 ⟨more, rfl, b16⟩
  have TW16 := Lib.hid (TW15.out.below b16)
  have HE16 := Lib.hid (And.intro (HE15.out.1.upd (Upd.of_below b16 (fun _ => False)) id) (HE15.out.2.upd (Upd.of_below b16 (fun _ => False)) id))
  clear b16 TW15 q0 q1 HE15
  have q0 : w16.cell? ⟨w.heap.size, 0, none⟩ = some (.slice (some ⟨ab, ao, none⟩) S.length c) := (TW16.out.f _ (.tail _ (.tail _ (.tail _ (.tail _ (.head _)))))).k.cell 0
  have q1 : w16.cell? ⟨w.heap.size, 1, none⟩ = some (.slice B P.length d) := (TW16.out.f _ (.tail _ (.tail _ (.tail _ (.tail _ (.head _)))))).k.cell 1
  go_wp2_with fail
  refine (tpick_many w16 _ c B d S P s ((TW16.out.f _ (.tail _ (.tail _ (.tail _ (.tail _ (.head _)))))).forR HFIT.out) ho hs (fun T2 _ h2 _ => by obtain rfl := h2.uniq HT.out ho.spots; exact HZ.out)).mono ?_
  rintro e w17 ⟨rfl, b17⟩
  have TW17 := Lib.hid (TW16.out.below b17)
  have HE17 := Lib.hid (And.intro (HE16.out.1.upd (Upd.of_below b17 (fun _ => False)) id) (HE16.out.2.upd (Upd.of_below b17 (fun _ => False)) id))
  clear b17 TW16 q0 q1 HE16
  have q0 : w17.cell? ⟨w9.heap.size, 0, none⟩ = some (.slice A9 S2.length c9) := (TW17.out.f _ (.tail _ (.head _))).k.cell 0
  have q1 : w17.cell? ⟨w9.heap.size, 1, none⟩ = some (.slice B9 P2.length d9) := (TW17.out.f _ (.tail _ (.head _))).k.cell 1
  have q2 : w17.cell? ⟨w12.heap.size, 0, none⟩ = some (.slice A12 S2.length c12) := (TW17.out.f _ (.head _)).k.cell 0
  have q3 : w17.cell? ⟨w12.heap.size, 1, none⟩ = some (.slice B12 P2.length d12) := (TW17.out.f _ (.head _)).k.cell 1
  go_wp2_with fail
  refine (same_any w17 A9 c9 B9 d9 A12 c12 B12 d12 S2 P2 (TW17.out.f _ (.tail _ (.head _))).rs (TW17.out.f _ (.tail _ (.head _))).rp (TW17.out.f _ (.head _)).rs (TW17.out.f _ (.head _)).rp ⟨HR.out.1.s, HR.out.1.p, (TW17.out.f _ (.tail _ (.head _))).hc, (TW17.out.f _ (.head _)).hc, (TW17.out.f _ (.tail _ (.head _))).hd, (TW17.out.f _ (.head _)).hd⟩).mono ?_
  rintro e w18 ⟨rfl, b18⟩
  have TW18 := Lib.hid (TW17.out.below b18)
  have HE18 := Lib.hid (And.intro (HE17.out.1.upd (Upd.of_below b18 (fun _ => False)) id) (HE17.out.2.upd (Upd.of_below b18 (fun _ => False)) id))
  clear b18 TW17 q0 q1 q2 q3 HE17
  have q0 : w18.cell? ⟨w.heap.size, 0, none⟩ = some (.slice (some ⟨ab, ao, none⟩) S.length c) := (TW18.out.f _ (.tail _ (.tail _ (.tail _ (.tail _ (.head _)))))).k.cell 0
  have q1 : w18.cell? ⟨w.heap.size, 1, none⟩ = some (.slice B P.length d) := (TW18.out.f _ (.tail _ (.tail _ (.tail _ (.tail _ (.head _)))))).k.cell 1
  go_wp2
  have e0 := HE18.out.1.cell s
  rw [bools_get (atB_get (by rw [endsB_len, HT.out.len]; exact hs)), endsB_at (by rw [HT.out.len]; exact hs)] at e0
  have e1 := HE18.out.2.cell s
  rw [ints_get (at0_get (by rw [HT.out.len]; exact hs))] at e1
  obtain ⟨v, hv⟩ : ∃ v, at0 T (s : Int) = v := ⟨_, rfl⟩
  have hv0 : 0 < v := by have := HZ.out; have := HT.out.val.at (s : Int); omega
  rw [hv] at e0 e1
  rw [decide_eq_true hv0] at e0
  clear hv
  have hv1 : decide (0 < v) = true := by simpa using hv0
  refine wp_region_ord (fun W => W.cell? ⟨gE, s, none⟩ = some (.bool true) ∧ W.cell? ⟨gS, s, none⟩ = some (.int .i64 v)) 32 [(0, true), (1, true), (2, true), (3, true), (4, true), (5, true), (6, true), (7, true), (8, true), (9, true), (10, true), (11, true), (12, true), (13, true), (14, true), (15, true), (16, true), (17, true), (18, true), (19, true), (20, true), (21, true), (22, true), (23, true), (24, true), (25, true), (26, true), (27, true), (28, true), (29, true), (30, true), (31, true)] (by kernel_rfl) (by kernel_rfl) (fun _ _ d _ _ h => by cases d <;> exact h) ⟨e0, e1⟩ ?_
  iterate 18 (refine ord_take (v := ?_) rfl (by first | with_reducible rfl | kernel_rfl) ?_ ?_; rotate_left; (focus (intro wS hS; (try dsimp only at hS); go_split_ands; go_simp; (try with_reducible rfl); done)); (try simp only [Act.put, List.getElem_toArray, List.getElem_cons_succ, List.getElem_cons_zero, List.setIfInBounds_toArray, List.set_cons_zero, List.set_cons_succ]))
  (refine ord_skip rfl (by kernel_rfl) ?_; (try simp only [Act.put, List.getElem_toArray, List.getElem_cons_succ, List.getElem_cons_zero, List.setIfInBounds_toArray, List.set_cons_zero, List.set_cons_succ]))
  iterate 13 (refine ord_take (v := ?_) rfl (by first | with_reducible rfl | kernel_rfl) ?_ ?_; rotate_left; (focus (intro wS hS; (try dsimp only at hS); go_split_ands; go_simp; (try with_reducible rfl); done)); (try simp only [Act.put, List.getElem_toArray, List.getElem_cons_succ, List.getElem_cons_zero, List.setIfInBounds_toArray, List.set_cons_zero, List.set_cons_succ]))
  refine ord_done ?_
  go_wp2
  go_ret
  exact ⟨rfl, TW18.out.b.drew⟩
end Go.Proofs.Ytbppbgdmoihooaa
