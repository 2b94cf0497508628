/- The law EdgesOf of layer 16: its walk. -/
import Derived.Test.YthmkgnifcbnkpaaGreatRg3
namespace Go.Proofs.YthmkgnifcbnkpaaGreat
open Go.RowKit

theorem ofNE_len (N : List Txt) (E : List Ed) : (ofN N E).length ≤ N.length + E.length * 2 ∧ (ofE N E).length ≤ E.length := by
  unfold ofN ofE
  split
  · refine ⟨?_, setOf_len stoE E⟩
    have := setOf_len stoT (allT N E)
    rw [allT_len] at this
    exact this
  · simp
theorem ofQ_fit {N : List Txt} {E : List Ed} (h1 : (N.length + E.length * 2) * 16 ≤ 140737488355328) (h2 : E.length * 48 ≤ 140737488355328) : FitG (ofN N E) (ofE N E) := by
  have hl := ofNE_len N E
  unfold ofN ofE at hl ⊢
  split
  · rename_i h0
    rw [if_pos h0, if_pos h0] at hl
    exact fit_made (Short.of (ofI_named h0)) rfl rfl (by omega) (by omega)
  · exact ⟨by simp, by simp, by simp, by simp⟩
set_option maxHeartbeats 3000000 in
set_option maxRecDepth 100000 in
theorem eofl_any (w : World) (A : Option Addr) (c : Nat) (B : Option Addr) (d : Nat) (N : List Txt) (E : List Ed) (h : ForG w A c B d N E) :
    Calls Tryz.prog 4 #[twoV A N.length c B E.length d] w (Sam w (.bool true)) := by
  have k0 := Blk.new w 25 #[.slice A N.length c, .slice B E.length d]
  have u0 : Below w.heap.size w (w.alloc (.cells #[.slice A N.length c, .slice B E.length d] 25)) := (Below.refl _ _).alloc (Nat.le_refl _) _
  have hn16 := h.fit.n
  have hm48 := h.fit.e
  have H := Lib.hid (And.intro (h.below u0) (And.intro k0 u0))
  clear h k0 u0
  obtain ⟨n, en⟩ : ∃ n, N.length = n := ⟨_, rfl⟩
  obtain ⟨m, em⟩ : ∃ m, E.length = m := ⟨_, rfl⟩
  rw [en, em] at H
  rw [en] at hn16
  rw [em] at hm48
  rw [en, em]
  have HL := Lib.hid (And.intro en em)
  clear en em
  unfold twoV
  go_enter Tryz.func4, Tryz.ntmps4
  go_upto_region 1 with (fail)
  generalize w.alloc (.cells #[.slice A n c, .slice B m d] 25) = W0 at H ⊢
  have UP := Lib.hid (show ∀ W, Below W0.heap.size W0 W → Blk W w.heap.size 25 #[.slice A n c, .slice B m d] ∧ ForG W A c B d N E ∧ Below w.heap.size w W from fun W hb => ⟨H.out.2.1.upd (Upd.of_below hb (fun _ => False)) id, H.out.1.below hb, H.out.2.2.trans (hb.mono H.out.2.2.size)⟩)
  have hz0 : w.heap.size < W0.heap.size := H.out.2.1.lt
  have q0 : W0.cell? ⟨w.heap.size, 0, none⟩ = some (.slice A n c) := H.out.2.1.cell 0
  have q1 : W0.cell? ⟨w.heap.size, 1, none⟩ = some (.slice B m d) := H.out.2.1.cell 1
  have hw : IntKind.i64.wrap ((n : Int) + (m : Int)) = (n : Int) + (m : Int) := IntWalk.i64_in _ (by omega)
  by_cases hbig : 2000 < n + m
  · have hbI : (2000 : Int) < (n : Int) + (m : Int) := by omega
    go_wp2_with fail
    refine (awake_any W0).mono ?_
    rintro e W9 ⟨rfl, b9⟩
    have FIN := Lib.hid (UP.out _ b9).2.2
    clear b9
    go_wp2
    go_ret
    exact ⟨rfl, FIN.out⟩
  have hbI : ¬ ((2000 : Int) < (n : Int) + (m : Int)) := by omega
  have hown := own_any W0 A c B d N E H.out.1 (by rw [HL.out.1]; omega) (by rw [HL.out.2]; omega)
  unfold twoV at hown
  rw [HL.out.1, HL.out.2] at hown
  go_wp2_with fail
  refine hown.mono ?_
  clear hown
  rintro e W1 ⟨A1, c1, B1, d1, rfl, g1, b1, -, -⟩
  have k2 := Blk.new W1 25 #[.slice A1 n c1, .slice B1 m d1]
  have b2 : Below W1.heap.size W1 (W1.alloc (.cells #[.slice A1 n c1, .slice B1 m d1] 25)) := (Below.refl _ _).alloc (Nat.le_refl _) _
  have H2 := Lib.hid (And.intro (b1.trans (b2.mono b1.size)) (And.intro k2 (And.intro (g1.below b2) b1.size)))
  clear k2 b2 g1 b1 q0 q1
  go_upto_region 4 with (fail)
  generalize W1.alloc (.cells #[.slice A1 n c1, .slice B1 m d1] 25) = W2 at H2 ⊢
  have K2 := Lib.hid (show ∀ W, Below W2.heap.size W2 W → Below W0.heap.size W0 W ∧ Blk W W1.heap.size 25 #[.slice A1 n c1, .slice B1 m d1] ∧ OwnG W A1 c1 B1 d1 N E from fun W hb => ⟨H2.out.1.trans (hb.mono H2.out.1.size), H2.out.2.1.upd (Upd.of_below hb (fun _ => False)) id, H2.out.2.2.1.below hb⟩)
  obtain ⟨P, hP⟩ : ∃ P, ofN N E = P := ⟨_, rfl⟩
  obtain ⟨Q, hQ⟩ : ∃ P, ofE N E = P := ⟨_, rfl⟩
  obtain ⟨z, hz⟩ : ∃ P, ofI N E = P := ⟨_, rfl⟩
  obtain ⟨p, hp⟩ : ∃ p, P.length = p := ⟨_, rfl⟩
  obtain ⟨q, hq⟩ : ∃ p, Q.length = p := ⟨_, rfl⟩
  have hfit : FitG P Q := by rw [← hP, ← hQ]; exact ofQ_fit (by rw [HL.out.1, HL.out.2]; omega) (by rw [HL.out.2]; omega)
  have hpl := ofNE_len N E
  rw [hP, hQ, hp, hq, HL.out.1, HL.out.2] at hpl
  have hof : ∀ W A c B d, ForG W A c B d N E → Calls Tryz.prog 14 #[.slice A n c, .slice B m d] W (fun e w' => ∃ A c B d, e = .returned (.tuple #[.agg #[.slice A p c, .slice B q d], .int .i64 z]) ∧ w'.ownsRow W.heap.size 9 1 (.slice A p c) p (txtCells P) ∧ w'.ownsRow W.heap.size 39 3 (.slice B q d) q (edCells Q) ∧ Below W.heap.size W w') := fun W A c B d g => by
    have := of_any W A c B d N E g (by rw [HL.out.1, HL.out.2]; omega)
    unfold OfQ twoV at this
    rw [hP, hQ, hz, hp, hq, HL.out.1, HL.out.2] at this
    exact this
  have hrf : ∀ W A c B d, ForG W A c B d N E → Calls Tryz.prog 15 #[.slice A n c, .slice B m d] W (fun e w' => ∃ A c B d, e = .returned (.tuple #[.agg #[.slice A p c, .slice B q d], .int .i64 z]) ∧ w'.ownsRow W.heap.size 9 1 (.slice A p c) p (txtCells P) ∧ w'.ownsRow W.heap.size 39 3 (.slice B q d) q (edCells Q) ∧ Below W.heap.size W w') := fun W A c B d g => by
    have := refOf_q W A c B d N E g (by rw [HL.out.1, HL.out.2]; omega)
    unfold OfQ twoV at this
    rw [hP, hQ, hz, hp, hq, HL.out.1, HL.out.2] at this
    exact this
  have hsm : ∀ V A c B d A' c' B' d', ForG V A c B d P Q → ForG V A' c' B' d' P Q → Calls Tryz.prog 11 #[.agg #[.slice A p c, .slice B q d], .agg #[.slice A' p c', .slice B' q d']] V (Sam V (.bool true)) := fun V A c B d A' c' B' d' g g' => by
    have := refSame_any V A c B d P Q A' c' B' d' P Q g g'
    rw [hp, hq, show sameB P Q P Q = true by simp [sameB]] at this
    exact this
  have HF := Lib.hid (And.intro hof (And.intro hrf (And.intro hsm (And.intro hfit (And.intro hp hq)))))
  clear hof hrf hsm hfit hp hq hP hQ hz
  have x0 : W2.cell? ⟨W1.heap.size, 0, none⟩ = some (.slice A1 n c1) := H2.out.2.1.cell 0
  have x1 : W2.cell? ⟨W1.heap.size, 1, none⟩ = some (.slice B1 m d1) := H2.out.2.1.cell 1
  go_wp2_with fail
  refine (HF.out.1 W2 A1 c1 B1 d1 (H2.out.2.2.1.forG H.out.1.fit)).mono ?_
  rintro e W3 ⟨A3, c3, B3, d3, rfl, o1, o2, b3⟩
  have k4 := Blk.new W3 25 #[.slice A3 p c3, .slice B3 q d3]
  have b4 : Below W3.heap.size W3 (W3.alloc (.cells #[.slice A3 p c3, .slice B3 q d3] 25)) := (Below.refl _ _).alloc (Nat.le_refl _) _
  have H4 := Lib.hid (And.intro (b3.trans (b4.mono b3.size)) (And.intro k4 (And.intro (o1.alloc (.cells #[.slice A3 p c3, .slice B3 q d3] 25)) (And.intro (o2.alloc (.cells #[.slice A3 p c3, .slice B3 q d3] 25)) b3.size))))
  clear k4 b4 o1 o2 b3 x0 x1
  go_upto_region 5 with (fail)
  generalize W3.alloc (.cells #[.slice A3 p c3, .slice B3 q d3] 25) = W4 at H4 ⊢
  have q0 : W4.cell? ⟨w.heap.size, 0, none⟩ = some (.slice A n c) := (UP.out _ (K2.out _ H4.out.1).1).1.cell 0
  have q1 : W4.cell? ⟨w.heap.size, 1, none⟩ = some (.slice B m d) := (UP.out _ (K2.out _ H4.out.1).1).1.cell 1
  go_wp2_with fail
  refine (HF.out.2.1 W4 A c B d (UP.out _ (K2.out _ H4.out.1).1).2.1).mono ?_
  rintro e W5 ⟨A5, c5, B5, d5, rfl, o1, o2, b5⟩
  have k6 := Blk.new W5 25 #[.slice A5 p c5, .slice B5 q d5]
  have b6 : Below W5.heap.size W5 (W5.alloc (.cells #[.slice A5 p c5, .slice B5 q d5] 25)) := (Below.refl _ _).alloc (Nat.le_refl _) _
  have b46 := b5.trans (b6.mono b5.size)
  have u46 := Upd.of_below b46 (fun _ => False)
  have H6 := Lib.hid (And.intro (H4.out.1.trans (b46.mono H4.out.1.size)) (And.intro k6 (And.intro (show ForG (W5.alloc (.cells #[.slice A5 p c5, .slice B5 q d5] 25)) A5 c5 B5 d5 P Q from ⟨(RowR.of_own o1).below b6, (RowR.of_own o2).below b6, by rw [HF.out.2.2.2.2.1]; exact own_le o1, by rw [HF.out.2.2.2.2.2]; exact own_le o2, HF.out.2.2.2.1⟩) (And.intro (H4.out.2.1.upd u46 id) (And.intro (ownsRow_upd H4.out.2.2.1 u46 (fun _ _ h => h)) (ownsRow_upd H4.out.2.2.2.1 u46 (fun _ _ h => h)))))))
  clear k6 b6 o1 o2 b5 b46 u46 q0 q1
  go_upto_region 6 with (fail)
  generalize W5.alloc (.cells #[.slice A5 p c5, .slice B5 q d5] 25) = W6 at H6 ⊢
  have x0 : W6.cell? ⟨W3.heap.size, 0, none⟩ = some (.slice A3 p c3) := H6.out.2.2.2.1.cell 0
  have x1 : W6.cell? ⟨W3.heap.size, 1, none⟩ = some (.slice B3 q d3) := H6.out.2.2.2.1.cell 1
  have y0 : W6.cell? ⟨W5.heap.size, 0, none⟩ = some (.slice A5 p c5) := H6.out.2.1.cell 0
  have y1 : W6.cell? ⟨W5.heap.size, 1, none⟩ = some (.slice B5 q d5) := H6.out.2.1.cell 1
  go_wp2_with fail
  refine (HF.out.2.2.1 W6 A3 c3 B3 d3 A5 c5 B5 d5 ⟨RowR.of_own H6.out.2.2.2.2.1, RowR.of_own H6.out.2.2.2.2.2, by rw [HF.out.2.2.2.2.1]; exact own_le H6.out.2.2.2.2.1, by rw [HF.out.2.2.2.2.2]; exact own_le H6.out.2.2.2.2.2, HF.out.2.2.2.1⟩ H6.out.2.2.1).mono ?_
  rintro e W7 ⟨rfl, b7⟩
  have u7 := Upd.of_below b7 (fun _ => False)
  have H7 := Lib.hid (And.intro (H6.out.1.trans (b7.mono H6.out.1.size)) (And.intro (H6.out.2.2.2.1.upd u7 id) (And.intro (ownsRow_upd H6.out.2.2.2.2.1 u7 (fun _ _ h => h)) (ownsRow_upd H6.out.2.2.2.2.2 u7 (fun _ _ h => h)))))
  clear b7 u7 x0 x1 y0 y1 H6
  have x0 : W7.cell? ⟨W3.heap.size, 0, none⟩ = some (.slice A3 p c3) := H7.out.2.1.cell 0
  have x1 : W7.cell? ⟨W3.heap.size, 1, none⟩ = some (.slice B3 q d3) := H7.out.2.1.cell 1
  have hsp := spoil_any W7 W2.heap.size A3 p c3 B3 q d3 ⟨⟨_, H7.out.2.2.1⟩, ⟨_, H7.out.2.2.2⟩⟩ H7.out.1.size (by omega) (by omega)
  unfold twoV at hsp
  go_wp2_with fail
  refine hsp.mono ?_
  clear hsp
  rintro e W8 ⟨rfl, b8⟩
  have b28 := H7.out.1.trans b8
  have H8 := Lib.hid (And.intro (K2.out _ b28) (UP.out _ (K2.out _ b28).1))
  clear b8 b28 x0 x1 H7 H4
  have q0 : W8.cell? ⟨w.heap.size, 0, none⟩ = some (.slice A n c) := H8.out.2.1.cell 0
  have q1 : W8.cell? ⟨w.heap.size, 1, none⟩ = some (.slice B m d) := H8.out.2.1.cell 1
  have x0 : W8.cell? ⟨W1.heap.size, 0, none⟩ = some (.slice A1 n c1) := H8.out.1.2.1.cell 0
  have x1 : W8.cell? ⟨W1.heap.size, 1, none⟩ = some (.slice B1 m d1) := H8.out.1.2.1.cell 1
  have hkp := kept_any W8 A1 c1 B1 d1 N E A c B d H8.out.1.2.2 H8.out.2.2.1
  unfold twoV at hkp
  rw [HL.out.1, HL.out.2] at hkp
  go_wp2_with fail
  refine hkp.mono ?_
  clear hkp
  rintro e W9 ⟨rfl, b9⟩
  have H9 := Lib.hid (H8.out.1.1.trans (b9.mono H8.out.1.1.size))
  clear b9 q0 q1 x0 x1
  go_wp2_with fail
  refine (awake_any W9).mono ?_
  rintro e W10 ⟨rfl, b10⟩
  have FIN := Lib.hid (UP.out _ (H9.out.trans (b10.mono H9.out.size))).2.2
  clear b10
  go_wp2
  go_ret
  exact ⟨rfl, FIN.out⟩
end Go.Proofs.YthmkgnifcbnkpaaGreat
