/- Forests: trim.Rings; two lists that are the same; the walk of bywaylaw29.TrimTells. -/
import Derived.Test.YtbppbgdmoihooaaTsF
import Derived.Test.YtbppbgdmoihooaaTsH
namespace Go.Proofs.Ytbppbgdmoihooaa
open Go.RowKit

set_option maxHeartbeats 1000000 in
set_option maxRecDepth 20000 in
theorem trings_no (w : World) (A : Option Addr) (c : Nat) (B : Option Addr) (d : Nat) (S : List Fct) (P : List Pk) (h : ForR w A c B d S P) (ho : ¬ OkFor S P) : Calls Try.prog 43 #[forV A S.length c B P.length d] w (Sam w (.tuple #[.slice none 0 0, .int .i64 320])) := by
  have k0 := Blk.new w 75 #[.slice A S.length c, .slice B P.length d]
  have u0 : Below w.heap.size w (w.alloc (.cells #[.slice A S.length c, .slice B P.length d] 75)) := (Below.refl _ _).alloc (Nat.le_refl _) _
  have H := Lib.hid (And.intro h (And.intro k0 u0))
  clear h k0 u0
  go_enter Try.func43, Try.ntmps43
  unfold forV
  go_upto_region 1 with (fail)
  generalize w.alloc (.cells #[.slice A S.length c, .slice B P.length d] 75) = W0 at H ⊢
  have q0 : W0.cell? ⟨w.heap.size, 0, none⟩ = some (.slice A S.length c) := H.out.2.1.cell 0
  have q1 : W0.cell? ⟨w.heap.size, 1, none⟩ = some (.slice B P.length d) := H.out.2.1.cell 1
  go_wp2_with fail
  refine (check_no W0 A c B d S P (H.out.1.below H.out.2.2) ho).mono ?_
  rintro e w1 ⟨rfl, b1⟩
  have HC := Lib.hid (H.out.2.2.trans (b1.mono H.out.2.2.size))
  clear b1 q0 q1
  go_wp2
  go_ret2
  exact ⟨rfl, HC.out⟩

set_option maxHeartbeats 1000000 in
set_option maxRecDepth 20000 in
theorem trings_yes (w : World) (A : Option Addr) (c : Nat) (B : Option Addr) (d : Nat) (S : List Fct) (P : List Pk) (h : ForR w A c B d S P) (ho : OkFor S P) : Calls Try.prog 43 #[forV A S.length c B P.length d] w (fun e w' => ∃ R, RingB P S.length R ∧ BoolsT w R e w') := by
  have k0 := Blk.new w 75 #[.slice A S.length c, .slice B P.length d]
  have u0 : Below w.heap.size w (w.alloc (.cells #[.slice A S.length c, .slice B P.length d] 75)) := (Below.refl _ _).alloc (Nat.le_refl _) _
  have H := Lib.hid (And.intro h (And.intro k0 u0))
  clear h k0 u0
  go_enter Try.func43, Try.ntmps43
  unfold forV
  go_upto_region 1 with (fail)
  generalize w.alloc (.cells #[.slice A S.length c, .slice B P.length d] 75) = W0 at H ⊢
  have q0 : W0.cell? ⟨w.heap.size, 0, none⟩ = some (.slice A S.length c) := H.out.2.1.cell 0
  have q1 : W0.cell? ⟨w.heap.size, 1, none⟩ = some (.slice B P.length d) := H.out.2.1.cell 1
  go_wp2_with fail
  refine (check_yes W0 A c B d S P (H.out.1.below H.out.2.2) ho).mono ?_
  rintro e w1 ⟨rfl, b1⟩
  have k1 := H.out.2.1.upd (Upd.of_below b1 (fun _ => False)) id
  have q2 : w1.cell? ⟨w.heap.size, 0, none⟩ = some (.slice A S.length c) := k1.cell 0
  have q3 : w1.cell? ⟨w.heap.size, 1, none⟩ = some (.slice B P.length d) := k1.cell 1
  have HC := Lib.hid (H.out.2.2.trans (b1.mono H.out.2.2.size))
  clear b1 q0 q1 k1
  go_wp2_with fail
  refine (rings_any w1 A c B d S P (H.out.1.below HC.out) ho.pks).mono ?_
  rintro e w2 ⟨R, hR, g, rfl, hg, hz, b2⟩
  have fin : BoolsT w R (.returned (.tuple #[.slice (some ⟨g, 0, none⟩) R.length R.length, .int .i64 0])) w2 := ⟨g, rfl, hg, Nat.le_trans HC.out.size hz, HC.out.trans (b2.mono HC.out.size)⟩
  have FIN := Lib.hid (And.intro hR fin)
  clear fin hg hz b2 hR q2 q3
  go_wp2
  go_ret2
  exact ⟨R, FIN.out⟩

set_option maxHeartbeats 1000000 in
set_option maxRecDepth 20000 in
theorem same_bools (w : World) (g1 g2 : Nat) (I : List Bool) (h1 : Blk w g1 4 (bools I)) (h2 : Blk w g2 4 (bools I)) (hl : I.length ≤ 140737488355328) :
    Calls Try.prog 45 #[.slice (some ⟨g1, 0, none⟩) I.length I.length, .slice (some ⟨g2, 0, none⟩) I.length I.length] w (Sam w (.bool true)) := by
  obtain ⟨n, hn⟩ : ∃ n, I.length = n := ⟨_, rfl⟩
  rw [hn] at hl ⊢
  have H := Lib.hid (And.intro h1 (And.intro h2 hn))
  clear h1 h2 hn
  go_enter Try.func45, Try.ntmps45
  go_wp2_with fail
  go_loopw [5] (fun iv wr => ∃ k nq : Nat, k ≤ n ∧ iv = .int .i64 k ∧ wr = w.drewN nq) (fun iv _ => n - (intOf iv).toNat)
  case atStart => exact ⟨0, 0, Nat.zero_le _, rfl, rfl⟩
  case round =>
    obtain ⟨k, nq, hk, rfl, rfl⟩ := hrel
    by_cases hlt : k < n
    · have hltI : (k : Int) < (n : Int) := by omega
      obtain ⟨x, hx⟩ : ∃ x, I[k]? = some x := ⟨I[k]'(by rw [H.out.2.2]; exact hlt), List.getElem?_eq_getElem _⟩
      have a0 := H.out.1.cell k
      rw [bools_get hx] at a0
      have b0 := H.out.2.1.cell k
      rw [bools_get hx] at b0
      have hkw : IntKind.i64.wrap (k : Int) = (k : Int) := IntWalk.i64_in _ (by omega)
      clear hx
      go_upto_region 6 with (fail)
      cases x with
      | true =>
        refine wp_region_ord (fun w' => w'.cell? ⟨g1, k, none⟩ = some (.bool true) ∧ w'.cell? ⟨g2, k, none⟩ = some (.bool true)) 9 [(0, true), (1, true), (2, true), (3, true), (4, true), (5, true), (6, true), (7, true), (8, true)] (by kernel_rfl) (by kernel_rfl) (fun _ _ d _ _ h => by cases d <;> exact h) ⟨a0, b0⟩ ?_
        iterate 9 (refine ord_take (v := ?_) rfl (by first | with_reducible rfl | kernel_rfl) ?_ ?_; rotate_left; (focus (intro wS hS; (try dsimp only at hS); go_split_ands; go_simp; (try with_reducible rfl); done)); (try simp only [Act.put, List.getElem_toArray, List.getElem_cons_succ, List.getElem_cons_zero, List.setIfInBounds_toArray, List.set_cons_zero, List.set_cons_succ]))
        refine ord_done ?_
        go_wp2
        go_roundw
        case rel => exact ⟨k + 1, nq + 1, by omega, by go_num, rfl⟩
        case measure => simp [intOf]; omega
      | false =>
        refine wp_region_ord (fun w' => w'.cell? ⟨g1, k, none⟩ = some (.bool false) ∧ w'.cell? ⟨g2, k, none⟩ = some (.bool false)) 9 [(0, true), (1, true), (2, true), (3, true), (4, true), (5, true), (6, true), (7, true), (8, true)] (by kernel_rfl) (by kernel_rfl) (fun _ _ d _ _ h => by cases d <;> exact h) ⟨a0, b0⟩ ?_
        iterate 9 (refine ord_take (v := ?_) rfl (by first | with_reducible rfl | kernel_rfl) ?_ ?_; rotate_left; (focus (intro wS hS; (try dsimp only at hS); go_split_ands; go_simp; (try with_reducible rfl); done)); (try simp only [Act.put, List.getElem_toArray, List.getElem_cons_succ, List.getElem_cons_zero, List.setIfInBounds_toArray, List.set_cons_zero, List.set_cons_succ]))
        refine ord_done ?_
        go_wp2
        go_roundw
        case rel => exact ⟨k + 1, nq + 1, by omega, by go_num, rfl⟩
        case measure => simp [intOf]; omega
    · obtain rfl : k = n := by omega
      clear hlt
      go_wp2
      go_ret
      exact ⟨rfl, below_drewN (Below.refl _ _) _⟩

set_option maxHeartbeats 1000000 in
set_option maxRecDepth 20000 in
theorem same_ints (w : World) (g1 g2 : Nat) (I : List Int) (h1 : Blk w g1 3 (ints I)) (h2 : Blk w g2 3 (ints I)) (hl : I.length ≤ 140737488355328) :
    Calls Try.prog 47 #[.slice (some ⟨g1, 0, none⟩) I.length I.length, .slice (some ⟨g2, 0, none⟩) I.length I.length] w (Sam w (.bool true)) := by
  obtain ⟨n, hn⟩ : ∃ n, I.length = n := ⟨_, rfl⟩
  rw [hn] at hl ⊢
  have H := Lib.hid (And.intro h1 (And.intro h2 hn))
  clear h1 h2 hn
  go_enter Try.func47, Try.ntmps47
  go_wp2_with fail
  go_loopw [5] (fun iv wr => ∃ k nq : Nat, k ≤ n ∧ iv = .int .i64 k ∧ wr = w.drewN nq) (fun iv _ => n - (intOf iv).toNat)
  case atStart => exact ⟨0, 0, Nat.zero_le _, rfl, rfl⟩
  case round =>
    obtain ⟨k, nq, hk, rfl, rfl⟩ := hrel
    by_cases hlt : k < n
    · have hltI : (k : Int) < (n : Int) := by omega
      obtain ⟨x, hx⟩ : ∃ x, I[k]? = some x := ⟨I[k]'(by rw [H.out.2.2]; exact hlt), List.getElem?_eq_getElem _⟩
      have a0 := H.out.1.cell k
      rw [ints_get hx] at a0
      have b0 := H.out.2.1.cell k
      rw [ints_get hx] at b0
      have hkw : IntKind.i64.wrap (k : Int) = (k : Int) := IntWalk.i64_in _ (by omega)
      clear hx
      go_upto_region 6 with (fail)
      refine wp_region_ord (fun w' => w'.cell? ⟨g1, k, none⟩ = some (.int .i64 x) ∧ w'.cell? ⟨g2, k, none⟩ = some (.int .i64 x)) 9 [(0, true), (1, true), (2, true), (3, true), (4, true), (5, true), (6, true), (7, true), (8, true)] (by kernel_rfl) (by kernel_rfl) (fun _ _ d _ _ h => by cases d <;> exact h) ⟨a0, b0⟩ ?_
      iterate 9 (refine ord_take (v := ?_) rfl (by first | with_reducible rfl | kernel_rfl) ?_ ?_; rotate_left; (focus (intro wS hS; (try dsimp only at hS); go_split_ands; go_simp; (try with_reducible rfl); done)); (try simp only [Act.put, List.getElem_toArray, List.getElem_cons_succ, List.getElem_cons_zero, List.setIfInBounds_toArray, List.set_cons_zero, List.set_cons_succ]))
      refine ord_done ?_
      go_wp2
      go_roundw
      case rel => exact ⟨k + 1, nq + 1, by omega, by go_num, rfl⟩
      case measure => simp [intOf]; omega
    · obtain rfl : k = n := by omega
      clear hlt
      go_wp2
      go_ret
      exact ⟨rfl, below_drewN (Below.refl _ _) _⟩

set_option maxHeartbeats 2000000 in
set_option maxRecDepth 20000 in
theorem tells_bad (w : World) (A : Option Addr) (c : Nat) (B : Option Addr) (d : Nat) (S : List Fct) (P : List Pk) (h : ForR w A c B d S P) (ho : ¬ OkFor S P) :
    Calls Try.prog 9 #[forV A S.length c B P.length d] w (Sam w (.bool true)) := by
  have k0 := Blk.new w 75 #[.slice A S.length c, .slice B P.length d]
  have u0 : Below w.heap.size w (w.alloc (.cells #[.slice A S.length c, .slice B P.length d] 75)) := (Below.refl _ _).alloc (Nat.le_refl _) _
  have HH : Has (w.alloc (.cells #[.slice A S.length c, .slice B P.length d] 75)) w.heap.size A c B d S P := ⟨k0, h.rs.below u0, h.rp.below u0, h.hc, h.hd⟩
  have H := Lib.hid (And.intro h.fit (And.intro u0 HH))
  clear h k0 u0 HH
  go_enter Try.func9, Try.ntmps9
  unfold forV
  go_upto_region 1 with (fail)
  generalize w.alloc (.cells #[.slice A S.length c, .slice B P.length d] 75) = W0 at H ⊢
  have q0 : W0.cell? ⟨w.heap.size, 0, none⟩ = some (.slice A S.length c) := H.out.2.2.k.cell 0
  have q1 : W0.cell? ⟨w.heap.size, 1, none⟩ = some (.slice B P.length d) := H.out.2.2.k.cell 1
  go_wp2_with fail
  refine (copy_any W0 A c B d S P (H.out.2.2.forR H.out.1)).mono ?_
  intro e w1 hn
  obtain ⟨A1, c1, B1, d1, rfl, F1, b1⟩ := hn.at H.out.1
  have HF1 := Lib.hid (And.intro F1 b1)
  clear hn F1 b1 q0 q1
  unfold forV
  go_wp2_with fail
  refine (tends_no w1 A1 c1 B1 d1 S P HF1.out.1 ho).mono ?_
  rintro e w2 ⟨rfl, b2⟩
  have bb := HF1.out.2.trans (b2.mono HF1.out.2.size)
  have K2 := Lib.hid (And.intro H.out.1 (And.intro (H.out.2.1.trans (bb.mono H.out.2.1.size)) (H.out.2.2.below bb)))
  have L2 := Lib.hid bb
  have q0 : w2.cell? ⟨w.heap.size, 0, none⟩ = some (.slice A S.length c) := K2.out.2.2.k.cell 0
  have q1 : w2.cell? ⟨w.heap.size, 1, none⟩ = some (.slice B P.length d) := K2.out.2.2.k.cell 1
  clear bb b2
  go_wp2_with fail
  refine (copy_any w2 A c B d S P (K2.out.2.2.forR H.out.1)).mono ?_
  intro e w3 hn
  obtain ⟨A3, c3, B3, d3, rfl, F3, b3⟩ := hn.at H.out.1
  have HF3 := Lib.hid (And.intro F3 b3)
  clear hn F3 b3 q0 q1
  unfold forV
  go_wp2_with fail
  refine (trings_no w3 A3 c3 B3 d3 S P HF3.out.1 ho).mono ?_
  rintro e w4 ⟨rfl, b4⟩
  have bb := HF3.out.2.trans (b4.mono HF3.out.2.size)
  have K4 := Lib.hid (And.intro H.out.1 (And.intro (K2.out.2.1.trans (bb.mono K2.out.2.1.size)) (K2.out.2.2.below bb)))
  have L4 := Lib.hid bb
  have q0 : w4.cell? ⟨w.heap.size, 0, none⟩ = some (.slice A S.length c) := K4.out.2.2.k.cell 0
  have q1 : w4.cell? ⟨w.heap.size, 1, none⟩ = some (.slice B P.length d) := K4.out.2.2.k.cell 1
  clear bb b4
  go_wp2_with fail
  refine (copy_any w4 A c B d S P (K4.out.2.2.forR H.out.1)).mono ?_
  intro e w5 hn
  obtain ⟨A5, c5, B5, d5, rfl, F5, b5⟩ := hn.at H.out.1
  have HF5 := Lib.hid (And.intro F5 b5)
  clear hn F5 b5 q0 q1
  unfold forV
  go_wp2_with fail
  refine (tsmall_no w5 A5 c5 B5 d5 S P HF5.out.1 ho).mono ?_
  rintro e w6 ⟨rfl, b6⟩
  have bb := HF5.out.2.trans (b6.mono HF5.out.2.size)
  have K6 := Lib.hid (And.intro H.out.1 (And.intro (K4.out.2.1.trans (bb.mono K4.out.2.1.size)) (K4.out.2.2.below bb)))
  have L6 := Lib.hid bb
  have q0 : w6.cell? ⟨w.heap.size, 0, none⟩ = some (.slice A S.length c) := K6.out.2.2.k.cell 0
  have q1 : w6.cell? ⟨w.heap.size, 1, none⟩ = some (.slice B P.length d) := K6.out.2.2.k.cell 1
  clear bb b6
  go_wp2_with fail
  refine (head_any w6).mono ?_
  rintro e w7 ⟨rfl, b7⟩
  have K7 := Lib.hid (And.intro (K6.out.2.1.trans (b7.mono K6.out.2.1.size)) (And.intro (K6.out.2.2.below b7) b7))
  clear b7 q0 q1
  have q0 : w7.cell? ⟨w.heap.size, 0, none⟩ = some (.slice A S.length c) := K7.out.2.1.k.cell 0
  have q1 : w7.cell? ⟨w.heap.size, 1, none⟩ = some (.slice B P.length d) := K7.out.2.1.k.cell 1
  go_wp2_with fail
  refine (rcheck_no w7 A c B d S P (K7.out.2.1.forR H.out.1) ho).mono ?_
  rintro e w8 ⟨rfl, b8⟩
  have K8 := Lib.hid (And.intro (K7.out.1.trans (b8.mono K7.out.1.size)) (And.intro (K7.out.2.1.below b8) (K7.out.2.2.trans (b8.mono K7.out.2.2.size))))
  clear b8 q0 q1
  go_wp2
  go_ret
  exact ⟨rfl, K8.out.1⟩

set_option maxHeartbeats 4000000 in
set_option maxRecDepth 20000 in
theorem tells_ok (w : World) (A : Option Addr) (c : Nat) (B : Option Addr) (d : Nat) (S : List Fct) (P : List Pk) (T : List Int) (h : ForR w A c B d S P) (ho : OkFor S P) (hT : Settled P S.length T) :
    Calls Try.prog 9 #[forV A S.length c B P.length d] w (Sam w (.bool true)) := by
  have HT := Lib.hid hT
  clear hT
  have k0 := Blk.new w 75 #[.slice A S.length c, .slice B P.length d]
  have u0 : Below w.heap.size w (w.alloc (.cells #[.slice A S.length c, .slice B P.length d] 75)) := (Below.refl _ _).alloc (Nat.le_refl _) _
  have HH : Has (w.alloc (.cells #[.slice A S.length c, .slice B P.length d] 75)) w.heap.size A c B d S P := ⟨k0, h.rs.below u0, h.rp.below u0, h.hc, h.hd⟩
  have H := Lib.hid (And.intro h.fit (And.intro u0 HH))
  clear h k0 u0 HH
  go_enter Try.func9, Try.ntmps9
  unfold forV
  go_upto_region 1 with (fail)
  generalize w.alloc (.cells #[.slice A S.length c, .slice B P.length d] 75) = W0 at H ⊢
  have q0 : W0.cell? ⟨w.heap.size, 0, none⟩ = some (.slice A S.length c) := H.out.2.2.k.cell 0
  have q1 : W0.cell? ⟨w.heap.size, 1, none⟩ = some (.slice B P.length d) := H.out.2.2.k.cell 1
  go_wp2_with fail
  refine (copy_any W0 A c B d S P (H.out.2.2.forR H.out.1)).mono ?_
  intro e w1 hn
  obtain ⟨A1, c1, B1, d1, rfl, F1, b1⟩ := hn.at H.out.1
  have HF1 := Lib.hid (And.intro F1 b1)
  clear hn F1 b1 q0 q1
  unfold forV
  go_wp2_with fail
  refine (tends_yes w1 A1 c1 B1 d1 S P T HF1.out.1 ho HT.out).mono ?_
  rintro e w2 ⟨gE, rfl, hgE, hzE, b2⟩
  rw [endsB_len, HT.out.len]
  have HE := Lib.hid hgE
  clear hgE hzE
  have bb := HF1.out.2.trans (b2.mono HF1.out.2.size)
  have K2 := Lib.hid (And.intro H.out.1 (And.intro (H.out.2.1.trans (bb.mono H.out.2.1.size)) (H.out.2.2.below bb)))
  have L2 := Lib.hid bb
  have q0 : w2.cell? ⟨w.heap.size, 0, none⟩ = some (.slice A S.length c) := K2.out.2.2.k.cell 0
  have q1 : w2.cell? ⟨w.heap.size, 1, none⟩ = some (.slice B P.length d) := K2.out.2.2.k.cell 1
  clear bb b2
  go_wp2_with fail
  refine (copy_any w2 A c B d S P (K2.out.2.2.forR H.out.1)).mono ?_
  intro e w3 hn
  obtain ⟨A3, c3, B3, d3, rfl, F3, b3⟩ := hn.at H.out.1
  have HF3 := Lib.hid (And.intro F3 b3)
  clear hn F3 b3 q0 q1
  unfold forV
  go_wp2_with fail
  refine (trings_yes w3 A3 c3 B3 d3 S P HF3.out.1 ho).mono ?_
  rintro e w4 ⟨R, hR, gR, rfl, hgR, hzR, b4⟩
  rw [hR.len]
  have HRR := Lib.hid (And.intro hR hgR)
  clear hgR hzR hR
  have bb := HF3.out.2.trans (b4.mono HF3.out.2.size)
  have K4 := Lib.hid (And.intro H.out.1 (And.intro (K2.out.2.1.trans (bb.mono K2.out.2.1.size)) (K2.out.2.2.below bb)))
  have L4 := Lib.hid bb
  have q0 : w4.cell? ⟨w.heap.size, 0, none⟩ = some (.slice A S.length c) := K4.out.2.2.k.cell 0
  have q1 : w4.cell? ⟨w.heap.size, 1, none⟩ = some (.slice B P.length d) := K4.out.2.2.k.cell 1
  clear bb b4
  go_wp2_with fail
  refine (copy_any w4 A c B d S P (K4.out.2.2.forR H.out.1)).mono ?_
  intro e w5 hn
  obtain ⟨A5, c5, B5, d5, rfl, F5, b5⟩ := hn.at H.out.1
  have HF5 := Lib.hid (And.intro F5 b5)
  clear hn F5 b5 q0 q1
  unfold forV
  go_wp2_with fail
  refine (tsmall_yes w5 A5 c5 B5 d5 S P HF5.out.1 ho).mono ?_
  rintro e w6 ⟨gS, T', rfl, hT', hgS, hzS, b6⟩
  obtain rfl := Settled.uniq HT.out hT' ho.spots
  have HS := Lib.hid hgS
  clear hgS hzS hT'
  have bb := HF5.out.2.trans (b6.mono HF5.out.2.size)
  have K6 := Lib.hid (And.intro H.out.1 (And.intro (K4.out.2.1.trans (bb.mono K4.out.2.1.size)) (K4.out.2.2.below bb)))
  have L6 := Lib.hid bb
  have q0 : w6.cell? ⟨w.heap.size, 0, none⟩ = some (.slice A S.length c) := K6.out.2.2.k.cell 0
  have q1 : w6.cell? ⟨w.heap.size, 1, none⟩ = some (.slice B P.length d) := K6.out.2.2.k.cell 1
  clear bb b6
  go_wp2_with fail
  refine (head_any w6).mono ?_
  rintro e w7 ⟨rfl, b7⟩
  have K7 := Lib.hid (And.intro (K6.out.2.1.trans (b7.mono K6.out.2.1.size)) (And.intro (K6.out.2.2.below b7) b7))
  clear b7 q0 q1
  have q0 : w7.cell? ⟨w.heap.size, 0, none⟩ = some (.slice A S.length c) := K7.out.2.1.k.cell 0
  have q1 : w7.cell? ⟨w.heap.size, 1, none⟩ = some (.slice B P.length d) := K7.out.2.1.k.cell 1
  go_wp2_with fail
  refine (rcheck_yes w7 A c B d S P (K7.out.2.1.forR H.out.1) ho).mono ?_
  rintro e w8 ⟨rfl, b8⟩
  have K8 := Lib.hid (And.intro (K7.out.1.trans (b8.mono K7.out.1.size)) (And.intro (K7.out.2.1.below b8) (K7.out.2.2.trans (b8.mono K7.out.2.2.size))))
  clear b8 q0 q1
  have hS8 := H.out.1.s
  have q0 : w8.cell? ⟨w.heap.size, 0, none⟩ = some (.slice A S.length c) := K8.out.2.1.k.cell 0
  have q1 : w8.cell? ⟨w.heap.size, 1, none⟩ = some (.slice B P.length d) := K8.out.2.1.k.cell 1
  go_wp2_with fail
  refine (rends_any w8 A c B d S P T (K8.out.2.1.forR H.out.1) ho HT.out).mono ?_
  rintro e w9 ⟨g9, rfl, hg9, hz9, b9⟩
  have b29 : Below w2.heap.size w2 w9 := L4.out.trans ((L6.out.trans ((K8.out.2.2.trans (b9.mono K8.out.2.2.size)).mono L6.out.size)).mono L4.out.size)
  clear q0 q1
  have hle : (endsB T).length = S.length := by rw [endsB_len, HT.out.len]
  rw [hle]
  have HX := Lib.hid (And.intro hg9 (And.intro (HE.out.upd (Upd.of_below b29 (fun _ => False)) id) (And.intro hle b9)))
  clear hg9 hz9 b9 b29 hle
  go_wp2_with fail
  have hsb := same_bools w9 gE g9 (endsB T) HX.out.2.1 HX.out.1 (by rw [HX.out.2.2.1]; omega)
  rw [HX.out.2.2.1] at hsb
  refine hsb.mono ?_
  rintro e w10 ⟨rfl, b10⟩
  have K10 := Lib.hid (And.intro (K8.out.1.trans ((HX.out.2.2.2.trans (b10.mono HX.out.2.2.2.size)).mono K8.out.1.size)) (And.intro (K8.out.2.1.below (HX.out.2.2.2.trans (b10.mono HX.out.2.2.2.size))) (K8.out.2.2.trans ((HX.out.2.2.2.trans (b10.mono HX.out.2.2.2.size)).mono K8.out.2.2.size))))
  clear hsb b10
  have q0 : w10.cell? ⟨w.heap.size, 0, none⟩ = some (.slice A S.length c) := K10.out.2.1.k.cell 0
  have q1 : w10.cell? ⟨w.heap.size, 1, none⟩ = some (.slice B P.length d) := K10.out.2.1.k.cell 1
  go_wp2_with fail
  refine (rrings_any w10 A c B d S P (K10.out.2.1.forR H.out.1) ho.pks).mono ?_
  rintro e w11 ⟨R', hR', g11, rfl, hg11, hz11, b11⟩
  obtain rfl := HRR.out.1.uniq hR'
  have b411 : Below w4.heap.size w4 w11 := L6.out.trans ((K10.out.2.2.trans (b11.mono K10.out.2.2.size)).mono L6.out.size)
  clear q0 q1
  rw [hR'.len]
  have HY := Lib.hid (And.intro hg11 (And.intro (HRR.out.2.upd (Upd.of_below b411 (fun _ => False)) id) (And.intro hR'.len b11)))
  clear hg11 hz11 b11 b411 hR'
  go_wp2_with fail
  have hsb := same_bools w11 gR g11 R HY.out.2.1 HY.out.1 (by rw [HY.out.2.2.1]; omega)
  rw [HY.out.2.2.1] at hsb
  refine hsb.mono ?_
  rintro e w12 ⟨rfl, b12⟩
  have K12 := Lib.hid (And.intro (K10.out.1.trans ((HY.out.2.2.2.trans (b12.mono HY.out.2.2.2.size)).mono K10.out.1.size)) (And.intro (K10.out.2.1.below (HY.out.2.2.2.trans (b12.mono HY.out.2.2.2.size))) (K10.out.2.2.trans ((HY.out.2.2.2.trans (b12.mono HY.out.2.2.2.size)).mono K10.out.2.2.size))))
  clear hsb b12
  have q0 : w12.cell? ⟨w.heap.size, 0, none⟩ = some (.slice A S.length c) := K12.out.2.1.k.cell 0
  have q1 : w12.cell? ⟨w.heap.size, 1, none⟩ = some (.slice B P.length d) := K12.out.2.1.k.cell 1
  go_wp2_with fail
  refine (rsmall_any w12 A c B d S P (K12.out.2.1.forR H.out.1) ho).mono ?_
  rintro e w13 ⟨g13, kk, rfl, hk, kg, hg, b13⟩
  have he := HT.out.same ho.spots hk
  rw [← he] at kg
  have b613 : Below w6.heap.size w6 w13 := K12.out.2.2.trans (b13.mono K12.out.2.2.size)
  have HZ := Lib.hid (And.intro kg (And.intro (HS.out.upd (Upd.of_below b613 (fun _ => False)) id) b13))
  clear q0 q1 hk kg hg b13 b613 he
  go_wp2_with fail
  have hsb := same_ints w13 gS g13 T HZ.out.2.1 HZ.out.1 (by rw [HT.out.len]; omega)
  rw [HT.out.len] at hsb
  refine hsb.mono ?_
  rintro e w14 ⟨rfl, b14⟩
  have bF := K12.out.1.trans ((HZ.out.2.2.trans (b14.mono HZ.out.2.2.size)).mono K12.out.1.size)
  have HB := Lib.hid bF
  clear hsb b14 bF
  go_wp2
  go_ret
  exact ⟨rfl, HB.out⟩
end Go.Proofs.Ytbppbgdmoihooaa
