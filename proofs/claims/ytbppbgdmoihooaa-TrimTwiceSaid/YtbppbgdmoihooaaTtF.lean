/- Forests: the walk of bywaylaw29.TrimTwice, case by case. -/
import Derived.Test.YtbppbgdmoihooaaTtE
namespace Go.Proofs.Ytbppbgdmoihooaa
open Go.RowKit

/-- A forest and where it lies. -/
structure FAt where
  t : Nat
  A : Option Addr
  c : Nat
  B : Option Addr
  d : Nat
  S : List Fct
  P : List Pk
/-- The law's memory: nothing old has changed, and these forests' variables. -/
structure Tw (w W : World) (L : List FAt) : Prop where
  b : Below w.heap.size w W
  f : ∀ q ∈ L, Has W q.t q.A q.c q.B q.d q.S q.P
theorem Tw.below {w W W' : World} {L : List FAt} (h : Tw w W L) (hb : Below W.heap.size W W') : Tw w W' L := ⟨h.b.trans (hb.mono h.b.size), fun q hq => (h.f q hq).below hb⟩
theorem Tw.push {w W : World} {L : List FAt} (h : Tw w W L) {A : Option Addr} {c : Nat} {B : Option Addr} {d : Nat} {S : List Fct} {P : List Pk} (ra : RowR W A (factCells S)) (rb : RowR W B (packCells P)) (hc : S.length ≤ c) (hd : P.length ≤ d) :
    Tw w (W.alloc (.cells #[.slice A S.length c, .slice B P.length d] 75)) (⟨W.heap.size, A, c, B, d, S, P⟩ :: L) ∧ Below W.heap.size W (W.alloc (.cells #[.slice A S.length c, .slice B P.length d] 75)) := by
  have bt : Below W.heap.size W (W.alloc (.cells #[.slice A S.length c, .slice B P.length d] 75)) := (Below.refl _ _).alloc (Nat.le_refl _) _
  refine ⟨⟨(h.below bt).b, fun q hq => ?_⟩, bt⟩
  rcases List.mem_cons.1 hq with rfl | hq
  · exact ⟨Blk.new W _ _, ra.below bt, rb.below bt, hc, hd⟩
  · exact (h.below bt).f q hq
theorem Tw.first {w W : World} {A : Option Addr} {c : Nat} {B : Option Addr} {d : Nat} {S : List Fct} {P : List Pk} (h : ForR w A c B d S P) (hW : w.alloc (.cells #[.slice A S.length c, .slice B P.length d] 75) = W) : Tw w W [⟨w.heap.size, A, c, B, d, S, P⟩] := by
  rw [← hW]
  exact (Tw.push (L := []) ⟨Below.refl _ _, fun q hq => by cases hq⟩ h.rs h.rp h.hc h.hd).1

theorem twice_facts {S : List Fct} {P : List Pk} {T : List Int} (ho : OkFor S P) (hf : Fits S P) (hT : Settled P S.length T) : OkFor (cutS S (endsB T)) (cutP P (endsB T)) ∧ Fits (cutS S (endsB T)) (cutP P (endsB T)) ∧
    ∃ T1, Settled (cutP P (endsB T)) (cutS S (endsB T)).length T1 ∧ cutS (cutS S (endsB T)) (endsB T1) = cutS S (endsB T) ∧ cutP (cutP P (endsB T)) (endsB T1) = cutP P (endsB T) := by
  have h1 := okfor_cut ho (held_ends ho hT)
  obtain ⟨T1, hT1⟩ := Settled.ex (cutP P (endsB T)) (cutS S (endsB T)).length h1.spots
  have h2 := ends_cut ho hT hT1
  exact ⟨h1, fits_cut hf ho, T1, hT1, cutS_all h2, cutP_all h1 h2⟩
theorem again_facts {S : List Fct} {P : List Pk} {s : Nat} {f : Fct} {R : List Bool} (ho : OkFor S P) (hf : Fits S P) (hfs : S[s]? = some f) (hR : RchB P (fun x => x = (s : Int)) S.length R) : ∃ at2 : Nat, OkFor (cutS S R) (cutP P R) ∧ Fits (cutS S R) (cutP P R) ∧ idxI (cutS S R) f = (at2 : Int) ∧ at2 < (cutS S R).length ∧
    ∀ R', RchB (cutP P R) (fun x => x = (at2 : Int)) (cutS S R).length R' → cutS (cutS S R) R' = cutS S R ∧ cutP (cutP P R) R' = cutP P R := by
  have hs := (List.getElem?_eq_some_iff.1 hfs).1
  have hb : atB R (s : Int) = true := (hR.is s hs).2 (Rch.base _ rfl)
  have h1 := okfor_cut ho (held_reach ho hR)
  refine ⟨cnt R s, h1, fits_cut hf ho, idx_cut ho hfs hb, (List.getElem?_eq_some_iff.1 (cutS_at hfs hb)).1, fun R' hR' => ?_⟩
  have h2 := reach_cut ho hs hR hR'
  exact ⟨cutS_all h2, cutP_all h1 h2⟩

set_option maxHeartbeats 8000000 in
set_option maxRecDepth 100000 in
theorem twice_bad (w : World) (A : Option Addr) (c : Nat) (B : Option Addr) (d : Nat) (S : List Fct) (P : List Pk) (spot : Int) (h : ForR w A c B d S P) (ho : ¬ OkFor S P) :
    Calls Try.prog 10 #[forV A S.length c B P.length d, .int .i64 spot] w (Sam w (.bool true)) := by
  have fit := h.fit
  have HW := Lib.hid (fun (W : World) (hW : w.alloc (.cells #[.slice A S.length c, .slice B P.length d] 75) = W) => Tw.first h hW)
  have HFIT := Lib.hid fit
  clear h fit
  go_enter Try.func10, Try.ntmps10
  unfold forV
  go_upto_region 1 with (fail)
  obtain ⟨W0, hW0⟩ : ∃ W0, w.alloc (.cells #[.slice A S.length c, .slice B P.length d] 75) = W0 := ⟨_, rfl⟩
  rw [hW0]
  have TW0 := Lib.hid (HW.out W0 hW0)
  clear hW0 HW
  have q0 : W0.cell? ⟨w.heap.size, 0, none⟩ = some (.slice A S.length c) := (TW0.out.f _ (.head _)).k.cell 0
  have q1 : W0.cell? ⟨w.heap.size, 1, none⟩ = some (.slice B P.length d) := (TW0.out.f _ (.head _)).k.cell 1
  go_wp2_with fail
  refine (copy_any W0 A c B d S P ((TW0.out.f _ (.head _)).forR HFIT.out)).mono ?_
  intro e w1 hn
  obtain ⟨A1, c1, B1, d1, rfl, F1, b1⟩ := hn.at HFIT.out
  have HF := Lib.hid F1
  have TW1 := Lib.hid (TW0.out.below b1)
  clear hn F1 b1 q0 q1 TW0
  unfold forV
  go_wp2_with fail
  refine (ttrim_no w1 A1 c1 B1 d1 S P HF.out ho).mono ?_
  rintro e w2 ⟨rfl, b2⟩
  have bt : Below w2.heap.size w2 (w2.alloc (.cells #[.slice none 0 0, .slice none 0 0] 75)) := (Below.refl _ _).alloc (Nat.le_refl _) _
  have TW2 := Lib.hid ((TW1.out.below b2).below bt)
  clear b2 bt TW1 HF
  go_upto_region 2 with (fail)
  generalize w2.alloc (.cells #[.slice none 0 0, .slice none 0 0] 75) = W3 at TW2 ⊢
  go_wp2_with fail
  refine (head_any W3).mono ?_
  rintro e w4 ⟨rfl, b4⟩
  have TW4 := Lib.hid (TW2.out.below b4)
  clear b4 TW2
  have q0 : w4.cell? ⟨w.heap.size, 0, none⟩ = some (.slice A S.length c) := (TW4.out.f _ (.head _)).k.cell 0
  have q1 : w4.cell? ⟨w.heap.size, 1, none⟩ = some (.slice B P.length d) := (TW4.out.f _ (.head _)).k.cell 1
  go_wp2_with fail
  refine (check_no w4 A c B d S P ((TW4.out.f _ (.head _)).forR HFIT.out) ho).mono ?_
  rintro e w5 ⟨rfl, b5⟩
  have TW5 := Lib.hid (TW4.out.below b5)
  clear b5 TW4 q0 q1
  go_wp2
  go_ret
  exact ⟨rfl, TW5.out.b⟩

set_option maxHeartbeats 8000000 in
set_option maxRecDepth 100000 in
theorem twice_none (w : World) (A : Option Addr) (c : Nat) (B : Option Addr) (d : Nat) (S : List Fct) (P : List Pk) (spot : Int) (h : ForR w A c B d S P) (T : List Int) (ho : OkFor S P) (hT : Settled P S.length T) (hs : ¬ (0 ≤ spot ∧ spot < (S.length : Int))) :
    Calls Try.prog 10 #[forV A S.length c B P.length d, .int .i64 spot] w (Sam w (.bool true)) := by
  obtain ⟨ho1, fit1, T1, hT1, hcs, hcp⟩ := twice_facts ho h.fit hT
  have HT := Lib.hid hT
  have fit := h.fit
  have HW := Lib.hid (fun (W : World) (hW : w.alloc (.cells #[.slice A S.length c, .slice B P.length d] 75) = W) => Tw.first h hW)
  have HFIT := Lib.hid fit
  clear h fit
  go_enter Try.func10, Try.ntmps10
  unfold forV
  go_upto_region 1 with (fail)
  obtain ⟨W0, hW0⟩ : ∃ W0, w.alloc (.cells #[.slice A S.length c, .slice B P.length d] 75) = W0 := ⟨_, rfl⟩
  rw [hW0]
  have TW0 := Lib.hid (HW.out W0 hW0)
  clear hW0 HW
  have HS := Lib.hid (And.intro fit1 (And.intro hT1 (And.intro hcs hcp)))
  clear fit1 hT1 hcs hcp hT
  have q0 : W0.cell? ⟨w.heap.size, 0, none⟩ = some (.slice A S.length c) := (TW0.out.f _ (.head _)).k.cell 0
  have q1 : W0.cell? ⟨w.heap.size, 1, none⟩ = some (.slice B P.length d) := (TW0.out.f _ (.head _)).k.cell 1
  go_wp2_with fail
  refine (copy_any W0 _ c B d S P ((TW0.out.f _ (.head _)).forR HFIT.out)).mono ?_
  intro e w1 hn
  obtain ⟨A1, c1, B1, d1, rfl, F1, b1⟩ := hn.at HFIT.out
  have HF := Lib.hid F1
  have TW1 := Lib.hid (TW0.out.below b1)
  clear hn F1 b1 q0 q1 TW0
  unfold forV
  go_wp2_with fail
  refine (ttrim_yes w1 A1 c1 B1 d1 S P T HF.out ho HT.out).mono ?_
  rintro e w2 ⟨A2, c2, B2, d2, rfl, ra, rb, hca, hcb, b2⟩
  generalize cutS S (endsB T) = S1 at ho1 HS ra hca ⊢
  generalize cutP P (endsB T) = P1 at ho1 HS rb hcb ⊢
  have TW2 := Lib.hid ((TW1.out.below b2).push ra rb hca hcb).1
  clear ra rb hca hcb b2 TW1 HF
  (try unfold forV)
  go_upto_region 2 with (fail)
  generalize w2.alloc (.cells #[.slice A2 S1.length c2, .slice B2 P1.length d2] 75) = W3 at TW2 ⊢
  go_wp2_with fail
  refine (head_any W3).mono ?_
  rintro e w4 ⟨rfl, b4⟩
  have TW4 := Lib.hid (TW2.out.below b4)
  clear b4 TW2
  have q0 : w4.cell? ⟨w2.heap.size, 0, none⟩ = some (.slice A2 S1.length c2) := (TW4.out.f _ (.head _)).k.cell 0
  have q1 : w4.cell? ⟨w2.heap.size, 1, none⟩ = some (.slice B2 P1.length d2) := (TW4.out.f _ (.head _)).k.cell 1
  go_wp2_with fail
  refine (ttrim_yes w4 A2 c2 B2 d2 S1 P1 T1 ((TW4.out.f _ (.head _)).forR HS.out.1) ho1 HS.out.2.1).mono ?_
  rw [HS.out.2.2.1, HS.out.2.2.2]
  rintro e w5 ⟨A5, c5, B5, d5, rfl, ra, rb, hca, hcb, b5⟩
  have TW5 := Lib.hid ((TW4.out.below b5).push ra rb hca hcb).1
  clear ra rb hca hcb b5 TW4 q0 q1
  (try unfold forV)
  go_upto_region 7 with (fail)
  generalize w5.alloc (.cells #[.slice A5 S1.length c5, .slice B5 P1.length d5] 75) = W6 at TW5 ⊢
  have q0 : W6.cell? ⟨w2.heap.size, 0, none⟩ = some (.slice A2 S1.length c2) := (TW5.out.f _ (.tail _ (.head _))).k.cell 0
  have q1 : W6.cell? ⟨w2.heap.size, 1, none⟩ = some (.slice B2 P1.length d2) := (TW5.out.f _ (.tail _ (.head _))).k.cell 1
  go_wp2_with fail
  refine (check_yes W6 A2 c2 B2 d2 S1 P1 ((TW5.out.f _ (.tail _ (.head _))).forR HS.out.1) ho1).mono ?_
  rintro e w7 ⟨rfl, b7⟩
  have TW7 := Lib.hid (TW5.out.below b7)
  clear b7 q0 q1 TW5
  have q0 : w7.cell? ⟨w2.heap.size, 0, none⟩ = some (.slice A2 S1.length c2) := (TW7.out.f _ (.tail _ (.head _))).k.cell 0
  have q1 : w7.cell? ⟨w2.heap.size, 1, none⟩ = some (.slice B2 P1.length d2) := (TW7.out.f _ (.tail _ (.head _))).k.cell 1
  have q2 : w7.cell? ⟨w5.heap.size, 0, none⟩ = some (.slice A5 S1.length c5) := (TW7.out.f _ (.head _)).k.cell 0
  have q3 : w7.cell? ⟨w5.heap.size, 1, none⟩ = some (.slice B5 P1.length d5) := (TW7.out.f _ (.head _)).k.cell 1
  go_wp2_with fail
  refine (same_any w7 A2 c2 B2 d2 A5 c5 B5 d5 S1 P1 (TW7.out.f _ (.tail _ (.head _))).rs (TW7.out.f _ (.tail _ (.head _))).rp (TW7.out.f _ (.head _)).rs (TW7.out.f _ (.head _)).rp ⟨HS.out.1.s, HS.out.1.p, (TW7.out.f _ (.tail _ (.head _))).hc, (TW7.out.f _ (.head _)).hc, (TW7.out.f _ (.tail _ (.head _))).hd, (TW7.out.f _ (.head _)).hd⟩).mono ?_
  rintro e w8 ⟨rfl, b8⟩
  have TW8 := Lib.hid (TW7.out.below b8)
  clear b8 q0 q1 q2 q3 TW7 HS ho1
  have q0 : w8.cell? ⟨w.heap.size, 0, none⟩ = some (.slice A S.length c) := (TW8.out.f _ (.tail _ (.tail _ (.head _)))).k.cell 0
  have q1 : w8.cell? ⟨w.heap.size, 1, none⟩ = some (.slice B P.length d) := (TW8.out.f _ (.tail _ (.tail _ (.head _)))).k.cell 1
  by_cases hneg : spot < 0
  · go_wp2
    go_ret
    exact ⟨rfl, TW8.out.b⟩
  · have hge : (S.length : Int) ≤ spot := by omega
    go_wp2
    go_ret
    exact ⟨rfl, TW8.out.b⟩
end Go.Proofs.Ytbppbgdmoihooaa
