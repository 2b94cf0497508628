/- Forests: the walk of bywaylaw29.TrimPicks, case by case. -/
import Derived.Test.YtbppbgdmoihooaaTrV
namespace Go.Proofs.Ytbppbgdmoihooaa
open Go.RowKit

/-- Wherever the rounds come to rest, it is the same. -/
theorem rounds_fix {P : List Pk} {n : Nat} (hp : SpotsIn n P) : ∃ k, rounds P n (k + 1) = rounds P n k := by
  obtain ⟨m, hm⟩ : ∃ m, weight (rounds P n 0) ≤ m := ⟨_, Nat.le_refl _⟩
  have key : ∀ m k, weight (rounds P n k) ≤ m → ∃ k, rounds P n (k + 1) = rounds P n k := by
    intro m
    induction m with
    | zero =>
      intro k hk
      by_cases e : rounds P n (k + 1) = rounds P n k
      · exact ⟨k, e⟩
      · have := weight_lt (by rw [rounds_len, rounds_len]) (rounds_val hp (k + 1)) (rounds_val hp k) (rounds_down hp k) e
        omega
    | succ m ih =>
      intro k hk
      by_cases e : rounds P n (k + 1) = rounds P n k
      · exact ⟨k, e⟩
      · have := weight_lt (by rw [rounds_len, rounds_len]) (rounds_val hp (k + 1)) (rounds_val hp k) (rounds_down hp k) e
        exact ih (k + 1) (by omega)
  exact key m 0 hm
theorem Settled.uniq {P : List Pk} {n : Nat} {T T' : List Int} (h : Settled P n T) (h' : Settled P n T') (hp : SpotsIn n P) : T = T' := by
  obtain ⟨k, hk⟩ := rounds_fix hp
  rw [h.same hp hk, h'.same hp hk]
theorem Settled.ex (P : List Pk) (n : Nat) (hp : SpotsIn n P) : ∃ T, Settled P n T := by
  have key : ∀ m T, Mid P n T → weight T ≤ m → ∃ T, Settled P n T := by
    intro m
    induction m with
    | zero =>
      intro T hM hw
      refine ⟨T, hM.settled fun p hp' => ?_⟩
      cases hb : betterB p T with
      | false => rfl
      | true => have := (hM.step hp hp' hb).2; omega
    | succ m ih =>
      intro T hM hw
      by_cases hall : ∀ p ∈ P, betterB p T = false
      · exact ⟨T, hM.settled hall⟩
      · obtain ⟨p, hall⟩ := Classical.not_forall.1 hall
        obtain ⟨hp', hb⟩ := Classical.not_imp.1 hall
        have hb : betterB p T = true := by cases h : betterB p T <;> simp_all
        have := hM.step hp hp' hb
        exact ih _ this.1 (by omega)
  exact key _ _ (Mid.start P n) (Nat.le_refl _)

set_option maxHeartbeats 1000000 in
set_option maxRecDepth 20000 in
theorem picks_bad (w : World) (A : Option Addr) (c : Nat) (B : Option Addr) (d : Nat) (S : List Fct) (P : List Pk) (spot : Int) (h : ForR w A c B d S P) (ho : ¬ OkFor S P) :
    Calls Try.prog 8 #[forV A S.length c B P.length d, .int .i64 spot] w (Sam w (.bool true)) := by
  have k0 := Blk.new w 75 #[.slice A S.length c, .slice B P.length d]
  have u0 : Below w.heap.size w (w.alloc (.cells #[.slice A S.length c, .slice B P.length d] 75)) := (Below.refl _ _).alloc (Nat.le_refl _) _
  have H := Lib.hid (And.intro h (And.intro k0 u0))
  clear h k0 u0
  go_enter Try.func8, Try.ntmps8
  unfold forV
  go_upto_region 1 with (fail)
  generalize w.alloc (.cells #[.slice A S.length c, .slice B P.length d] 75) = W0 at H ⊢
  have q0 : W0.cell? ⟨w.heap.size, 0, none⟩ = some (.slice A S.length c) := H.out.2.1.cell 0
  have q1 : W0.cell? ⟨w.heap.size, 1, none⟩ = some (.slice B P.length d) := H.out.2.1.cell 1
  go_wp2_with fail
  refine (copy_any W0 A c B d S P (H.out.1.below H.out.2.2)).mono ?_
  intro e w1 hn
  obtain ⟨A1, c1, B1, d1, rfl, F1, b1⟩ := hn.at H.out.1.fit
  have HF := Lib.hid (And.intro F1 b1)
  clear hn F1 b1 q0 q1
  unfold forV
  go_wp2_with fail
  refine (tpick_bad w1 A1 c1 B1 d1 S P spot HF.out.1 ho).mono ?_
  rintro e w2 ⟨rfl, b2⟩
  have B2 := HF.out.2.trans (b2.mono HF.out.2.size)
  have k2 := H.out.2.1.upd (Upd.of_below B2 (fun _ => False)) id
  have q0 : w2.cell? ⟨w.heap.size, 0, none⟩ = some (.slice A S.length c) := k2.cell 0
  have q1 : w2.cell? ⟨w.heap.size, 1, none⟩ = some (.slice B P.length d) := k2.cell 1
  have HB := Lib.hid (And.intro (H.out.2.2.trans (B2.mono H.out.2.2.size)) k2)
  clear b2 B2 k2
  go_wp2_with fail
  refine (wrong_bad w2 A c B d S P spot (H.out.1.below HB.out.1) ho).mono ?_
  rintro e w3 ⟨rfl, b3⟩
  clear q0 q1
  have HC := Lib.hid b3
  clear b3
  go_wp2_with fail
  refine (head_any w3).mono ?_
  rintro e w4 ⟨rfl, b4⟩
  have B4 := HC.out.trans (b4.mono HC.out.size)
  have HD := Lib.hid (And.intro (HB.out.1.trans (B4.mono HB.out.1.size)) (And.intro (HB.out.2.upd (Upd.of_below B4 (fun _ => False)) id) B4))
  clear b4 B4
  go_wp2
  go_ret
  exact ⟨rfl, HD.out.1⟩

set_option maxHeartbeats 1000000 in
set_option maxRecDepth 20000 in
theorem picks_none (w : World) (A : Option Addr) (c : Nat) (B : Option Addr) (d : Nat) (S : List Fct) (P : List Pk) (spot : Int) (h : ForR w A c B d S P) (ho : OkFor S P) (hs : ¬ (0 ≤ spot ∧ spot < (S.length : Int))) :
    Calls Try.prog 8 #[forV A S.length c B P.length d, .int .i64 spot] w (Sam w (.bool true)) := by
  have k0 := Blk.new w 75 #[.slice A S.length c, .slice B P.length d]
  have u0 : Below w.heap.size w (w.alloc (.cells #[.slice A S.length c, .slice B P.length d] 75)) := (Below.refl _ _).alloc (Nat.le_refl _) _
  have H := Lib.hid (And.intro h (And.intro k0 u0))
  clear h k0 u0
  go_enter Try.func8, Try.ntmps8
  unfold forV
  go_upto_region 1 with (fail)
  generalize w.alloc (.cells #[.slice A S.length c, .slice B P.length d] 75) = W0 at H ⊢
  have q0 : W0.cell? ⟨w.heap.size, 0, none⟩ = some (.slice A S.length c) := H.out.2.1.cell 0
  have q1 : W0.cell? ⟨w.heap.size, 1, none⟩ = some (.slice B P.length d) := H.out.2.1.cell 1
  go_wp2_with fail
  refine (copy_any W0 A c B d S P (H.out.1.below H.out.2.2)).mono ?_
  intro e w1 hn
  obtain ⟨A1, c1, B1, d1, rfl, F1, b1⟩ := hn.at H.out.1.fit
  have HF := Lib.hid (And.intro F1 b1)
  clear hn F1 b1 q0 q1
  unfold forV
  go_wp2_with fail
  refine (tpick_none w1 A1 c1 B1 d1 S P spot HF.out.1 ho hs).mono ?_
  rintro e w2 ⟨rfl, b2⟩
  have B2 := HF.out.2.trans (b2.mono HF.out.2.size)
  have k2 := H.out.2.1.upd (Upd.of_below B2 (fun _ => False)) id
  have q0 : w2.cell? ⟨w.heap.size, 0, none⟩ = some (.slice A S.length c) := k2.cell 0
  have q1 : w2.cell? ⟨w.heap.size, 1, none⟩ = some (.slice B P.length d) := k2.cell 1
  have HB := Lib.hid (And.intro (H.out.2.2.trans (B2.mono H.out.2.2.size)) k2)
  clear b2 B2 k2
  go_wp2_with fail
  refine (wrong_none w2 A c B d S P spot (H.out.1.below HB.out.1) ho hs).mono ?_
  rintro e w3 ⟨rfl, b3⟩
  clear q0 q1
  have HC := Lib.hid b3
  clear b3
  go_wp2_with fail
  refine (head_any w3).mono ?_
  rintro e w4 ⟨rfl, b4⟩
  have B4 := HC.out.trans (b4.mono HC.out.size)
  have HD := Lib.hid (And.intro (HB.out.1.trans (B4.mono HB.out.1.size)) (And.intro (HB.out.2.upd (Upd.of_below B4 (fun _ => False)) id) B4))
  clear b4 B4
  go_wp2
  go_ret
  exact ⟨rfl, HD.out.1⟩

set_option maxHeartbeats 1000000 in
set_option maxRecDepth 20000 in
theorem picks_zero (w : World) (A : Option Addr) (c : Nat) (B : Option Addr) (d : Nat) (S : List Fct) (P : List Pk) (s : Nat) (h : ForR w A c B d S P) (ho : OkFor S P) (hs : s < S.length) (T : List Int) (hT : Settled P S.length T) (hc : at0 T (s : Int) = 0) :
    Calls Try.prog 8 #[forV A S.length c B P.length d, .int .i64 (s : Int)] w (Sam w (.bool true)) := by
  have hsI : (s : Int) < (S.length : Int) := by omega
  have HS0 := Lib.hid (And.intro hT hc)
  clear hT hc
  have k0 := Blk.new w 75 #[.slice A S.length c, .slice B P.length d]
  have u0 : Below w.heap.size w (w.alloc (.cells #[.slice A S.length c, .slice B P.length d] 75)) := (Below.refl _ _).alloc (Nat.le_refl _) _
  have H := Lib.hid (And.intro h (And.intro k0 u0))
  clear h k0 u0
  go_enter Try.func8, Try.ntmps8
  unfold forV
  go_upto_region 1 with (fail)
  generalize w.alloc (.cells #[.slice A S.length c, .slice B P.length d] 75) = W0 at H ⊢
  have q0 : W0.cell? ⟨w.heap.size, 0, none⟩ = some (.slice A S.length c) := H.out.2.1.cell 0
  have q1 : W0.cell? ⟨w.heap.size, 1, none⟩ = some (.slice B P.length d) := H.out.2.1.cell 1
  go_wp2_with fail
  refine (copy_any W0 A c B d S P (H.out.1.below H.out.2.2)).mono ?_
  intro e w1 hn
  obtain ⟨A1, c1, B1, d1, rfl, F1, b1⟩ := hn.at H.out.1.fit
  have HF := Lib.hid (And.intro F1 b1)
  clear hn F1 b1 q0 q1
  unfold forV
  go_wp2_with fail
  refine (tpick_zero w1 A1 c1 B1 d1 S P s HF.out.1 ho hs (fun T' Y h' _ => by
    have : T' = T := Settled.uniq h' HS0.out.1 ho.spots
    subst this
    exact HS0.out.2)).mono ?_
  rintro e w2 ⟨rfl, b2⟩
  have B2 := HF.out.2.trans (b2.mono HF.out.2.size)
  have k2 := H.out.2.1.upd (Upd.of_below B2 (fun _ => False)) id
  have q0 : w2.cell? ⟨w.heap.size, 0, none⟩ = some (.slice A S.length c) := k2.cell 0
  have q1 : w2.cell? ⟨w.heap.size, 1, none⟩ = some (.slice B P.length d) := k2.cell 1
  have HB := Lib.hid (And.intro (H.out.2.2.trans (B2.mono H.out.2.2.size)) k2)
  clear b2 B2 k2
  go_wp2_with fail
  refine (wrong_ok w2 A c B d S P (s : Int) (H.out.1.below HB.out.1) ho ⟨by omega, by omega⟩).mono ?_
  rintro e w3 ⟨rfl, b3⟩
  clear q0 q1
  have HC := Lib.hid b3
  clear b3
  go_wp2_with fail
  refine (head_any w3).mono ?_
  rintro e w4 ⟨rfl, b4⟩
  have B4 := HC.out.trans (b4.mono HC.out.size)
  have HD := Lib.hid (And.intro (HB.out.1.trans (B4.mono HB.out.1.size)) (And.intro (HB.out.2.upd (Upd.of_below B4 (fun _ => False)) id) B4))
  clear b4 B4
  have k4 := HD.out.2.1
  have q0 : w4.cell? ⟨w.heap.size, 0, none⟩ = some (.slice A S.length c) := k4.cell 0
  have q1 : w4.cell? ⟨w.heap.size, 1, none⟩ = some (.slice B P.length d) := k4.cell 1
  clear k4
  go_wp2_with fail
  refine (rsmall_any w4 A c B d S P (H.out.1.below HD.out.1) ho).mono ?_
  rintro e w5 ⟨g, k, rfl, hk, kg, hg, b5⟩
  have he := HS0.out.1.same ho.spots hk
  obtain ⟨v, hv⟩ : ∃ v, at0 T (s : Int) = v := ⟨_, rfl⟩
  have m0 : w5.cell? ⟨g, s, none⟩ = some (.int .i64 v) := by
    rw [kg.cell s, ← he, ← hv]
    exact ints_get (at0_get (by rw [HS0.out.1.len]; exact hs))
  have hc := HS0.out.2
  rw [hv] at hc
  have B5 := HD.out.1.trans (b5.mono HD.out.1.size)
  have HE := Lib.hid (And.intro B5 (And.intro hv (And.intro (HD.out.2.1.upd (Upd.of_below b5 (fun _ => False)) id) (HD.out.2.2.trans (b5.mono HD.out.2.2.size)))))
  clear q0 q1 hk kg hg b5 B5 hv he
  subst hc
  go_wp2
  go_ret
  exact ⟨rfl, HE.out.1⟩

set_option maxHeartbeats 1000000 in
set_option maxRecDepth 20000 in
theorem picks_many (w : World) (A : Option Addr) (c : Nat) (B : Option Addr) (d : Nat) (S : List Fct) (P : List Pk) (s : Nat) (h : ForR w A c B d S P) (ho : OkFor S P) (hs : s < S.length) (T : List Int) (hT : Settled P S.length T) (hc : 4096 < at0 T (s : Int)) :
    Calls Try.prog 8 #[forV A S.length c B P.length d, .int .i64 (s : Int)] w (Sam w (.bool true)) := by
  have hsI : (s : Int) < (S.length : Int) := by omega
  have HS0 := Lib.hid (And.intro hT hc)
  clear hT hc
  have k0 := Blk.new w 75 #[.slice A S.length c, .slice B P.length d]
  have u0 : Below w.heap.size w (w.alloc (.cells #[.slice A S.length c, .slice B P.length d] 75)) := (Below.refl _ _).alloc (Nat.le_refl _) _
  have H := Lib.hid (And.intro h (And.intro k0 u0))
  clear h k0 u0
  go_enter Try.func8, Try.ntmps8
  unfold forV
  go_upto_region 1 with (fail)
  generalize w.alloc (.cells #[.slice A S.length c, .slice B P.length d] 75) = W0 at H ⊢
  have q0 : W0.cell? ⟨w.heap.size, 0, none⟩ = some (.slice A S.length c) := H.out.2.1.cell 0
  have q1 : W0.cell? ⟨w.heap.size, 1, none⟩ = some (.slice B P.length d) := H.out.2.1.cell 1
  go_wp2_with fail
  refine (copy_any W0 A c B d S P (H.out.1.below H.out.2.2)).mono ?_
  intro e w1 hn
  obtain ⟨A1, c1, B1, d1, rfl, F1, b1⟩ := hn.at H.out.1.fit
  have HF := Lib.hid (And.intro F1 b1)
  clear hn F1 b1 q0 q1
  unfold forV
  go_wp2_with fail
  refine (tpick_many w1 A1 c1 B1 d1 S P s HF.out.1 ho hs (fun T' Y h' _ => by
    have : T' = T := Settled.uniq h' HS0.out.1 ho.spots
    subst this
    exact HS0.out.2)).mono ?_
  rintro e w2 ⟨rfl, b2⟩
  have B2 := HF.out.2.trans (b2.mono HF.out.2.size)
  have k2 := H.out.2.1.upd (Upd.of_below B2 (fun _ => False)) id
  have q0 : w2.cell? ⟨w.heap.size, 0, none⟩ = some (.slice A S.length c) := k2.cell 0
  have q1 : w2.cell? ⟨w.heap.size, 1, none⟩ = some (.slice B P.length d) := k2.cell 1
  have HB := Lib.hid (And.intro (H.out.2.2.trans (B2.mono H.out.2.2.size)) k2)
  clear b2 B2 k2
  go_wp2_with fail
  refine (wrong_ok w2 A c B d S P (s : Int) (H.out.1.below HB.out.1) ho ⟨by omega, by omega⟩).mono ?_
  rintro e w3 ⟨rfl, b3⟩
  clear q0 q1
  have HC := Lib.hid b3
  clear b3
  go_wp2_with fail
  refine (head_any w3).mono ?_
  rintro e w4 ⟨rfl, b4⟩
  have B4 := HC.out.trans (b4.mono HC.out.size)
  have HD := Lib.hid (And.intro (HB.out.1.trans (B4.mono HB.out.1.size)) (And.intro (HB.out.2.upd (Upd.of_below B4 (fun _ => False)) id) B4))
  clear b4 B4
  have k4 := HD.out.2.1
  have q0 : w4.cell? ⟨w.heap.size, 0, none⟩ = some (.slice A S.length c) := k4.cell 0
  have q1 : w4.cell? ⟨w.heap.size, 1, none⟩ = some (.slice B P.length d) := k4.cell 1
  clear k4
  go_wp2_with fail
  refine (rsmall_any w4 A c B d S P (H.out.1.below HD.out.1) ho).mono ?_
  rintro e w5 ⟨g, k, rfl, hk, kg, hg, b5⟩
  have he := HS0.out.1.same ho.spots hk
  obtain ⟨v, hv⟩ : ∃ v, at0 T (s : Int) = v := ⟨_, rfl⟩
  have m0 : w5.cell? ⟨g, s, none⟩ = some (.int .i64 v) := by
    rw [kg.cell s, ← he, ← hv]
    exact ints_get (at0_get (by rw [HS0.out.1.len]; exact hs))
  have hc := HS0.out.2
  rw [hv] at hc
  have B5 := HD.out.1.trans (b5.mono HD.out.1.size)
  have HE := Lib.hid (And.intro B5 (And.intro hv (And.intro (HD.out.2.1.upd (Upd.of_below b5 (fun _ => False)) id) (HD.out.2.2.trans (b5.mono HD.out.2.2.size)))))
  clear q0 q1 hk kg hg b5 B5 hv he
  have e1 : (v == 0) = false := by simp; omega
  have e2 : decide (4096 < v) = true := by simpa using hc
  clear hc
  go_wp2
  go_ret
  exact ⟨rfl, HE.out.1⟩

set_option maxHeartbeats 1000000 in
set_option maxRecDepth 20000 in
theorem picks_ok (w : World) (A : Option Addr) (c : Nat) (B : Option Addr) (d : Nat) (S : List Fct) (P : List Pk) (s : Nat) (h : ForR w A c B d S P) (ho : OkFor S P) (hs : s < S.length) (T : List Int) (hT : Settled P S.length T) (hc : at0 T (s : Int) ≠ 0 ∧ at0 T (s : Int) ≤ 4096) :
    Calls Try.prog 8 #[forV A S.length c B P.length d, .int .i64 (s : Int)] w (Sam w (.bool true)) := by
  have hsI : (s : Int) < (S.length : Int) := by omega
  have HS0 := Lib.hid (And.intro hT hc)
  clear hT hc
  have k0 := Blk.new w 75 #[.slice A S.length c, .slice B P.length d]
  have u0 : Below w.heap.size w (w.alloc (.cells #[.slice A S.length c, .slice B P.length d] 75)) := (Below.refl _ _).alloc (Nat.le_refl _) _
  have H := Lib.hid (And.intro h (And.intro k0 u0))
  clear h k0 u0
  go_enter Try.func8, Try.ntmps8
  unfold forV
  go_upto_region 1 with (fail)
  generalize w.alloc (.cells #[.slice A S.length c, .slice B P.length d] 75) = W0 at H ⊢
  have q0 : W0.cell? ⟨w.heap.size, 0, none⟩ = some (.slice A S.length c) := H.out.2.1.cell 0
  have q1 : W0.cell? ⟨w.heap.size, 1, none⟩ = some (.slice B P.length d) := H.out.2.1.cell 1
  go_wp2_with fail
  refine (copy_any W0 A c B d S P (H.out.1.below H.out.2.2)).mono ?_
  intro e w1 hn
  obtain ⟨A1, c1, B1, d1, rfl, F1, b1⟩ := hn.at H.out.1.fit
  have HF := Lib.hid (And.intro F1 b1)
  clear hn F1 b1 q0 q1
  unfold forV
  go_wp2_with fail
  refine (tpick_ok w1 A1 c1 B1 d1 S P s HF.out.1 ho hs (fun T' Y h' _ => by
    have : T' = T := Settled.uniq h' HS0.out.1 ho.spots
    subst this
    exact HS0.out.2)).mono ?_
  rintro e w2 ⟨lb, l, T', rfl, hrow, hder, hT', hlen, hlm, b2⟩
  obtain rfl := Settled.uniq HS0.out.1 hT' ho.spots
  have HL := Lib.hid (And.intro hrow (And.intro hder (And.intro hlen hlm)))
  clear hrow hder hT' hlen hlm
  have B2 := HF.out.2.trans (b2.mono HF.out.2.size)
  have k2 := H.out.2.1.upd (Upd.of_below B2 (fun _ => False)) id
  have q0 : w2.cell? ⟨w.heap.size, 0, none⟩ = some (.slice A S.length c) := k2.cell 0
  have q1 : w2.cell? ⟨w.heap.size, 1, none⟩ = some (.slice B P.length d) := k2.cell 1
  have HB := Lib.hid (And.intro (H.out.2.2.trans (B2.mono H.out.2.2.size)) k2)
  clear b2 B2 k2
  go_wp2_with fail
  refine (wrong_ok w2 A c B d S P (s : Int) (H.out.1.below HB.out.1) ho ⟨by omega, by omega⟩).mono ?_
  rintro e w3 ⟨rfl, b3⟩
  clear q0 q1
  have HC := Lib.hid b3
  clear b3
  go_wp2_with fail
  refine (head_any w3).mono ?_
  rintro e w4 ⟨rfl, b4⟩
  have B4 := HC.out.trans (b4.mono HC.out.size)
  have HD := Lib.hid (And.intro (HB.out.1.trans (B4.mono HB.out.1.size)) (And.intro (HB.out.2.upd (Upd.of_below B4 (fun _ => False)) id) B4))
  clear b4 B4
  have k4 := HD.out.2.1
  have q0 : w4.cell? ⟨w.heap.size, 0, none⟩ = some (.slice A S.length c) := k4.cell 0
  have q1 : w4.cell? ⟨w.heap.size, 1, none⟩ = some (.slice B P.length d) := k4.cell 1
  clear k4
  go_wp2_with fail
  refine (rsmall_any w4 A c B d S P (H.out.1.below HD.out.1) ho).mono ?_
  rintro e w5 ⟨g, k, rfl, hk, kg, hg, b5⟩
  have he := HS0.out.1.same ho.spots hk
  obtain ⟨v, hv⟩ : ∃ v, at0 T (s : Int) = v := ⟨_, rfl⟩
  have m0 : w5.cell? ⟨g, s, none⟩ = some (.int .i64 v) := by
    rw [kg.cell s, ← he, ← hv]
    exact ints_get (at0_get (by rw [HS0.out.1.len]; exact hs))
  have hc := HS0.out.2
  rw [hv] at hc
  have B5 := HD.out.1.trans (b5.mono HD.out.1.size)
  have HE := Lib.hid (And.intro B5 (And.intro hv (And.intro (HD.out.2.1.upd (Upd.of_below b5 (fun _ => False)) id) (HD.out.2.2.trans (b5.mono HD.out.2.2.size)))))
  clear q0 q1 hk kg hg b5 B5 hv he
  have e1 : (v == 0) = false := by simpa using hc.1
  have e2 : decide (4096 < v) = false := by simpa using hc.2
  have e3 : ((l.length : Int) == v) = true := by
    have h1 := HL.out.2.2.1
    have h2 := HE.out.2.1
    rw [h2] at h1
    rw [h1]; simp
  clear hc
  have q2 : w5.cell? ⟨w.heap.size, 0, none⟩ = some (.slice A S.length c) := HE.out.2.2.1.cell 0
  have q3 : w5.cell? ⟨w.heap.size, 1, none⟩ = some (.slice B P.length d) := HE.out.2.2.1.cell 1
  go_wp2_with fail
  have hleft := left_any HL.out.2.1 w5 A c B d (some ⟨lb, 0, none⟩) l.length [] (H.out.1.below HE.out.1) (by rw [List.append_nil]; exact HL.out.1.below HE.out.2.2.2) (by simp) (by have := HL.out.2.2.2; simp; omega)
  simp only [List.append_nil, List.length_nil] at hleft
  refine hleft.mono ?_
  rintro e w6 ⟨rfl, b6⟩
  have HG := Lib.hid (HE.out.1.trans (b6.mono HE.out.1.size))
  clear hleft b6 q2 q3 m0
  go_wp2
  go_ret
  exact ⟨rfl, HG.out⟩
end Go.Proofs.Ytbppbgdmoihooaa
