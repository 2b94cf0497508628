/- The law EdgesBack of layer 16: its walk. -/
import Derived.Test.YthmkgnifcbnkpaaPaD
import Derived.Test.YthmkgnifcbnkpaaPbB
namespace Go.Proofs.Ythmkgnifcbnkpaa
open Go.RowKit

theorem same_self (N : List Txt) (E : List Ed) : sameB N E N E = true := by simp [sameB]
theorem print_len {N : List Txt} {E : List Ed} (h : checkI N E = 0) : (printT N E).size ≤ 2048 := by
  rw [printT, if_pos h, ← size_data]
  simpa using (caps_le (check_caps h).2.2).2.2.2
theorem parse_fit (s : Txt) : FitG (parseO s).N (parseO s).E := by
  unfold parseO
  split
  · exact ⟨by simp, by simp, by simp, by simp⟩
  rename_i hs
  split
  · exact ⟨by simp, by simp, by simp, by simp⟩
  · rename_i N E hr
    split
    · exact ⟨by simp, by simp, by simp, by simp⟩
    split
    · rename_i h0
      have hc := caps_le (ofI_caps h0)
      have hn := Short.of (ofI_named h0)
      exact fit_made (M := gN N E) (F := gE E) hn rfl rfl (by omega) (by omega)
    · exact ⟨by simp, by simp, by simp, by simp⟩
/-- What Parse tells, as a graph where it lies. -/
theorem parse_for (s : Txt) (w : World) (hs : s.size ≤ 9223372036854775807) : Calls Try.prog 5 #[.string s] w fun e w' =>
    ∃ A c B d, e = .returned (.tuple #[twoV A (parseO s).N.length c B (parseO s).E.length d, .int .i64 (parseO s).pl, .int .i64 (parseO s).err]) ∧ ForG w' A c B d (parseO s).N (parseO s).E ∧ Below w.heap.size w w' := by
  refine (parse_any s w hs).mono ?_
  rintro e w' ⟨A, c, B, d, rfl, o1, o2, hb⟩
  exact ⟨A, c, B, d, rfl, ⟨RowR.of_own o1, RowR.of_own o2, own_le o1, own_le o2, parse_fit s⟩, hb⟩

/-- A printed graph that is read back. -/
theorem parse_back {M : List Txt} {F : List Ed} (h : checkI M F = 0) (w : World) : Calls Try.prog 5 #[.string (printT M F)] w fun e w' =>
    ∃ A c B d, e = .returned (.tuple #[twoV A M.length c B F.length d, .int .i64 0, .int .i64 0]) ∧ ForG w' A c B d M F ∧ Below w.heap.size w w' := by
  have h1 := parse_for (printT M F) w (by have := print_len h; omega)
  have h2 : parseO (printT M F) = ⟨M, F, 0, 0⟩ := by rw [printT, if_pos h, back_text h]
  rw [h2] at h1
  exact h1
set_option maxHeartbeats 8000000 in
set_option maxRecDepth 20000 in
theorem back_any (s : Txt) (w : World) (hs : s.size ≤ 9223372036854775807) (A : Option Addr) (c : Nat) (B : Option Addr) (d : Nat) (N : List Txt) (E : List Ed) (h : ForG w A c B d N E) :
    Calls Try.prog 4 #[.string s, twoV A N.length c B E.length d] w (Sam w (.bool true)) := by
  have k0 := Blk.new w 25 #[.slice A N.length c, .slice B E.length d]
  have u0 : Below w.heap.size w (w.alloc (.cells #[.slice A N.length c, .slice B E.length d] 25)) := (Below.refl _ _).alloc (Nat.le_refl _) _
  have H := Lib.hid (And.intro (h.below u0) (And.intro k0 u0))
  clear h k0 u0
  unfold twoV
  go_enter Try.func4, Try.ntmps4
  go_upto_region 1 with (fail)
  generalize w.alloc (.cells #[.slice A N.length c, .slice B E.length d] 25) = W0 at H ⊢
  go_wp2_with fail
  refine (parse_for s W0 hs).mono ?_
  rintro e W1 ⟨A1, c1, B1, d1, rfl, g1, b1⟩
  obtain ⟨M, hM⟩ : ∃ n, (parseO s).N = n := ⟨_, rfl⟩
  obtain ⟨F, hF⟩ : ∃ n, (parseO s).E = n := ⟨_, rfl⟩
  obtain ⟨p1, hp1⟩ : ∃ n, (parseO s).pl = n := ⟨_, rfl⟩
  obtain ⟨z1, hz1⟩ : ∃ n, (parseO s).err = n := ⟨_, rfl⟩
  have hck : z1 = 0 → checkI M F = 0 := fun h => by
    have := check_read (s := s) (by rw [hz1, h])
    rwa [hM, hF] at this
  rw [hM, hF] at g1
  rw [hM, hF, hp1, hz1]
  clear hM hF hp1 hz1
  have k2 := Blk.new W1 25 #[.slice A1 M.length c1, .slice B1 F.length d1]
  have b2 : Below W1.heap.size W1 (W1.alloc (.cells #[.slice A1 M.length c1, .slice B1 F.length d1] 25)) := (Below.refl _ _).alloc (Nat.le_refl _) _
  have H2 := Lib.hid (And.intro (g1.below b2) (And.intro k2 (And.intro (H.out.1.below (b1.trans (b2.mono b1.size))) (And.intro (H.out.2.1.upd (Upd.of_below (b1.trans (b2.mono b1.size)) (fun _ => False)) id) (H.out.2.2.trans ((b1.trans (b2.mono b1.size)).mono H.out.2.2.size))))))
  clear k2 b2 g1 b1
  unfold twoV
  go_upto_region 2 with (fail)
  generalize W1.alloc (.cells #[.slice A1 M.length c1, .slice B1 F.length d1] 25) = W2 at H2 ⊢
  -- behind the first half, in whatever world
  by_cases hz : z1 = 0
  · subst hz
    have hc0 := hck rfl
    clear hck
    obtain ⟨t, ht⟩ : ∃ t, printT M F = t := ⟨_, rfl⟩
    have hpb := parse_back hc0
    have hpr := fun {V : World} {A : Option Addr} {c : Nat} {B : Option Addr} {d : Nat} (h : ForG V A c B d M F) => print_any V A c B d M F h
    have hsm := fun {V : World} {A : Option Addr} {c : Nat} {B : Option Addr} {d : Nat} {A' : Option Addr} {c' : Nat} {B' : Option Addr} {d' : Nat} (h : ForG V A c B d M F) (h' : ForG V A' c' B' d' M F) => esame_any V A c B d M F A' c' B' d' M F h h'
    have hch := fun {V : World} {A : Option Addr} {c : Nat} {B : Option Addr} {d : Nat} (h : ForG V A c B d M F) => echeck_any V A c B d M F h
    rw [ht] at hpb
    simp only [ht, hc0] at hpr
    simp only [same_self] at hsm
    simp only [hc0] at hch
    clear ht
    unfold twoV at hpb hpr hsm hch
    have q0 : W2.cell? ⟨W1.heap.size, 0, none⟩ = some (.slice A1 M.length c1) := H2.out.2.1.cell 0
    have q1 : W2.cell? ⟨W1.heap.size, 1, none⟩ = some (.slice B1 F.length d1) := H2.out.2.1.cell 1
    go_wp2_with fail
    refine (hpr H2.out.1).mono ?_
    rintro e W3 ⟨rfl, b3⟩
    go_wp2_with fail
    refine (hpb W3).mono ?_
    rintro e W4 ⟨A4, c4, B4, d4, rfl, g4, b4⟩
    have b34 := b3.trans (b4.mono b3.size)
    have k5 := Blk.new W4 25 #[.slice A4 M.length c4, .slice B4 F.length d4]
    have b5 : Below W4.heap.size W4 (W4.alloc (.cells #[.slice A4 M.length c4, .slice B4 F.length d4] 25)) := (Below.refl _ _).alloc (Nat.le_refl _) _
    have b25 := b34.trans (b5.mono b34.size)
    have H5 := Lib.hid (And.intro (g4.below b5) (And.intro k5 b25))
    clear b3 b4 b34 k5 b5 b25 g4 q0 q1
    go_upto_region 5 with (fail)
    generalize W4.alloc (.cells #[.slice A4 M.length c4, .slice B4 F.length d4] 25) = W5 at H5 ⊢
    have r0 : W5.cell? ⟨W4.heap.size, 0, none⟩ = some (.slice A4 M.length c4) := H5.out.2.1.cell 0
    have r1 : W5.cell? ⟨W4.heap.size, 1, none⟩ = some (.slice B4 F.length d4) := H5.out.2.1.cell 1
    go_wp2_with fail
    refine (hpr H5.out.1).mono ?_
    rintro e W6 ⟨rfl, b6⟩
    have b26 := H5.out.2.2.trans (b6.mono H5.out.2.2.size)
    have H6 := Lib.hid (And.intro (H5.out.1.below b6) (And.intro (H5.out.2.1.upd (Upd.of_below b6 (fun _ => False)) id) b26))
    have K6 := H2.out.2.1.upd (Upd.of_below b26 (fun _ => False)) id
    clear b6 b26 r0 r1
    have q0 : W6.cell? ⟨W1.heap.size, 0, none⟩ = some (.slice A1 M.length c1) := K6.cell 0
    have q1 : W6.cell? ⟨W1.heap.size, 1, none⟩ = some (.slice B1 F.length d1) := K6.cell 1
    clear K6
    go_wp2_with fail
    refine (hch (H2.out.1.below H6.out.2.2)).mono ?_
    rintro e W7 ⟨rfl, b7⟩
    have b27 := H6.out.2.2.trans (b7.mono H6.out.2.2.size)
    have K7 := H2.out.2.1.upd (Upd.of_below b27 (fun _ => False)) id
    have L7 := H6.out.2.1.upd (Upd.of_below b7 (fun _ => False)) id
    have H7 := Lib.hid (And.intro (H2.out.1.below b27) (And.intro (H6.out.1.below b7) b27))
    clear b7 b27 q0 q1
    have q0 : W7.cell? ⟨W1.heap.size, 0, none⟩ = some (.slice A1 M.length c1) := K7.cell 0
    have q1 : W7.cell? ⟨W1.heap.size, 1, none⟩ = some (.slice B1 F.length d1) := K7.cell 1
    have r0 : W7.cell? ⟨W4.heap.size, 0, none⟩ = some (.slice A4 M.length c4) := L7.cell 0
    have r1 : W7.cell? ⟨W4.heap.size, 1, none⟩ = some (.slice B4 F.length d4) := L7.cell 1
    clear K7 L7
    go_wp2_with fail
    refine (hsm H7.out.1 H7.out.2.1).mono ?_
    rintro e W8 ⟨rfl, b8⟩
    have b28 := H7.out.2.2.trans (b8.mono H7.out.2.2.size)
    have H8 := Lib.hid (And.intro (H2.out.2.2.1.below b28) (And.intro (H2.out.2.2.2.1.upd (Upd.of_below b28 (fun _ => False)) id) (H2.out.2.2.2.2.trans (b28.mono H2.out.2.2.2.2.size))))
    clear b8 b28 q0 q1 r0 r1 hpb hpr hsm hch
    go_upto_region 8 with (fail)
    have q0 : W8.cell? ⟨w.heap.size, 0, none⟩ = some (.slice A N.length c) := H8.out.2.1.cell 0
    have q1 : W8.cell? ⟨w.heap.size, 1, none⟩ = some (.slice B E.length d) := H8.out.2.1.cell 1
    have hch := echeck_any W8 A c B d N E H8.out.1
    obtain ⟨z, hz9⟩ : ∃ z, checkI N E = z := ⟨_, rfl⟩
    rw [hz9] at hch
    unfold twoV at hch
    go_wp2_with fail
    refine hch.mono ?_
    rintro e W9 ⟨rfl, b9⟩
    have H9 := Lib.hid (And.intro (H8.out.1.below b9) (And.intro (H8.out.2.1.upd (Upd.of_below b9 (fun _ => False)) id) (H8.out.2.2.trans (b9.mono H8.out.2.2.size))))
    clear b9 q0 q1 hch
    by_cases hz0 : z = 0
    · subst hz0
      obtain ⟨t, ht⟩ : ∃ t, printT N E = t := ⟨_, rfl⟩
      have hpb := parse_back hz9
      have hpr := fun {V : World} {A : Option Addr} {c : Nat} {B : Option Addr} {d : Nat} (h : ForG V A c B d N E) => print_any V A c B d N E h
      have hsm := fun {V : World} {A : Option Addr} {c : Nat} {B : Option Addr} {d : Nat} {A' : Option Addr} {c' : Nat} {B' : Option Addr} {d' : Nat} (h : ForG V A c B d N E) (h' : ForG V A' c' B' d' N E) => esame_any V A c B d N E A' c' B' d' N E h h'
      have hlen := print_len hz9
      rw [ht] at hpb hlen
      simp only [ht, hz9] at hpr
      simp only [same_self] at hsm
      clear ht hz9
      have hlenI : (t.size : Int) ≤ 2048 := by omega
      unfold twoV at hpb hpr hsm
      have q0 : W9.cell? ⟨w.heap.size, 0, none⟩ = some (.slice A N.length c) := H9.out.2.1.cell 0
      have q1 : W9.cell? ⟨w.heap.size, 1, none⟩ = some (.slice B E.length d) := H9.out.2.1.cell 1
      go_wp2_with fail
      refine (hpr H9.out.1).mono ?_
      rintro e W10 ⟨rfl, b10⟩
      go_wp2_with fail
      refine (hpb W10).mono ?_
      rintro e W11 ⟨A4, c4, B4, d4, rfl, g4, b11⟩
      have b34 := b10.trans (b11.mono b10.size)
      have k5 := Blk.new W11 25 #[.slice A4 N.length c4, .slice B4 E.length d4]
      have b5 : Below W11.heap.size W11 (W11.alloc (.cells #[.slice A4 N.length c4, .slice B4 E.length d4] 25)) := (Below.refl _ _).alloc (Nat.le_refl _) _
      have b25 := b34.trans (b5.mono b34.size)
      have H12 := Lib.hid (And.intro (g4.below b5) (And.intro k5 (And.intro (H9.out.1.below b25) (H9.out.2.2.trans (b25.mono H9.out.2.2.size)))))
      have K6 := H9.out.2.1.upd (Upd.of_below b25 (fun _ => False)) id
      clear b10 b11 b34 k5 b5 b25 g4 q0 q1
      go_upto_region 12 with (fail)
      generalize W11.alloc (.cells #[.slice A4 N.length c4, .slice B4 E.length d4] 25) = W12 at H12 K6 ⊢
      have q0 : W12.cell? ⟨w.heap.size, 0, none⟩ = some (.slice A N.length c) := K6.cell 0
      have q1 : W12.cell? ⟨w.heap.size, 1, none⟩ = some (.slice B E.length d) := K6.cell 1
      have r0 : W12.cell? ⟨W11.heap.size, 0, none⟩ = some (.slice A4 N.length c4) := H12.out.2.1.cell 0
      have r1 : W12.cell? ⟨W11.heap.size, 1, none⟩ = some (.slice B4 E.length d4) := H12.out.2.1.cell 1
      clear K6
      go_wp2_with fail
      refine (hsm H12.out.2.2.1 H12.out.1).mono ?_
      rintro e W13 ⟨rfl, b13⟩
      have H13 := Lib.hid (H12.out.2.2.2.trans (b13.mono H12.out.2.2.2.size))
      clear b13 q0 q1 r0 r1 hpb hpr hsm
      go_wp2_with fail
      refine (awake_any W13).mono ?_
      rintro e W14 ⟨rfl, b14⟩
      have FIN := Lib.hid (H13.out.trans (b14.mono H13.out.size))
      clear b14
      go_wp2
      go_ret
      exact ⟨rfl, FIN.out⟩
    · have hzI9 : (z == 0) = false := by simpa using hz0
      go_wp2_with fail
      refine (awake_any W9).mono ?_
      rintro e W14 ⟨rfl, b14⟩
      have FIN := Lib.hid (H9.out.2.2.trans (b14.mono H9.out.2.2.size))
      clear b14
      go_wp2
      go_ret
      exact ⟨rfl, FIN.out⟩
  · have hzI : (z1 == 0) = false := by simpa using hz
    have H8 := Lib.hid (And.intro H2.out.2.2.1 (And.intro H2.out.2.2.2.1 H2.out.2.2.2.2))
    go_upto_region 8 with (fail)
    have q0 : W2.cell? ⟨w.heap.size, 0, none⟩ = some (.slice A N.length c) := H8.out.2.1.cell 0
    have q1 : W2.cell? ⟨w.heap.size, 1, none⟩ = some (.slice B E.length d) := H8.out.2.1.cell 1
    have hch := echeck_any W2 A c B d N E H8.out.1
    obtain ⟨z, hz9⟩ : ∃ z, checkI N E = z := ⟨_, rfl⟩
    rw [hz9] at hch
    unfold twoV at hch
    go_wp2_with fail
    refine hch.mono ?_
    rintro e W9 ⟨rfl, b9⟩
    have H9 := Lib.hid (And.intro (H8.out.1.below b9) (And.intro (H8.out.2.1.upd (Upd.of_below b9 (fun _ => False)) id) (H8.out.2.2.trans (b9.mono H8.out.2.2.size))))
    clear b9 q0 q1 hch
    by_cases hz0 : z = 0
    · subst hz0
      obtain ⟨t, ht⟩ : ∃ t, printT N E = t := ⟨_, rfl⟩
      have hpb := parse_back hz9
      have hpr := fun {V : World} {A : Option Addr} {c : Nat} {B : Option Addr} {d : Nat} (h : ForG V A c B d N E) => print_any V A c B d N E h
      have hsm := fun {V : World} {A : Option Addr} {c : Nat} {B : Option Addr} {d : Nat} {A' : Option Addr} {c' : Nat} {B' : Option Addr} {d' : Nat} (h : ForG V A c B d N E) (h' : ForG V A' c' B' d' N E) => esame_any V A c B d N E A' c' B' d' N E h h'
      have hlen := print_len hz9
      rw [ht] at hpb hlen
      simp only [ht, hz9] at hpr
      simp only [same_self] at hsm
      clear ht hz9
      have hlenI : (t.size : Int) ≤ 2048 := by omega
      unfold twoV at hpb hpr hsm
      have q0 : W9.cell? ⟨w.heap.size, 0, none⟩ = some (.slice A N.length c) := H9.out.2.1.cell 0
      have q1 : W9.cell? ⟨w.heap.size, 1, none⟩ = some (.slice B E.length d) := H9.out.2.1.cell 1
      go_wp2_with fail
      refine (hpr H9.out.1).mono ?_
      rintro e W10 ⟨rfl, b10⟩
      go_wp2_with fail
      refine (hpb W10).mono ?_
      rintro e W11 ⟨A4, c4, B4, d4, rfl, g4, b11⟩
      have b34 := b10.trans (b11.mono b10.size)
      have k5 := Blk.new W11 25 #[.slice A4 N.length c4, .slice B4 E.length d4]
      have b5 : Below W11.heap.size W11 (W11.alloc (.cells #[.slice A4 N.length c4, .slice B4 E.length d4] 25)) := (Below.refl _ _).alloc (Nat.le_refl _) _
      have b25 := b34.trans (b5.mono b34.size)
      have H12 := Lib.hid (And.intro (g4.below b5) (And.intro k5 (And.intro (H9.out.1.below b25) (H9.out.2.2.trans (b25.mono H9.out.2.2.size)))))
      have K6 := H9.out.2.1.upd (Upd.of_below b25 (fun _ => False)) id
      clear b10 b11 b34 k5 b5 b25 g4 q0 q1
      go_upto_region 12 with (fail)
      generalize W11.alloc (.cells #[.slice A4 N.length c4, .slice B4 E.length d4] 25) = W12 at H12 K6 ⊢
      have q0 : W12.cell? ⟨w.heap.size, 0, none⟩ = some (.slice A N.length c) := K6.cell 0
      have q1 : W12.cell? ⟨w.heap.size, 1, none⟩ = some (.slice B E.length d) := K6.cell 1
      have r0 : W12.cell? ⟨W11.heap.size, 0, none⟩ = some (.slice A4 N.length c4) := H12.out.2.1.cell 0
      have r1 : W12.cell? ⟨W11.heap.size, 1, none⟩ = some (.slice B4 E.length d4) := H12.out.2.1.cell 1
      clear K6
      go_wp2_with fail
      refine (hsm H12.out.2.2.1 H12.out.1).mono ?_
      rintro e W13 ⟨rfl, b13⟩
      have H13 := Lib.hid (H12.out.2.2.2.trans (b13.mono H12.out.2.2.2.size))
      clear b13 q0 q1 r0 r1 hpb hpr hsm
      go_wp2_with fail
      refine (awake_any W13).mono ?_
      rintro e W14 ⟨rfl, b14⟩
      have FIN := Lib.hid (H13.out.trans (b14.mono H13.out.size))
      clear b14
      go_wp2
      go_ret
      exact ⟨rfl, FIN.out⟩
    · have hzI9 : (z == 0) = false := by simpa using hz0
      go_wp2_with fail
      refine (awake_any W9).mono ?_
      rintro e W14 ⟨rfl, b14⟩
      have FIN := Lib.hid (H9.out.2.2.trans (b14.mono H9.out.2.2.size))
      clear b14
      go_wp2
      go_ret
      exact ⟨rfl, FIN.out⟩
end Go.Proofs.Ythmkgnifcbnkpaa
