/- Edges: Print; some answers that the document fixes. -/
import Derived.Test.YthmkgnifcbnkpaaGreatPaB
import Derived.Test.YthmkgnifcbnkpaaGreatPaC
namespace Go.Proofs.YthmkgnifcbnkpaaGreat
open Go.RowKit

def printT (N : List Txt) (E : List Ed) : Txt := if checkI N E = 0 then ⟨(textL N E).toArray⟩ else ⟨#[]⟩
set_option maxHeartbeats 1000000 in
set_option maxRecDepth 20000 in
theorem print_any (w : World) (A : Option Addr) (c : Nat) (B : Option Addr) (d : Nat) (N : List Txt) (E : List Ed) (h : ForG w A c B d N E) :
    Calls Tryz.prog 21 #[twoV A N.length c B E.length d] w (Sam w (.tuple #[.string (printT N E), .int .i64 (checkI N E)])) := by
  have k0 := Blk.new w 25 #[.slice A N.length c, .slice B E.length d]
  have u0 : Below w.heap.size w (w.alloc (.cells #[.slice A N.length c, .slice B E.length d] 25)) := (Below.refl _ _).alloc (Nat.le_refl _) _
  have H := Lib.hid (And.intro (h.below u0) (And.intro k0 u0))
  clear h k0 u0
  obtain ⟨z, hz⟩ : ∃ z, checkI N E = z := ⟨_, rfl⟩
  have HZ := Lib.hid hz
  rw [hz]
  clear hz
  obtain ⟨t, ht⟩ : ∃ t, printT N E = t := ⟨_, rfl⟩
  have HT := Lib.hid ht
  rw [ht]
  clear ht
  unfold twoV
  go_enter Tryz.func21, Tryz.ntmps21
  go_upto_region 1 with (fail)
  generalize w.alloc (.cells #[.slice A N.length c, .slice B E.length d] 25) = W0 at H ⊢
  have q0 : W0.cell? ⟨w.heap.size, 0, none⟩ = some (.slice A N.length c) := H.out.2.1.cell 0
  have q1 : W0.cell? ⟨w.heap.size, 1, none⟩ = some (.slice B E.length d) := H.out.2.1.cell 1
  go_wp2_with fail
  refine (echeck_any W0 A c B d N E H.out.1).mono ?_
  rintro e W1 ⟨rfl, b1⟩
  rw [HZ.out]
  have k1 := H.out.2.1.upd (Upd.of_below b1 (fun _ => False)) id
  have H1 := Lib.hid (And.intro (H.out.1.below b1) (H.out.2.2.trans (b1.mono H.out.2.2.size)))
  clear q0 q1 b1
  have q0 : W1.cell? ⟨w.heap.size, 0, none⟩ = some (.slice A N.length c) := k1.cell 0
  have q1 : W1.cell? ⟨w.heap.size, 1, none⟩ = some (.slice B E.length d) := k1.cell 1
  clear k1
  by_cases h0 : z = 0
  · subst h0
    obtain ⟨h1, h2, h3⟩ := check_caps HZ.out
    have h4 := caps_le h3
    have hcon := text_any W1 A c B d N E H1.out.1 (Short.of h2) h4.1 h4.2.2.1
    clear h1 h2 h3 h4
    rw [show (⟨(textL N E).toArray⟩ : Txt) = t by rw [← HT.out, printT, if_pos HZ.out]] at hcon
    go_wp2_with fail
    refine hcon.mono ?_
    rintro e W2 ⟨rfl, b2⟩
    have FIN := Lib.hid (H1.out.2.trans (b2.mono H1.out.2.size))
    clear q0 q1 b2
    go_wp2
    refine bodyPost_ret (v := .tuple #[.string t, .int .i64 0]) (by simp [results, Tryz.f21, go_sem]) rfl ⟨rfl, FIN.out⟩
  · have h0I : (z == 0) = false := by simpa using h0
    obtain rfl : t = ⟨#[]⟩ := by rw [← HT.out, printT, if_neg (by rw [HZ.out]; exact h0)]
    go_wp2
    refine bodyPost_ret (v := .tuple #[.string ⟨#[]⟩, .int .i64 z]) (by simp [results, Tryz.f21, go_sem]) rfl ⟨rfl, H1.out.2⟩
set_option maxHeartbeats 4000000 in
set_option maxRecDepth 20000 in
theorem awake_any (w : World) : Calls Tryz.prog 12 #[] w (Sam w (.bool true)) := by
  have p1 := fun W => parse_any aw1 W (by decide)
  have p2 := fun W => parse_any aw2 W (by decide)
  unfold ParseP at p1 p2
  rw [parse_aw1] at p1
  rw [parse_aw2] at p2
  dsimp only at p1 p2
  have ht : printT [tB, tC, tX] awE = aw3 := by
    rw [printT, if_pos check_aw, text_aw]
  unfold aw1 at p1
  unfold aw2 at p2
  go_enter Tryz.func12, Tryz.ntmps12
  go_wp2_with fail
  refine (p1 w).mono ?_
  rintro e W1 ⟨A, c, B, d, rfl, o1, o2, b1⟩
  have k2 := Blk.new W1 25 #[.slice A 3 c, .slice B 2 d]
  have b2 : Below W1.heap.size W1 (W1.alloc (.cells #[.slice A 3 c, .slice B 2 d] 25)) := (Below.refl _ _).alloc (Nat.le_refl _) _
  have hG : ForG (W1.alloc (.cells #[.slice A 3 c, .slice B 2 d] 25)) A c B d [tB, tC, tX] awE :=
    ⟨(RowR.of_own o1).below b2, (RowR.of_own o2).below b2, own_le o1, own_le o2, ⟨by decide, by decide, fun s hs => by
      simp only [List.mem_cons, List.not_mem_nil, or_false] at hs
      rcases hs with rfl | rfl | rfl <;> (unfold TxtOk; decide), fun x hx => by
      simp only [awE, List.mem_cons, List.not_mem_nil, or_false] at hx
      rcases hx with rfl | rfl <;> (unfold EdOk TxtOk; decide)⟩⟩
  have hpr := print_any _ A c B d [tB, tC, tX] awE hG
  rw [ht, check_aw] at hpr
  have bw := b1.trans (b2.mono b1.size)
  have HB := Lib.hid bw
  have q0 := k2.cell 0
  have q1 := k2.cell 1
  simp only [List.getElem?_toArray, List.getElem?_cons_succ, List.getElem?_cons_zero] at q0 q1
  clear k2 b2 hG o1 o2 b1 bw ht p1
  unfold twoV at hpr ⊢
  go_wp2_with fail
  refine hpr.mono ?_
  rintro e W3 ⟨rfl, b3⟩
  have HB3 := Lib.hid (HB.out.trans (b3.mono HB.out.size))
  clear q0 q1 b3 hpr
  go_wp2_with fail
  refine (p2 W3).mono ?_
  rintro e W4 ⟨A4, c4, B4, d4, rfl, -, -, b4⟩
  have HB4 := Lib.hid ((HB3.out.trans (b4.mono HB3.out.size)).alloc (HB3.out.trans (b4.mono HB3.out.size)).size (.cells #[.slice A4 0 c4, .slice B4 0 d4] 25))
  clear b4 p2
  unfold twoV aw3
  go_wp2
  go_ret
  exact ⟨rfl, HB4.out⟩
end Go.Proofs.YthmkgnifcbnkpaaGreat
