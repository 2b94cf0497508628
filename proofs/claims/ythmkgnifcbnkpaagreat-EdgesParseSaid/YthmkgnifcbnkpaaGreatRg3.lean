/- The document's answer of layer 16, third part: caps, Check, Made, Of, Print; copies with marks (merged of RfI, RfJ, LwA, LwB). -/
import Derived.Test.YthmkgnifcbnkpaaGreatRg2
import Derived.Test.YthmkgnifcbnkpaaGreatRg1
import Derived.Test.YthmkgnifcbnkpaaGreatPaD
import Derived.Test.YthmkgnifcbnkpaaGreatEdM
namespace Go.Proofs.YthmkgnifcbnkpaaGreat
open Go.RowKit

set_option maxHeartbeats 1000000 in
set_option maxRecDepth 20000 in
theorem refCaps_any (w : World) (A : Option Addr) (c : Nat) (B : Option Addr) (d : Nat) (N : List Txt) (E : List Ed) (h : ForG w A c B d N E) (hs : Short N E) :
    Calls Tryz.prog 57 #[twoV A N.length c B E.length d] w (Sam w (.int .i64 (capsI N E))) := by
  have k0 := Blk.new w 25 #[.slice A N.length c, .slice B E.length d]
  have u0 : Below w.heap.size w (w.alloc (.cells #[.slice A N.length c, .slice B E.length d] 25)) := (Below.refl _ _).alloc (Nat.le_refl _) _
  have H := Lib.hid (And.intro (h.below u0) (And.intro k0 (And.intro u0 hs)))
  clear h k0 u0 hs
  unfold twoV
  go_enter Tryz.func57, Tryz.ntmps57
  go_upto_region 1 with (fail)
  generalize w.alloc (.cells #[.slice A N.length c, .slice B E.length d] 25) = W0 at H ⊢
  have q0 : W0.cell? ⟨w.heap.size, 0, none⟩ = some (.slice A N.length c) := H.out.2.1.cell 0
  have q1 : W0.cell? ⟨w.heap.size, 1, none⟩ = some (.slice B E.length d) := H.out.2.1.cell 1
  by_cases h1 : 32 < N.length
  · have h1I : (32 : Int) < (N.length : Int) := by omega
    have HX := Lib.hid (show (260 : Int) = capsI N E by rw [capsI, if_pos h1])
    clear h1
    go_wp2
    go_ret
    exact ⟨reti HX.out, H.out.2.2.1⟩
  have h1I : ¬ (32 : Int) < (N.length : Int) := by omega
  go_wp2_with fail
  refine (refLabels_any W0 B d E H.out.1.re H.out.1.fit.e).mono ?_
  rintro e w1 ⟨v, rfl, own1, b1⟩
  obtain ⟨M, hM⟩ : ∃ M, setOf ltT (lbs E) = M := ⟨_, rfl⟩
  rw [hM] at own1
  obtain ⟨A1, c1, rfl, -, -⟩ := own_form own1
  have eM := hM.symm
  have hlen := True.intro
  have k1 := H.out.2.1.upd (Upd.of_below b1 (fun _ => False)) id
  have H1 := Lib.hid (And.intro (H.out.1.below b1) (And.intro k1 (H.out.2.2.1.trans (b1.mono H.out.2.2.1.size))))
  have hME : M.length = (setOf ltT (lbs E)).length := by rw [← eM]
  clear own1 b1 q0 q1 k1 hM eM
  have q0 : w1.cell? ⟨w.heap.size, 0, none⟩ = some (.slice A N.length c) := H1.out.2.1.cell 0
  have q1 : w1.cell? ⟨w.heap.size, 1, none⟩ = some (.slice B E.length d) := H1.out.2.1.cell 1
  obtain ⟨k, hk⟩ : ∃ k, M.length = k := ⟨_, rfl⟩
  rw [hk] at hME ⊢
  have HM := Lib.hid hME
  by_cases h2 : 16 < k
  · have h2I : (16 : Int) < (k : Int) := by omega
    have HX := Lib.hid (show (261 : Int) = capsI N E by rw [capsI, if_neg h1, if_pos (by rw [← HM.out]; exact h2)])
    clear h2 h1 hk hME hlen
    go_wp2
    go_ret
    exact ⟨reti HX.out, H1.out.2.2⟩
  have h2I : ¬ (16 : Int) < (k : Int) := by omega
  by_cases h3 : 256 < E.length
  · have h3I : (256 : Int) < (E.length : Int) := by omega
    have HX := Lib.hid (show (262 : Int) = capsI N E by rw [capsI, if_neg h1, if_neg (by rw [← HM.out]; exact h2), if_pos h3])
    clear h2 h1 h3 hk hME hlen
    go_wp2
    go_ret
    exact ⟨reti HX.out, H1.out.2.2⟩
  have h3I : ¬ (256 : Int) < (E.length : Int) := by omega
  have HH := Lib.hid (And.intro h1 (And.intro h2 h3))
  clear h1 h2 h3 hk hME hlen
  go_wp2_with fail
  refine (refText_any w1 A c B d N E H1.out.1 H.out.2.2.2 (by have := HH.out.1; omega) (by have := HH.out.2.2; omega)).mono ?_
  rintro e w2 ⟨rfl, b2⟩
  have HB := Lib.hid (H1.out.2.2.trans (b2.mono H1.out.2.2.size))
  clear b2 q0 q1
  obtain ⟨t, ht⟩ : ∃ t : Txt, (⟨(textL N E).toArray⟩ : Txt) = t := ⟨_, rfl⟩
  have hts : t.size = (textL N E).length := by rw [← ht]; simp [ByteArray.size]
  rw [ht]
  by_cases h4 : 2048 < t.size
  · have h4I : (2048 : Int) < (t.size : Int) := by omega
    have HX := Lib.hid (show (174 : Int) = capsI N E by rw [capsI, if_neg HH.out.1, if_neg (by rw [← HM.out]; exact HH.out.2.1), if_neg HH.out.2.2, if_pos (by omega)])
    clear h4 ht hts
    go_wp2
    go_ret
    exact ⟨reti HX.out, HB.out⟩
  · have h4I : ¬ (2048 : Int) < (t.size : Int) := by omega
    have HX := Lib.hid (show (0 : Int) = capsI N E by rw [capsI, if_neg HH.out.1, if_neg (by rw [← HM.out]; exact HH.out.2.1), if_neg HH.out.2.2, if_neg (by omega)])
    clear h4 ht hts
    go_wp2
    go_ret
    exact ⟨reti HX.out, HB.out⟩

set_option maxHeartbeats 1000000 in
set_option maxRecDepth 20000 in
theorem refCheck_any (w : World) (A : Option Addr) (c : Nat) (B : Option Addr) (d : Nat) (N : List Txt) (E : List Ed) (h : ForG w A c B d N E) :
    Calls Tryz.prog 23 #[twoV A N.length c B E.length d] w (Sam w (.int .i64 (checkI N E))) := by
  have k0 := Blk.new w 25 #[.slice A N.length c, .slice B E.length d]
  have u0 : Below w.heap.size w (w.alloc (.cells #[.slice A N.length c, .slice B E.length d] 25)) := (Below.refl _ _).alloc (Nat.le_refl _) _
  have H := Lib.hid (And.intro (h.below u0) (And.intro k0 u0))
  clear h k0 u0
  obtain ⟨b0, hb0⟩ : ∃ b, formB N E = b := ⟨_, rfl⟩
  obtain ⟨b1, hb1⟩ : ∃ b, namedB N E = b := ⟨_, rfl⟩
  have HB := Lib.hid (And.intro hb0 hb1)
  clear hb0 hb1
  unfold twoV
  go_enter Tryz.func23, Tryz.ntmps23
  go_upto_region 1 with (fail)
  generalize w.alloc (.cells #[.slice A N.length c, .slice B E.length d] 25) = W0 at H ⊢
  have q0 : W0.cell? ⟨w.heap.size, 0, none⟩ = some (.slice A N.length c) := H.out.2.1.cell 0
  have q1 : W0.cell? ⟨w.heap.size, 1, none⟩ = some (.slice B E.length d) := H.out.2.1.cell 1
  go_wp2_with fail
  refine (refForm_any W0 A c B d N E H.out.1).mono ?_
  rintro e w1 ⟨rfl, u1⟩
  rw [HB.out.1]
  have k1 := H.out.2.1.upd (Upd.of_below u1 (fun _ => False)) id
  have H1 := Lib.hid (And.intro (H.out.1.below u1) (And.intro k1 (H.out.2.2.trans (u1.mono H.out.2.2.size))))
  clear u1 q0 q1 k1
  have q0 : w1.cell? ⟨w.heap.size, 0, none⟩ = some (.slice A N.length c) := H1.out.2.1.cell 0
  have q1 : w1.cell? ⟨w.heap.size, 1, none⟩ = some (.slice B E.length d) := H1.out.2.1.cell 1
  cases b0
  · go_wp2
    go_ret
    exact ⟨reti (by rw [checkI, if_pos HB.out.1]), H1.out.2.2⟩
  go_wp2_with fail
  refine (refNamed_any w1 A c B d N E H1.out.1).mono ?_
  rintro e w2 ⟨rfl, u2⟩
  rw [HB.out.2]
  have k2 := H1.out.2.1.upd (Upd.of_below u2 (fun _ => False)) id
  have H2 := Lib.hid (And.intro (H1.out.1.below u2) (And.intro k2 (H1.out.2.2.trans (u2.mono H1.out.2.2.size))))
  clear u2 q0 q1 k2
  have q0 : w2.cell? ⟨w.heap.size, 0, none⟩ = some (.slice A N.length c) := H2.out.2.1.cell 0
  have q1 : w2.cell? ⟨w.heap.size, 1, none⟩ = some (.slice B E.length d) := H2.out.2.1.cell 1
  cases b1
  · go_wp2
    go_ret
    exact ⟨reti (by rw [checkI, if_neg (by rw [HB.out.1]; simp), if_pos HB.out.2]), H2.out.2.2⟩
  go_wp2_with fail
  refine (refCaps_any w2 A c B d N E H2.out.1 (Short.of HB.out.2)).mono ?_
  rintro e w3 ⟨rfl, u3⟩
  have FIN := Lib.hid (H2.out.2.2.trans (u3.mono H2.out.2.2.size))
  have HE := Lib.hid (show capsI N E = checkI N E by rw [checkI, if_neg (by rw [HB.out.1]; simp), if_neg (by rw [HB.out.2]; simp)])
  clear u3 q0 q1
  go_wp2
  go_ret
  exact ⟨reti HE.out, FIN.out⟩
end Go.Proofs.YthmkgnifcbnkpaaGreat
namespace Go.Proofs.YthmkgnifcbnkpaaGreat
open Go.RowKit

set_option maxHeartbeats 3000000 in
set_option maxRecDepth 100000 in
theorem refMade_any (w : World) (A : Option Addr) (c : Nat) (B : Option Addr) (d : Nat) (N : List Txt) (E : List Ed) (h : ForG w A c B d N E) (hs : Short N E) (hb : (N.length + E.length * 2) * 16 ≤ 140737488355328) :
    Calls Tryz.prog 47 #[.slice A N.length c, .slice B E.length d] w (MadeP w N E) := by
  have k0 := Blk.new w 25 #[.slice none 0 0, .slice none 0 0]
  have u0 : Below w.heap.size w (w.alloc (.cells #[.slice none 0 0, .slice none 0 0] 25)) := (Below.refl _ _).alloc (Nat.le_refl _) _
  have he : E.length * 48 ≤ 140737488355328 := h.fit.e
  have hn : N.length * 16 ≤ 140737488355328 := h.fit.n
  have HB := Lib.hid (show ∀ (j : Nat) (x : Ed), E[j]? = some x → ∃ b o, B = some ⟨b, o, none⟩ ∧ b < w.heap.size from fun j x hx => by obtain ⟨b, o, e, y0, -⟩ := h.re.ed hx; exact ⟨b, o, e, World.block_lt_of_cell? _ _ y0⟩)
  have H := Lib.hid (And.intro (h.below u0) (And.intro k0 (And.intro u0 hs)))
  clear h k0 u0 hs
  go_enter Tryz.func47, Tryz.ntmps47
  go_upto_region 1 with (fail)
  generalize w.alloc (.cells #[.slice none 0 0, .slice none 0 0] 25) = W0 at H ⊢
  have hz0 : w.heap.size + 1 ≤ W0.heap.size := H.out.2.1.lt
  have bz : Below W0.heap.size W0 (W0.alloc (.cells #[] 9)) := (Below.refl _ _).alloc (Nat.le_refl _) _
  obtain ⟨A1, c1, w1, happ, own1, b1⟩ := append_row (W0.alloc (.cells #[] 9)) W0.heap.size 22 9 1 16 _ Tryz.underlying22 info_string rfl (by decide) (by decide) (some ⟨W0.heap.size, 0, none⟩) 0 0 [] (own_zero W0 _ 1) A N.length c (txtCells N) (H.out.1.rn.below bz) (txtCells_len N) (one_txt N) (by omega) (by simp)
  rw [Nat.zero_add] at happ own1
  rw [List.nil_append] at own1
  have H1 := Lib.hid (And.intro own1 (bz.trans b1))
  clear own1 b1 bz
  go_wp2_with (at_builtin; refine wpList_append_run rfl _ _ _ rfl rfl rfl happ ?_)
  clear happ
  go_loopw [6, 7] (fun v i wr => ∃ k : Nat, k ≤ E.length ∧ i = .int .i64 k ∧ Hid (Below W0.heap.size W0 wr) ∧ Hid (wr.ownsRow W0.heap.size 9 1 v (allT N (E.take k)).length (txtCells (allT N (E.take k))))) (fun _ i _ => E.length - (intOf i).toNat)
  case atStart => exact ⟨0, Nat.zero_le _, rfl, Lib.hid H1.out.2, Lib.hid (by simpa [allT] using H1.out.1)⟩
  case round =>
    obtain ⟨k, hk, rfl, hbw, how⟩ := hrel
    have hal := allT_len N (E.take k)
    have htl : (E.take k).length ≤ k := by rw [List.length_take]; omega
    by_cases hlt : k < E.length
    · have hltI : (k : Int) < (E.length : Int) := by omega
      have hkw : IntKind.i64.wrap ((k : Int) + 1) = (k : Int) + 1 := IntWalk.i64_in _ (by omega)
      obtain ⟨⟨s0, s1, s2⟩, hx⟩ : ∃ x, E[k]? = some x := ⟨E[k], List.getElem?_eq_getElem _⟩
      obtain ⟨ab, ao, rfl, x0, x1, x2⟩ := (H.out.1.below hbw.out).re.ed hx
      dsimp only at x0 x1 x2
      obtain ⟨v6, w6, happ, own6, b6⟩ := push_two wr.drew W0.heap.size _ (allT N (E.take k)) how.out s0 s2 (by omega) hbw.out.size
      have hst := allT_step (N := N) hx
      dsimp only at hst
      rw [← hst] at own6
      have HN := Lib.hid (And.intro (hbw.out.drew.trans b6) own6)
      have SR := Lib.hid (show ∀ W, Below W0.heap.size W0 W → W.cell? ⟨ab, ao + k * 3, none⟩ = some (.string s0) ∧ W.cell? ⟨ab, ao + k * 3 + 2, none⟩ = some (.string s2) from fun W hb => by
        obtain ⟨y0, y1, y2⟩ := (H.out.1.below hb).re.ed_at hx
        exact ⟨y0, y2⟩)
      have hS := SR.out _ hbw.out.drew
      have HBW := Lib.hid hbw.out
      clear own6 b6 hst hx
      go_upto_region 5 with (fail)
      refine wp_region_ord (fun W => W.cell? ⟨ab, ao + k * 3, none⟩ = some (.string s0) ∧ W.cell? ⟨ab, ao + k * 3 + 2, none⟩ = some (.string s2)) 14 [(0, true), (1, true), (2, true), (3, true), (4, true), (5, true), (6, true), (7, true), (8, true), (9, true), (10, true), (11, false), (12, false), (13, true)] (by kernel_rfl) (by kernel_rfl) (fun _ _ d _ _ h => by cases d <;> exact h) hS ?_
      iterate 11 (refine ord_take (v := ?_) rfl (by first | with_reducible rfl | kernel_rfl) ?_ ?_; rotate_left; (focus (intro wS hS; (try dsimp only at hS); go_split_ands; go_simp; (try with_reducible rfl); done)); (try simp only [Act.put, List.getElem_toArray, List.getElem_cons_succ, List.getElem_cons_zero, List.setIfInBounds_toArray, List.set_cons_zero, List.set_cons_succ]))
      refine ord_do rfl rfl (fun K hK => ?_)
      go_simp
      refine hK _ _ (fun _ => SR.out _ (HBW.out.drew.alloc HBW.out.size _)) ?_
      clear hK K
      (try simp only [Act.put, List.getElem_toArray, List.getElem_cons_succ, List.getElem_cons_zero, List.setIfInBounds_toArray, List.set_cons_zero, List.set_cons_succ])
      refine ord_do rfl rfl (fun K hK => ?_)
      refine wp_append_run _ _ _ rfl rfl rfl happ ?_
      refine hK _ _ (fun _ => SR.out _ HN.out.1) ?_
      clear hK K happ
      (try simp only [Act.put, List.getElem_toArray, List.getElem_cons_succ, List.getElem_cons_zero, List.setIfInBounds_toArray, List.set_cons_zero, List.set_cons_succ])
      (refine ord_take (v := ?_) rfl (by first | with_reducible rfl | kernel_rfl) ?_ ?_; rotate_left; (focus (intro wS hS; (try dsimp only at hS); go_split_ands; go_simp; (try with_reducible rfl); done)); (try simp only [Act.put, List.getElem_toArray, List.getElem_cons_succ, List.getElem_cons_zero, List.setIfInBounds_toArray, List.set_cons_zero, List.set_cons_succ]))
      refine ord_done ?_
      clear hS x0 x1 x2
      go_wp2
      go_roundw
      case rel => exact ⟨k + 1, by omega, by go_num, Lib.hid HN.out.1, Lib.hid HN.out.2⟩
      case measure => simp [intOf]; omega
    · obtain rfl : k = E.length := by omega
      obtain ⟨W4, hW4⟩ : ∃ W, W = wr := ⟨_, rfl⟩
      subst hW4
      obtain ⟨A5, c5, rfl, -, -⟩ := own_form how.out
      obtain ⟨n5, hn5⟩ : ∃ n5, (allT N (E.take E.length)).length = n5 := ⟨_, rfl⟩
      have ow := how.out
      rw [List.take_length] at ow hn5
      have rw4 := RowR.of_own ow
      have hl5 : (allT N E).length * 16 ≤ 140737488355328 := by rw [allT_len]; exact hb
      have hsT := texts_any (allT N E).length W4 A5 c5 (allT N E) (Nat.le_refl _) rw4 (own_le ow) hl5
      rw [hn5] at hsT
      rw [List.take_length, hn5]
      have HT := Lib.hid hsT
      have H4 := Lib.hid hbw.out
      clear ow hn5 rw4 hsT how hbw hal htl hk hlt hl5
      go_wp2_with fail
      refine HT.out.mono ?_
      rintro e w5 ⟨v5, rfl, own5, b5⟩
      obtain ⟨M, hM0⟩ : ∃ M, setOf ltT (allT N E) = M := ⟨_, rfl⟩
      rw [hM0] at own5
      have hM : SetOf ltT (allT N E) M := by rw [← hM0]; exact setOf_is stoT _
      have hMl : M.length ≤ (allT N E).length := by rw [← hM0]; exact setOf_len stoT _
      clear hM0
      have eM : M = gN N E := hM.is stoT
      have H5 := Lib.hid (And.intro own5 (And.intro (H4.out.trans (b5.mono H4.out.size)) eM))
      have hM16 : M.length * 16 ≤ 140737488355328 := by rw [allT_len] at hMl; omega
      clear hM hMl own5 b5 eM
      go_wp2_with fail
      refine (sortedR_any E.length w5 B d E (Nat.le_refl _) (H.out.1.below H5.out.2.1).re H.out.1.hd he).mono ?_
      rintro e w6 ⟨v6, rfl, own6, b6⟩
      obtain ⟨F, hF0⟩ : ∃ F, setOf ltE E = F := ⟨_, rfl⟩
      rw [hF0] at own6
      have hF : SetOf ltE E F := by rw [← hF0]; exact setOf_is stoE _
      have hFl : F.length ≤ E.length := by rw [← hF0]; exact setOf_len stoE _
      clear hF0
      have eF : F = gE E := hF.is stoE
      have hF48 : F.length * 48 ≤ 140737488355328 := by omega
      obtain ⟨A6, c6, rfl, hc6, -⟩ := own_form H5.out.1
      obtain ⟨A7, c7, rfl, hc7, -⟩ := own_form own6
      have o5 := ownsRow_upd H5.out.1 (Upd.of_below b6 (fun _ => False)) (fun _ _ => id)
      have H6 := Lib.hid (And.intro o5 (And.intro own6 (And.intro (H5.out.2.1.trans (b6.mono H5.out.2.1.size)) (And.intro eF (And.intro hc6 hc7)))))
      clear hF hFl own6 b6 eF o5 hc6 hc7
      go_upto_region 7 with (fail)
      have k7 := Blk.new w6 25 #[.slice A6 M.length c6, .slice A7 F.length c7]
      have b7 : Below w6.heap.size w6 (w6.alloc (.cells #[.slice A6 M.length c6, .slice A7 F.length c7] 25)) := (Below.refl _ _).alloc (Nat.le_refl _) _
      have o7 := H6.out.1.alloc (.cells #[.slice A6 M.length c6, .slice A7 F.length c7] 25)
      have o8 := H6.out.2.1.alloc (.cells #[.slice A6 M.length c6, .slice A7 F.length c7] 25)
      have H7 := Lib.hid (And.intro k7 (And.intro o7 (And.intro o8 (H6.out.2.2.1.trans (b7.mono H6.out.2.2.1.size)))))
      clear k7 b7 o7 o8
      generalize w6.alloc (.cells #[.slice A6 M.length c6, .slice A7 F.length c7] 25) = W7 at H7 ⊢
      have q0 : W7.cell? ⟨w6.heap.size, 0, none⟩ = some (.slice A6 M.length c6) := H7.out.1.cell 0
      have q1 : W7.cell? ⟨w6.heap.size, 1, none⟩ = some (.slice A7 F.length c7) := H7.out.1.cell 1
      have hG : ForG W7 A6 c6 A7 c7 M F := ⟨RowR.of_own H7.out.2.1, RowR.of_own H7.out.2.2.1, H6.out.2.2.2.2.1, H6.out.2.2.2.2.2, fit_made H.out.2.2.2 H5.out.2.2 H6.out.2.2.2.1 hM16 hF48⟩
      have hsh : Short M F := by rw [H5.out.2.2, H6.out.2.2.2.1]; exact short_made H.out.2.2.2
      have HG := Lib.hid (And.intro hG hsh)
      clear hG hsh
      go_wp2_with fail
      refine (refCaps_any W7 A6 c6 A7 c7 M F HG.out.1 HG.out.2).mono ?_
      rintro e w8 ⟨rfl, b8⟩
      have bb := H7.out.2.2.2.trans (b8.mono H7.out.2.2.2.size)
      have k8 := H.out.2.1.upd (Upd.of_below bb (fun _ => False)) id
      have c0 : w8.cell? ⟨w.heap.size, 0, none⟩ = some (.slice none 0 0) := k8.cell 0
      have c1' : w8.cell? ⟨w.heap.size, 1, none⟩ = some (.slice none 0 0) := k8.cell 1
      have f0 := k8.frozen 0
      have f1 := k8.frozen 1
      have k9 := H7.out.1.upd (Upd.of_below b8 (fun _ => False)) id
      have bw : Below w.heap.size w w8 := H.out.2.2.1.trans (bb.mono (by omega))
      have oT := ownsRow_upd H7.out.2.1 (Upd.of_below b8 (fun _ => False)) (fun _ _ => id)
      have oE := ownsRow_upd H7.out.2.2.1 (Upd.of_below b8 (fun _ => False)) (fun _ _ => id)
      have z7 := H4.out.size
      have z5 := H5.out.2.1.size
      have fin : ∀ v0 v1 : Value, (w8.setCell ⟨w.heap.size, 0, none⟩ v0).setCell ⟨w.heap.size, 1, none⟩ v1 = (w8.setCell ⟨w.heap.size, 0, none⟩ v0).setCell ⟨w.heap.size, 1, none⟩ v1 ∧ Blk ((w8.setCell ⟨w.heap.size, 0, none⟩ v0).setCell ⟨w.heap.size, 1, none⟩ v1) w.heap.size 25 #[v0, v1] ∧ Upd (fun q => q = w.heap.size) w8 ((w8.setCell ⟨w.heap.size, 0, none⟩ v0).setCell ⟨w.heap.size, 1, none⟩ v1) := fun v0 v1 =>
        ⟨rfl, (k8.set 0 v0).set 1 v1, ((Upd.refl (fun q => q = w.heap.size) w8).setCell (p := ⟨w.heap.size, 0, none⟩) (.inl rfl) v0).setCell (p := ⟨w.heap.size, 1, none⟩) (.inl rfl) v1⟩
      obtain ⟨cp, hcp⟩ : ∃ cp, capsI M F = cp := ⟨_, rfl⟩
      have hcg : capsI (gN N E) (gE E) = cp := by rw [← H5.out.2.2, ← H6.out.2.2.2.1]; exact hcp
      rw [hcp]
      by_cases h0 : cp = 0
      · subst h0
        obtain ⟨-, kF, uF⟩ := fin (.slice A6 M.length c6) (.slice A7 F.length c7)
        have e0 := kF.cell 0
        have e1 := kF.cell 1
        simp only [List.getElem?_toArray, List.getElem?_cons_succ, List.getElem?_cons_zero] at e0 e1
        have q0 : w8.cell? ⟨w6.heap.size, 0, none⟩ = some (.slice A6 M.length c6) := k9.cell 0
        have q1 : w8.cell? ⟨w6.heap.size, 1, none⟩ = some (.slice A7 F.length c7) := k9.cell 1
        have post : MadeP w N E (.returned (.tuple #[twoV A6 M.length c6 A7 F.length c7, .int .i64 0])) ((w8.setCell ⟨w.heap.size, 0, none⟩ (.slice A6 M.length c6)).setCell ⟨w.heap.size, 1, none⟩ (.slice A7 F.length c7)) := by
          refine .inl ⟨hcg, A6, c6, A7, c7, by rw [← H5.out.2.2, ← H6.out.2.2.2.1], ?_, ?_, bw.trans (uF.below (fun q _ e => by omega) bw.size)⟩
          · rw [← H5.out.2.2]
            exact ownsRow_base (ownsRow_upd oT uF (fun q hq e => by have := (oT.lt q hq).1; omega)) (fun q hq => by have := (oT.lt q hq).1; omega)
          · rw [← H6.out.2.2.2.1]
            exact ownsRow_base (ownsRow_upd oE uF (fun q hq e => by have := (oE.lt q hq).1; omega)) (fun q hq => by have := (oE.lt q hq).1; omega)
        have FIN := Lib.hid post
        clear post kF uF fin hcp hcg oT oE k8 k9 bb bw b8
        go_wp2
        refine bodyPost_ret (v := .tuple #[twoV A6 M.length c6 A7 F.length c7, .int .i64 0]) (by simp [results, Tryz.f47, go_sem, twoV, e0, e1]) rfl FIN.out
      · obtain ⟨-, kF, uF⟩ := fin (.slice none 0 0) (.slice none 0 0)
        have e0 := kF.cell 0
        have e1 := kF.cell 1
        simp only [List.getElem?_toArray, List.getElem?_cons_succ, List.getElem?_cons_zero] at e0 e1
        have post : MadeP w N E (.returned (.tuple #[twoV none 0 0 none 0 0, .int .i64 cp])) ((w8.setCell ⟨w.heap.size, 0, none⟩ (.slice none 0 0)).setCell ⟨w.heap.size, 1, none⟩ (.slice none 0 0)) :=
          .inr ⟨by rw [hcg]; exact h0, by rw [hcg], bw.trans (uF.below (fun q _ e => by omega) bw.size)⟩
        have FIN := Lib.hid post
        have hne : (cp == 0) = false := by simpa using h0
        have hne2 : (cp != 0) = true := by simpa using h0
        clear post kF uF fin hcp hcg oT oE k8 k9 bb bw b8 h0
        go_wp2
        refine bodyPost_ret (v := .tuple #[twoV none 0 0 none 0 0, .int .i64 cp]) (by simp [results, Tryz.f47, go_sem, twoV, e0, e1]) rfl FIN.out
set_option maxHeartbeats 1000000 in
set_option maxRecDepth 20000 in
theorem refOf_any (w : World) (A : Option Addr) (c : Nat) (B : Option Addr) (d : Nat) (N : List Txt) (E : List Ed) (h : ForG w A c B d N E) (hb : (N.length + E.length * 2) * 16 ≤ 140737488355328) :
    Calls Tryz.prog 15 #[.slice A N.length c, .slice B E.length d] w (OfP w N E) := by
  have k0 := Blk.new w 25 #[.slice none 0 0, .slice none 0 0]
  have u0 : Below w.heap.size w (w.alloc (.cells #[.slice none 0 0, .slice none 0 0] 25)) := (Below.refl _ _).alloc (Nat.le_refl _) _
  have H := Lib.hid (And.intro (h.below u0) (And.intro k0 u0))
  clear h k0 u0
  obtain ⟨b0, hb0⟩ : ∃ b, namedB N E = b := ⟨_, rfl⟩
  have HN := Lib.hid hb0
  clear hb0
  go_enter Tryz.func15, Tryz.ntmps15
  go_upto_region 1 with (fail)
  generalize w.alloc (.cells #[.slice none 0 0, .slice none 0 0] 25) = W0 at H ⊢
  have hz0 : w.heap.size + 1 ≤ W0.heap.size := H.out.2.1.lt
  go_wp2_with fail
  refine (refNamed_any W0 A c B d N E H.out.1).mono ?_
  rintro e w1 ⟨rfl, b1⟩
  rw [HN.out]
  have k1 := H.out.2.1.upd (Upd.of_below b1 (fun _ => False)) id
  have fin : ∀ w8 : World, Blk w8 w.heap.size 25 #[.slice none 0 0, .slice none 0 0] → ∀ v0 v1 : Value, Blk ((w8.setCell ⟨w.heap.size, 0, none⟩ v0).setCell ⟨w.heap.size, 1, none⟩ v1) w.heap.size 25 #[v0, v1] ∧ Upd (fun q => q = w.heap.size) w8 ((w8.setCell ⟨w.heap.size, 0, none⟩ v0).setCell ⟨w.heap.size, 1, none⟩ v1) := fun w8 k8 v0 v1 =>
    ⟨(k8.set 0 v0).set 1 v1, ((Upd.refl (fun q => q = w.heap.size) w8).setCell (p := ⟨w.heap.size, 0, none⟩) (.inl rfl) v0).setCell (p := ⟨w.heap.size, 1, none⟩) (.inl rfl) v1⟩
  have H1 := Lib.hid (And.intro (H.out.1.below b1) (And.intro k1 (H.out.2.2.trans (b1.mono H.out.2.2.size))))
  have FN := Lib.hid fin
  have z1 := b1.size
  clear k1 b1 fin
  cases b0
  · have c0 : w1.cell? ⟨w.heap.size, 0, none⟩ = some (.slice none 0 0) := H1.out.2.1.cell 0
    have c1' : w1.cell? ⟨w.heap.size, 1, none⟩ = some (.slice none 0 0) := H1.out.2.1.cell 1
    have f0 := H1.out.2.1.frozen 0
    have f1 := H1.out.2.1.frozen 1
    obtain ⟨kF, uF⟩ := FN.out _ H1.out.2.1 (.slice none 0 0) (.slice none 0 0)
    have e0 := kF.cell 0
    have e1 := kF.cell 1
    simp only [List.getElem?_toArray, List.getElem?_cons_succ, List.getElem?_cons_zero] at e0 e1
    have FIN := Lib.hid (show OfP w N E (.returned (.tuple #[twoV none 0 0 none 0 0, .int .i64 173])) _ from .inl ⟨HN.out, rfl, H1.out.2.2.trans (uF.below (fun q _ e => by omega) H1.out.2.2.size)⟩)
    clear kF uF
    go_wp2
    refine bodyPost_ret (v := .tuple #[twoV none 0 0 none 0 0, .int .i64 173]) (by simp [results, Tryz.f15, go_sem, twoV, e0, e1]) rfl FIN.out
  · go_wp2_with fail
    refine (refMade_any w1 A c B d N E H1.out.1 (Short.of HN.out) hb).mono ?_
    rintro e w2 (⟨hc, A2, c2, B2, d2, rfl, oT, oE, b2⟩ | ⟨hc, rfl, b2⟩)
    · have k2 := H1.out.2.1.upd (Upd.of_below b2 (fun _ => False)) id
      have c0 : w2.cell? ⟨w.heap.size, 0, none⟩ = some (.slice none 0 0) := k2.cell 0
      have c1' : w2.cell? ⟨w.heap.size, 1, none⟩ = some (.slice none 0 0) := k2.cell 1
      have f0 := k2.frozen 0
      have f1 := k2.frozen 1
      obtain ⟨n, hn⟩ : ∃ n, (gN N E).length = n := ⟨_, rfl⟩
      obtain ⟨m, hm⟩ : ∃ m, (gE E).length = m := ⟨_, rfl⟩
      obtain ⟨kF, uF⟩ := FN.out _ k2 (.slice A2 n c2) (.slice B2 m d2)
      have e0 := kF.cell 0
      have e1 := kF.cell 1
      simp only [List.getElem?_toArray, List.getElem?_cons_succ, List.getElem?_cons_zero] at e0 e1
      have bw := H1.out.2.2.trans (b2.mono H1.out.2.2.size)
      have FIN := Lib.hid (show OfP w N E (.returned (.tuple #[twoV A2 n c2 B2 m d2, .int .i64 0])) _ from .inr ⟨HN.out, .inl ⟨hc, A2, c2, B2, d2, by rw [hn, hm], ownsRow_base (ownsRow_upd oT uF (fun q hq e => by have := (oT.lt q hq).1; omega)) (fun q hq => by have := (oT.lt q hq).1; omega), ownsRow_base (ownsRow_upd oE uF (fun q hq e => by have := (oE.lt q hq).1; omega)) (fun q hq => by have := (oE.lt q hq).1; omega), bw.trans (uF.below (fun q _ e => by omega) bw.size)⟩⟩)
      rw [hn, hm]
      unfold twoV
      clear kF uF oT oE b2 bw k2 hc hn hm
      go_wp2
      refine bodyPost_ret (v := .tuple #[twoV A2 n c2 B2 m d2, .int .i64 0]) (by simp [results, Tryz.f15, go_sem, twoV, e0, e1]) rfl FIN.out
    · have k2 := H1.out.2.1.upd (Upd.of_below b2 (fun _ => False)) id
      have c0 : w2.cell? ⟨w.heap.size, 0, none⟩ = some (.slice none 0 0) := k2.cell 0
      have c1' : w2.cell? ⟨w.heap.size, 1, none⟩ = some (.slice none 0 0) := k2.cell 1
      have f0 := k2.frozen 0
      have f1 := k2.frozen 1
      obtain ⟨cp, hcp⟩ : ∃ cp, capsI (gN N E) (gE E) = cp := ⟨_, rfl⟩
      obtain ⟨kF, uF⟩ := FN.out _ k2 (.slice none 0 0) (.slice none 0 0)
      have e0 := kF.cell 0
      have e1 := kF.cell 1
      simp only [List.getElem?_toArray, List.getElem?_cons_succ, List.getElem?_cons_zero] at e0 e1
      have bw := H1.out.2.2.trans (b2.mono H1.out.2.2.size)
      have FIN := Lib.hid (show OfP w N E (.returned (.tuple #[twoV none 0 0 none 0 0, .int .i64 cp])) _ from .inr ⟨HN.out, .inr ⟨hc, by rw [hcp], bw.trans (uF.below (fun q _ e => by omega) bw.size)⟩⟩)
      rw [hcp]
      unfold twoV
      clear kF uF b2 bw k2 hc hcp
      go_wp2
      refine bodyPost_ret (v := .tuple #[twoV none 0 0 none 0 0, .int .i64 cp]) (by simp [results, Tryz.f15, go_sem, twoV, e0, e1]) rfl FIN.out
set_option maxHeartbeats 1000000 in
set_option maxRecDepth 20000 in
theorem refPrint_any (w : World) (A : Option Addr) (c : Nat) (B : Option Addr) (d : Nat) (N : List Txt) (E : List Ed) (h : ForG w A c B d N E) :
    Calls Tryz.prog 22 #[twoV A N.length c B E.length d] w (Sam w (.tuple #[.string (printT N E), .int .i64 (checkI N E)])) := by
  have k0 := Blk.new w 25 #[.slice A N.length c, .slice B E.length d]
  have u0 : Below w.heap.size w (w.alloc (.cells #[.slice A N.length c, .slice B E.length d] 25)) := (Below.refl _ _).alloc (Nat.le_refl _) _
  have H := Lib.hid (And.intro (h.below u0) (And.intro k0 u0))
  clear h k0 u0
  obtain ⟨z, hz⟩ : ∃ z, checkI N E = z := ⟨_, rfl⟩
  have HZ := Lib.hid hz
  rw [hz]
  clear hz
  obtain ⟨t, ht⟩ : ∃ t, printT N E = t := ⟨_, rfl⟩
  have HT := Lib.hid ht
  rw [ht]
  clear ht
  unfold twoV
  go_enter Tryz.func22, Tryz.ntmps22
  go_upto_region 1 with (fail)
  generalize w.alloc (.cells #[.slice A N.length c, .slice B E.length d] 25) = W0 at H ⊢
  have q0 : W0.cell? ⟨w.heap.size, 0, none⟩ = some (.slice A N.length c) := H.out.2.1.cell 0
  have q1 : W0.cell? ⟨w.heap.size, 1, none⟩ = some (.slice B E.length d) := H.out.2.1.cell 1
  go_wp2_with fail
  refine (refCheck_any W0 A c B d N E H.out.1).mono ?_
  rintro e W1 ⟨rfl, b1⟩
  rw [HZ.out]
  have k1 := H.out.2.1.upd (Upd.of_below b1 (fun _ => False)) id
  have H1 := Lib.hid (And.intro (H.out.1.below b1) (H.out.2.2.trans (b1.mono H.out.2.2.size)))
  clear q0 q1 b1
  have q0 : W1.cell? ⟨w.heap.size, 0, none⟩ = some (.slice A N.length c) := k1.cell 0
  have q1 : W1.cell? ⟨w.heap.size, 1, none⟩ = some (.slice B E.length d) := k1.cell 1
  clear k1
  by_cases h0 : z = 0
  · subst h0
    obtain ⟨h1, h2, h3⟩ := check_caps HZ.out
    have h4 := caps_le h3
    have hcon := refText_any W1 A c B d N E H1.out.1 (Short.of h2) h4.1 h4.2.2.1
    clear h1 h2 h3 h4
    rw [show (⟨(textL N E).toArray⟩ : Txt) = t by rw [← HT.out, printT, if_pos HZ.out]] at hcon
    go_wp2_with fail
    refine hcon.mono ?_
    rintro e W2 ⟨rfl, b2⟩
    have FIN := Lib.hid (H1.out.2.trans (b2.mono H1.out.2.size))
    clear q0 q1 b2
    go_wp2
    refine bodyPost_ret (v := .tuple #[.string t, .int .i64 0]) (by simp [results, Tryz.f22, go_sem]) rfl ⟨rfl, FIN.out⟩
  · have h0I : (z == 0) = false := by simpa using h0
    obtain rfl : t = ⟨#[]⟩ := by rw [← HT.out, printT, if_neg (by rw [HZ.out]; exact h0)]
    go_wp2
    refine bodyPost_ret (v := .tuple #[.string ⟨#[]⟩, .int .i64 z]) (by simp [results, Tryz.f22, go_sem]) rfl ⟨rfl, H1.out.2⟩
theorem refOf_q (w : World) (A : Option Addr) (c : Nat) (B : Option Addr) (d : Nat) (N : List Txt) (E : List Ed) (h : ForG w A c B d N E) (hb : (N.length + E.length * 2) * 16 ≤ 140737488355328) :
    Calls Tryz.prog 15 #[.slice A N.length c, .slice B E.length d] w (OfQ w N E) := (refOf_any w A c B d N E h hb).mono fun _ _ h => h.q
end Go.Proofs.YthmkgnifcbnkpaaGreat
namespace Go.Proofs.YthmkgnifcbnkpaaGreat
open Go.RowKit

def mkT : Txt := ⟨#[55, 55]⟩
def mkE : Ed := ⟨⟨#[55, 55]⟩, ⟨#[]⟩, ⟨#[]⟩⟩
/-- A copy with marks behind its lists. -/
structure OwnG (w : World) (A : Option Addr) (c : Nat) (B : Option Addr) (d : Nat) (N : List Txt) (E : List Ed) : Prop where
  n : RowR w A (txtCells (N ++ [mkT]))
  e : RowR w B (edCells (E ++ [mkE]))
  hc : N.length + 1 ≤ c
  hd : E.length + 1 ≤ d
theorem OwnG.below {w w' : World} {A B : Option Addr} {c d : Nat} {N : List Txt} {E : List Ed} (h : OwnG w A c B d N E) (hb : Below w.heap.size w w') : OwnG w' A c B d N E := ⟨h.n.below hb, h.e.below hb, h.hc, h.hd⟩
theorem RowR.preL {w : World} {A : Option Addr} {xs ys : List Value} (h : RowR w A (xs ++ ys)) : RowR w A xs := fun j u hj => h j u (by rw [List.getElem?_append_left (List.getElem?_eq_some_iff.1 hj).1]; exact hj)
theorem OwnG.forG {w : World} {A B : Option Addr} {c d : Nat} {N : List Txt} {E : List Ed} (h : OwnG w A c B d N E) (hf : FitG N E) : ForG w A c B d N E := by
  have h1 := h.n
  have h2 := h.e
  rw [txtCells_app] at h1
  rw [edCells_app] at h2
  exact ⟨h1.preL, h2.preL, by have := h.hc; omega, by have := h.hd; omega, hf⟩

set_option maxHeartbeats 3000000 in
set_option maxRecDepth 100000 in
theorem own_any (w : World) (A : Option Addr) (c : Nat) (B : Option Addr) (d : Nat) (N : List Txt) (E : List Ed) (h : ForG w A c B d N E) (hn : (N.length + 1) * 16 ≤ 140737488355328) (hm : (E.length + 1) * 48 ≤ 140737488355328) :
    Calls Tryz.prog 13 #[twoV A N.length c B E.length d] w (fun e w' => ∃ A' c' B' d', e = .returned (twoV A' N.length c' B' E.length d') ∧ OwnG w' A' c' B' d' N E ∧ Below w.heap.size w w' ∧ (∀ b o s, A' = some ⟨b, o, s⟩ → w.heap.size ≤ b) ∧ (∀ b o s, B' = some ⟨b, o, s⟩ → w.heap.size ≤ b)) := by
  have k0 := (Blk.new w 25 #[.slice A N.length c, .slice B E.length d]).alloc (.cells #[.slice none 0 0, .slice none 0 0] 25)
  have k1 := Blk.new (w.alloc (.cells #[.slice A N.length c, .slice B E.length d] 25)) 25 #[.slice none 0 0, .slice none 0 0]
  simp only [World.size_alloc] at k1
  have u0 : Below w.heap.size w ((w.alloc (.cells #[.slice A N.length c, .slice B E.length d] 25)).alloc (.cells #[.slice none 0 0, .slice none 0 0] 25)) := by (repeat (first | exact Below.refl _ _ | apply Below.drew | refine Below.alloc ?_ (by first | exact Nat.le_refl _ | (simp; done) | (simp; omega)) _ | refine Below.setCell ?_ (by first | exact Nat.le_refl _ | (simp; done) | (simp; omega)) _))
  have H := Lib.hid (And.intro (h.below u0) (And.intro k0 (And.intro k1 u0)))
  clear h k0 k1 u0
  obtain ⟨n, en⟩ : ∃ n, N.length = n := ⟨_, rfl⟩
  obtain ⟨m, em⟩ : ∃ m, E.length = m := ⟨_, rfl⟩
  rw [en, em] at H
  rw [en] at hn
  rw [em] at hm
  rw [en, em]
  have HL := Lib.hid (And.intro en em)
  clear en em
  unfold twoV
  go_enter Tryz.func13, Tryz.ntmps13
  go_upto_region 1 with (fail)
  generalize (w.alloc (.cells #[.slice A n c, .slice B m d] 25)).alloc (.cells #[.slice none 0 0, .slice none 0 0] 25) = W0 at H ⊢
  have UP := Lib.hid (show ∀ W, Below W0.heap.size W0 W → Blk W w.heap.size 25 #[.slice A n c, .slice B m d] ∧ Blk W (w.heap.size + 1) 25 #[.slice none 0 0, .slice none 0 0] ∧ ForG W A c B d N E ∧ Below w.heap.size w W from fun W hb => ⟨H.out.2.1.upd (Upd.of_below hb (fun _ => False)) id, H.out.2.2.1.upd (Upd.of_below hb (fun _ => False)) id, H.out.1.below hb, H.out.2.2.2.trans (hb.mono H.out.2.2.2.size)⟩)
  have hz0 : w.heap.size + 1 < W0.heap.size := H.out.2.2.1.lt
  have bz : Below W0.heap.size W0 (W0.alloc (.cells #[] 9)) := (Below.refl _ _).alloc (Nat.le_refl _) _
  have q0 : (W0.alloc (.cells #[] 9)).cell? ⟨w.heap.size, 0, none⟩ = some (.slice A n c) := (UP.out _ bz).1.cell 0
  obtain ⟨A1, c1, V1, happ, o1, b1⟩ := append_row (W0.alloc (.cells #[] 9)) W0.heap.size 22 9 1 16 _ Tryz.underlying22 info_string rfl (by decide) (by decide) (some ⟨W0.heap.size, 0, none⟩) 0 0 [] (own_zero W0 _ 1) A n c (txtCells N) ((UP.out _ bz).2.2.1.rn) (by rw [txtCells_len, HL.out.1]) (one_txt N) (by omega) (by simp)
  rw [Nat.zero_add] at happ o1
  rw [List.nil_append] at o1
  have HV1 := Lib.hid (And.intro o1 (bz.trans b1))
  clear o1 b1 bz
  go_upto_region 2 with (at_builtin; refine wpList_append_run rfl _ _ _ rfl rfl rfl happ ?_)
  clear happ q0
  obtain ⟨v2, V2, happ, o2, b2⟩ := push_txt V1 W0.heap.size _ N (by rw [HL.out.1]; exact HV1.out.1) mkT (by rw [HL.out.1]; exact hn) HV1.out.2.size
  rw [List.length_append, HL.out.1, List.length_singleton] at o2
  unfold mkT at happ
  have HV2 := Lib.hid (And.intro o2 (HV1.out.2.trans (b2.1.below (fun k _ e => b2.2 k e) HV1.out.2.size)))
  clear o2 b2
  go_upto_region 3 with (at_builtin; refine wpList_append_run rfl _ _ _ rfl rfl rfl happ ?_)
  clear happ
  have bz : Below V2.heap.size V2 (V2.alloc (.cells #[] 39)) := (Below.refl _ _).alloc (Nat.le_refl _) _
  have bz0 := HV2.out.2.trans (bz.mono HV2.out.2.size)
  have q1 : (V2.alloc (.cells #[] 39)).cell? ⟨w.heap.size, 1, none⟩ = some (.slice B m d) := (UP.out _ bz0).1.cell 1
  obtain ⟨B3, d3, V3, happ, o3, b3⟩ := append_row (V2.alloc (.cells #[] 39)) V2.heap.size 23 39 3 48 _ Tryz.underlying23 info_edge rfl (by decide) (by decide) (some ⟨V2.heap.size, 0, none⟩) 0 0 [] (own_zero V2 _ 3) B m d (edCells E) ((UP.out _ bz0).2.2.1.re) (by rw [edCells_len, HL.out.2]) (one_ed E) (by omega) (by simp)
  rw [Nat.zero_add] at happ o3
  rw [List.nil_append] at o3
  have HV3 := Lib.hid (And.intro o3 (bz.trans b3))
  clear o3 b3 bz bz0
  go_upto_region 4 with (at_builtin; refine wpList_append_run rfl _ _ _ rfl rfl rfl happ ?_)
  clear happ q1
  obtain ⟨v4, V4, happ, o4, u4, -⟩ := push_ed V3 V2.heap.size _ E (by rw [HL.out.2]; exact HV3.out.1) mkE (by rw [HL.out.2]; exact hm) HV3.out.2.size
  rw [List.length_append, HL.out.2, List.length_singleton] at o4
  unfold mkE at happ
  dsimp only at happ
  have b24 := HV3.out.2.trans (u4.below (fun g _ e => (HV3.out.1.lt g e).1) HV3.out.2.size)
  have b04 := HV2.out.2.trans (b24.mono HV2.out.2.size)
  obtain ⟨A2, c2, rfl, hc2, -⟩ := own_le3 HV2.out.1
  obtain ⟨B4, d4, rfl, hd4, r4⟩ := own_le3 o4
  have r2 := RowR.of_own (ownsRow_upd HV2.out.1 (Upd.of_below b24 (fun _ => False)) (fun _ _ h => h))
  have hA2 : ∀ b o s, A2 = some ⟨b, o, s⟩ → W0.heap.size ≤ b := fun b o s e => (own_blk HV2.out.1 b o s e).1
  have hB4 : ∀ b o s, B4 = some ⟨b, o, s⟩ → V2.heap.size ≤ b := fun b o s e => (own_blk o4 b o s e).1
  have hz2 : W0.heap.size ≤ V2.heap.size := HV2.out.2.size
  have HV4 := Lib.hid (And.intro (And.intro r2 r4) (And.intro b04 (And.intro hA2 hB4)))
  clear o4 u4 b24 b04 r2 r4 hA2 hB4
  go_upto_region 5 with (at_builtin; refine wpList_append_run rfl _ _ _ rfl rfl rfl happ ?_)
  clear happ
  have SR := Lib.hid (show ∀ W, Below W0.heap.size W0 W → W.cell? ⟨w.heap.size, 0, none⟩ = some (.slice A n c) ∧ W.cell? ⟨w.heap.size, 1, none⟩ = some (.slice B m d) from fun W hb => ⟨(UP.out _ hb).1.cell 0, (UP.out _ hb).1.cell 1⟩)
  have hS := SR.out _ HV4.out.2.1.drew
  have hnc : n ≤ c2 := by omega
  have hmd : m ≤ d4 := by omega
  have hncI : (n : Int) ≤ (c2 : Int) := by omega
  have hmdI : (m : Int) ≤ (d4 : Int) := by omega
  -- the addresses
  obtain ⟨ab, ao, rfl⟩ : ∃ ab ao, A2 = some ⟨ab, ao, none⟩ := by
    obtain ⟨b, o, e, -⟩ := HV4.out.1.1.txt (k := n) (s := mkT) (by rw [List.getElem?_append_right (by rw [HL.out.1]; exact Nat.le_refl _), HL.out.1, Nat.sub_self]; rfl)
    exact ⟨b, o, e⟩
  obtain ⟨bb, bo, rfl⟩ : ∃ ab ao, B4 = some ⟨ab, ao, none⟩ := by
    obtain ⟨b, o, e, -⟩ := HV4.out.1.2.ed (k := m) (x := mkE) (by rw [List.getElem?_append_right (by rw [HL.out.2]; exact Nat.le_refl _), HL.out.2, Nat.sub_self]; rfl)
    exact ⟨b, o, e⟩
  refine wp_region_ord (fun W => W.cell? ⟨w.heap.size, 0, none⟩ = some (.slice A n c) ∧ W.cell? ⟨w.heap.size, 1, none⟩ = some (.slice B m d)) 11 [(0, true), (1, true), (2, true), (3, true), (4, true), (5, true), (6, true), (7, true), (8, true), (9, true), (10, true), (11, false)] (by kernel_rfl) (by kernel_rfl) (fun _ _ d _ _ h => by cases d <;> exact h) hS ?_
  have HV5 := Lib.hid (show Below W0.heap.size W0 V4.drew ∧ RowR V4.drew (some ⟨ab, ao, none⟩) (txtCells (N ++ [mkT])) ∧ RowR V4.drew (some ⟨bb, bo, none⟩) (edCells (E ++ [mkE])) from ⟨HV4.out.2.1.drew, HV4.out.1.1, HV4.out.1.2⟩)
  generalize V4.drew = V5 at HV5 hS ⊢
  iterate 11 (refine ord_take (v := ?_) rfl (by first | with_reducible rfl | kernel_rfl) ?_ ?_; rotate_left; (focus (intro wS hS; (try dsimp only at hS); go_split_ands; go_simp; (try with_reducible rfl); done)); (try simp only [Act.put, List.getElem_toArray, List.getElem_cons_succ, List.getElem_cons_zero, List.setIfInBounds_toArray, List.set_cons_zero, List.set_cons_succ]))
  have kr := (UP.out _ HV5.out.1).2.1
  have r0 : V5.cell? ⟨w.heap.size + 1, 0, none⟩ = some (.slice none 0 0) := kr.cell 0
  have r1 : V5.cell? ⟨w.heap.size + 1, 1, none⟩ = some (.slice none 0 0) := kr.cell 1
  have f0 := kr.frozen 0
  have f1 := kr.frozen 1
  have kF := (kr.set 0 (.slice (some ⟨ab, ao, none⟩) n c2)).set 1 (.slice (some ⟨bb, bo, none⟩) m d4)
  have uF : Upd (fun q => q = w.heap.size + 1) V5 ((V5.setCell ⟨w.heap.size + 1, 0, none⟩ (.slice (some ⟨ab, ao, none⟩) n c2)).setCell ⟨w.heap.size + 1, 1, none⟩ (.slice (some ⟨bb, bo, none⟩) m d4)) := ((Upd.refl (fun q => q = w.heap.size + 1) V5).setCell (p := ⟨w.heap.size + 1, 0, none⟩) (.inl rfl) _).setCell (p := ⟨w.heap.size + 1, 1, none⟩) (.inl rfl) _
  have e0 := kF.cell 0
  have e1 := kF.cell 1
  simp only [List.setIfInBounds_toArray, List.set_cons_zero, List.set_cons_succ, List.getElem?_toArray, List.getElem?_cons_succ, List.getElem?_cons_zero] at e0 e1
  have bw := (UP.out _ HV5.out.1).2.2.2
  have g2 : RowR ((V5.setCell ⟨w.heap.size + 1, 0, none⟩ (.slice (some ⟨ab, ao, none⟩) n c2)).setCell ⟨w.heap.size + 1, 1, none⟩ (.slice (some ⟨bb, bo, none⟩) m d4)) (some ⟨ab, ao, none⟩) (txtCells (N ++ [mkT])) := RowR.upd HV5.out.2.1 uF (fun b o s e h => by have := HV4.out.2.2.1 b o s e; omega)
  have g4 : RowR ((V5.setCell ⟨w.heap.size + 1, 0, none⟩ (.slice (some ⟨ab, ao, none⟩) n c2)).setCell ⟨w.heap.size + 1, 1, none⟩ (.slice (some ⟨bb, bo, none⟩) m d4)) (some ⟨bb, bo, none⟩) (edCells (E ++ [mkE])) := RowR.upd HV5.out.2.2 uF (fun b o s e h => by have := HV4.out.2.2.2 b o s e; omega)
  have FIN := Lib.hid (show ∃ A' c' B' d', Ending.returned (.agg #[.slice (some ⟨ab, ao, none⟩) n c2, .slice (some ⟨bb, bo, none⟩) m d4]) = .returned (.agg #[.slice A' n c', .slice B' m d']) ∧ OwnG ((V5.setCell ⟨w.heap.size + 1, 0, none⟩ (.slice (some ⟨ab, ao, none⟩) n c2)).setCell ⟨w.heap.size + 1, 1, none⟩ (.slice (some ⟨bb, bo, none⟩) m d4)) A' c' B' d' N E ∧ Below w.heap.size w ((V5.setCell ⟨w.heap.size + 1, 0, none⟩ (.slice (some ⟨ab, ao, none⟩) n c2)).setCell ⟨w.heap.size + 1, 1, none⟩ (.slice (some ⟨bb, bo, none⟩) m d4)) ∧ (∀ b o s, A' = some ⟨b, o, s⟩ → w.heap.size ≤ b) ∧ (∀ b o s, B' = some ⟨b, o, s⟩ → w.heap.size ≤ b) from ⟨_, c2, _, d4, rfl, ⟨g2, g4, by rw [HL.out.1]; exact hc2, by rw [HL.out.2]; exact hd4⟩, bw.trans (uF.below (fun q _ e => by omega) bw.size), fun b o s e => by have := HV4.out.2.2.1 b o s e; omega, fun b o s e => by have := HV4.out.2.2.2 b o s e; omega⟩)
  clear kr kF uF bw g2 g4
  refine ord_do rfl rfl (fun K hK => ?_)
  go_simp
  refine hK _ _ (fun h => absurd rfl h) ?_
  clear hK K hS
  (try simp only [Act.put, List.getElem_toArray, List.getElem_cons_succ, List.getElem_cons_zero, List.setIfInBounds_toArray, List.set_cons_zero, List.set_cons_succ])
  refine ord_done ?_
  go_wp2
  refine bodyPost_ret (v := .agg #[.slice (some ⟨ab, ao, none⟩) n c2, .slice (some ⟨bb, bo, none⟩) m d4]) (by simp [results, Tryz.f13, go_sem, e0, e1]) rfl FIN.out

theorem txt_beq_self (a : Txt) : (ByteArray.toList a == ByteArray.toList a) = true := by rw [txt_beq]; simp
set_option maxHeartbeats 3000000 in
set_option maxRecDepth 100000 in
theorem kept_any (w : World) (A : Option Addr) (c : Nat) (B : Option Addr) (d : Nat) (N : List Txt) (E : List Ed) (A' : Option Addr) (c' : Nat) (B' : Option Addr) (d' : Nat) (h : OwnG w A c B d N E) (h' : ForG w A' c' B' d' N E) :
    Calls Tryz.prog 17 #[twoV A N.length c B E.length d, twoV A' N.length c' B' E.length d'] w (Sam w (.bool true)) := by
  have k0 := (Blk.new w 25 #[.slice A N.length c, .slice B E.length d]).alloc (.cells #[.slice A' N.length c', .slice B' E.length d'] 25)
  have k1 := Blk.new (w.alloc (.cells #[.slice A N.length c, .slice B E.length d] 25)) 25 #[.slice A' N.length c', .slice B' E.length d']
  simp only [World.size_alloc] at k1
  have u0 : Below w.heap.size w ((w.alloc (.cells #[.slice A N.length c, .slice B E.length d] 25)).alloc (.cells #[.slice A' N.length c', .slice B' E.length d'] 25)) := by (repeat (first | exact Below.refl _ _ | apply Below.drew | refine Below.alloc ?_ (by first | exact Nat.le_refl _ | (simp; done) | (simp; omega)) _ | refine Below.setCell ?_ (by first | exact Nat.le_refl _ | (simp; done) | (simp; omega)) _))
  have hn16 := h'.fit.n
  have hm48 := h'.fit.e
  have hcc := h.hc
  have hdd := h.hd
  have H := Lib.hid (And.intro (h.below u0) (And.intro (h'.below u0) (And.intro k0 (And.intro k1 u0))))
  clear h h' k0 k1 u0
  obtain ⟨n, en⟩ : ∃ n, N.length = n := ⟨_, rfl⟩
  obtain ⟨m, em⟩ : ∃ m, E.length = m := ⟨_, rfl⟩
  have hsm : ∀ V, OwnG V A c B d N E → ForG V A' c' B' d' N E → Calls Tryz.prog 11 #[.agg #[.slice A n c, .slice B m d], .agg #[.slice A' n c', .slice B' m d']] V (Sam V (.bool true)) := fun V g g' => by
    have := refSame_any V A c B d N E A' c' B' d' N E (g.forG g'.fit) g'
    rw [en, em, show sameB N E N E = true by simp [sameB]] at this
    exact this
  rw [en, em] at H
  rw [en] at hn16 hcc
  rw [em] at hm48 hdd
  rw [en, em]
  have HL := Lib.hid (And.intro en (And.intro em hsm))
  clear en em hsm
  unfold twoV
  go_enter Tryz.func17, Tryz.ntmps17
  go_upto_region 1 with (fail)
  generalize (w.alloc (.cells #[.slice A n c, .slice B m d] 25)).alloc (.cells #[.slice A' n c', .slice B' m d'] 25) = W0 at H ⊢
  obtain ⟨ab, ao, rfl⟩ : ∃ ab ao, A = some ⟨ab, ao, none⟩ := by
    obtain ⟨b, o, e, -⟩ := H.out.1.n.txt (k := n) (s := mkT) (by rw [List.getElem?_append_right (by rw [HL.out.1]; exact Nat.le_refl _), HL.out.1, Nat.sub_self]; rfl)
    exact ⟨b, o, e⟩
  obtain ⟨bb, bo, rfl⟩ : ∃ ab ao, B = some ⟨ab, ao, none⟩ := by
    obtain ⟨b, o, e, -⟩ := H.out.1.e.ed (k := m) (x := mkE) (by rw [List.getElem?_append_right (by rw [HL.out.2.1]; exact Nat.le_refl _), HL.out.2.1, Nat.sub_self]; rfl)
    exact ⟨b, o, e⟩
  have UP := Lib.hid (show ∀ W, Below W0.heap.size W0 W → (W.cell? ⟨w.heap.size, 0, none⟩ = some (.slice (some ⟨ab, ao, none⟩) n c) ∧ W.cell? ⟨w.heap.size, 1, none⟩ = some (.slice (some ⟨bb, bo, none⟩) m d) ∧ W.cell? ⟨w.heap.size + 1, 0, none⟩ = some (.slice A' n c') ∧ W.cell? ⟨w.heap.size + 1, 1, none⟩ = some (.slice B' m d')) ∧ (W.cell? ⟨ab, ao + n, none⟩ = some (.string ⟨#[55, 55]⟩) ∧ W.cell? ⟨bb, bo + m * 3, none⟩ = some (.string ⟨#[55, 55]⟩)) ∧ OwnG W (some ⟨ab, ao, none⟩) c (some ⟨bb, bo, none⟩) d N E ∧ ForG W A' c' B' d' N E ∧ Below w.heap.size w W from fun W hb => by
    have u := Upd.of_below hb (fun _ => False)
    have a := H.out.2.2.1.upd u id
    have b := H.out.2.2.2.1.upd u id
    have g := H.out.1.below hb
    exact ⟨⟨a.cell 0, a.cell 1, b.cell 0, b.cell 1⟩, ⟨g.n.txt_at (k := n) (s := mkT) (by rw [List.getElem?_append_right (by rw [HL.out.1]; exact Nat.le_refl _), HL.out.1, Nat.sub_self]; rfl), (g.e.ed_at (k := m) (x := mkE) (by rw [List.getElem?_append_right (by rw [HL.out.2.1]; exact Nat.le_refl _), HL.out.2.1, Nat.sub_self]; rfl)).1⟩, g, H.out.2.1.below hb, H.out.2.2.2.2.trans (hb.mono H.out.2.2.2.2.size)⟩)
  have hS := (UP.out W0.drew (Below.refl _ _).drew).1
  have hnw : IntKind.i64.wrap ((n : Int) + 1) = (n : Int) + 1 := IntWalk.i64_in _ (by omega)
  have hmw : IntKind.i64.wrap ((m : Int) + 1) = (m : Int) + 1 := IntWalk.i64_in _ (by omega)
  have hnc : (n : Int) + 1 ≤ (c : Int) := by omega
  have hmd : (m : Int) + 1 ≤ (d : Int) := by omega
  have hn0 : (0 : Int) ≤ (n : Int) + 1 := by omega
  have hm0 : (0 : Int) ≤ (m : Int) + 1 := by omega
  have hnt : ((n : Int) + 1).toNat = n + 1 := by omega
  have hmt : ((m : Int) + 1).toNat = m + 1 := by omega
  refine wp_region_ord (fun W => W.cell? ⟨w.heap.size, 0, none⟩ = some (.slice (some ⟨ab, ao, none⟩) n c) ∧ W.cell? ⟨w.heap.size, 1, none⟩ = some (.slice (some ⟨bb, bo, none⟩) m d) ∧ W.cell? ⟨w.heap.size + 1, 0, none⟩ = some (.slice A' n c') ∧ W.cell? ⟨w.heap.size + 1, 1, none⟩ = some (.slice B' m d')) 16 [(0, true), (1, true), (2, true), (3, true), (4, true), (5, true), (6, true), (7, true), (8, true), (9, true), (10, true), (11, true), (12, true), (13, true), (14, true), (15, true)] (by kernel_rfl) (by kernel_rfl) (fun _ _ d _ _ h => by cases d <;> exact h) hS ?_
  iterate 16 (refine ord_take (v := ?_) rfl (by first | with_reducible rfl | kernel_rfl) ?_ ?_; rotate_left; (focus (intro wS hS; (try dsimp only at hS); go_split_ands; go_simp; (try with_reducible rfl); done)); (try simp only [Act.put, List.getElem_toArray, List.getElem_cons_succ, List.getElem_cons_zero, List.setIfInBounds_toArray, List.set_cons_zero, List.set_cons_succ]))
  refine ord_done ?_
  clear hS hnw hmw hnc hmd hn0 hm0 hnt hmt
  obtain ⟨W1, hW1⟩ : ∃ W, W = W0.drew := ⟨_, rfl⟩
  have b1 : Below W0.heap.size W0 W1 := by rw [hW1]; exact (Below.refl _ _).drew
  have HB1 := Lib.hid b1
  rw [← hW1]
  clear hW1 b1
  obtain ⟨q0, q1, q2, q3⟩ := (UP.out _ HB1.out).1
  go_wp2_with fail
  refine (HL.out.2.2 W1 (UP.out _ HB1.out).2.2.1 (UP.out _ HB1.out).2.2.2.1).mono ?_
  rintro e W2 ⟨rfl, b2⟩
  have HB2 := Lib.hid (HB1.out.trans (b2.mono HB1.out.size))
  clear b2 q0 q1 q2 q3
  obtain ⟨q0, q1, q2, q3⟩ := (UP.out _ HB2.out).1
  obtain ⟨y0, y1⟩ := (UP.out _ HB2.out).2.1
  have FIN := Lib.hid (UP.out _ HB2.out).2.2.2.2
  have hnI : (n : Int) < (n : Int) + 1 := by omega
  have hmI : (m : Int) < (m : Int) + 1 := by omega
  go_wp2
  all_goals
    go_ret
    exact ⟨rfl, FIN.out⟩
end Go.Proofs.YthmkgnifcbnkpaaGreat
namespace Go.Proofs.YthmkgnifcbnkpaaGreat
open Go.RowKit

/-- The rows of a value of the call's own. -/
def Rows2 (w : World) (base : Nat) (A : Option Addr) (n c : Nat) (B : Option Addr) (m d : Nat) : Prop :=
  (∃ xs, w.ownsRow base 9 1 (.slice A n c) n xs) ∧ (∃ ys, w.ownsRow base 39 3 (.slice B m d) m ys)
theorem own_type {w : World} {base e size n m c : Nat} {g : Nat} {xs : List Value} (h : w.ownsRow base e size (.slice (some ⟨g, 0, none⟩) m c) n xs) : ∃ cur, w.heap[g]? = some (.cells cur e (0, 0)) := by
  rcases h.2 with ⟨hv, -⟩ | ⟨g', cap', cur, hv, hb, hg, -⟩
  · cases hv
  injection hv with hv
  injection hv with hv
  injection hv with hv
  subst hv
  exact ⟨cur, hg⟩
theorem own_addr {w : World} {base e size n c : Nat} {A : Option Addr} {xs : List Value} (h : w.ownsRow base e size (.slice A n c) n xs) (h0 : 0 < n) : ∃ g, A = some ⟨g, 0, none⟩ := by
  rcases h.2 with ⟨hv, h1⟩ | ⟨g', cap', cur, hv, -⟩
  · omega
  injection hv with hv
  exact ⟨g', hv⟩
theorem own_at {w : World} {base e size n c g : Nat} {xs : List Value} (h : w.ownsRow base e size (.slice (some ⟨g, 0, none⟩) n c) n xs) {i : Nat} (hi : i < n * size) : ∃ u, w.cell? ⟨g, i, none⟩ = some u := by
  have hl : i < xs.length := by rw [h.1]; exact hi
  have := h.cells (g := g) rfl i xs[i] (List.getElem?_eq_getElem hl)
  rw [Addr.add_lit, Nat.zero_add] at this
  exact ⟨_, this⟩

set_option maxHeartbeats 3000000 in
set_option maxRecDepth 100000 in
theorem spoil_any (w : World) (base : Nat) (A : Option Addr) (n c : Nat) (B : Option Addr) (m d : Nat) (h : Rows2 w base A n c B m d) (hb : base ≤ w.heap.size) (hn : n ≤ 140737488355328) (hm : m ≤ 140737488355328) :
    Calls Tryz.prog 16 #[twoV A n c B m d] w (fun e w' => e = .returned (.tuple #[]) ∧ Below base w w') := by
  have k0 := Blk.new w 25 #[.slice A n c, .slice B m d]
  have u0 : Below base w (w.alloc (.cells #[.slice A n c, .slice B m d] 25)) := (Below.refl _ _).alloc hb _
  obtain ⟨⟨xs, hx⟩, ⟨ys, hy⟩⟩ := h
  have hg1 : ∀ g, (Value.slice A n c).ownBlock = some g → g < w.heap.size := fun g hg => (hx.lt g hg).2
  have hg2 : ∀ g, (Value.slice B m d).ownBlock = some g → g < w.heap.size := fun g hg => (hy.lt g hg).2
  have H := Lib.hid (And.intro (hx.alloc (.cells #[.slice A n c, .slice B m d] 25)) (And.intro (hy.alloc (.cells #[.slice A n c, .slice B m d] 25)) (And.intro k0 (And.intro u0 (And.intro hg1 hg2)))))
  clear k0 u0 hx hy hg1 hg2
  unfold twoV
  go_enter Tryz.func16, Tryz.ntmps16
  go_upto_region 1 with (fail)
  generalize w.alloc (.cells #[.slice A n c, .slice B m d] 25) = W0 at H ⊢
  go_wp2_with fail
  go_loopw [2] (fun i wr => ∃ k : Nat, k ≤ n ∧ i = .int .i64 k ∧ Hid (Below base w wr ∧ Blk wr w.heap.size 25 #[.slice A n c, .slice B m d] ∧ (∃ xs, wr.ownsRow base 9 1 (.slice A n c) n xs) ∧ (∃ ys, wr.ownsRow base 39 3 (.slice B m d) m ys))) (fun i _ => n - (intOf i).toNat)
  case atStart => exact ⟨0, Nat.zero_le _, rfl, Lib.hid ⟨H.out.2.2.2.1, H.out.2.2.1, ⟨_, H.out.1⟩, ⟨_, H.out.2.1⟩⟩⟩
  case round =>
    obtain ⟨k, hk, rfl, HI⟩ := hrel
    have q0 : wr.cell? ⟨w.heap.size, 0, none⟩ = some (.slice A n c) := HI.out.2.1.cell 0
    by_cases hlt : k < n
    · have hltI : (k : Int) < (n : Int) := by omega
      have hkw : IntKind.i64.wrap ((k : Int) + 1) = (k : Int) + 1 := IntWalk.i64_in _ (by omega)
      obtain ⟨xs, hx⟩ := HI.out.2.2.1
      obtain ⟨ys, hy⟩ := HI.out.2.2.2
      obtain ⟨g, rfl⟩ := own_addr hx (by omega)
      obtain ⟨u, x0⟩ := own_at hx (i := k) (by omega)
      have f0 := own_frozen hx k
      have hgl := H.out.2.2.2.2.1 g rfl
      have o1 := own_setCell hx (i := k) (by omega) (.string ⟨#[54, 54]⟩)
      obtain ⟨cur, hcur⟩ := own_type hx
      have u1 : Upd (fun q => q = g) wr (wr.setCell ⟨g, k, none⟩ (.string ⟨#[54, 54]⟩)) := (Upd.refl (fun q => q = g) wr).setCell (p := ⟨g, k, none⟩) (.inl rfl) _
      have o2 : ∃ ys, (wr.setCell ⟨g, k, none⟩ (.string ⟨#[54, 54]⟩)).ownsRow base 39 3 (.slice B m d) m ys := ⟨ys, ownsRow_upd hy u1 (fun q hq e => by
        subst e
        rcases B with _ | ⟨b, o, s⟩
        · simp [Value.ownBlock] at hq
        · obtain ⟨A', c', hv, -, hA⟩ := own_form hy
          injection hv with hv
          rcases hA with hA | ⟨g', hA⟩
          · rw [hA] at hv; cases hv
          · rw [hA] at hv
            injection hv with hv
            injection hv with h1 h2 h3
            subst h1; subst h2; subst h3
            simp only [Value.ownBlock, Option.some.injEq] at hq
            subst hq
            obtain ⟨cur', hcur'⟩ := own_type hy
            rw [hcur] at hcur'
            simp at hcur')⟩
      have kb := HI.out.2.1.upd u1 (by omega)
      have hbg := (hx.lt g rfl).1
      have bw := HI.out.1.trans (u1.below (fun q _ e => by omega) (by have := HI.out.1.size; omega))
      have HN := Lib.hid (show Below base w (wr.setCell ⟨g, k, none⟩ (.string ⟨#[54, 54]⟩)) ∧ Blk (wr.setCell ⟨g, k, none⟩ (.string ⟨#[54, 54]⟩)) w.heap.size 25 #[.slice (some ⟨g, 0, none⟩) n c, .slice B m d] ∧ (∃ xs, (wr.setCell ⟨g, k, none⟩ (.string ⟨#[54, 54]⟩)).ownsRow base 9 1 (.slice (some ⟨g, 0, none⟩) n c) n xs) ∧ _ from ⟨bw, kb, ⟨_, o1⟩, o2⟩)
      clear o1 u1 o2 kb bw hcur hx hy HI
      go_wp2
      go_roundw
      case rel => exact ⟨k + 1, by omega, by go_num, HN⟩
      case measure => simp [intOf]; omega
    · obtain rfl : k = n := by omega
      obtain ⟨W2, hW2⟩ : ∃ W, W = wr := ⟨_, rfl⟩
      subst hW2
      have q1 : W2.cell? ⟨w.heap.size, 1, none⟩ = some (.slice B m d) := HI.out.2.1.cell 1
      clear hlt
      go_wp2_with fail
      clear q0 q1
      go_loopw [3] (fun i wr => ∃ j : Nat, j ≤ m ∧ i = .int .i64 j ∧ Hid (Below base w wr ∧ Blk wr w.heap.size 25 #[.slice A k c, .slice B m d] ∧ (∃ ys, wr.ownsRow base 39 3 (.slice B m d) m ys))) (fun i _ => m - (intOf i).toNat)
      case atStart => exact ⟨0, Nat.zero_le _, rfl, Lib.hid ⟨HI.out.1, HI.out.2.1, HI.out.2.2.2⟩⟩
      case round =>
        obtain ⟨j, hj, rfl, HJ⟩ := hrel
        have q1 : wr.cell? ⟨w.heap.size, 1, none⟩ = some (.slice B m d) := HJ.out.2.1.cell 1
        by_cases hlt : j < m
        · have hltI : (j : Int) < (m : Int) := by omega
          have hkw : IntKind.i64.wrap ((j : Int) + 1) = (j : Int) + 1 := IntWalk.i64_in _ (by omega)
          obtain ⟨ys, hy⟩ := HJ.out.2.2
          obtain ⟨g, rfl⟩ := own_addr hy (by omega)
          obtain ⟨v0, x0⟩ := own_at hy (i := j * 3) (by omega)
          obtain ⟨v1, x1⟩ := own_at hy (i := j * 3 + 1) (by omega)
          obtain ⟨v2, x2⟩ := own_at hy (i := j * 3 + 2) (by omega)
          have f0 := own_frozen hy (j * 3)
          have f1 := own_frozen hy (j * 3 + 1)
          have f2 := own_frozen hy (j * 3 + 2)
          have hgl := H.out.2.2.2.2.2 g rfl
          have o1 := own_setCell (own_setCell (own_setCell hy (i := j * 3) (by omega) (.string ⟨#[54, 54]⟩)) (i := j * 3 + 1) (by omega) (.string ⟨#[]⟩)) (i := j * 3 + 2) (by omega) (.string ⟨#[]⟩)
          have u1 : Upd (fun q => q = g) wr (((wr.setCell ⟨g, j * 3, none⟩ (.string ⟨#[54, 54]⟩)).setCell ⟨g, j * 3 + 1, none⟩ (.string ⟨#[]⟩)).setCell ⟨g, j * 3 + 2, none⟩ (.string ⟨#[]⟩)) := (((Upd.refl (fun q => q = g) wr).setCell (p := ⟨g, j * 3, none⟩) (.inl rfl) _).setCell (p := ⟨g, j * 3 + 1, none⟩) (.inl rfl) _).setCell (p := ⟨g, j * 3 + 2, none⟩) (.inl rfl) _
          have kb := HJ.out.2.1.upd u1 (by omega)
          have hbg := (hy.lt g rfl).1
          have bw := HJ.out.1.trans (u1.below (fun q _ e => by omega) (by have := HJ.out.1.size; omega))
          have HN := Lib.hid (And.intro bw (And.intro kb (Exists.intro _ o1)))
          clear o1 u1 kb bw hy HJ
          go_wp2
          go_roundw
          case rel => exact ⟨j + 1, by omega, by go_num, HN⟩
          case measure => simp [intOf]; omega
        · obtain rfl : j = m := by omega
          have FIN := Lib.hid HJ.out.1
          clear HJ
          go_wp2
          go_end0
          exact ⟨rfl, FIN.out⟩
end Go.Proofs.YthmkgnifcbnkpaaGreat
