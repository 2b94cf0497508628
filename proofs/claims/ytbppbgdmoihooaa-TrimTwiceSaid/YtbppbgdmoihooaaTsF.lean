/- Forests: the walk of bywaylaw29.TrimCuts, case by case. -/
import Derived.Test.YtbppbgdmoihooaaTsE
import Derived.Test.YtbppbgdmoihooaaTsB
namespace Go.Proofs.Ytbppbgdmoihooaa
open Go.RowKit

/-- A forest's variable, and what it leads to. -/
structure Has (W : World) (t : Nat) (A : Option Addr) (c : Nat) (B : Option Addr) (d : Nat) (S : List Fct) (P : List Pk) : Prop where
  k : Blk W t 75 #[.slice A S.length c, .slice B P.length d]
  rs : RowR W A (factCells S)
  rp : RowR W B (packCells P)
  hc : S.length ≤ c
  hd : P.length ≤ d
theorem Has.below {W W' : World} {t : Nat} {A : Option Addr} {c : Nat} {B : Option Addr} {d : Nat} {S : List Fct} {P : List Pk} (h : Has W t A c B d S P) (hb : Below W.heap.size W W') : Has W' t A c B d S P :=
  ⟨h.k.upd (Upd.of_below hb (fun _ => False)) id, h.rs.below hb, h.rp.below hb, h.hc, h.hd⟩
theorem Has.forR {W : World} {t : Nat} {A : Option Addr} {c : Nat} {B : Option Addr} {d : Nat} {S : List Fct} {P : List Pk} (h : Has W t A c B d S P) (hf : Fits S P) : ForR W A c B d S P := ⟨h.rs, h.rp, h.hc, h.hd, hf⟩
theorem own_le {w : World} {base e size n c : Nat} {A : Option Addr} {xs : List Value} (h : w.ownsRow base e size (.slice A n c) n xs) : n ≤ c := by
  obtain ⟨_, _, e, hl, -⟩ := own_form h
  injection e with _ _ e
  rw [e]
  exact hl
theorem cutS_len (S : List Fct) (I : List Bool) : (cutS S I).length ≤ S.length := by
  rw [cutS, spotsTo_len S I _ (Nat.le_refl _)]; exact cnt_le I _
theorem cutP_len (P : List Pk) (I : List Bool) : (cutP P I).length ≤ P.length := packsTo_len P I _
theorem OkFor.goes {S : List Fct} {P : List Pk} (h : OkFor S P) : ∀ p ∈ P, p.goes S = true := fun p hp => by
  obtain ⟨i, hi⟩ := List.mem_iff_getElem?.1 hp
  exact h.p.1 i p (List.getElem?_eq_some_iff.1 hi).1 hi
theorem OkFor.pks {S : List Fct} {P : List Pk} (h : OkFor S P) : ∀ p ∈ P, PkIn S.length p := fun p hp => PkIn.of_goes (h.goes p hp)

set_option maxHeartbeats 2000000 in
set_option maxRecDepth 20000 in
theorem cuts_bad (w : World) (A : Option Addr) (c : Nat) (B : Option Addr) (d : Nat) (S : List Fct) (P : List Pk) (spot : Int) (h : ForR w A c B d S P) (ho : ¬ OkFor S P) :
    Calls Try.prog 7 #[forV A S.length c B P.length d, .int .i64 spot] w (Sam w (.bool true)) := by
  have k0 := Blk.new w 75 #[.slice A S.length c, .slice B P.length d]
  have u0 : Below w.heap.size w (w.alloc (.cells #[.slice A S.length c, .slice B P.length d] 75)) := (Below.refl _ _).alloc (Nat.le_refl _) _
  have HH : Has (w.alloc (.cells #[.slice A S.length c, .slice B P.length d] 75)) w.heap.size A c B d S P := ⟨k0, h.rs.below u0, h.rp.below u0, h.hc, h.hd⟩
  have H := Lib.hid (And.intro h.fit (And.intro u0 HH))
  clear h k0 u0 HH
  go_enter Try.func7, Try.ntmps7
  unfold forV
  go_upto_region 1 with (fail)
  generalize w.alloc (.cells #[.slice A S.length c, .slice B P.length d] 75) = W0 at H ⊢
  have q0 : W0.cell? ⟨w.heap.size, 0, none⟩ = some (.slice A S.length c) := H.out.2.2.k.cell 0
  have q1 : W0.cell? ⟨w.heap.size, 1, none⟩ = some (.slice B P.length d) := H.out.2.2.k.cell 1
  go_wp2_with fail
  refine (copy_any W0 A c B d S P (H.out.2.2.forR H.out.1)).mono ?_
  intro e w1 hn
  obtain ⟨A1, c1, B1, d1, rfl, F1, b1⟩ := hn.at H.out.1
  have HF := Lib.hid (And.intro F1 (And.intro (H.out.2.1.trans (b1.mono H.out.2.1.size)) (H.out.2.2.below b1)))
  clear hn F1 b1 q0 q1 H
  unfold forV
  go_wp2_with fail
  refine (ttrim_no w1 A1 c1 B1 d1 S P HF.out.1 ho).mono ?_
  rintro e w2 ⟨rfl, b2⟩
  have kt := Blk.new w2 75 #[.slice none 0 0, .slice none 0 0]
  have bt : Below w2.heap.size w2 (w2.alloc (.cells #[.slice none 0 0, .slice none 0 0] 75)) := (Below.refl _ _).alloc (Nat.le_refl _) _
  have HG := Lib.hid (And.intro HF.out.1.fit (And.intro ((HF.out.2.1.trans (b2.mono HF.out.2.1.size)).trans (bt.mono (Nat.le_trans HF.out.2.1.size b2.size))) (And.intro ((HF.out.2.2.below b2).below bt) (And.intro kt bt))))
  clear b2 kt bt HF
  (try unfold forV)
  go_upto_region 2 with (fail)
  generalize w2.alloc (.cells #[.slice none 0 0, .slice none 0 0] 75) = W3 at HG ⊢
  have q0 : W3.cell? ⟨w.heap.size, 0, none⟩ = some (.slice A S.length c) := HG.out.2.2.1.k.cell 0
  have q1 : W3.cell? ⟨w.heap.size, 1, none⟩ = some (.slice B P.length d) := HG.out.2.2.1.k.cell 1
  go_wp2_with fail
  refine (copy_any W3 A c B d S P (HG.out.2.2.1.forR HG.out.1)).mono ?_
  intro e w4 hn
  obtain ⟨A4, c4, B4, d4, rfl, F4, b4⟩ := hn.at HG.out.1
  have HI := Lib.hid (And.intro F4 b4)
  clear hn F4 b4 q0 q1
  unfold forV
  go_wp2_with fail
  refine (treach_bad w4 A4 c4 B4 d4 S P spot HI.out.1 ho).mono ?_
  rintro e w5 ⟨rfl, b5⟩
  have ku := Blk.new w5 75 #[.slice none 0 0, .slice none 0 0]
  have bu : Below w5.heap.size w5 (w5.alloc (.cells #[.slice none 0 0, .slice none 0 0] 75)) := (Below.refl _ _).alloc (Nat.le_refl _) _
  have b35 := HI.out.2.trans (b5.mono HI.out.2.size)
  have b36 := b35.trans (bu.mono b35.size)
  have HJ := Lib.hid (And.intro b36 (And.intro ku bu))
  clear b5 ku bu b35 b36
  (try unfold forV)
  go_upto_region 3 with (fail)
  generalize w5.alloc (.cells #[.slice none 0 0, .slice none 0 0] 75) = W6 at HJ ⊢
  go_wp2_with fail
  refine (head_any W6).mono ?_
  rintro e w7 ⟨rfl, b7⟩
  have b37 := HJ.out.1.trans (b7.mono HJ.out.1.size)
  have k7 := HG.out.2.2.1.below b37
  have q0 : w7.cell? ⟨w.heap.size, 0, none⟩ = some (.slice A S.length c) := k7.k.cell 0
  have q1 : w7.cell? ⟨w.heap.size, 1, none⟩ = some (.slice B P.length d) := k7.k.cell 1
  have HK := Lib.hid (And.intro b37 (And.intro k7 b7))
  clear b37 k7 b7
  go_wp2_with fail
  refine (wrong_bad w7 A c B d S P spot (HK.out.2.1.forR HG.out.1) ho).mono ?_
  rintro e w8 ⟨rfl, b8⟩
  have b38 := HK.out.1.trans (b8.mono HK.out.1.size)
  have k8 := HG.out.2.2.1.below b38
  have q2 : w8.cell? ⟨w.heap.size, 0, none⟩ = some (.slice A S.length c) := k8.k.cell 0
  have q3 : w8.cell? ⟨w.heap.size, 1, none⟩ = some (.slice B P.length d) := k8.k.cell 1
  have HL := Lib.hid (And.intro b38 (And.intro k8 (HK.out.2.2.trans (b8.mono HK.out.2.2.size))))
  clear b38 k8 b8 q0 q1
  go_wp2_with fail
  refine (rcheck_no w8 A c B d S P (HL.out.2.1.forR HG.out.1) ho).mono ?_
  rintro e w9 ⟨rfl, b9⟩
  have HM := Lib.hid (And.intro (HL.out.1.trans (b9.mono HL.out.1.size)) (HL.out.2.2.trans (b9.mono HL.out.2.2.size)))
  clear b9 q2 q3
  go_wp2
  go_ret
  exact ⟨rfl, HG.out.2.1.trans (HM.out.1.mono HG.out.2.1.size)⟩

set_option maxHeartbeats 4000000 in
set_option maxRecDepth 20000 in
theorem cuts_none (w : World) (A : Option Addr) (c : Nat) (B : Option Addr) (d : Nat) (S : List Fct) (P : List Pk) (spot : Int) (T : List Int) (h : ForR w A c B d S P) (ho : OkFor S P) (hs : ¬ (0 ≤ spot ∧ spot < (S.length : Int))) (hT : Settled P S.length T) :
    Calls Try.prog 7 #[forV A S.length c B P.length d, .int .i64 spot] w (Sam w (.bool true)) := by
  have HT := Lib.hid (And.intro hT hs)
  clear hT hs
  have k0 := Blk.new w 75 #[.slice A S.length c, .slice B P.length d]
  have u0 : Below w.heap.size w (w.alloc (.cells #[.slice A S.length c, .slice B P.length d] 75)) := (Below.refl _ _).alloc (Nat.le_refl _) _
  have HH : Has (w.alloc (.cells #[.slice A S.length c, .slice B P.length d] 75)) w.heap.size A c B d S P := ⟨k0, h.rs.below u0, h.rp.below u0, h.hc, h.hd⟩
  have H := Lib.hid (And.intro h.fit (And.intro u0 HH))
  clear h k0 u0 HH
  go_enter Try.func7, Try.ntmps7
  unfold forV
  go_upto_region 1 with (fail)
  generalize w.alloc (.cells #[.slice A S.length c, .slice B P.length d] 75) = W0 at H ⊢
  have q0 : W0.cell? ⟨w.heap.size, 0, none⟩ = some (.slice A S.length c) := H.out.2.2.k.cell 0
  have q1 : W0.cell? ⟨w.heap.size, 1, none⟩ = some (.slice B P.length d) := H.out.2.2.k.cell 1
  go_wp2_with fail
  refine (copy_any W0 A c B d S P (H.out.2.2.forR H.out.1)).mono ?_
  intro e w1 hn
  obtain ⟨A1, c1, B1, d1, rfl, F1, b1⟩ := hn.at H.out.1
  have HF := Lib.hid (And.intro F1 (And.intro (H.out.2.1.trans (b1.mono H.out.2.1.size)) (H.out.2.2.below b1)))
  clear hn F1 b1 q0 q1 H
  unfold forV
  go_wp2_with fail
  refine (ttrim_yes w1 A1 c1 B1 d1 S P T HF.out.1 ho HT.out.1).mono ?_
  rintro e w2 ⟨A2, c2, B2, d2, rfl, ra, rb, hca, hcb, b2⟩
  have HR2 := Lib.hid (And.intro ra (And.intro rb (And.intro hca hcb)))
  clear ra rb hca hcb
  have kt := Blk.new w2 75 #[.slice A2 (cutS S (endsB T)).length c2, .slice B2 (cutP P (endsB T)).length d2]
  have bt : Below w2.heap.size w2 (w2.alloc (.cells #[.slice A2 (cutS S (endsB T)).length c2, .slice B2 (cutP P (endsB T)).length d2] 75)) := (Below.refl _ _).alloc (Nat.le_refl _) _
  have HG := Lib.hid (And.intro HF.out.1.fit (And.intro ((HF.out.2.1.trans (b2.mono HF.out.2.1.size)).trans (bt.mono (Nat.le_trans HF.out.2.1.size b2.size))) (And.intro ((HF.out.2.2.below b2).below bt) (And.intro kt bt))))
  clear b2 kt bt HF
  (try unfold forV)
  go_upto_region 2 with (fail)
  generalize w2.alloc (.cells #[.slice A2 (cutS S (endsB T)).length c2, .slice B2 (cutP P (endsB T)).length d2] 75) = W3 at HG ⊢
  have q0 : W3.cell? ⟨w.heap.size, 0, none⟩ = some (.slice A S.length c) := HG.out.2.2.1.k.cell 0
  have q1 : W3.cell? ⟨w.heap.size, 1, none⟩ = some (.slice B P.length d) := HG.out.2.2.1.k.cell 1
  go_wp2_with fail
  refine (copy_any W3 A c B d S P (HG.out.2.2.1.forR HG.out.1)).mono ?_
  intro e w4 hn
  obtain ⟨A4, c4, B4, d4, rfl, F4, b4⟩ := hn.at HG.out.1
  have HI := Lib.hid (And.intro F4 b4)
  clear hn F4 b4 q0 q1
  unfold forV
  go_wp2_with fail
  refine (treach_none w4 A4 c4 B4 d4 S P spot HI.out.1 ho HT.out.2).mono ?_
  rintro e w5 ⟨rfl, b5⟩
  have ku := Blk.new w5 75 #[.slice none 0 0, .slice none 0 0]
  have bu : Below w5.heap.size w5 (w5.alloc (.cells #[.slice none 0 0, .slice none 0 0] 75)) := (Below.refl _ _).alloc (Nat.le_refl _) _
  have b35 := HI.out.2.trans (b5.mono HI.out.2.size)
  have b36 := b35.trans (bu.mono b35.size)
  have HJ := Lib.hid (And.intro b36 (And.intro ku bu))
  clear b5 ku bu b35 b36
  (try unfold forV)
  go_upto_region 3 with (fail)
  generalize w5.alloc (.cells #[.slice none 0 0, .slice none 0 0] 75) = W6 at HJ ⊢
  go_wp2_with fail
  refine (head_any W6).mono ?_
  rintro e w7 ⟨rfl, b7⟩
  have b37 := HJ.out.1.trans (b7.mono HJ.out.1.size)
  have k7 := HG.out.2.2.1.below b37
  have q0 : w7.cell? ⟨w.heap.size, 0, none⟩ = some (.slice A S.length c) := k7.k.cell 0
  have q1 : w7.cell? ⟨w.heap.size, 1, none⟩ = some (.slice B P.length d) := k7.k.cell 1
  have HK := Lib.hid (And.intro b37 (And.intro k7 b7))
  clear b37 k7 b7
  go_wp2_with fail
  refine (wrong_none w7 A c B d S P spot (HK.out.2.1.forR HG.out.1) ho HT.out.2).mono ?_
  rintro e w8 ⟨rfl, b8⟩
  have b38 := HK.out.1.trans (b8.mono HK.out.1.size)
  have k8 := HG.out.2.2.1.below b38
  have q2 : w8.cell? ⟨w.heap.size, 0, none⟩ = some (.slice A S.length c) := k8.k.cell 0
  have q3 : w8.cell? ⟨w.heap.size, 1, none⟩ = some (.slice B P.length d) := k8.k.cell 1
  have HL := Lib.hid (And.intro b38 (And.intro k8 (HK.out.2.2.trans (b8.mono HK.out.2.2.size))))
  clear b38 k8 b8 q0 q1
  go_wp2_with fail
  refine (rcheck_yes w8 A c B d S P (HL.out.2.1.forR HG.out.1) ho).mono ?_
  rintro e w9 ⟨rfl, b9⟩
  have HG2 := Lib.hid (show Has W3 w2.heap.size A2 c2 B2 d2 (cutS S (endsB T)) (cutP P (endsB T)) from ⟨HG.out.2.2.2.1, HR2.out.1.below HG.out.2.2.2.2, HR2.out.2.1.below HG.out.2.2.2.2, HR2.out.2.2.1, HR2.out.2.2.2⟩)
  have HM := Lib.hid (And.intro (HL.out.1.trans (b9.mono HL.out.1.size)) (HL.out.2.2.trans (b9.mono HL.out.2.2.size)))
  clear b9 q2 q3
  have hE : (endsB T).length = S.length := by rw [endsB_len, HT.out.1.len]
  have HE0 := Lib.hid hE
  clear hE
  have ha := (HG2.out.below HM.out.1)
  have up : ∀ w', Below w9.heap.size w9 w' → w'.cell? ⟨w2.heap.size, 0, none⟩ = some (.slice A2 (cutS S (endsB T)).length c2) ∧ w'.cell? ⟨w2.heap.size, 1, none⟩ = some (.slice B2 (cutP P (endsB T)).length d2) ∧ w'.cell? ⟨w.heap.size, 0, none⟩ = some (.slice A S.length c) ∧ w'.cell? ⟨w.heap.size, 1, none⟩ = some (.slice B P.length d) := fun w' hb => by
    have h1 := ha.below hb
    have h2 := (HG.out.2.2.1.below HM.out.1).below hb
    exact ⟨h1.k.cell 0, h1.k.cell 1, h2.k.cell 0, h2.k.cell 1⟩
  have UP := Lib.hid up
  have HA := Lib.hid ha
  clear up ha
  go_wp2
  refine wp_region_ord (fun w' => w'.cell? ⟨w2.heap.size, 0, none⟩ = some (.slice A2 (cutS S (endsB T)).length c2) ∧ w'.cell? ⟨w2.heap.size, 1, none⟩ = some (.slice B2 (cutP P (endsB T)).length d2) ∧ w'.cell? ⟨w.heap.size, 0, none⟩ = some (.slice A S.length c) ∧ w'.cell? ⟨w.heap.size, 1, none⟩ = some (.slice B P.length d)) 11 [(0, true), (1, true), (2, true), (3, true), (4, true), (5, true), (6, false), (7, false), (8, false), (9, true), (10, true)] (by kernel_rfl) (by kernel_rfl) (fun _ _ d _ _ h => by cases d <;> exact h) (UP.out _ (Below.refl _ _).drew) ?_
  iterate 6 (refine ord_take (v := ?_) rfl (by first | with_reducible rfl | kernel_rfl) ?_ ?_; rotate_left; (focus (intro wS hS; (try dsimp only at hS); go_split_ands; go_simp; (try with_reducible rfl); done)); (try simp only [Act.put, List.getElem_toArray, List.getElem_cons_succ, List.getElem_cons_zero, List.setIfInBounds_toArray, List.set_cons_zero, List.set_cons_succ]))
  (refine ord_dog rfl (by first | with_reducible rfl | kernel_rfl) (fun K hK => ?_); go_simp)
  have kk := HG.out.2.2.1.below HM.out.1
  refine (rends_any _ A c B d S P T ((kk.below (Below.refl w9.heap.size w9).drew).forR HG.out.1) ho HT.out.1).mono ?_
  rintro e w10 ⟨gE, rfl, hgE, hzE, b10⟩
  have b10 : Below w9.heap.size w9 w10 := (Below.refl w9.heap.size w9).drew.trans b10
  refine hK _ _ (fun _ => UP.out _ b10) ?_
  clear hK K
  (try simp only [Act.put, List.getElem_toArray, List.getElem_cons_succ, List.getElem_cons_zero, List.setIfInBounds_toArray, List.set_cons_zero, List.set_cons_succ])
  rw [HE0.out]
  have HN := Lib.hid (And.intro hgE (And.intro b10 (kk.below b10)))
  clear hgE hzE b10 kk
  (refine ord_dog rfl (by first | with_reducible rfl | kernel_rfl) (fun K hK => ?_); go_simp)
  refine (rcut_any w10 A c B d S P (endsB T) gE (HN.out.2.2.forR HG.out.1) ho.goes HE0.out HN.out.1).mono ?_
  rintro e w11 ⟨A11, c11, B11, d11, rfl, own1, own2, b11⟩
  have b11' := HN.out.2.1.trans (b11.mono HN.out.2.1.size)
  refine hK _ _ (fun _ => UP.out _ b11') ?_
  clear hK K
  (try simp only [Act.put, List.getElem_toArray, List.getElem_cons_succ, List.getElem_cons_zero, List.setIfInBounds_toArray, List.set_cons_zero, List.set_cons_succ])
  have r1 := RowR.of_own own1
  have r2 := RowR.of_own own2
  have hl1 := own_le own1
  have hl2 := own_le own2
  have HO := Lib.hid (And.intro b11' (And.intro r1 (And.intro r2 (And.intro hl1 hl2))))
  clear own1 own2 b11 b11' r1 r2 hl1 hl2
  unfold forV
  (refine ord_dog rfl (by first | with_reducible rfl | kernel_rfl) (fun K hK => ?_); go_simp)
  have hb := cutS_len S (endsB T)
  have hb2 := cutP_len P (endsB T)
  refine (same_any w11 A2 c2 B2 d2 A11 c11 B11 d11 (cutS S (endsB T)) (cutP P (endsB T)) (HA.out.below HO.out.1).rs (HA.out.below HO.out.1).rp HO.out.2.1 HO.out.2.2.1 ⟨by have := HG.out.1.s; omega, by have := HG.out.1.p; omega, HA.out.hc, HO.out.2.2.2.1, HA.out.hd, HO.out.2.2.2.2⟩).mono ?_
  rintro e w12 ⟨rfl, b12⟩
  have b12' := HO.out.1.trans (b12.mono HO.out.1.size)
  refine hK _ _ (fun _ => UP.out _ b12') ?_
  have HP := Lib.hid b12'
  clear hK K b12 b12' hb hb2
  (try simp only [Act.put, List.getElem_toArray, List.getElem_cons_succ, List.getElem_cons_zero, List.setIfInBounds_toArray, List.set_cons_zero, List.set_cons_succ])
  iterate 2 (refine ord_take (v := ?_) rfl (by first | with_reducible rfl | kernel_rfl) ?_ ?_; rotate_left; (focus (intro wS hS; (try dsimp only at hS); go_split_ands; go_simp; (try with_reducible rfl); done)); (try simp only [Act.put, List.getElem_toArray, List.getElem_cons_succ, List.getElem_cons_zero, List.setIfInBounds_toArray, List.set_cons_zero, List.set_cons_succ]))
  refine ord_done ?_
  have up2 : ∀ w', Below w12.heap.size w12 w' → True := fun _ _ => trivial
  clear up2
  go_wp2
  refine wp_region_ord (fun _ => True) 13 [(0, true), (1, true), (2, true), (3, true), (4, true), (5, true), (6, true), (7, false), (8, false), (9, false), (10, false), (11, true), (12, true)] (by kernel_rfl) (by kernel_rfl) (fun _ _ d _ _ h => by cases d <;> exact h) trivial ?_
  iterate 3 (refine ord_take (v := ?_) rfl (by first | with_reducible rfl | kernel_rfl) ?_ ?_; rotate_left; (focus (intro wS hS; (try dsimp only at hS); go_split_ands; go_simp; (try with_reducible rfl); done)); (try simp only [Act.put, List.getElem_toArray, List.getElem_cons_succ, List.getElem_cons_zero, List.setIfInBounds_toArray, List.set_cons_zero, List.set_cons_succ]))
  iterate 4 (refine ord_skip rfl (by kernel_rfl) ?_; (try simp only [Act.put, List.getElem_toArray, List.getElem_cons_succ, List.getElem_cons_zero, List.setIfInBounds_toArray, List.set_cons_zero, List.set_cons_succ]))
  iterate 4 (refine ord_skipf rfl (by kernel_rfl) (by first | assumption | trivial | exact UP.out _ H5.out) ?_; (try simp only [Act.put, List.getElem_toArray, List.getElem_cons_succ, List.getElem_cons_zero, List.setIfInBounds_toArray, List.set_cons_zero, List.set_cons_succ]))
  iterate 2 (refine ord_take (v := ?_) rfl (by first | with_reducible rfl | kernel_rfl) ?_ ?_; rotate_left; (focus (intro wS hS; (try dsimp only at hS); go_split_ands; go_simp; (try with_reducible rfl); done)); (try simp only [Act.put, List.getElem_toArray, List.getElem_cons_succ, List.getElem_cons_zero, List.setIfInBounds_toArray, List.set_cons_zero, List.set_cons_succ]))
  refine ord_done ?_
  go_wp2
  go_ret
  have bb := HM.out.1.trans (HP.out.mono HM.out.1.size)
  exact ⟨rfl, below_drewN (HG.out.2.1.trans (bb.mono HG.out.2.1.size)) _⟩

set_option maxHeartbeats 4000000 in
set_option maxRecDepth 20000 in
theorem cuts_yes (w : World) (A : Option Addr) (c : Nat) (B : Option Addr) (d : Nat) (S : List Fct) (P : List Pk) (s : Nat) (T : List Int) (h : ForR w A c B d S P) (ho : OkFor S P) (hs : s < S.length) (hT : Settled P S.length T) :
    Calls Try.prog 7 #[forV A S.length c B P.length d, .int .i64 (s : Int)] w (Sam w (.bool true)) := by
  have HT := Lib.hid (And.intro hT True.intro)
  clear hT
  have k0 := Blk.new w 75 #[.slice A S.length c, .slice B P.length d]
  have u0 : Below w.heap.size w (w.alloc (.cells #[.slice A S.length c, .slice B P.length d] 75)) := (Below.refl _ _).alloc (Nat.le_refl _) _
  have HH : Has (w.alloc (.cells #[.slice A S.length c, .slice B P.length d] 75)) w.heap.size A c B d S P := ⟨k0, h.rs.below u0, h.rp.below u0, h.hc, h.hd⟩
  have H := Lib.hid (And.intro h.fit (And.intro u0 HH))
  clear h k0 u0 HH
  go_enter Try.func7, Try.ntmps7
  unfold forV
  go_upto_region 1 with (fail)
  generalize w.alloc (.cells #[.slice A S.length c, .slice B P.length d] 75) = W0 at H ⊢
  have q0 : W0.cell? ⟨w.heap.size, 0, none⟩ = some (.slice A S.length c) := H.out.2.2.k.cell 0
  have q1 : W0.cell? ⟨w.heap.size, 1, none⟩ = some (.slice B P.length d) := H.out.2.2.k.cell 1
  go_wp2_with fail
  refine (copy_any W0 A c B d S P (H.out.2.2.forR H.out.1)).mono ?_
  intro e w1 hn
  obtain ⟨A1, c1, B1, d1, rfl, F1, b1⟩ := hn.at H.out.1
  have HF := Lib.hid (And.intro F1 (And.intro (H.out.2.1.trans (b1.mono H.out.2.1.size)) (H.out.2.2.below b1)))
  clear hn F1 b1 q0 q1 H
  unfold forV
  go_wp2_with fail
  refine (ttrim_yes w1 A1 c1 B1 d1 S P T HF.out.1 ho HT.out.1).mono ?_
  rintro e w2 ⟨A2, c2, B2, d2, rfl, ra, rb, hca, hcb, b2⟩
  have HR2 := Lib.hid (And.intro ra (And.intro rb (And.intro hca hcb)))
  clear ra rb hca hcb
  have kt := Blk.new w2 75 #[.slice A2 (cutS S (endsB T)).length c2, .slice B2 (cutP P (endsB T)).length d2]
  have bt : Below w2.heap.size w2 (w2.alloc (.cells #[.slice A2 (cutS S (endsB T)).length c2, .slice B2 (cutP P (endsB T)).length d2] 75)) := (Below.refl _ _).alloc (Nat.le_refl _) _
  have HG := Lib.hid (And.intro HF.out.1.fit (And.intro ((HF.out.2.1.trans (b2.mono HF.out.2.1.size)).trans (bt.mono (Nat.le_trans HF.out.2.1.size b2.size))) (And.intro ((HF.out.2.2.below b2).below bt) (And.intro kt bt))))
  clear b2 kt bt HF
  (try unfold forV)
  go_upto_region 2 with (fail)
  generalize w2.alloc (.cells #[.slice A2 (cutS S (endsB T)).length c2, .slice B2 (cutP P (endsB T)).length d2] 75) = W3 at HG ⊢
  have q0 : W3.cell? ⟨w.heap.size, 0, none⟩ = some (.slice A S.length c) := HG.out.2.2.1.k.cell 0
  have q1 : W3.cell? ⟨w.heap.size, 1, none⟩ = some (.slice B P.length d) := HG.out.2.2.1.k.cell 1
  go_wp2_with fail
  refine (copy_any W3 A c B d S P (HG.out.2.2.1.forR HG.out.1)).mono ?_
  intro e w4 hn
  obtain ⟨A4, c4, B4, d4, rfl, F4, b4⟩ := hn.at HG.out.1
  have HI := Lib.hid (And.intro F4 b4)
  clear hn F4 b4 q0 q1
  unfold forV
  go_wp2_with fail
  refine (treach_yes w4 A4 c4 B4 d4 S P s HI.out.1 ho hs).mono ?_
  rintro e w5 ⟨I, hI, A5, c5, B5, d5, rfl, ra, rb, hca, hcb, b5⟩
  have HR5 := Lib.hid (And.intro hI (And.intro ra (And.intro rb (And.intro hca hcb))))
  clear hI ra rb hca hcb
  have ku := Blk.new w5 75 #[.slice A5 (cutS S I).length c5, .slice B5 (cutP P I).length d5]
  have bu : Below w5.heap.size w5 (w5.alloc (.cells #[.slice A5 (cutS S I).length c5, .slice B5 (cutP P I).length d5] 75)) := (Below.refl _ _).alloc (Nat.le_refl _) _
  have b35 := HI.out.2.trans (b5.mono HI.out.2.size)
  have b36 := b35.trans (bu.mono b35.size)
  have HJ := Lib.hid (And.intro b36 (And.intro ku bu))
  clear b5 ku bu b35 b36
  (try unfold forV)
  go_upto_region 3 with (fail)
  generalize w5.alloc (.cells #[.slice A5 (cutS S I).length c5, .slice B5 (cutP P I).length d5] 75) = W6 at HJ ⊢
  go_wp2_with fail
  refine (head_any W6).mono ?_
  rintro e w7 ⟨rfl, b7⟩
  have b37 := HJ.out.1.trans (b7.mono HJ.out.1.size)
  have k7 := HG.out.2.2.1.below b37
  have q0 : w7.cell? ⟨w.heap.size, 0, none⟩ = some (.slice A S.length c) := k7.k.cell 0
  have q1 : w7.cell? ⟨w.heap.size, 1, none⟩ = some (.slice B P.length d) := k7.k.cell 1
  have HK := Lib.hid (And.intro b37 (And.intro k7 b7))
  clear b37 k7 b7
  go_wp2_with fail
  refine (wrong_ok w7 A c B d S P (s : Int) (HK.out.2.1.forR HG.out.1) ho ⟨by omega, by omega⟩).mono ?_
  rintro e w8 ⟨rfl, b8⟩
  have b38 := HK.out.1.trans (b8.mono HK.out.1.size)
  have k8 := HG.out.2.2.1.below b38
  have q2 : w8.cell? ⟨w.heap.size, 0, none⟩ = some (.slice A S.length c) := k8.k.cell 0
  have q3 : w8.cell? ⟨w.heap.size, 1, none⟩ = some (.slice B P.length d) := k8.k.cell 1
  have HL := Lib.hid (And.intro b38 (And.intro k8 (HK.out.2.2.trans (b8.mono HK.out.2.2.size))))
  clear b38 k8 b8 q0 q1
  go_wp2_with fail
  refine (rcheck_yes w8 A c B d S P (HL.out.2.1.forR HG.out.1) ho).mono ?_
  rintro e w9 ⟨rfl, b9⟩
  have HG2 := Lib.hid (show Has W3 w2.heap.size A2 c2 B2 d2 (cutS S (endsB T)) (cutP P (endsB T)) from ⟨HG.out.2.2.2.1, HR2.out.1.below HG.out.2.2.2.2, HR2.out.2.1.below HG.out.2.2.2.2, HR2.out.2.2.1, HR2.out.2.2.2⟩)
  have HM := Lib.hid (And.intro (HL.out.1.trans (b9.mono HL.out.1.size)) (HL.out.2.2.trans (b9.mono HL.out.2.2.size)))
  clear b9 q2 q3
  have hE : (endsB T).length = S.length := by rw [endsB_len, HT.out.1.len]
  have HE0 := Lib.hid hE
  clear hE
  have ha := (HG2.out.below HM.out.1)
  have up : ∀ w', Below w9.heap.size w9 w' → w'.cell? ⟨w2.heap.size, 0, none⟩ = some (.slice A2 (cutS S (endsB T)).length c2) ∧ w'.cell? ⟨w2.heap.size, 1, none⟩ = some (.slice B2 (cutP P (endsB T)).length d2) ∧ w'.cell? ⟨w.heap.size, 0, none⟩ = some (.slice A S.length c) ∧ w'.cell? ⟨w.heap.size, 1, none⟩ = some (.slice B P.length d) := fun w' hb => by
    have h1 := ha.below hb
    have h2 := (HG.out.2.2.1.below HM.out.1).below hb
    exact ⟨h1.k.cell 0, h1.k.cell 1, h2.k.cell 0, h2.k.cell 1⟩
  have UP := Lib.hid up
  have HA := Lib.hid ha
  clear up ha
  go_wp2
  refine wp_region_ord (fun w' => w'.cell? ⟨w2.heap.size, 0, none⟩ = some (.slice A2 (cutS S (endsB T)).length c2) ∧ w'.cell? ⟨w2.heap.size, 1, none⟩ = some (.slice B2 (cutP P (endsB T)).length d2) ∧ w'.cell? ⟨w.heap.size, 0, none⟩ = some (.slice A S.length c) ∧ w'.cell? ⟨w.heap.size, 1, none⟩ = some (.slice B P.length d)) 11 [(0, true), (1, true), (2, true), (3, true), (4, true), (5, true), (6, false), (7, false), (8, false), (9, true), (10, true)] (by kernel_rfl) (by kernel_rfl) (fun _ _ d _ _ h => by cases d <;> exact h) (UP.out _ (Below.refl _ _).drew) ?_
  iterate 6 (refine ord_take (v := ?_) rfl (by first | with_reducible rfl | kernel_rfl) ?_ ?_; rotate_left; (focus (intro wS hS; (try dsimp only at hS); go_split_ands; go_simp; (try with_reducible rfl); done)); (try simp only [Act.put, List.getElem_toArray, List.getElem_cons_succ, List.getElem_cons_zero, List.setIfInBounds_toArray, List.set_cons_zero, List.set_cons_succ]))
  (refine ord_dog rfl (by first | with_reducible rfl | kernel_rfl) (fun K hK => ?_); go_simp)
  have kk := HG.out.2.2.1.below HM.out.1
  refine (rends_any _ A c B d S P T ((kk.below (Below.refl w9.heap.size w9).drew).forR HG.out.1) ho HT.out.1).mono ?_
  rintro e w10 ⟨gE, rfl, hgE, hzE, b10⟩
  have b10 : Below w9.heap.size w9 w10 := (Below.refl w9.heap.size w9).drew.trans b10
  refine hK _ _ (fun _ => UP.out _ b10) ?_
  clear hK K
  (try simp only [Act.put, List.getElem_toArray, List.getElem_cons_succ, List.getElem_cons_zero, List.setIfInBounds_toArray, List.set_cons_zero, List.set_cons_succ])
  rw [HE0.out]
  have HN := Lib.hid (And.intro hgE (And.intro b10 (kk.below b10)))
  clear hgE hzE b10 kk
  (refine ord_dog rfl (by first | with_reducible rfl | kernel_rfl) (fun K hK => ?_); go_simp)
  refine (rcut_any w10 A c B d S P (endsB T) gE (HN.out.2.2.forR HG.out.1) ho.goes HE0.out HN.out.1).mono ?_
  rintro e w11 ⟨A11, c11, B11, d11, rfl, own1, own2, b11⟩
  have b11' := HN.out.2.1.trans (b11.mono HN.out.2.1.size)
  refine hK _ _ (fun _ => UP.out _ b11') ?_
  clear hK K
  (try simp only [Act.put, List.getElem_toArray, List.getElem_cons_succ, List.getElem_cons_zero, List.setIfInBounds_toArray, List.set_cons_zero, List.set_cons_succ])
  have r1 := RowR.of_own own1
  have r2 := RowR.of_own own2
  have hl1 := own_le own1
  have hl2 := own_le own2
  have HO := Lib.hid (And.intro b11' (And.intro r1 (And.intro r2 (And.intro hl1 hl2))))
  clear own1 own2 b11 b11' r1 r2 hl1 hl2
  unfold forV
  (refine ord_dog rfl (by first | with_reducible rfl | kernel_rfl) (fun K hK => ?_); go_simp)
  have hb := cutS_len S (endsB T)
  have hb2 := cutP_len P (endsB T)
  refine (same_any w11 A2 c2 B2 d2 A11 c11 B11 d11 (cutS S (endsB T)) (cutP P (endsB T)) (HA.out.below HO.out.1).rs (HA.out.below HO.out.1).rp HO.out.2.1 HO.out.2.2.1 ⟨by have := HG.out.1.s; omega, by have := HG.out.1.p; omega, HA.out.hc, HO.out.2.2.2.1, HA.out.hd, HO.out.2.2.2.2⟩).mono ?_
  rintro e w12 ⟨rfl, b12⟩
  have b12' := HO.out.1.trans (b12.mono HO.out.1.size)
  refine hK _ _ (fun _ => UP.out _ b12') ?_
  have HP := Lib.hid b12'
  clear hK K b12 b12' hb hb2
  (try simp only [Act.put, List.getElem_toArray, List.getElem_cons_succ, List.getElem_cons_zero, List.setIfInBounds_toArray, List.set_cons_zero, List.set_cons_succ])
  iterate 2 (refine ord_take (v := ?_) rfl (by first | with_reducible rfl | kernel_rfl) ?_ ?_; rotate_left; (focus (intro wS hS; (try dsimp only at hS); go_split_ands; go_simp; (try with_reducible rfl); done)); (try simp only [Act.put, List.getElem_toArray, List.getElem_cons_succ, List.getElem_cons_zero, List.setIfInBounds_toArray, List.set_cons_zero, List.set_cons_succ]))
  refine ord_done ?_
  have hb5 : Has W6 w5.heap.size A5 c5 B5 d5 (cutS S I) (cutP P I) := ⟨HJ.out.2.1, HR5.out.2.1.below HJ.out.2.2, HR5.out.2.2.1.below HJ.out.2.2, HR5.out.2.2.2.1, HR5.out.2.2.2.2⟩
  have hb9 := (hb5.below HM.out.2).below HP.out
  have kk := (HG.out.2.2.1.below HM.out.1).below HP.out
  have up : ∀ w', Below w12.heap.size w12 w' → w'.cell? ⟨w5.heap.size, 0, none⟩ = some (.slice A5 (cutS S I).length c5) ∧ w'.cell? ⟨w5.heap.size, 1, none⟩ = some (.slice B5 (cutP P I).length d5) ∧ w'.cell? ⟨w.heap.size, 0, none⟩ = some (.slice A S.length c) ∧ w'.cell? ⟨w.heap.size, 1, none⟩ = some (.slice B P.length d) := fun w' hb => by
    have h1 := hb9.below hb
    have h2 := kk.below hb
    exact ⟨h1.k.cell 0, h1.k.cell 1, h2.k.cell 0, h2.k.cell 1⟩
  have UQ := Lib.hid up
  have HQ := Lib.hid (And.intro hb9 kk)
  clear up hb9 kk hb5
  go_wp2
  refine wp_region_ord (fun w' => w'.cell? ⟨w5.heap.size, 0, none⟩ = some (.slice A5 (cutS S I).length c5) ∧ w'.cell? ⟨w5.heap.size, 1, none⟩ = some (.slice B5 (cutP P I).length d5) ∧ w'.cell? ⟨w.heap.size, 0, none⟩ = some (.slice A S.length c) ∧ w'.cell? ⟨w.heap.size, 1, none⟩ = some (.slice B P.length d)) 13 [(0, true), (1, true), (2, true), (3, true), (4, true), (5, true), (6, true), (7, false), (8, false), (9, false), (10, false), (11, true), (12, true)] (by kernel_rfl) (by kernel_rfl) (fun _ _ d _ _ h => by cases d <;> exact h) (UQ.out _ (by (repeat (first | exact Below.refl _ _ | apply Below.drew | refine Below.alloc ?_ (by first | exact Nat.le_refl _ | (simp; done) | (simp; omega)) _ | refine Below.setCell ?_ (by first | exact Nat.le_refl _ | (simp; done) | (simp; omega)) _)))) ?_
  iterate 7 (refine ord_take (v := ?_) rfl (by first | with_reducible rfl | kernel_rfl) ?_ ?_; rotate_left; (focus (intro wS hS; (try dsimp only at hS); go_split_ands; go_simp; (try with_reducible rfl); done)); (try simp only [Act.put, List.getElem_toArray, List.getElem_cons_succ, List.getElem_cons_zero, List.setIfInBounds_toArray, List.set_cons_zero, List.set_cons_succ]))
  (refine ord_dog rfl (by first | with_reducible rfl | kernel_rfl) (fun K hK => ?_); go_simp)
  refine hK _ _ (fun _ => UQ.out _ (by (repeat (first | exact Below.refl _ _ | apply Below.drew | refine Below.alloc ?_ (by first | exact Nat.le_refl _ | (simp; done) | (simp; omega)) _ | refine Below.setCell ?_ (by first | exact Nat.le_refl _ | (simp; done) | (simp; omega)) _)))) ?_
  clear hK K
  (try simp only [Act.put, List.getElem_toArray, List.getElem_cons_succ, List.getElem_cons_zero, List.setIfInBounds_toArray, List.set_cons_zero, List.set_cons_succ])
  (refine ord_dog rfl (by first | with_reducible rfl | kernel_rfl) (fun K hK => ?_); go_simp)
  have hown := (Two.start w12 s).op
  have bA : Below w12.heap.size w12 (w12.alloc (.cells #[.int .i64 (s : Int)] 3)) := (Below.refl _ _).alloc (Nat.le_refl _) _
  have hp40 := HG.out.1.p
  refine (reached_any w12 (w12.alloc (.cells #[.int .i64 (s : Int)] 3)).drew A c B d S P (fun x => x = (s : Int)) (.slice (some ⟨w12.heap.size, 0, none⟩) 1 1) [s] (HQ.out.2.forR HG.out.1) ho.pks bA.drew hown (fun x => by simp) (fun y hy => by simp at hy; omega) (by simp; omega)).mono ?_
  rintro e w13 ⟨gR, I', rfl, hR, hgR, hzR, b13⟩
  obtain rfl := hR.uniq HR5.out.1
  refine hK _ _ (fun _ => UQ.out _ b13) ?_
  clear hK K hown bA
  (try simp only [Act.put, List.getElem_toArray, List.getElem_cons_succ, List.getElem_cons_zero, List.setIfInBounds_toArray, List.set_cons_zero, List.set_cons_succ])
  have HV := Lib.hid (And.intro hgR (And.intro b13 (And.intro (HQ.out.2.below b13) hR.len)))
  clear hgR hzR b13 hR
  (refine ord_dog rfl (by first | with_reducible rfl | kernel_rfl) (fun K hK => ?_); go_simp)
  refine (rcut_any w13 A c B d S P I' gR (HV.out.2.2.1.forR HG.out.1) ho.goes HV.out.2.2.2 HV.out.1).mono ?_
  rintro e w14 ⟨A11', c11', B11', d11', rfl, own1, own2, b14⟩
  have b14' := HV.out.2.1.trans (b14.mono HV.out.2.1.size)
  refine hK _ _ (fun _ => UQ.out _ b14') ?_
  clear hK K
  (try simp only [Act.put, List.getElem_toArray, List.getElem_cons_succ, List.getElem_cons_zero, List.setIfInBounds_toArray, List.set_cons_zero, List.set_cons_succ])
  have HW := Lib.hid (And.intro b14' (And.intro (RowR.of_own own1) (And.intro (RowR.of_own own2) (And.intro (own_le own1) (own_le own2)))))
  clear own1 own2 b14 b14'
  unfold forV
  (refine ord_dog rfl (by first | with_reducible rfl | kernel_rfl) (fun K hK => ?_); go_simp)
  have hb := cutS_len S I'
  have hb2 := cutP_len P I'
  refine (same_any w14 A5 c5 B5 d5 A11' c11' B11' d11' (cutS S I') (cutP P I') (HQ.out.1.below HW.out.1).rs (HQ.out.1.below HW.out.1).rp HW.out.2.1 HW.out.2.2.1 ⟨by have := HG.out.1.s; omega, by have := HG.out.1.p; omega, HQ.out.1.hc, HW.out.2.2.2.1, HQ.out.1.hd, HW.out.2.2.2.2⟩).mono ?_
  rintro e w15 ⟨rfl, b15⟩
  have b15' := HW.out.1.trans (b15.mono HW.out.1.size)
  refine hK _ _ (fun _ => UQ.out _ b15') ?_
  have HX := Lib.hid b15'
  clear hK K b15 b15' hb hb2
  (try simp only [Act.put, List.getElem_toArray, List.getElem_cons_succ, List.getElem_cons_zero, List.setIfInBounds_toArray, List.set_cons_zero, List.set_cons_succ])
  iterate 2 (refine ord_take (v := ?_) rfl (by first | with_reducible rfl | kernel_rfl) ?_ ?_; rotate_left; (focus (intro wS hS; (try dsimp only at hS); go_split_ands; go_simp; (try with_reducible rfl); done)); (try simp only [Act.put, List.getElem_toArray, List.getElem_cons_succ, List.getElem_cons_zero, List.setIfInBounds_toArray, List.set_cons_zero, List.set_cons_succ]))
  refine ord_done ?_
  go_wp2
  go_ret
  have bb := HM.out.1.trans ((HP.out.trans (HX.out.mono HP.out.size)).mono HM.out.1.size)
  exact ⟨rfl, HG.out.2.1.trans (bb.mono HG.out.2.1.size)⟩
end Go.Proofs.Ytbppbgdmoihooaa
