/- The document's answer of layer 16: two graphs as one; labels and lone nodes of a graph. -/
import Derived.Test.YthmkgnifcbnkpaaGreatRg3
import Derived.Test.YthmkgnifcbnkpaaGreatJnA
import Derived.Test.YthmkgnifcbnkpaaGreatRg1
namespace Go.Proofs.YthmkgnifcbnkpaaGreat
open Go.RowKit

set_option maxHeartbeats 4000000 in
set_option maxRecDepth 100000 in
theorem refJoin_any (w : World) (A : Option Addr) (c : Nat) (B : Option Addr) (d : Nat) (N : List Txt) (E : List Ed) (A' : Option Addr) (c' : Nat) (B' : Option Addr) (d' : Nat) (N' : List Txt) (E' : List Ed) (h : ForG w A c B d N E) (h' : ForG w A' c' B' d' N' E') :
    Calls Tryz.prog 28 #[twoV A N.length c B E.length d, twoV A' N'.length c' B' E'.length d'] w (JoinP w N E N' E') := by
  obtain ⟨zA, hzA⟩ : ∃ z, checkI N E = z := ⟨_, rfl⟩
  obtain ⟨zB, hzB⟩ : ∃ z, checkI N' E' = z := ⟨_, rfl⟩
  have hcA := fun {V : World} (h : ForG V A c B d N E) => refCheck_any V A c B d N E h
  have hcB := fun {V : World} (h : ForG V A' c' B' d' N' E') => refCheck_any V A' c' B' d' N' E' h
  rw [hzA] at hcA
  rw [hzB] at hcB
  have k0 := ((Blk.new w 25 #[.slice A N.length c, .slice B E.length d]).alloc (.cells #[.slice A' N'.length c', .slice B' E'.length d'] 25)).alloc (.cells #[.slice none 0 0, .slice none 0 0] 25)
  have k1 := (Blk.new (w.alloc (.cells #[.slice A N.length c, .slice B E.length d] 25)) 25 #[.slice A' N'.length c', .slice B' E'.length d']).alloc (.cells #[.slice none 0 0, .slice none 0 0] 25)
  have k2 := Blk.new ((w.alloc (.cells #[.slice A N.length c, .slice B E.length d] 25)).alloc (.cells #[.slice A' N'.length c', .slice B' E'.length d'] 25)) 25 #[.slice none 0 0, .slice none 0 0]
  simp only [World.size_alloc] at k1 k2
  have u0 : Below w.heap.size w (((w.alloc (.cells #[.slice A N.length c, .slice B E.length d] 25)).alloc (.cells #[.slice A' N'.length c', .slice B' E'.length d'] 25)).alloc (.cells #[.slice none 0 0, .slice none 0 0] 25)) := by (repeat (first | exact Below.refl _ _ | apply Below.drew | refine Below.alloc ?_ (by first | exact Nat.le_refl _ | (simp; done) | (simp; omega)) _ | refine Below.setCell ?_ (by first | exact Nat.le_refl _ | (simp; done) | (simp; omega)) _))
  have H := Lib.hid (And.intro (h.below u0) (And.intro (h'.below u0) (And.intro k0 (And.intro k1 (And.intro k2 u0)))))
  have HZ := Lib.hid (And.intro hzA hzB)
  clear h h' k0 k1 k2 u0 hzA hzB
  obtain ⟨n1, hn1⟩ : ∃ n, N.length = n := ⟨_, rfl⟩
  obtain ⟨n2, hn2⟩ : ∃ n, N'.length = n := ⟨_, rfl⟩
  obtain ⟨m1, hm1⟩ : ∃ n, E.length = n := ⟨_, rfl⟩
  obtain ⟨m2, hm2⟩ : ∃ n, E'.length = n := ⟨_, rfl⟩
  unfold twoV at hcA hcB ⊢
  rw [hn1, hm1, hn2, hm2] at H
  rw [hn1, hm1] at hcA
  rw [hn2, hm2] at hcB
  rw [hn1, hm1, hn2, hm2]
  have HN := Lib.hid (And.intro hn1 (And.intro hm1 (And.intro hn2 hm2)))
  clear hn1 hm1 hn2 hm2
  go_enter Tryz.func28, Tryz.ntmps28
  go_upto_region 1 with (fail)
  generalize ((w.alloc (.cells #[.slice A n1 c, .slice B m1 d] 25)).alloc (.cells #[.slice A' n2 c', .slice B' m2 d'] 25)).alloc (.cells #[.slice none 0 0, .slice none 0 0] 25) = W0 at H ⊢
  have up : ∀ W, Below W0.heap.size W0 W → Blk W w.heap.size 25 #[.slice A n1 c, .slice B m1 d] ∧ Blk W (w.heap.size + 1) 25 #[.slice A' n2 c', .slice B' m2 d'] ∧ Blk W (w.heap.size + 1 + 1) 25 #[.slice none 0 0, .slice none 0 0] ∧ ForG W A c B d N E ∧ ForG W A' c' B' d' N' E' ∧ Below w.heap.size w W := fun W hb => by
    have u := Upd.of_below hb (fun _ => False)
    exact ⟨H.out.2.2.1.upd u id, H.out.2.2.2.1.upd u id, H.out.2.2.2.2.1.upd u id, H.out.1.below hb, H.out.2.1.below hb, H.out.2.2.2.2.2.trans (hb.mono H.out.2.2.2.2.2.size)⟩
  have UP := Lib.hid up
  have hsz : w.heap.size + 1 + 1 < W0.heap.size := H.out.2.2.2.2.1.lt
  clear up
  have q0 : W0.cell? ⟨w.heap.size, 0, none⟩ = some (.slice A n1 c) := H.out.2.2.1.cell 0
  have q1 : W0.cell? ⟨w.heap.size, 1, none⟩ = some (.slice B m1 d) := H.out.2.2.1.cell 1
  have q2 : W0.cell? ⟨w.heap.size + 1, 0, none⟩ = some (.slice A' n2 c') := H.out.2.2.2.1.cell 0
  have q3 : W0.cell? ⟨w.heap.size + 1, 1, none⟩ = some (.slice B' m2 d') := H.out.2.2.2.1.cell 1
  go_wp2_with fail
  refine (hcA H.out.1).mono ?_
  rintro e W5 ⟨rfl, b5⟩
  have H5 := Lib.hid b5
  clear q0 q1 q2 q3 b5
  by_cases hz0 : zA = 0
  · subst hz0
    have q2 : W5.cell? ⟨w.heap.size + 1, 0, none⟩ = some (.slice A' n2 c') := (UP.out _ H5.out).2.1.cell 0
    have q3 : W5.cell? ⟨w.heap.size + 1, 1, none⟩ = some (.slice B' m2 d') := (UP.out _ H5.out).2.1.cell 1
    go_wp2_with fail
    refine (hcB (UP.out _ H5.out).2.2.2.2.1).mono ?_
    rintro e W6 ⟨rfl, b6⟩
    have H6 := Lib.hid (H5.out.trans (b6.mono H5.out.size))
    clear q2 q3 b6
    by_cases hz1 : zB = 0
    · subst hz1
      have hnA := (check_caps (N := N) (E := E) HZ.out.1).2
      have hnB := (check_caps (N := N') (E := E') HZ.out.2).2
      have hcA2 := caps_le hnA.2
      have hcB2 := caps_le hnB.2
      have hnm : namedB (N ++ N') (E ++ E') = true := by
        rw [named_iff]
        have a := named_iff.1 hnA.1
        have b := named_iff.1 hnB.1
        exact ⟨fun s hs => (List.mem_append.1 hs).elim (a.1 s) (b.1 s), fun x hx => (List.mem_append.1 hx).elim (a.2 x) (b.2 x)⟩
      have hn32 : n1 ≤ 32 ∧ m1 ≤ 256 ∧ n2 ≤ 32 ∧ m2 ≤ 256 := by have a := HN.out; rw [a.1, a.2.1] at hcA2; rw [a.2.2.1, a.2.2.2] at hcB2; exact ⟨hcA2.1, hcA2.2.2.1, hcB2.1, hcB2.2.2.1⟩
      have HSH := Lib.hid (Short.of hnm)
      have HFT := Lib.hid (fit_fine (S := 600) (N := N ++ N') (E := E ++ E') ⟨fun t ht => by have := (Short.of hnm).n t ht; omega, fun x hx => by have := (Short.of hnm).e x hx; omega⟩ (by omega) (by simp; omega) (by simp; omega))
      have HBB := Lib.hid (show ((N ++ N').length + (E ++ E').length * 2) * 16 ≤ 140737488355328 by simp; omega)
      have HNL := Lib.hid (show (N.length + N'.length) * 16 ≤ 140737488355328 ∧ (E.length + E'.length) * 48 ≤ 140737488355328 by omega)
      have hji : joinI N E N' E' = ofI (N ++ N') (E ++ E') := by rw [joinI, if_neg (by rw [HZ.out.1]; simp), if_neg (by rw [HZ.out.2]; simp)]
      have mq : ∀ (w8 : World) (e : Ending) (w9 : World), MadeP w8 (N ++ N') (E ++ E') e w9 → ∃ A9 c9 B9 d9, e = .returned (.tuple #[twoV A9 (joinN N E N' E').length c9 B9 (joinE N E N' E').length d9, .int .i64 (joinI N E N' E')]) ∧ w9.ownsRow w8.heap.size 9 1 (.slice A9 (joinN N E N' E').length c9) (joinN N E N' E').length (txtCells (joinN N E N' E')) ∧ w9.ownsRow w8.heap.size 39 3 (.slice B9 (joinE N E N' E').length d9) (joinE N E N' E').length (edCells (joinE N E N' E')) ∧ Below w8.heap.size w8 w9 := by
        intro w8 e w9 h
        have h1 := OfP.q (.inr ⟨hnm, h⟩)
        unfold OfQ ofN ofE at h1
        unfold joinN joinE
        rw [hji]
        exact h1
      have MQ := Lib.hid mq
      clear mq hji hnm hcA2 hcB2 hnA hnB
      obtain ⟨qN, hqN⟩ : ∃ q, (N ++ N').length = q := ⟨_, rfl⟩
      obtain ⟨qE, hqE⟩ : ∃ q, (E ++ E').length = q := ⟨_, rfl⟩
      have HQ := Lib.hid (And.intro hqN hqE)
      clear hqN hqE
      have b06 := H6.out
      have q0 : (W6.alloc (.cells #[] 9)).cell? ⟨w.heap.size, 0, none⟩ = some (.slice A n1 c) := (UP.out _ (H6.out.alloc H6.out.size _)).1.cell 0
      have bz : Below W6.heap.size W6 (W6.alloc (.cells #[] 9)) := (Below.refl _ _).alloc (Nat.le_refl _) _
      obtain ⟨A6, c6, V1, happ, o1, b1⟩ := append_row (W6.alloc (.cells #[] 9)) W6.heap.size 22 9 1 16 _ Tryz.underlying22 info_string rfl (by decide) (by decide) (some ⟨W6.heap.size, 0, none⟩) 0 0 [] (own_zero W6 _ 1) A n1 c (txtCells N) ((UP.out _ H6.out).2.2.2.1.rn.below bz) (by rw [txtCells_len, HN.out.1]) (one_txt N) (by omega) (by simp)
      rw [Nat.zero_add] at happ o1
      rw [List.nil_append] at o1
      have HV1 := Lib.hid (And.intro o1 (bz.trans b1))
      clear o1 b1 bz b06
      go_upto_region 7 with (at_builtin; refine wpList_append_run rfl _ _ _ rfl rfl rfl happ ?_)
      clear happ q0
      have b01 := H6.out.trans (HV1.out.2.mono H6.out.size)
      have q2 : V1.cell? ⟨w.heap.size + 1, 0, none⟩ = some (.slice A' n2 c') := (UP.out _ b01).2.1.cell 0
      obtain ⟨A7, c7, V2, happ, o2, b2⟩ := append_row V1 W6.heap.size 22 9 1 16 _ Tryz.underlying22 info_string rfl (by decide) (by decide) A6 n1 c6 (txtCells N) HV1.out.1 A' n2 c' (txtCells N') (UP.out _ b01).2.2.2.2.1.rn (by rw [txtCells_len, HN.out.2.2.1]) (one_txt N') (by omega) HV1.out.2.size
      rw [← txtCells_app] at o2
      have HV2 := Lib.hid (And.intro o2 (HV1.out.2.trans b2))
      clear o2 b2 b01
      go_upto_region 8 with (at_builtin; refine wpList_append_run rfl _ _ _ rfl rfl rfl happ ?_)
      clear happ q2
      have b02 := H6.out.trans (HV2.out.2.mono H6.out.size)
      have q1 : (V2.alloc (.cells #[] 39)).cell? ⟨w.heap.size, 1, none⟩ = some (.slice B m1 d) := (UP.out _ (b02.alloc b02.size _)).1.cell 1
      have bz : Below V2.heap.size V2 (V2.alloc (.cells #[] 39)) := (Below.refl _ _).alloc (Nat.le_refl _) _
      obtain ⟨B6, d6, V3, happ, o3, b3⟩ := append_row (V2.alloc (.cells #[] 39)) V2.heap.size 23 39 3 48 _ Tryz.underlying23 info_edge rfl (by decide) (by decide) (some ⟨V2.heap.size, 0, none⟩) 0 0 [] (own_zero V2 _ 3) B m1 d (edCells E) ((UP.out _ b02).2.2.2.1.re.below bz) (by rw [edCells_len, HN.out.2.1]) (one_ed E) (by omega) (by simp)
      rw [Nat.zero_add] at happ o3
      rw [List.nil_append] at o3
      have HV3 := Lib.hid (And.intro o3 (bz.trans b3))
      clear o3 b3 bz b02
      go_upto_region 9 with (at_builtin; refine wpList_append_run rfl _ _ _ rfl rfl rfl happ ?_)
      clear happ q1
      have b23 := HV2.out.2.trans (HV3.out.2.mono HV2.out.2.size)
      have b03 := H6.out.trans (b23.mono H6.out.size)
      have q3 : V3.cell? ⟨w.heap.size + 1, 1, none⟩ = some (.slice B' m2 d') := (UP.out _ b03).2.1.cell 1
      obtain ⟨B7, d7, V4, happ, o4, b4⟩ := append_row V3 V2.heap.size 23 39 3 48 _ Tryz.underlying23 info_edge rfl (by decide) (by decide) B6 m1 d6 (edCells E) HV3.out.1 B' m2 d' (edCells E') (UP.out _ b03).2.2.2.2.1.re (by rw [edCells_len, HN.out.2.2.2]) (one_ed E') (by omega) HV3.out.2.size
      rw [← edCells_app] at o4
      have b24 := HV3.out.2.trans b4
      have oN := ownsRow_upd HV2.out.1 (Upd.of_below b24 (fun _ => False)) (fun _ _ h => h)
      have eN : (N ++ N').length = n1 + n2 := by rw [List.length_append, HN.out.1, HN.out.2.2.1]
      have eE : (E ++ E').length = m1 + m2 := by rw [List.length_append, HN.out.2.1, HN.out.2.2.2]
      have hmade := refMade_any V4 A7 c7 B7 d7 (N ++ N') (E ++ E') ⟨RowR.of_own oN, RowR.of_own o4, by rw [eN]; exact own_le oN, by rw [eE]; exact own_le o4, HFT.out⟩ HSH.out HBB.out
      rw [eN, eE] at hmade
      have HMD := Lib.hid hmade
      have HV4 := Lib.hid (H6.out.trans ((HV2.out.2.trans (b24.mono HV2.out.2.size)).mono H6.out.size))
      clear hmade oN o4 b4 b24 b03 b23 eN eE
      go_upto_region 10 with (at_builtin; refine wpList_append_run rfl _ _ _ rfl rfl rfl happ ?_)
      clear happ q3
      go_wp2_with fail
      refine HMD.out.mono ?_
      intro e WZ hmZ
      obtain ⟨AZ, cZ, BZ, dZ, rfl, oZ, oY, bZ⟩ := MQ.out _ _ _ hmZ
      clear hmZ
      have HBZ := Lib.hid (HV4.out.trans (bZ.mono HV4.out.size))
      have hzV : W0.heap.size ≤ V4.heap.size := HV4.out.size
      clear bZ
      obtain ⟨nZ, hnZ⟩ : ∃ n, (joinN N E N' E').length = n := ⟨_, rfl⟩
      obtain ⟨mZ, hmZ⟩ : ∃ n, (joinE N E N' E').length = n := ⟨_, rfl⟩
      obtain ⟨zZ, hzZ⟩ : ∃ n, joinI N E N' E' = n := ⟨_, rfl⟩
      rw [hnZ] at oZ
      rw [hmZ] at oY
      rw [hnZ, hmZ, hzZ]
      unfold twoV
      have HO := Lib.hid (And.intro oZ (And.intro oY (And.intro hnZ (And.intro hmZ hzZ))))
      clear oZ oY hnZ hmZ hzZ
      have kr := (UP.out _ HBZ.out).2.2.1
      have r0 : WZ.cell? ⟨w.heap.size + 1 + 1, 0, none⟩ = some (.slice none 0 0) := kr.cell 0
      have r1 : WZ.cell? ⟨w.heap.size + 1 + 1, 1, none⟩ = some (.slice none 0 0) := kr.cell 1
      have f0 := kr.frozen 0
      have f1 := kr.frozen 1
      have kF := (kr.set 0 (.slice AZ nZ cZ)).set 1 (.slice BZ mZ dZ)
      have uF : Upd (fun q => q = w.heap.size + 1 + 1) WZ ((WZ.setCell ⟨w.heap.size + 1 + 1, 0, none⟩ (.slice AZ nZ cZ)).setCell ⟨w.heap.size + 1 + 1, 1, none⟩ (.slice BZ mZ dZ)) := ((Upd.refl (fun q => q = w.heap.size + 1 + 1) WZ).setCell (p := ⟨w.heap.size + 1 + 1, 0, none⟩) (.inl rfl) _).setCell (p := ⟨w.heap.size + 1 + 1, 1, none⟩) (.inl rfl) _
      have e0 := kF.cell 0
      have e1 := kF.cell 1
      simp only [List.setIfInBounds_toArray, List.set_cons_zero, List.set_cons_succ, List.getElem?_toArray, List.getElem?_cons_succ, List.getElem?_cons_zero] at e0 e1
      have bw := (UP.out _ HBZ.out).2.2.2.2.2
      have oA := ownsRow_upd HO.out.1 uF (fun q hq e => by have := (HO.out.1.lt q hq).1; omega)
      have oB := ownsRow_upd HO.out.2.1 uF (fun q hq e => by have := (HO.out.2.1.lt q hq).1; omega)
      have FIN := Lib.hid (show JoinP w N E N' E' (.returned (.tuple #[.agg #[.slice AZ nZ cZ, .slice BZ mZ dZ], .int .i64 zZ])) _ from ⟨AZ, cZ, BZ, dZ, by rw [HO.out.2.2.1, HO.out.2.2.2.1, HO.out.2.2.2.2]; rfl, by rw [HO.out.2.2.1]; exact ownsRow_base oA (fun q hq => by have := (HO.out.1.lt q hq).1; omega), by rw [HO.out.2.2.2.1]; exact ownsRow_base oB (fun q hq => by have := (HO.out.2.1.lt q hq).1; omega), bw.trans (uF.below (fun q _ e => by omega) bw.size)⟩)
      clear kr kF uF bw oA oB
      go_wp2
      refine bodyPost_ret (v := .tuple #[.agg #[.slice AZ nZ cZ, .slice BZ mZ dZ], .int .i64 zZ]) (by simp [results, Tryz.f28, go_sem, e0, e1]) rfl FIN.out
    · have hz1I : (zB == 0) = false := by simpa using hz1
      have kr := (UP.out _ H6.out).2.2.1
      have r0 : W6.cell? ⟨w.heap.size + 1 + 1, 0, none⟩ = some (.slice none 0 0) := kr.cell 0
      have r1 : W6.cell? ⟨w.heap.size + 1 + 1, 1, none⟩ = some (.slice none 0 0) := kr.cell 1
      have f0 := kr.frozen 0
      have f1 := kr.frozen 1
      have kF := (kr.set 0 (.slice none 0 0)).set 1 (.slice none 0 0)
      have uF : Upd (fun q => q = w.heap.size + 1 + 1) W6 ((W6.setCell ⟨w.heap.size + 1 + 1, 0, none⟩ (.slice none 0 0)).setCell ⟨w.heap.size + 1 + 1, 1, none⟩ (.slice none 0 0)) := ((Upd.refl (fun q => q = w.heap.size + 1 + 1) W6).setCell (p := ⟨w.heap.size + 1 + 1, 0, none⟩) (.inl rfl) _).setCell (p := ⟨w.heap.size + 1 + 1, 1, none⟩) (.inl rfl) _
      have e0 := kF.cell 0
      have e1 := kF.cell 1
      simp only [List.setIfInBounds_toArray, List.set_cons_zero, List.set_cons_succ, List.getElem?_toArray, List.getElem?_cons_succ, List.getElem?_cons_zero] at e0 e1
      have bw := (UP.out _ H6.out).2.2.2.2.2
      have FIN := Lib.hid (JoinP.nil (N := N) (E := E) (N' := N') (E' := E') (z := zB) (by rw [joinI, HZ.out.1, HZ.out.2, if_neg (by simp), if_pos hz1]) hz1 (bw.trans (uF.below (fun q _ e => by omega) bw.size)))
      clear kr kF uF bw
      go_wp2
      refine bodyPost_ret (v := .tuple #[.agg #[.slice none 0 0, .slice none 0 0], .int .i64 zB]) (by simp [results, Tryz.f28, go_sem, e0, e1]) rfl FIN.out
  · have hz0I : (zA == 0) = false := by simpa using hz0
    have kr := (UP.out _ H5.out).2.2.1
    have r0 : W5.cell? ⟨w.heap.size + 1 + 1, 0, none⟩ = some (.slice none 0 0) := kr.cell 0
    have r1 : W5.cell? ⟨w.heap.size + 1 + 1, 1, none⟩ = some (.slice none 0 0) := kr.cell 1
    have f0 := kr.frozen 0
    have f1 := kr.frozen 1
    have kF := (kr.set 0 (.slice none 0 0)).set 1 (.slice none 0 0)
    have uF : Upd (fun q => q = w.heap.size + 1 + 1) W5 ((W5.setCell ⟨w.heap.size + 1 + 1, 0, none⟩ (.slice none 0 0)).setCell ⟨w.heap.size + 1 + 1, 1, none⟩ (.slice none 0 0)) := ((Upd.refl (fun q => q = w.heap.size + 1 + 1) W5).setCell (p := ⟨w.heap.size + 1 + 1, 0, none⟩) (.inl rfl) _).setCell (p := ⟨w.heap.size + 1 + 1, 1, none⟩) (.inl rfl) _
    have e0 := kF.cell 0
    have e1 := kF.cell 1
    simp only [List.setIfInBounds_toArray, List.set_cons_zero, List.set_cons_succ, List.getElem?_toArray, List.getElem?_cons_succ, List.getElem?_cons_zero] at e0 e1
    have bw := (UP.out _ H5.out).2.2.2.2.2
    have FIN := Lib.hid (JoinP.nil (N := N) (E := E) (N' := N') (E' := E') (z := zA) (by rw [joinI, HZ.out.1, if_pos hz0]) hz0 (bw.trans (uF.below (fun q _ e => by omega) bw.size)))
    clear kr kF uF bw
    go_wp2
    refine bodyPost_ret (v := .tuple #[.agg #[.slice none 0 0, .slice none 0 0], .int .i64 zA]) (by simp [results, Tryz.f28, go_sem, e0, e1]) rfl FIN.out

def labO (N : List Txt) (E : List Ed) : List Txt := if checkI N E = 0 then setOf ltT (lbs E) else []
def lonO (N : List Txt) (E : List Ed) : List Txt := if checkI N E = 0 then loneL N E else []
def PartsP (w : World) (N : List Txt) (E : List Ed) (e : Ending) (w' : World) : Prop :=
  ∃ A c B d, e = .returned (.tuple #[.slice A (labO N E).length c, .slice B (lonO N E).length d, .int .i64 (checkI N E)]) ∧ w'.ownsRow w.heap.size 9 1 (.slice A (labO N E).length c) (labO N E).length (txtCells (labO N E)) ∧ w'.ownsRow w.heap.size 9 1 (.slice B (lonO N E).length d) (lonO N E).length (txtCells (lonO N E)) ∧ Below w.heap.size w w'
def LabP (w : World) (L : List Txt) (z : Int) (e : Ending) (w' : World) : Prop :=
  ∃ A c, e = .returned (.tuple #[.slice A L.length c, .int .i64 z]) ∧ w'.ownsRow w.heap.size 9 1 (.slice A L.length c) L.length (txtCells L) ∧ Below w.heap.size w w'
set_option maxHeartbeats 4000000 in
set_option maxRecDepth 100000 in
theorem refParts_any (w : World) (A : Option Addr) (c : Nat) (B : Option Addr) (d : Nat) (N : List Txt) (E : List Ed) (h : ForG w A c B d N E) :
    Calls Tryz.prog 26 #[twoV A N.length c B E.length d] w (PartsP w N E) := by
  have k0 := Blk.new w 25 #[.slice A N.length c, .slice B E.length d]
  have u0 : Below w.heap.size w (w.alloc (.cells #[.slice A N.length c, .slice B E.length d] 25)) := (Below.refl _ _).alloc (Nat.le_refl _) _
  have H := Lib.hid (And.intro (h.below u0) (And.intro k0 u0))
  clear h k0 u0
  obtain ⟨z, hz⟩ : ∃ z, checkI N E = z := ⟨_, rfl⟩
  have HZ := Lib.hid hz
  clear hz
  unfold twoV
  go_enter Tryz.func26, Tryz.ntmps26
  go_upto_region 1 with (fail)
  generalize w.alloc (.cells #[.slice A N.length c, .slice B E.length d] 25) = W0 at H ⊢
  have q0 : W0.cell? ⟨w.heap.size, 0, none⟩ = some (.slice A N.length c) := H.out.2.1.cell 0
  have q1 : W0.cell? ⟨w.heap.size, 1, none⟩ = some (.slice B E.length d) := H.out.2.1.cell 1
  go_wp2_with fail
  refine (refCheck_any W0 A c B d N E H.out.1).mono ?_
  rintro e W1 ⟨rfl, b1⟩
  rw [HZ.out]
  have UP := Lib.hid (show ∀ W, Below W1.heap.size W1 W → (W.cell? ⟨w.heap.size, 0, none⟩ = some (.slice A N.length c) ∧ W.cell? ⟨w.heap.size, 1, none⟩ = some (.slice B E.length d)) ∧ ForG W A c B d N E ∧ Below w.heap.size w W from fun W hb => by
    have b := b1.trans (hb.mono b1.size)
    have k := H.out.2.1.upd (Upd.of_below b (fun _ => False)) id
    exact ⟨⟨k.cell 0, k.cell 1⟩, H.out.1.below b, H.out.2.2.trans (b.mono H.out.2.2.size)⟩)
  clear q0 q1 b1
  by_cases h0 : z = 0
  · subst h0
    have q0 := (UP.out W1 (Below.refl _ _)).1.1
    have q1 := (UP.out W1 (Below.refl _ _)).1.2
    have hS := (UP.out W1.drew (Below.refl _ _).drew).1
    go_upto_region 4 with (fail)
    refine wp_region_ord (fun W => W.cell? ⟨w.heap.size, 0, none⟩ = some (.slice A N.length c) ∧ W.cell? ⟨w.heap.size, 1, none⟩ = some (.slice B E.length d)) 8 [(0, true), (1, true), (3, true), (2, false), (4, false), (5, true), (6, true), (7, true)] (by kernel_rfl) (by kernel_rfl) (fun _ _ d _ _ h => by cases d <;> exact h) hS ?_
    iterate 3 (refine ord_take (v := ?_) rfl (by first | with_reducible rfl | kernel_rfl) ?_ ?_; rotate_left; (focus (intro wS hS; (try dsimp only at hS); go_split_ands; go_simp; (try with_reducible rfl); done)); (try simp only [Act.put, List.getElem_toArray, List.getElem_cons_succ, List.getElem_cons_zero, List.setIfInBounds_toArray, List.set_cons_zero, List.set_cons_succ]))
    refine ord_do rfl rfl (fun K hK => ?_)
    go_simp
    refine (refLabels_any W1.drew B d E (UP.out W1.drew (Below.refl _ _).drew).2.1.re (UP.out W1.drew (Below.refl _ _).drew).2.1.fit.e).mono ?_
    rintro e W2 ⟨v2, rfl, own2, b2⟩
    have b12 : Below W1.heap.size W1 W2 := (Below.refl W1.heap.size W1).drew.trans b2
    have HB2 := Lib.hid (And.intro own2 b12)
    refine hK _ _ (fun _ => (UP.out _ HB2.out.2).1) ?_
    clear hK K hS q0 q1 own2 b2 b12
    (try simp only [Act.put, List.getElem_toArray, List.getElem_cons_succ, List.getElem_cons_zero, List.setIfInBounds_toArray, List.set_cons_zero, List.set_cons_succ])
    refine ord_do rfl rfl (fun K hK => ?_)
    go_simp
    refine (refLone_any W2 A c B d N E (UP.out _ HB2.out.2).2.1).mono ?_
    rintro e W3 ⟨v3, rfl, own3, b3⟩
    have b13 := HB2.out.2.trans (b3.mono HB2.out.2.size)
    have own2 := ownsRow_upd HB2.out.1 (Upd.of_below b3 (fun _ => False)) (fun _ _ h => h)
    obtain ⟨A4, c4, rfl, -, -⟩ := own_form own2
    obtain ⟨A5, c5, rfl, -, -⟩ := own_form own3
    have e1 : labO N E = setOf ltT (lbs E) := by rw [labO, if_pos HZ.out]
    have e2 : lonO N E = loneL N E := by rw [lonO, if_pos HZ.out]
    have bw := (UP.out _ b13).2.2
    have hz1 : w.heap.size ≤ W1.heap.size := (UP.out _ (Below.refl _ _)).2.2.size
    have hz2 : W1.heap.size ≤ W2.heap.size := HB2.out.2.size
    have FIN := Lib.hid (show PartsP w N E (.returned (.tuple #[.slice A4 (setOf ltT (lbs E)).length c4, .slice A5 (loneL N E).length c5, .int .i64 0])) W3 from ⟨A4, c4, A5, c5, by rw [e1, e2, HZ.out], by rw [e1]; exact ownsRow_base own2 (fun q hq => by have := (HB2.out.1.lt q hq).1; have : W1.drew.heap.size = W1.heap.size := rfl; omega), by rw [e2]; exact ownsRow_base own3 (fun q hq => by have := (own3.lt q hq).1; omega), bw⟩)
    refine hK _ _ (fun _ => (UP.out _ b13).1) ?_
    clear hK K own2 own3 b3 b13 e1 e2 bw
    (try simp only [Act.put, List.getElem_toArray, List.getElem_cons_succ, List.getElem_cons_zero, List.setIfInBounds_toArray, List.set_cons_zero, List.set_cons_succ])
    (refine ord_take (v := ?_) rfl (by first | with_reducible rfl | kernel_rfl) ?_ ?_; rotate_left; (focus (intro wS hS; (try dsimp only at hS); go_split_ands; go_simp; (try with_reducible rfl); done)); (try simp only [Act.put, List.getElem_toArray, List.getElem_cons_succ, List.getElem_cons_zero, List.setIfInBounds_toArray, List.set_cons_zero, List.set_cons_succ]))
    (refine ord_take (v := ?_) rfl (by first | with_reducible rfl | kernel_rfl) ?_ ?_; rotate_left; (focus (intro wS hS; (try dsimp only at hS); go_split_ands; go_simp; (try with_reducible rfl); done)); (try simp only [Act.put, List.getElem_toArray, List.getElem_cons_succ, List.getElem_cons_zero, List.setIfInBounds_toArray, List.set_cons_zero, List.set_cons_succ]))
    (refine ord_take (v := ?_) rfl (by first | with_reducible rfl | kernel_rfl) ?_ ?_; rotate_left; (focus (intro wS hS; (try dsimp only at hS); go_split_ands; go_simp; (try with_reducible rfl); done)); (try simp only [Act.put, List.getElem_toArray, List.getElem_cons_succ, List.getElem_cons_zero, List.setIfInBounds_toArray, List.set_cons_zero, List.set_cons_succ]))
    refine ord_done ?_
    go_wp2
    refine bodyPost_ret (v := .tuple #[.slice A4 (setOf ltT (lbs E)).length c4, .slice A5 (loneL N E).length c5, .int .i64 0]) (by simp [results, Tryz.f26, go_sem]) rfl FIN.out
  · have h0I : (z == 0) = false := by simpa using h0
    have e1 : labO N E = [] := by rw [labO, if_neg (by rw [HZ.out]; exact h0)]
    have e2 : lonO N E = [] := by rw [lonO, if_neg (by rw [HZ.out]; exact h0)]
    have FIN := Lib.hid (show PartsP w N E (.returned (.tuple #[.slice none 0 0, .slice none 0 0, .int .i64 z])) W1 from by
      unfold PartsP
      rw [e1, e2, HZ.out]
      exact ⟨none, 0, none, 0, rfl, World.ownsRow_nil _ _ _ _, World.ownsRow_nil _ _ _ _, (UP.out _ (Below.refl _ _)).2.2⟩)
    clear e1 e2 h0
    go_wp2
    refine bodyPost_ret (v := .tuple #[.slice none 0 0, .slice none 0 0, .int .i64 z]) (by simp [results, Tryz.f26, go_sem]) rfl FIN.out
set_option maxHeartbeats 4000000 in
set_option maxRecDepth 100000 in
theorem elabels_any (w : World) (A : Option Addr) (c : Nat) (B : Option Addr) (d : Nat) (N : List Txt) (E : List Ed) (h : ForG w A c B d N E) :
    Calls Tryz.prog 24 #[twoV A N.length c B E.length d] w (LabP w (labO N E) (checkI N E)) := by
  have k0 := Blk.new w 25 #[.slice A N.length c, .slice B E.length d]
  have u0 : Below w.heap.size w (w.alloc (.cells #[.slice A N.length c, .slice B E.length d] 25)) := (Below.refl _ _).alloc (Nat.le_refl _) _
  have H := Lib.hid (And.intro (h.below u0) (And.intro k0 u0))
  clear h k0 u0
  obtain ⟨z, hz⟩ : ∃ z, checkI N E = z := ⟨_, rfl⟩
  have HZ := Lib.hid hz
  clear hz
  unfold twoV
  go_enter Tryz.func24, Tryz.ntmps24
  go_upto_region 1 with (fail)
  generalize w.alloc (.cells #[.slice A N.length c, .slice B E.length d] 25) = W0 at H ⊢
  have q0 : W0.cell? ⟨w.heap.size, 0, none⟩ = some (.slice A N.length c) := H.out.2.1.cell 0
  have q1 : W0.cell? ⟨w.heap.size, 1, none⟩ = some (.slice B E.length d) := H.out.2.1.cell 1
  go_wp2_with fail
  refine (echeck_any W0 A c B d N E H.out.1).mono ?_
  rintro e W1 ⟨rfl, b1⟩
  rw [HZ.out]
  have k := H.out.2.1.upd (Upd.of_below b1 (fun _ => False)) id
  have H1 := Lib.hid (And.intro (H.out.1.below b1) (H.out.2.2.trans (b1.mono H.out.2.2.size)))
  clear q0 q1 b1
  by_cases h0 : z = 0
  · subst h0
    have q0 : W1.cell? ⟨w.heap.size, 0, none⟩ = some (.slice A N.length c) := k.cell 0
    have q1 : W1.cell? ⟨w.heap.size, 1, none⟩ = some (.slice B E.length d) := k.cell 1
    clear k
    go_wp2_with fail
    refine (labels_any W1 A c B d N E H1.out.1).mono ?_
    rintro e W2 ⟨M, hM, hlen, v, rfl, own2, b2⟩
    have eM : M = labO N E := by rw [labO, if_pos HZ.out]; exact hM.is stoT
    subst eM
    clear hM hlen
    obtain ⟨A4, c4, rfl, -, -⟩ := own_form own2
    have FIN := Lib.hid (show LabP w (labO N E) (checkI N E) (.returned (.tuple #[.slice A4 (labO N E).length c4, .int .i64 0])) W2 from ⟨A4, c4, by rw [HZ.out], ownsRow_base own2 (fun q hq => by have := (own2.lt q hq).1; have := H1.out.2.size; omega), H1.out.2.trans (b2.mono H1.out.2.size)⟩)
    clear own2 b2
    go_wp2
    refine bodyPost_ret (v := .tuple #[.slice A4 (labO N E).length c4, .int .i64 0]) (by simp [results, Tryz.f24, go_sem]) rfl FIN.out
  · have h0I : (z == 0) = false := by simpa using h0
    have e1 : labO N E = [] := by rw [labO, if_neg (by rw [HZ.out]; exact h0)]
    have FIN := Lib.hid (show LabP w (labO N E) (checkI N E) (.returned (.tuple #[.slice none 0 0, .int .i64 z])) W1 from by
      rw [e1, HZ.out]
      exact ⟨none, 0, rfl, World.ownsRow_nil _ _ _ _, H1.out.2⟩)
    clear e1 h0 k
    go_wp2
    refine bodyPost_ret (v := .tuple #[.slice none 0 0, .int .i64 z]) (by simp [results, Tryz.f24, go_sem]) rfl FIN.out
set_option maxHeartbeats 4000000 in
set_option maxRecDepth 100000 in
theorem elone_any (w : World) (A : Option Addr) (c : Nat) (B : Option Addr) (d : Nat) (N : List Txt) (E : List Ed) (h : ForG w A c B d N E) :
    Calls Tryz.prog 25 #[twoV A N.length c B E.length d] w (LabP w (lonO N E) (checkI N E)) := by
  have k0 := Blk.new w 25 #[.slice A N.length c, .slice B E.length d]
  have u0 : Below w.heap.size w (w.alloc (.cells #[.slice A N.length c, .slice B E.length d] 25)) := (Below.refl _ _).alloc (Nat.le_refl _) _
  have H := Lib.hid (And.intro (h.below u0) (And.intro k0 u0))
  clear h k0 u0
  obtain ⟨z, hz⟩ : ∃ z, checkI N E = z := ⟨_, rfl⟩
  have HZ := Lib.hid hz
  clear hz
  unfold twoV
  go_enter Tryz.func25, Tryz.ntmps25
  go_upto_region 1 with (fail)
  generalize w.alloc (.cells #[.slice A N.length c, .slice B E.length d] 25) = W0 at H ⊢
  have q0 : W0.cell? ⟨w.heap.size, 0, none⟩ = some (.slice A N.length c) := H.out.2.1.cell 0
  have q1 : W0.cell? ⟨w.heap.size, 1, none⟩ = some (.slice B E.length d) := H.out.2.1.cell 1
  go_wp2_with fail
  refine (echeck_any W0 A c B d N E H.out.1).mono ?_
  rintro e W1 ⟨rfl, b1⟩
  rw [HZ.out]
  have k := H.out.2.1.upd (Upd.of_below b1 (fun _ => False)) id
  have H1 := Lib.hid (And.intro (H.out.1.below b1) (H.out.2.2.trans (b1.mono H.out.2.2.size)))
  clear q0 q1 b1
  by_cases h0 : z = 0
  · subst h0
    have q0 : W1.cell? ⟨w.heap.size, 0, none⟩ = some (.slice A N.length c) := k.cell 0
    have q1 : W1.cell? ⟨w.heap.size, 1, none⟩ = some (.slice B E.length d) := k.cell 1
    clear k
    go_wp2_with fail
    refine (lone_any W1 A c B d N E H1.out.1).mono ?_
    rintro e W2 ⟨v, rfl, own2, b2⟩
    have eM : loneL N E = lonO N E := by rw [lonO, if_pos HZ.out]
    rw [eM] at own2
    clear eM
    obtain ⟨A4, c4, rfl, -, -⟩ := own_form own2
    have FIN := Lib.hid (show LabP w (lonO N E) (checkI N E) (.returned (.tuple #[.slice A4 (lonO N E).length c4, .int .i64 0])) W2 from ⟨A4, c4, by rw [HZ.out], ownsRow_base own2 (fun q hq => by have := (own2.lt q hq).1; have := H1.out.2.size; omega), H1.out.2.trans (b2.mono H1.out.2.size)⟩)
    clear own2 b2
    go_wp2
    refine bodyPost_ret (v := .tuple #[.slice A4 (lonO N E).length c4, .int .i64 0]) (by simp [results, Tryz.f25, go_sem]) rfl FIN.out
  · have h0I : (z == 0) = false := by simpa using h0
    have e1 : lonO N E = [] := by rw [lonO, if_neg (by rw [HZ.out]; exact h0)]
    have FIN := Lib.hid (show LabP w (lonO N E) (checkI N E) (.returned (.tuple #[.slice none 0 0, .int .i64 z])) W1 from by
      rw [e1, HZ.out]
      exact ⟨none, 0, rfl, World.ownsRow_nil _ _ _ _, H1.out.2⟩)
    clear e1 h0 k
    go_wp2
    refine bodyPost_ret (v := .tuple #[.slice none 0 0, .int .i64 z]) (by simp [results, Tryz.f25, go_sem]) rfl FIN.out
end Go.Proofs.YthmkgnifcbnkpaaGreat
