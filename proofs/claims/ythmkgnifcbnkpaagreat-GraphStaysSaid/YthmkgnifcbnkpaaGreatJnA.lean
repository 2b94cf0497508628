/- Edges: Join. -/
import Derived.Test.YthmkgnifcbnkpaaGreatCcA
import Derived.Test.YthmkgnifcbnkpaaGreatPaD
import Derived.Test.YthmkgnifcbnkpaaGreatOrdAny
namespace Go.Proofs.YthmkgnifcbnkpaaGreat
open Go.RowKit

/-- What Join answers. -/
def joinI (N : List Txt) (E : List Ed) (N' : List Txt) (E' : List Ed) : Int := if checkI N E ≠ 0 then checkI N E else if checkI N' E' ≠ 0 then checkI N' E' else ofI (N ++ N') (E ++ E')
def joinN (N : List Txt) (E : List Ed) (N' : List Txt) (E' : List Ed) : List Txt := if joinI N E N' E' = 0 then gN (N ++ N') (E ++ E') else []
def joinE (N : List Txt) (E : List Ed) (N' : List Txt) (E' : List Ed) : List Ed := if joinI N E N' E' = 0 then gE (E ++ E') else []
def JoinP (w : World) (N : List Txt) (E : List Ed) (N' : List Txt) (E' : List Ed) (e : Ending) (w' : World) : Prop :=
  ∃ A c B d, e = .returned (.tuple #[twoV A (joinN N E N' E').length c B (joinE N E N' E').length d, .int .i64 (joinI N E N' E')]) ∧ w'.ownsRow w.heap.size 9 1 (.slice A (joinN N E N' E').length c) (joinN N E N' E').length (txtCells (joinN N E N' E')) ∧
    w'.ownsRow w.heap.size 39 3 (.slice B (joinE N E N' E').length d) (joinE N E N' E').length (edCells (joinE N E N' E')) ∧ Below w.heap.size w w'
theorem JoinP.nil {w w' : World} {N : List Txt} {E : List Ed} {N' : List Txt} {E' : List Ed} {z : Int} (h : joinI N E N' E' = z) (hz : z ≠ 0) (hb : Below w.heap.size w w') : JoinP w N E N' E' (.returned (.tuple #[.agg #[.slice none 0 0, .slice none 0 0], .int .i64 z])) w' := by
  subst h
  unfold JoinP joinN joinE
  rw [if_neg hz, if_neg hz]
  exact ⟨none, 0, none, 0, rfl, World.ownsRow_nil _ _ _ _, World.ownsRow_nil _ _ _ _, hb⟩
theorem two_at0 (a b : Option Addr) (c d : Option Addr) (n1 c1 n2 c2 n3 c3 n4 c4 : Nat) (w : World) : (Instr.index 82 (.agg #[.slice a n1 c1, .slice b n2 c2, .slice c n3 c3, .slice d n4 c4]) (.int .i64 0)).run Tryz.prog w = .ok (.agg #[.slice a n1 c1, .slice b n2 c2]) w := by kernel_rfl
theorem two_at1 (a b : Option Addr) (c d : Option Addr) (n1 c1 n2 c2 n3 c3 n4 c4 : Nat) (w : World) : (Instr.index 82 (.agg #[.slice a n1 c1, .slice b n2 c2, .slice c n3 c3, .slice d n4 c4]) (.int .i64 1)).run Tryz.prog w = .ok (.agg #[.slice c n3 c3, .slice d n4 c4]) w := by kernel_rfl
theorem own_le2 {w : World} {base e size n : Nat} {v : Value} {xs : List Value} (h : w.ownsRow base e size v n xs) : ∃ A c, v = .slice A n c ∧ n ≤ c ∧ RowR w A xs := by
  obtain ⟨A, c, rfl, hc, -⟩ := own_form h
  exact ⟨A, c, rfl, hc, RowR.of_own h⟩

set_option maxHeartbeats 16000000 in
set_option maxRecDepth 100000 in
theorem join_any (w : World) (A : Option Addr) (c : Nat) (B : Option Addr) (d : Nat) (N : List Txt) (E : List Ed) (A' : Option Addr) (c' : Nat) (B' : Option Addr) (d' : Nat) (N' : List Txt) (E' : List Ed) (h : ForG w A c B d N E) (h' : ForG w A' c' B' d' N' E') :
    Calls Tryz.prog 20 #[twoV A N.length c B E.length d, twoV A' N'.length c' B' E'.length d'] w (JoinP w N E N' E') := by
  have hi0 := two_at0
  have hi1 := two_at1
  obtain ⟨zA, hzA⟩ : ∃ z, checkI N E = z := ⟨_, rfl⟩
  obtain ⟨zB, hzB⟩ : ∃ z, checkI N' E' = z := ⟨_, rfl⟩
  have hcA := fun {V : World} (h : ForG V A c B d N E) => echeck_any V A c B d N E h
  have hcB := fun {V : World} (h : ForG V A' c' B' d' N' E') => echeck_any V A' c' B' d' N' E' h
  rw [hzA] at hcA
  rw [hzB] at hcB
  have k0 := ((Blk.new w 25 #[.slice A N.length c, .slice B E.length d]).alloc (.cells #[.slice A' N'.length c', .slice B' E'.length d'] 25)).alloc (.cells #[.slice none 0 0, .slice none 0 0] 25)
  have k1 := (Blk.new (w.alloc (.cells #[.slice A N.length c, .slice B E.length d] 25)) 25 #[.slice A' N'.length c', .slice B' E'.length d']).alloc (.cells #[.slice none 0 0, .slice none 0 0] 25)
  have k2 := Blk.new ((w.alloc (.cells #[.slice A N.length c, .slice B E.length d] 25)).alloc (.cells #[.slice A' N'.length c', .slice B' E'.length d'] 25)) 25 #[.slice none 0 0, .slice none 0 0]
  simp only [World.size_alloc] at k1 k2
  have u0 : Below w.heap.size w (((w.alloc (.cells #[.slice A N.length c, .slice B E.length d] 25)).alloc (.cells #[.slice A' N'.length c', .slice B' E'.length d'] 25)).alloc (.cells #[.slice none 0 0, .slice none 0 0] 25)) := by (repeat (first | exact Below.refl _ _ | apply Below.drew | refine Below.alloc ?_ (by first | exact Nat.le_refl _ | (simp; done) | (simp; omega)) _ | refine Below.setCell ?_ (by first | exact Nat.le_refl _ | (simp; done) | (simp; omega)) _))
  have H := Lib.hid (And.intro (h.below u0) (And.intro (h'.below u0) (And.intro k0 (And.intro k1 (And.intro k2 u0)))))
  have HZ := Lib.hid (And.intro hzA hzB)
  clear h h' k0 k1 k2 u0 hzA hzB
  obtain ⟨n1, hn1⟩ : ∃ n, N.length = n := ⟨_, rfl⟩
  obtain ⟨n2, hn2⟩ : ∃ n, N'.length = n := ⟨_, rfl⟩
  obtain ⟨m1, hm1⟩ : ∃ n, E.length = n := ⟨_, rfl⟩
  obtain ⟨m2, hm2⟩ : ∃ n, E'.length = n := ⟨_, rfl⟩
  unfold twoV at hcA hcB ⊢
  rw [hn1, hm1, hn2, hm2] at H
  rw [hn1, hm1] at hcA
  rw [hn2, hm2] at hcB
  rw [hn1, hm1, hn2, hm2]
  have HN := Lib.hid (And.intro hn1 (And.intro hm1 (And.intro hn2 hm2)))
  clear hn1 hm1 hn2 hm2
  go_enter Tryz.func20, Tryz.ntmps20
  go_upto_region 1 with (fail)
  generalize ((w.alloc (.cells #[.slice A n1 c, .slice B m1 d] 25)).alloc (.cells #[.slice A' n2 c', .slice B' m2 d'] 25)).alloc (.cells #[.slice none 0 0, .slice none 0 0] 25) = W0 at H ⊢
  have up : ∀ W, Below W0.heap.size W0 W → Blk W w.heap.size 25 #[.slice A n1 c, .slice B m1 d] ∧ Blk W (w.heap.size + 1) 25 #[.slice A' n2 c', .slice B' m2 d'] ∧ Blk W (w.heap.size + 1 + 1) 25 #[.slice none 0 0, .slice none 0 0] ∧ ForG W A c B d N E ∧ ForG W A' c' B' d' N' E' ∧ Below w.heap.size w W := fun W hb => by
    have u := Upd.of_below hb (fun _ => False)
    exact ⟨H.out.2.2.1.upd u id, H.out.2.2.2.1.upd u id, H.out.2.2.2.2.1.upd u id, H.out.1.below hb, H.out.2.1.below hb, H.out.2.2.2.2.2.trans (hb.mono H.out.2.2.2.2.2.size)⟩
  have UP := Lib.hid up
  have hsz : w.heap.size + 1 + 1 < W0.heap.size := H.out.2.2.2.2.1.lt
  clear up
  have q0 : W0.cell? ⟨w.heap.size, 0, none⟩ = some (.slice A n1 c) := H.out.2.2.1.cell 0
  have q1 : W0.cell? ⟨w.heap.size, 1, none⟩ = some (.slice B m1 d) := H.out.2.2.1.cell 1
  have q2 : W0.cell? ⟨w.heap.size + 1, 0, none⟩ = some (.slice A' n2 c') := H.out.2.2.2.1.cell 0
  have q3 : W0.cell? ⟨w.heap.size + 1, 1, none⟩ = some (.slice B' m2 d') := H.out.2.2.2.1.cell 1
  go_wp2_with fail
  clear q0 q1 q2 q3
  go_loopw [12] (fun i wr => ∃ j : Nat, j ≤ 2 ∧ i = .int .i64 j ∧ Hid (Below W0.heap.size W0 wr) ∧ Hid ((1 ≤ j → zA = 0) ∧ (2 ≤ j → zB = 0))) (fun i _ => 2 - (intOf i).toNat)
  case atStart => exact ⟨0, by omega, rfl, Lib.hid (Below.refl _ _), Lib.hid ⟨by omega, by omega⟩⟩
  case round =>
    obtain ⟨j, hj, rfl, hbr, hz⟩ := hrel
    have hj3 : j = 0 ∨ j = 1 ∨ j = 2 := by omega
    rcases hj3 with rfl | rfl | rfl
    · have kx := Blk.new wr 25 #[.slice A n1 c, .slice B m1 d]
      have bx : Below W0.heap.size W0 (wr.alloc (.cells #[.slice A n1 c, .slice B m1 d] 25)) := hbr.out.alloc hbr.out.size _
      have x0 := kx.cell 0
      have x1 := kx.cell 1
      simp only [List.getElem?_toArray, List.getElem?_cons_succ, List.getElem?_cons_zero] at x0 x1
      have HX := Lib.hid bx
      clear kx bx
      go_wp2_with fail
      refine (hcA (UP.out _ HX.out).2.2.2.1).mono ?_
      rintro e W5 ⟨rfl, b5⟩
      have b6 := HX.out.trans (b5.mono HX.out.size)
      have H6 := Lib.hid b6
      clear x0 x1 b5 b6
      by_cases hz0 : zA = 0
      · subst hz0
        go_wp2
        go_roundw
        case rel => exact ⟨1, by omega, rfl, H6, Lib.hid ⟨fun _ => by simp, by omega⟩⟩
        case measure => simp [intOf]
      · have hzI : (zA == 0) = false := by simpa using hz0
        have kr := (UP.out _ H6.out).2.2.1
        have r0 : W5.cell? ⟨w.heap.size + 1 + 1, 0, none⟩ = some (.slice none 0 0) := kr.cell 0
        have r1 : W5.cell? ⟨w.heap.size + 1 + 1, 1, none⟩ = some (.slice none 0 0) := kr.cell 1
        have f0 := kr.frozen 0
        have f1 := kr.frozen 1
        have kF := (kr.set 0 (.slice none 0 0)).set 1 (.slice none 0 0)
        have uF : Upd (fun q => q = w.heap.size + 1 + 1) W5 ((W5.setCell ⟨w.heap.size + 1 + 1, 0, none⟩ (.slice none 0 0)).setCell ⟨w.heap.size + 1 + 1, 1, none⟩ (.slice none 0 0)) := ((Upd.refl (fun q => q = w.heap.size + 1 + 1) W5).setCell (p := ⟨w.heap.size + 1 + 1, 0, none⟩) (.inl rfl) _).setCell (p := ⟨w.heap.size + 1 + 1, 1, none⟩) (.inl rfl) _
        have e0 := kF.cell 0
        have e1 := kF.cell 1
        simp only [List.setIfInBounds_toArray, List.set_cons_zero, List.set_cons_succ, List.getElem?_toArray, List.getElem?_cons_succ, List.getElem?_cons_zero] at e0 e1
        have bw := (UP.out _ H6.out).2.2.2.2.2
        have FIN := Lib.hid (JoinP.nil (N := N) (E := E) (N' := N') (E' := E') (z := zA) (by rw [joinI, HZ.out.1, if_pos hz0]) hz0 (bw.trans (uF.below (fun q _ e => by omega) bw.size)))
        clear kr kF uF bw
        go_wp2
        refine bodyPost_ret (v := .tuple #[.agg #[.slice none 0 0, .slice none 0 0], .int .i64 zA]) (by simp [results, Tryz.f20, go_sem, e0, e1]) rfl FIN.out
    · have kx := Blk.new wr 25 #[.slice A' n2 c', .slice B' m2 d']
      have bx : Below W0.heap.size W0 (wr.alloc (.cells #[.slice A' n2 c', .slice B' m2 d'] 25)) := hbr.out.alloc hbr.out.size _
      have x0 := kx.cell 0
      have x1 := kx.cell 1
      simp only [List.getElem?_toArray, List.getElem?_cons_succ, List.getElem?_cons_zero] at x0 x1
      have HX := Lib.hid bx
      clear kx bx
      go_wp2_with fail
      refine (hcB (UP.out _ HX.out).2.2.2.2.1).mono ?_
      rintro e W5 ⟨rfl, b5⟩
      have b6 := HX.out.trans (b5.mono HX.out.size)
      have H6 := Lib.hid b6
      clear x0 x1 b5 b6
      by_cases hz0 : zB = 0
      · subst hz0
        go_wp2
        go_roundw
        case rel => exact ⟨2, by omega, rfl, H6, Lib.hid ⟨fun _ => hz.out.1 (by omega), fun _ => by simp⟩⟩
        case measure => simp [intOf]
      · have hzI : (zB == 0) = false := by simpa using hz0
        have kr := (UP.out _ H6.out).2.2.1
        have r0 : W5.cell? ⟨w.heap.size + 1 + 1, 0, none⟩ = some (.slice none 0 0) := kr.cell 0
        have r1 : W5.cell? ⟨w.heap.size + 1 + 1, 1, none⟩ = some (.slice none 0 0) := kr.cell 1
        have f0 := kr.frozen 0
        have f1 := kr.frozen 1
        have kF := (kr.set 0 (.slice none 0 0)).set 1 (.slice none 0 0)
        have uF : Upd (fun q => q = w.heap.size + 1 + 1) W5 ((W5.setCell ⟨w.heap.size + 1 + 1, 0, none⟩ (.slice none 0 0)).setCell ⟨w.heap.size + 1 + 1, 1, none⟩ (.slice none 0 0)) := ((Upd.refl (fun q => q = w.heap.size + 1 + 1) W5).setCell (p := ⟨w.heap.size + 1 + 1, 0, none⟩) (.inl rfl) _).setCell (p := ⟨w.heap.size + 1 + 1, 1, none⟩) (.inl rfl) _
        have e0 := kF.cell 0
        have e1 := kF.cell 1
        simp only [List.setIfInBounds_toArray, List.set_cons_zero, List.set_cons_succ, List.getElem?_toArray, List.getElem?_cons_succ, List.getElem?_cons_zero] at e0 e1
        have bw := (UP.out _ H6.out).2.2.2.2.2
        have FIN := Lib.hid (JoinP.nil (N := N) (E := E) (N' := N') (E' := E') (z := zB) (by rw [joinI, HZ.out.1, HZ.out.2, if_neg (by simp [hz.out.1 (by omega)]), if_pos hz0]) hz0 (bw.trans (uF.below (fun q _ e => by omega) bw.size)))
        clear kr kF uF bw
        go_wp2
        refine bodyPost_ret (v := .tuple #[.agg #[.slice none 0 0, .slice none 0 0], .int .i64 zB]) (by simp [results, Tryz.f20, go_sem, e0, e1]) rfl FIN.out
    · have hz1 : zA = 0 := hz.out.1 (by omega)
      have hz2 : zB = 0 := hz.out.2 (by omega)
      have hnA := (check_caps (N := N) (E := E) (by rw [HZ.out.1, hz1])).2
      have hnB := (check_caps (N := N') (E := E') (by rw [HZ.out.2, hz2])).2
      have hcA2 := caps_le hnA.2
      have hcB2 := caps_le hnB.2
      have hnm : namedB (N ++ N') (E ++ E') = true := by
        rw [named_iff]
        have a := named_iff.1 hnA.1
        have b := named_iff.1 hnB.1
        exact ⟨fun s hs => (List.mem_append.1 hs).elim (a.1 s) (b.1 s), fun x hx => (List.mem_append.1 hx).elim (a.2 x) (b.2 x)⟩
      have HSH := Lib.hid (Short.of hnm)
      have HFT := Lib.hid (fit_fine (S := 600) (N := N ++ N') (E := E ++ E') ⟨fun t ht => by have := (Short.of hnm).n t ht; omega, fun x hx => by have := (Short.of hnm).e x hx; omega⟩ (by omega) (by simp; omega) (by simp; omega))
      have HBB := Lib.hid (show ((N ++ N').length + (E ++ E').length * 2) * 16 ≤ 140737488355328 by simp; omega)
      have HNL := Lib.hid (show (N.length + N'.length) * 16 ≤ 140737488355328 ∧ (E.length + E'.length) * 48 ≤ 140737488355328 by omega)
      have hji : joinI N E N' E' = ofI (N ++ N') (E ++ E') := by rw [joinI, if_neg (by rw [HZ.out.1, hz1]; simp), if_neg (by rw [HZ.out.2, hz2]; simp)]
      have mq : ∀ (w8 : World) (e : Ending) (w9 : World), MadeP w8 (N ++ N') (E ++ E') e w9 → ∃ A9 c9 B9 d9, e = .returned (.tuple #[twoV A9 (joinN N E N' E').length c9 B9 (joinE N E N' E').length d9, .int .i64 (joinI N E N' E')]) ∧ w9.ownsRow w8.heap.size 9 1 (.slice A9 (joinN N E N' E').length c9) (joinN N E N' E').length (txtCells (joinN N E N' E')) ∧ w9.ownsRow w8.heap.size 39 3 (.slice B9 (joinE N E N' E').length d9) (joinE N E N' E').length (edCells (joinE N E N' E')) ∧ Below w8.heap.size w8 w9 := by
        intro w8 e w9 h
        have h1 := OfP.q (.inr ⟨hnm, h⟩)
        unfold OfQ ofN ofE at h1
        unfold joinN joinE
        rw [hji]
        exact h1
      have MQ := Lib.hid mq
      clear mq hji hnm hcA2 hcB2 hnA hnB
      obtain ⟨qN, hqN⟩ : ∃ q, (N ++ N').length = q := ⟨_, rfl⟩
      obtain ⟨qE, hqE⟩ : ∃ q, (E ++ E').length = q := ⟨_, rfl⟩
      have HQ := Lib.hid (And.intro hqN hqE)
      clear hqN hqE
      subst hz1
      subst hz2
      go_upto_region 8 with (fail)
      have us : ∀ W, Below W0.heap.size W0 W → (fun w' => w'.cell? ⟨w.heap.size, 0, none⟩ = some (.slice A n1 c) ∧ w'.cell? ⟨w.heap.size, 1, none⟩ = some (.slice B m1 d) ∧ w'.cell? ⟨w.heap.size + 1, 0, none⟩ = some (.slice A' n2 c') ∧ w'.cell? ⟨w.heap.size + 1, 1, none⟩ = some (.slice B' m2 d')) W := fun W hb => by
        have h := UP.out _ hb
        exact ⟨h.1.cell 0, h.1.cell 1, h.2.1.cell 0, h.2.1.cell 1⟩
      have US := Lib.hid us
      clear us
      have HB0 := Lib.hid (show Below W0.heap.size W0 wr.drew from hbr.out.drew)
      have hS := US.out _ HB0.out
      refine wp_region_any2 (fun w' => w'.cell? ⟨w.heap.size, 0, none⟩ = some (.slice A n1 c) ∧ w'.cell? ⟨w.heap.size, 1, none⟩ = some (.slice B m1 d) ∧ w'.cell? ⟨w.heap.size + 1, 0, none⟩ = some (.slice A' n2 c') ∧ w'.cell? ⟨w.heap.size + 1, 1, none⟩ = some (.slice B' m2 d')) (by kernel_rfl) (by kernel_rfl) hS ?_
      refine any_start (fun hd => ?_)
      generalize wr.drew = V0 at HB0 hS ⊢
      (refine any_take (i := 0) (v := ?_) rfl (by kernel_rfl) hd (Nat.le_refl _) (fun _ _ d _ _ h => by cases d <;> exact h) hS (by first | with_reducible rfl | kernel_rfl) ?_ ?_; rotate_left; (focus (intro wS hS; (try dsimp only at hS); go_split_ands; go_simp; (try with_reducible rfl); done)); clear hd; intro hd; (try simp only [Act.put, List.getElem_toArray, List.getElem_cons_zero, List.setIfInBounds_toArray, List.set_cons_zero, List.set_cons_succ]))
      (refine any_take (i := 1) (v := ?_) rfl (by kernel_rfl) hd (Nat.le_refl _) (fun _ _ d _ _ h => by cases d <;> exact h) hS (by first | with_reducible rfl | kernel_rfl) ?_ ?_; rotate_left; (focus (intro wS hS; (try dsimp only at hS); go_split_ands; go_simp; (try with_reducible rfl); done)); clear hd; intro hd; (try simp only [Act.put, List.getElem_toArray, List.getElem_cons_succ, List.getElem_cons_zero, List.setIfInBounds_toArray, List.set_cons_zero, List.set_cons_succ]))
      (refine any_take (i := 2) (v := ?_) rfl (by kernel_rfl) hd (Nat.le_refl _) (fun _ _ d _ _ h => by cases d <;> exact h) hS (by first | with_reducible rfl | kernel_rfl) ?_ ?_; rotate_left; (focus (intro wS hS; (try dsimp only at hS); go_split_ands; go_simp; (try with_reducible rfl); done)); clear hd; intro hd; (try simp only [Act.put, List.getElem_toArray, List.getElem_cons_succ, List.getElem_cons_zero, List.setIfInBounds_toArray, List.set_cons_zero, List.set_cons_succ]))
      (refine any_take (i := 3) (v := ?_) rfl (by kernel_rfl) hd (Nat.le_refl _) (fun _ _ d _ _ h => by cases d <;> exact h) hS (by first | with_reducible rfl | kernel_rfl) ?_ ?_; rotate_left; (focus (intro wS hS; (try dsimp only at hS); go_split_ands; go_simp; (try with_reducible rfl); done)); clear hd; intro hd; (try simp only [Act.put, List.getElem_toArray, List.getElem_cons_succ, List.getElem_cons_zero, List.setIfInBounds_toArray, List.set_cons_zero, List.set_cons_succ]))
      (refine any_take (i := 6) (v := ?_) rfl (by kernel_rfl) hd (Nat.le_refl _) (fun _ _ d _ _ h => by cases d <;> exact h) hS (by first | with_reducible rfl | kernel_rfl) ?_ ?_; rotate_left; (focus (intro wS hS; (try dsimp only at hS); go_split_ands; go_simp; (try with_reducible rfl); done)); clear hd; intro hd; (try simp only [Act.put, List.getElem_toArray, List.getElem_cons_succ, List.getElem_cons_zero, List.setIfInBounds_toArray, List.set_cons_zero, List.set_cons_succ]))
      (refine any_take (i := 7) (v := ?_) rfl (by kernel_rfl) hd (Nat.le_refl _) (fun _ _ d _ _ h => by cases d <;> exact h) hS (by first | with_reducible rfl | kernel_rfl) ?_ ?_; rotate_left; (focus (intro wS hS; (try dsimp only at hS); go_split_ands; go_simp; (try with_reducible rfl); done)); clear hd; intro hd; (try simp only [Act.put, List.getElem_toArray, List.getElem_cons_succ, List.getElem_cons_zero, List.setIfInBounds_toArray, List.set_cons_zero, List.set_cons_succ]))
      (refine any_take (i := 8) (v := ?_) rfl (by kernel_rfl) hd (Nat.le_refl _) (fun _ _ d _ _ h => by cases d <;> exact h) hS (by first | with_reducible rfl | kernel_rfl) ?_ ?_; rotate_left; (focus (intro wS hS; (try dsimp only at hS); go_split_ands; go_simp; (try with_reducible rfl); done)); clear hd; intro hd; (try simp only [Act.put, List.getElem_toArray, List.getElem_cons_succ, List.getElem_cons_zero, List.setIfInBounds_toArray, List.set_cons_zero, List.set_cons_succ]))
      (refine any_take (i := 9) (v := ?_) rfl (by kernel_rfl) hd (Nat.le_refl _) (fun _ _ d _ _ h => by cases d <;> exact h) hS (by first | with_reducible rfl | kernel_rfl) ?_ ?_; rotate_left; (focus (intro wS hS; (try dsimp only at hS); go_split_ands; go_simp; (try with_reducible rfl); done)); clear hd; intro hd; (try simp only [Act.put, List.getElem_toArray, List.getElem_cons_succ, List.getElem_cons_zero, List.setIfInBounds_toArray, List.set_cons_zero, List.set_cons_succ]))
      clear hS
      refine any_run hd (L := [4, 10]) (by kernel_rfl) (by decide) (fun i hi hd2 => ?_)
      clear hd
      have hd := hd2
      clear hd2
      simp only [List.mem_cons, List.not_mem_nil, or_false] at hi
      rcases hi with rfl | rfl
      · refine any_do rfl rfl (fun K hK => ?_)
        go_simp
        have kx1 := Blk.new V0 22 #[.slice A n1 c, .slice A' n2 c']
        have bx1 : Below W0.heap.size W0 (V0.alloc (.cells #[.slice A n1 c, .slice A' n2 c'] 22)) := HB0.out.alloc HB0.out.size _
        have hlt1 := kx1.lt
        have HX1 := Lib.hid (And.intro kx1 bx1)
        clear kx1 bx1
        have HS1 := Lib.hid (show Below V0.heap.size V0 (V0.alloc (.cells #[.slice A n1 c, .slice A' n2 c'] 22)) from (Below.refl V0.heap.size V0).alloc (Nat.le_refl _) _)
        refine hK _ _ (US.out _ HX1.out.2) ?_
        clear hK K
        (try simp only [Act.put, List.getElem_toArray, List.getElem_cons_succ, List.getElem_cons_zero, List.setIfInBounds_toArray, List.set_cons_zero, List.set_cons_succ])
        generalize V0.alloc (.cells #[.slice A n1 c, .slice A' n2 c'] 22) = V1 at HX1 HS1 hlt1 ⊢
        have HB1 := Lib.hid HX1.out.2
        refine any_run hd (L := [5, 10]) (by kernel_rfl) (by decide) (fun i hi hd2 => ?_)
        clear hd
        have hd := hd2
        clear hd2
        simp only [List.mem_cons, List.not_mem_nil, or_false] at hi
        rcases hi with rfl | rfl
        · refine any_do rfl rfl (fun K hK => ?_)
          go_simp
          have hcon := concat_txt V1 V0.heap.size A c A' c' N N' (by rw [HN.out.1, HN.out.2.2.1]; exact HX1.out.1.upd (Upd.of_below (Below.refl _ _) (fun _ => False)) id) (UP.out _ HB1.out).2.2.2.1.rn (UP.out _ HB1.out).2.2.2.2.1.rn HNL.out.1
          refine hcon.mono ?_
          clear hcon
          rintro e V2 ⟨v, rfl, own2, b2⟩
          rw [HQ.out.1] at own2
          obtain ⟨A2, c2, rfl, hle2, row2⟩ := own_le2 own2
          have HB2 := Lib.hid (HB1.out.trans (b2.mono HB1.out.size))
          have HS2 := Lib.hid b2
          have HR2 := Lib.hid (And.intro row2 hle2)
          clear own2 b2 row2 hle2
          refine hK _ _ (US.out _ HB2.out) ?_
          clear hK K
          (try simp only [Act.put, List.getElem_toArray, List.getElem_cons_succ, List.getElem_cons_zero, List.setIfInBounds_toArray, List.set_cons_zero, List.set_cons_succ])
          refine any_run hd (L := [10]) (by kernel_rfl) (by decide) (fun i hi hd2 => ?_)
          clear hd
          have hd := hd2
          clear hd2
          obtain rfl := List.mem_singleton.1 hi
          clear hi
          refine any_do rfl rfl (fun K hK => ?_)
          go_simp
          have kx3 := Blk.new V2 23 #[.slice B m1 d, .slice B' m2 d']
          have bx3 : Below W0.heap.size W0 (V2.alloc (.cells #[.slice B m1 d, .slice B' m2 d'] 23)) := HB2.out.alloc HB2.out.size _
          have hlt3 := kx3.lt
          have HX3 := Lib.hid (And.intro kx3 bx3)
          clear kx3 bx3
          have HS3 := Lib.hid (show Below V2.heap.size V2 (V2.alloc (.cells #[.slice B m1 d, .slice B' m2 d'] 23)) from (Below.refl V2.heap.size V2).alloc (Nat.le_refl _) _)
          refine hK _ _ (US.out _ HX3.out.2) ?_
          clear hK K
          (try simp only [Act.put, List.getElem_toArray, List.getElem_cons_succ, List.getElem_cons_zero, List.setIfInBounds_toArray, List.set_cons_zero, List.set_cons_succ])
          generalize V2.alloc (.cells #[.slice B m1 d, .slice B' m2 d'] 23) = V3 at HX3 HS3 hlt3 ⊢
          have HB3 := Lib.hid HX3.out.2
          refine any_run hd (L := [11]) (by kernel_rfl) (by decide) (fun i hi hd2 => ?_)
          clear hd
          have hd := hd2
          clear hd2
          obtain rfl := List.mem_singleton.1 hi
          clear hi
          refine any_do rfl rfl (fun K hK => ?_)
          go_simp
          have hcon := concat_ed V3 V2.heap.size B d B' d' E E' (by rw [HN.out.2.1, HN.out.2.2.2]; exact HX3.out.1.upd (Upd.of_below (Below.refl _ _) (fun _ => False)) id) (UP.out _ HB3.out).2.2.2.1.re (UP.out _ HB3.out).2.2.2.2.1.re HNL.out.2
          refine hcon.mono ?_
          clear hcon
          rintro e V4 ⟨v, rfl, own4, b4⟩
          rw [HQ.out.2] at own4
          obtain ⟨A4, c4, rfl, hle4, row4⟩ := own_le2 own4
          have HB4 := Lib.hid (HB3.out.trans (b4.mono HB3.out.size))
          have HS4 := Lib.hid b4
          have HR4 := Lib.hid (And.intro row4 hle4)
          clear own4 b4 row4 hle4
          refine hK _ _ (US.out _ HB4.out) ?_
          clear hK K
          (try simp only [Act.put, List.getElem_toArray, List.getElem_cons_succ, List.getElem_cons_zero, List.setIfInBounds_toArray, List.set_cons_zero, List.set_cons_succ])
          have rA := HR2.out.1.below ((HS3.out).trans ((HS4.out).mono (HS3.out).size))
          have rB := HR4.out.1.below (Below.refl _ _)
          have hmade := made_any V4 A2 c2 A4 c4 (N ++ N') (E ++ E') ⟨rA, rB, by rw [HQ.out.1]; exact HR2.out.2, by rw [HQ.out.2]; exact HR4.out.2, HFT.out⟩ HSH.out HBB.out
          clear rA rB
          rw [HQ.out.1, HQ.out.2] at hmade
          refine any_run hd (L := [12]) (by kernel_rfl) (by decide) (fun i hi hd2 => ?_)
          clear hd
          have hd := hd2
          clear hd2
          obtain rfl := List.mem_singleton.1 hi
          clear hi
          refine any_do rfl rfl (fun K hK => ?_)
          go_simp
          refine hmade.mono ?_
          clear hmade
          intro e WZ hmZ
          obtain ⟨AZ, cZ, BZ, dZ, rfl, oZ, oY, bZ⟩ := MQ.out _ _ _ hmZ
          clear hmZ
          have HBZ := Lib.hid (HB4.out.trans (bZ.mono HB4.out.size))
          clear bZ
          obtain ⟨nZ, hnZ⟩ : ∃ n, (joinN N E N' E').length = n := ⟨_, rfl⟩
          obtain ⟨mZ, hmZ⟩ : ∃ n, (joinE N E N' E').length = n := ⟨_, rfl⟩
          obtain ⟨zZ, hzZ⟩ : ∃ n, joinI N E N' E' = n := ⟨_, rfl⟩
          rw [hnZ] at oZ
          rw [hmZ] at oY
          rw [hnZ, hmZ, hzZ]
          unfold twoV
          have HO := Lib.hid (And.intro oZ (And.intro oY (And.intro hnZ (And.intro hmZ hzZ))))
          clear oZ oY hnZ hmZ hzZ
          have hS := US.out _ HBZ.out
          refine hK _ _ hS ?_
          clear hK K
          (try simp only [Act.put, List.getElem_toArray, List.getElem_cons_succ, List.getElem_cons_zero, List.setIfInBounds_toArray, List.set_cons_zero, List.set_cons_succ])
          (refine any_take (i := 13) (v := ?_) rfl (by kernel_rfl) hd (Nat.le_refl _) (fun _ _ d _ _ h => by cases d <;> exact h) hS (by first | with_reducible rfl | kernel_rfl) ?_ ?_; rotate_left; (focus (intro wS hS; (try dsimp only at hS); go_split_ands; go_simp; (try with_reducible rfl); done)); clear hd; intro hd; (try simp only [Act.put, List.getElem_toArray, List.getElem_cons_succ, List.getElem_cons_zero, List.setIfInBounds_toArray, List.set_cons_zero, List.set_cons_succ]))
          (refine any_take (i := 14) (v := ?_) rfl (by kernel_rfl) hd (Nat.le_refl _) (fun _ _ d _ _ h => by cases d <;> exact h) hS (by first | with_reducible rfl | kernel_rfl) ?_ ?_; rotate_left; (focus (intro wS hS; (try dsimp only at hS); go_split_ands; go_simp; (try with_reducible rfl); done)); clear hd; intro hd; (try simp only [Act.put, List.getElem_toArray, List.getElem_cons_succ, List.getElem_cons_zero, List.setIfInBounds_toArray, List.set_cons_zero, List.set_cons_succ]))
          refine any_run hd (L := [15]) (by kernel_rfl) (by decide) (fun i hi hd2 => ?_)
          clear hd
          have hd := hd2
          clear hd2 hS
          obtain rfl := List.mem_singleton.1 hi
          clear hi
          have kr := (UP.out _ HBZ.out).2.2.1
          have r0 : WZ.cell? ⟨w.heap.size + 1 + 1, 0, none⟩ = some (.slice none 0 0) := kr.cell 0
          have r1 : WZ.cell? ⟨w.heap.size + 1 + 1, 1, none⟩ = some (.slice none 0 0) := kr.cell 1
          have f0 := kr.frozen 0
          have f1 := kr.frozen 1
          have kF := (kr.set 0 (.slice AZ nZ cZ)).set 1 (.slice BZ mZ dZ)
          have uF : Upd (fun q => q = w.heap.size + 1 + 1) WZ ((WZ.setCell ⟨w.heap.size + 1 + 1, 0, none⟩ (.slice AZ nZ cZ)).setCell ⟨w.heap.size + 1 + 1, 1, none⟩ (.slice BZ mZ dZ)) := ((Upd.refl (fun q => q = w.heap.size + 1 + 1) WZ).setCell (p := ⟨w.heap.size + 1 + 1, 0, none⟩) (.inl rfl) _).setCell (p := ⟨w.heap.size + 1 + 1, 1, none⟩) (.inl rfl) _
          have e0 := kF.cell 0
          have e1 := kF.cell 1
          simp only [List.setIfInBounds_toArray, List.set_cons_zero, List.set_cons_succ, List.getElem?_toArray, List.getElem?_cons_succ, List.getElem?_cons_zero] at e0 e1
          have bw := (UP.out _ HBZ.out).2.2.2.2.2
          have zV : W0.heap.size ≤ V4.heap.size := HB4.out.size
          have oA := ownsRow_upd HO.out.1 uF (fun q hq e => by have := (HO.out.1.lt q hq).1; omega)
          have oB := ownsRow_upd HO.out.2.1 uF (fun q hq e => by have := (HO.out.2.1.lt q hq).1; omega)
          have hS : (fun w' => w'.cell? ⟨w.heap.size, 0, none⟩ = some (.slice A n1 c) ∧ w'.cell? ⟨w.heap.size, 1, none⟩ = some (.slice B m1 d) ∧ w'.cell? ⟨w.heap.size + 1, 0, none⟩ = some (.slice A' n2 c') ∧ w'.cell? ⟨w.heap.size + 1, 1, none⟩ = some (.slice B' m2 d')) ((WZ.setCell ⟨w.heap.size + 1 + 1, 0, none⟩ (.slice AZ nZ cZ)).setCell ⟨w.heap.size + 1 + 1, 1, none⟩ (.slice BZ mZ dZ)) := by
            have h1 := (UP.out _ HBZ.out).1.upd uF (by omega)
            have h2 := (UP.out _ HBZ.out).2.1.upd uF (by omega)
            exact ⟨h1.cell 0, h1.cell 1, h2.cell 0, h2.cell 1⟩
          have FIN := Lib.hid (show JoinP w N E N' E' (.returned (.tuple #[.agg #[.slice AZ nZ cZ, .slice BZ mZ dZ], .int .i64 zZ])) _ from ⟨AZ, cZ, BZ, dZ, by rw [HO.out.2.2.1, HO.out.2.2.2.1, HO.out.2.2.2.2]; rfl, by rw [HO.out.2.2.1]; exact ownsRow_base oA (fun q hq => by have := (HO.out.1.lt q hq).1; omega), by rw [HO.out.2.2.2.1]; exact ownsRow_base oB (fun q hq => by have := (HO.out.2.1.lt q hq).1; omega), bw.trans (uF.below (fun q _ e => by omega) bw.size)⟩)
          clear kr kF uF bw oA oB
          refine any_do rfl rfl (fun K hK => ?_)
          go_simp
          refine hK _ _ hS ?_
          clear hK K
          (try simp only [Act.put, List.getElem_toArray, List.getElem_cons_succ, List.getElem_cons_zero, List.setIfInBounds_toArray, List.set_cons_zero, List.set_cons_succ])
          (refine any_take (i := 16) (v := ?_) rfl (by kernel_rfl) hd (Nat.le_refl _) (fun _ _ d _ _ h => by cases d <;> exact h) hS (by first | with_reducible rfl | kernel_rfl) ?_ ?_; rotate_left; (focus (intro wS hS; (try dsimp only at hS); go_split_ands; go_simp; (try with_reducible rfl); done)); clear hd; intro hd; (try simp only [Act.put, List.getElem_toArray, List.getElem_cons_succ, List.getElem_cons_zero, List.setIfInBounds_toArray, List.set_cons_zero, List.set_cons_succ]))
          refine any_done (by kernel_rfl) ?_
          clear hS hd r0 r1 f0 f1
          go_wp2
          refine bodyPost_ret (v := .tuple #[.agg #[.slice AZ nZ cZ, .slice BZ mZ dZ], .int .i64 zZ]) (by simp [results, Tryz.f20, go_sem, e0, e1]) rfl FIN.out
        · refine any_do rfl rfl (fun K hK => ?_)
          go_simp
          have kx5 := Blk.new V1 23 #[.slice B m1 d, .slice B' m2 d']
          have bx5 : Below W0.heap.size W0 (V1.alloc (.cells #[.slice B m1 d, .slice B' m2 d'] 23)) := HB1.out.alloc HB1.out.size _
          have hlt5 := kx5.lt
          have HX5 := Lib.hid (And.intro kx5 bx5)
          clear kx5 bx5
          have HS5 := Lib.hid (show Below V1.heap.size V1 (V1.alloc (.cells #[.slice B m1 d, .slice B' m2 d'] 23)) from (Below.refl V1.heap.size V1).alloc (Nat.le_refl _) _)
          refine hK _ _ (US.out _ HX5.out.2) ?_
          clear hK K
          (try simp only [Act.put, List.getElem_toArray, List.getElem_cons_succ, List.getElem_cons_zero, List.setIfInBounds_toArray, List.set_cons_zero, List.set_cons_succ])
          generalize V1.alloc (.cells #[.slice B m1 d, .slice B' m2 d'] 23) = V5 at HX5 HS5 hlt5 ⊢
          have HB5 := Lib.hid HX5.out.2
          refine any_run hd (L := [5]) (by kernel_rfl) (by decide) (fun i hi hd2 => ?_)
          clear hd
          have hd := hd2
          clear hd2
          obtain rfl := List.mem_singleton.1 hi
          clear hi
          refine any_do rfl rfl (fun K hK => ?_)
          go_simp
          have hcon := concat_txt V5 V0.heap.size A c A' c' N N' (by rw [HN.out.1, HN.out.2.2.1]; exact HX1.out.1.upd (Upd.of_below (HS5.out) (fun _ => False)) id) (UP.out _ HB5.out).2.2.2.1.rn (UP.out _ HB5.out).2.2.2.2.1.rn HNL.out.1
          refine hcon.mono ?_
          clear hcon
          rintro e V6 ⟨v, rfl, own6, b6⟩
          rw [HQ.out.1] at own6
          obtain ⟨A6, c6, rfl, hle6, row6⟩ := own_le2 own6
          have HB6 := Lib.hid (HB5.out.trans (b6.mono HB5.out.size))
          have HS6 := Lib.hid b6
          have HR6 := Lib.hid (And.intro row6 hle6)
          clear own6 b6 row6 hle6
          refine hK _ _ (US.out _ HB6.out) ?_
          clear hK K
          (try simp only [Act.put, List.getElem_toArray, List.getElem_cons_succ, List.getElem_cons_zero, List.setIfInBounds_toArray, List.set_cons_zero, List.set_cons_succ])
          refine any_run hd (L := [11]) (by kernel_rfl) (by decide) (fun i hi hd2 => ?_)
          clear hd
          have hd := hd2
          clear hd2
          obtain rfl := List.mem_singleton.1 hi
          clear hi
          refine any_do rfl rfl (fun K hK => ?_)
          go_simp
          have hcon := concat_ed V6 V1.heap.size B d B' d' E E' (by rw [HN.out.2.1, HN.out.2.2.2]; exact HX5.out.1.upd (Upd.of_below (HS6.out) (fun _ => False)) id) (UP.out _ HB6.out).2.2.2.1.re (UP.out _ HB6.out).2.2.2.2.1.re HNL.out.2
          refine hcon.mono ?_
          clear hcon
          rintro e V7 ⟨v, rfl, own7, b7⟩
          rw [HQ.out.2] at own7
          obtain ⟨A7, c7, rfl, hle7, row7⟩ := own_le2 own7
          have HB7 := Lib.hid (HB6.out.trans (b7.mono HB6.out.size))
          have HS7 := Lib.hid b7
          have HR7 := Lib.hid (And.intro row7 hle7)
          clear own7 b7 row7 hle7
          refine hK _ _ (US.out _ HB7.out) ?_
          clear hK K
          (try simp only [Act.put, List.getElem_toArray, List.getElem_cons_succ, List.getElem_cons_zero, List.setIfInBounds_toArray, List.set_cons_zero, List.set_cons_succ])
          have rA := HR6.out.1.below (HS7.out)
          have rB := HR7.out.1.below (Below.refl _ _)
          have hmade := made_any V7 A6 c6 A7 c7 (N ++ N') (E ++ E') ⟨rA, rB, by rw [HQ.out.1]; exact HR6.out.2, by rw [HQ.out.2]; exact HR7.out.2, HFT.out⟩ HSH.out HBB.out
          clear rA rB
          rw [HQ.out.1, HQ.out.2] at hmade
          refine any_run hd (L := [12]) (by kernel_rfl) (by decide) (fun i hi hd2 => ?_)
          clear hd
          have hd := hd2
          clear hd2
          obtain rfl := List.mem_singleton.1 hi
          clear hi
          refine any_do rfl rfl (fun K hK => ?_)
          go_simp
          refine hmade.mono ?_
          clear hmade
          intro e WZ hmZ
          obtain ⟨AZ, cZ, BZ, dZ, rfl, oZ, oY, bZ⟩ := MQ.out _ _ _ hmZ
          clear hmZ
          have HBZ := Lib.hid (HB7.out.trans (bZ.mono HB7.out.size))
          clear bZ
          obtain ⟨nZ, hnZ⟩ : ∃ n, (joinN N E N' E').length = n := ⟨_, rfl⟩
          obtain ⟨mZ, hmZ⟩ : ∃ n, (joinE N E N' E').length = n := ⟨_, rfl⟩
          obtain ⟨zZ, hzZ⟩ : ∃ n, joinI N E N' E' = n := ⟨_, rfl⟩
          rw [hnZ] at oZ
          rw [hmZ] at oY
          rw [hnZ, hmZ, hzZ]
          unfold twoV
          have HO := Lib.hid (And.intro oZ (And.intro oY (And.intro hnZ (And.intro hmZ hzZ))))
          clear oZ oY hnZ hmZ hzZ
          have hS := US.out _ HBZ.out
          refine hK _ _ hS ?_
          clear hK K
          (try simp only [Act.put, List.getElem_toArray, List.getElem_cons_succ, List.getElem_cons_zero, List.setIfInBounds_toArray, List.set_cons_zero, List.set_cons_succ])
          (refine any_take (i := 13) (v := ?_) rfl (by kernel_rfl) hd (Nat.le_refl _) (fun _ _ d _ _ h => by cases d <;> exact h) hS (by first | with_reducible rfl | kernel_rfl) ?_ ?_; rotate_left; (focus (intro wS hS; (try dsimp only at hS); go_split_ands; go_simp; (try with_reducible rfl); done)); clear hd; intro hd; (try simp only [Act.put, List.getElem_toArray, List.getElem_cons_succ, List.getElem_cons_zero, List.setIfInBounds_toArray, List.set_cons_zero, List.set_cons_succ]))
          (refine any_take (i := 14) (v := ?_) rfl (by kernel_rfl) hd (Nat.le_refl _) (fun _ _ d _ _ h => by cases d <;> exact h) hS (by first | with_reducible rfl | kernel_rfl) ?_ ?_; rotate_left; (focus (intro wS hS; (try dsimp only at hS); go_split_ands; go_simp; (try with_reducible rfl); done)); clear hd; intro hd; (try simp only [Act.put, List.getElem_toArray, List.getElem_cons_succ, List.getElem_cons_zero, List.setIfInBounds_toArray, List.set_cons_zero, List.set_cons_succ]))
          refine any_run hd (L := [15]) (by kernel_rfl) (by decide) (fun i hi hd2 => ?_)
          clear hd
          have hd := hd2
          clear hd2 hS
          obtain rfl := List.mem_singleton.1 hi
          clear hi
          have kr := (UP.out _ HBZ.out).2.2.1
          have r0 : WZ.cell? ⟨w.heap.size + 1 + 1, 0, none⟩ = some (.slice none 0 0) := kr.cell 0
          have r1 : WZ.cell? ⟨w.heap.size + 1 + 1, 1, none⟩ = some (.slice none 0 0) := kr.cell 1
          have f0 := kr.frozen 0
          have f1 := kr.frozen 1
          have kF := (kr.set 0 (.slice AZ nZ cZ)).set 1 (.slice BZ mZ dZ)
          have uF : Upd (fun q => q = w.heap.size + 1 + 1) WZ ((WZ.setCell ⟨w.heap.size + 1 + 1, 0, none⟩ (.slice AZ nZ cZ)).setCell ⟨w.heap.size + 1 + 1, 1, none⟩ (.slice BZ mZ dZ)) := ((Upd.refl (fun q => q = w.heap.size + 1 + 1) WZ).setCell (p := ⟨w.heap.size + 1 + 1, 0, none⟩) (.inl rfl) _).setCell (p := ⟨w.heap.size + 1 + 1, 1, none⟩) (.inl rfl) _
          have e0 := kF.cell 0
          have e1 := kF.cell 1
          simp only [List.setIfInBounds_toArray, List.set_cons_zero, List.set_cons_succ, List.getElem?_toArray, List.getElem?_cons_succ, List.getElem?_cons_zero] at e0 e1
          have bw := (UP.out _ HBZ.out).2.2.2.2.2
          have zV : W0.heap.size ≤ V7.heap.size := HB7.out.size
          have oA := ownsRow_upd HO.out.1 uF (fun q hq e => by have := (HO.out.1.lt q hq).1; omega)
          have oB := ownsRow_upd HO.out.2.1 uF (fun q hq e => by have := (HO.out.2.1.lt q hq).1; omega)
          have hS : (fun w' => w'.cell? ⟨w.heap.size, 0, none⟩ = some (.slice A n1 c) ∧ w'.cell? ⟨w.heap.size, 1, none⟩ = some (.slice B m1 d) ∧ w'.cell? ⟨w.heap.size + 1, 0, none⟩ = some (.slice A' n2 c') ∧ w'.cell? ⟨w.heap.size + 1, 1, none⟩ = some (.slice B' m2 d')) ((WZ.setCell ⟨w.heap.size + 1 + 1, 0, none⟩ (.slice AZ nZ cZ)).setCell ⟨w.heap.size + 1 + 1, 1, none⟩ (.slice BZ mZ dZ)) := by
            have h1 := (UP.out _ HBZ.out).1.upd uF (by omega)
            have h2 := (UP.out _ HBZ.out).2.1.upd uF (by omega)
            exact ⟨h1.cell 0, h1.cell 1, h2.cell 0, h2.cell 1⟩
          have FIN := Lib.hid (show JoinP w N E N' E' (.returned (.tuple #[.agg #[.slice AZ nZ cZ, .slice BZ mZ dZ], .int .i64 zZ])) _ from ⟨AZ, cZ, BZ, dZ, by rw [HO.out.2.2.1, HO.out.2.2.2.1, HO.out.2.2.2.2]; rfl, by rw [HO.out.2.2.1]; exact ownsRow_base oA (fun q hq => by have := (HO.out.1.lt q hq).1; omega), by rw [HO.out.2.2.2.1]; exact ownsRow_base oB (fun q hq => by have := (HO.out.2.1.lt q hq).1; omega), bw.trans (uF.below (fun q _ e => by omega) bw.size)⟩)
          clear kr kF uF bw oA oB
          refine any_do rfl rfl (fun K hK => ?_)
          go_simp
          refine hK _ _ hS ?_
          clear hK K
          (try simp only [Act.put, List.getElem_toArray, List.getElem_cons_succ, List.getElem_cons_zero, List.setIfInBounds_toArray, List.set_cons_zero, List.set_cons_succ])
          (refine any_take (i := 16) (v := ?_) rfl (by kernel_rfl) hd (Nat.le_refl _) (fun _ _ d _ _ h => by cases d <;> exact h) hS (by first | with_reducible rfl | kernel_rfl) ?_ ?_; rotate_left; (focus (intro wS hS; (try dsimp only at hS); go_split_ands; go_simp; (try with_reducible rfl); done)); clear hd; intro hd; (try simp only [Act.put, List.getElem_toArray, List.getElem_cons_succ, List.getElem_cons_zero, List.setIfInBounds_toArray, List.set_cons_zero, List.set_cons_succ]))
          refine any_done (by kernel_rfl) ?_
          clear hS hd r0 r1 f0 f1
          go_wp2
          refine bodyPost_ret (v := .tuple #[.agg #[.slice AZ nZ cZ, .slice BZ mZ dZ], .int .i64 zZ]) (by simp [results, Tryz.f20, go_sem, e0, e1]) rfl FIN.out
      · refine any_do rfl rfl (fun K hK => ?_)
        go_simp
        have kx8 := Blk.new V0 23 #[.slice B m1 d, .slice B' m2 d']
        have bx8 : Below W0.heap.size W0 (V0.alloc (.cells #[.slice B m1 d, .slice B' m2 d'] 23)) := HB0.out.alloc HB0.out.size _
        have hlt8 := kx8.lt
        have HX8 := Lib.hid (And.intro kx8 bx8)
        clear kx8 bx8
        have HS8 := Lib.hid (show Below V0.heap.size V0 (V0.alloc (.cells #[.slice B m1 d, .slice B' m2 d'] 23)) from (Below.refl V0.heap.size V0).alloc (Nat.le_refl _) _)
        refine hK _ _ (US.out _ HX8.out.2) ?_
        clear hK K
        (try simp only [Act.put, List.getElem_toArray, List.getElem_cons_succ, List.getElem_cons_zero, List.setIfInBounds_toArray, List.set_cons_zero, List.set_cons_succ])
        generalize V0.alloc (.cells #[.slice B m1 d, .slice B' m2 d'] 23) = V8 at HX8 HS8 hlt8 ⊢
        have HB8 := Lib.hid HX8.out.2
        refine any_run hd (L := [4]) (by kernel_rfl) (by decide) (fun i hi hd2 => ?_)
        clear hd
        have hd := hd2
        clear hd2
        obtain rfl := List.mem_singleton.1 hi
        clear hi
        refine any_do rfl rfl (fun K hK => ?_)
        go_simp
        have kx9 := Blk.new V8 22 #[.slice A n1 c, .slice A' n2 c']
        have bx9 : Below W0.heap.size W0 (V8.alloc (.cells #[.slice A n1 c, .slice A' n2 c'] 22)) := HB8.out.alloc HB8.out.size _
        have hlt9 := kx9.lt
        have HX9 := Lib.hid (And.intro kx9 bx9)
        clear kx9 bx9
        have HS9 := Lib.hid (show Below V8.heap.size V8 (V8.alloc (.cells #[.slice A n1 c, .slice A' n2 c'] 22)) from (Below.refl V8.heap.size V8).alloc (Nat.le_refl _) _)
        refine hK _ _ (US.out _ HX9.out.2) ?_
        clear hK K
        (try simp only [Act.put, List.getElem_toArray, List.getElem_cons_succ, List.getElem_cons_zero, List.setIfInBounds_toArray, List.set_cons_zero, List.set_cons_succ])
        generalize V8.alloc (.cells #[.slice A n1 c, .slice A' n2 c'] 22) = V9 at HX9 HS9 hlt9 ⊢
        have HB9 := Lib.hid HX9.out.2
        refine any_run hd (L := [5]) (by kernel_rfl) (by decide) (fun i hi hd2 => ?_)
        clear hd
        have hd := hd2
        clear hd2
        obtain rfl := List.mem_singleton.1 hi
        clear hi
        refine any_do rfl rfl (fun K hK => ?_)
        go_simp
        have hcon := concat_txt V9 V8.heap.size A c A' c' N N' (by rw [HN.out.1, HN.out.2.2.1]; exact HX9.out.1.upd (Upd.of_below (Below.refl _ _) (fun _ => False)) id) (UP.out _ HB9.out).2.2.2.1.rn (UP.out _ HB9.out).2.2.2.2.1.rn HNL.out.1
        refine hcon.mono ?_
        clear hcon
        rintro e V10 ⟨v, rfl, own10, b10⟩
        rw [HQ.out.1] at own10
        obtain ⟨A10, c10, rfl, hle10, row10⟩ := own_le2 own10
        have HB10 := Lib.hid (HB9.out.trans (b10.mono HB9.out.size))
        have HS10 := Lib.hid b10
        have HR10 := Lib.hid (And.intro row10 hle10)
        clear own10 b10 row10 hle10
        refine hK _ _ (US.out _ HB10.out) ?_
        clear hK K
        (try simp only [Act.put, List.getElem_toArray, List.getElem_cons_succ, List.getElem_cons_zero, List.setIfInBounds_toArray, List.set_cons_zero, List.set_cons_succ])
        refine any_run hd (L := [11]) (by kernel_rfl) (by decide) (fun i hi hd2 => ?_)
        clear hd
        have hd := hd2
        clear hd2
        obtain rfl := List.mem_singleton.1 hi
        clear hi
        refine any_do rfl rfl (fun K hK => ?_)
        go_simp
        have hcon := concat_ed V10 V0.heap.size B d B' d' E E' (by rw [HN.out.2.1, HN.out.2.2.2]; exact HX8.out.1.upd (Upd.of_below ((HS9.out).trans ((HS10.out).mono (HS9.out).size)) (fun _ => False)) id) (UP.out _ HB10.out).2.2.2.1.re (UP.out _ HB10.out).2.2.2.2.1.re HNL.out.2
        refine hcon.mono ?_
        clear hcon
        rintro e V11 ⟨v, rfl, own11, b11⟩
        rw [HQ.out.2] at own11
        obtain ⟨A11, c11, rfl, hle11, row11⟩ := own_le2 own11
        have HB11 := Lib.hid (HB10.out.trans (b11.mono HB10.out.size))
        have HS11 := Lib.hid b11
        have HR11 := Lib.hid (And.intro row11 hle11)
        clear own11 b11 row11 hle11
        refine hK _ _ (US.out _ HB11.out) ?_
        clear hK K
        (try simp only [Act.put, List.getElem_toArray, List.getElem_cons_succ, List.getElem_cons_zero, List.setIfInBounds_toArray, List.set_cons_zero, List.set_cons_succ])
        have rA := HR10.out.1.below (HS11.out)
        have rB := HR11.out.1.below (Below.refl _ _)
        have hmade := made_any V11 A10 c10 A11 c11 (N ++ N') (E ++ E') ⟨rA, rB, by rw [HQ.out.1]; exact HR10.out.2, by rw [HQ.out.2]; exact HR11.out.2, HFT.out⟩ HSH.out HBB.out
        clear rA rB
        rw [HQ.out.1, HQ.out.2] at hmade
        refine any_run hd (L := [12]) (by kernel_rfl) (by decide) (fun i hi hd2 => ?_)
        clear hd
        have hd := hd2
        clear hd2
        obtain rfl := List.mem_singleton.1 hi
        clear hi
        refine any_do rfl rfl (fun K hK => ?_)
        go_simp
        refine hmade.mono ?_
        clear hmade
        intro e WZ hmZ
        obtain ⟨AZ, cZ, BZ, dZ, rfl, oZ, oY, bZ⟩ := MQ.out _ _ _ hmZ
        clear hmZ
        have HBZ := Lib.hid (HB11.out.trans (bZ.mono HB11.out.size))
        clear bZ
        obtain ⟨nZ, hnZ⟩ : ∃ n, (joinN N E N' E').length = n := ⟨_, rfl⟩
        obtain ⟨mZ, hmZ⟩ : ∃ n, (joinE N E N' E').length = n := ⟨_, rfl⟩
        obtain ⟨zZ, hzZ⟩ : ∃ n, joinI N E N' E' = n := ⟨_, rfl⟩
        rw [hnZ] at oZ
        rw [hmZ] at oY
        rw [hnZ, hmZ, hzZ]
        unfold twoV
        have HO := Lib.hid (And.intro oZ (And.intro oY (And.intro hnZ (And.intro hmZ hzZ))))
        clear oZ oY hnZ hmZ hzZ
        have hS := US.out _ HBZ.out
        refine hK _ _ hS ?_
        clear hK K
        (try simp only [Act.put, List.getElem_toArray, List.getElem_cons_succ, List.getElem_cons_zero, List.setIfInBounds_toArray, List.set_cons_zero, List.set_cons_succ])
        (refine any_take (i := 13) (v := ?_) rfl (by kernel_rfl) hd (Nat.le_refl _) (fun _ _ d _ _ h => by cases d <;> exact h) hS (by first | with_reducible rfl | kernel_rfl) ?_ ?_; rotate_left; (focus (intro wS hS; (try dsimp only at hS); go_split_ands; go_simp; (try with_reducible rfl); done)); clear hd; intro hd; (try simp only [Act.put, List.getElem_toArray, List.getElem_cons_succ, List.getElem_cons_zero, List.setIfInBounds_toArray, List.set_cons_zero, List.set_cons_succ]))
        (refine any_take (i := 14) (v := ?_) rfl (by kernel_rfl) hd (Nat.le_refl _) (fun _ _ d _ _ h => by cases d <;> exact h) hS (by first | with_reducible rfl | kernel_rfl) ?_ ?_; rotate_left; (focus (intro wS hS; (try dsimp only at hS); go_split_ands; go_simp; (try with_reducible rfl); done)); clear hd; intro hd; (try simp only [Act.put, List.getElem_toArray, List.getElem_cons_succ, List.getElem_cons_zero, List.setIfInBounds_toArray, List.set_cons_zero, List.set_cons_succ]))
        refine any_run hd (L := [15]) (by kernel_rfl) (by decide) (fun i hi hd2 => ?_)
        clear hd
        have hd := hd2
        clear hd2 hS
        obtain rfl := List.mem_singleton.1 hi
        clear hi
        have kr := (UP.out _ HBZ.out).2.2.1
        have r0 : WZ.cell? ⟨w.heap.size + 1 + 1, 0, none⟩ = some (.slice none 0 0) := kr.cell 0
        have r1 : WZ.cell? ⟨w.heap.size + 1 + 1, 1, none⟩ = some (.slice none 0 0) := kr.cell 1
        have f0 := kr.frozen 0
        have f1 := kr.frozen 1
        have kF := (kr.set 0 (.slice AZ nZ cZ)).set 1 (.slice BZ mZ dZ)
        have uF : Upd (fun q => q = w.heap.size + 1 + 1) WZ ((WZ.setCell ⟨w.heap.size + 1 + 1, 0, none⟩ (.slice AZ nZ cZ)).setCell ⟨w.heap.size + 1 + 1, 1, none⟩ (.slice BZ mZ dZ)) := ((Upd.refl (fun q => q = w.heap.size + 1 + 1) WZ).setCell (p := ⟨w.heap.size + 1 + 1, 0, none⟩) (.inl rfl) _).setCell (p := ⟨w.heap.size + 1 + 1, 1, none⟩) (.inl rfl) _
        have e0 := kF.cell 0
        have e1 := kF.cell 1
        simp only [List.setIfInBounds_toArray, List.set_cons_zero, List.set_cons_succ, List.getElem?_toArray, List.getElem?_cons_succ, List.getElem?_cons_zero] at e0 e1
        have bw := (UP.out _ HBZ.out).2.2.2.2.2
        have zV : W0.heap.size ≤ V11.heap.size := HB11.out.size
        have oA := ownsRow_upd HO.out.1 uF (fun q hq e => by have := (HO.out.1.lt q hq).1; omega)
        have oB := ownsRow_upd HO.out.2.1 uF (fun q hq e => by have := (HO.out.2.1.lt q hq).1; omega)
        have hS : (fun w' => w'.cell? ⟨w.heap.size, 0, none⟩ = some (.slice A n1 c) ∧ w'.cell? ⟨w.heap.size, 1, none⟩ = some (.slice B m1 d) ∧ w'.cell? ⟨w.heap.size + 1, 0, none⟩ = some (.slice A' n2 c') ∧ w'.cell? ⟨w.heap.size + 1, 1, none⟩ = some (.slice B' m2 d')) ((WZ.setCell ⟨w.heap.size + 1 + 1, 0, none⟩ (.slice AZ nZ cZ)).setCell ⟨w.heap.size + 1 + 1, 1, none⟩ (.slice BZ mZ dZ)) := by
          have h1 := (UP.out _ HBZ.out).1.upd uF (by omega)
          have h2 := (UP.out _ HBZ.out).2.1.upd uF (by omega)
          exact ⟨h1.cell 0, h1.cell 1, h2.cell 0, h2.cell 1⟩
        have FIN := Lib.hid (show JoinP w N E N' E' (.returned (.tuple #[.agg #[.slice AZ nZ cZ, .slice BZ mZ dZ], .int .i64 zZ])) _ from ⟨AZ, cZ, BZ, dZ, by rw [HO.out.2.2.1, HO.out.2.2.2.1, HO.out.2.2.2.2]; rfl, by rw [HO.out.2.2.1]; exact ownsRow_base oA (fun q hq => by have := (HO.out.1.lt q hq).1; omega), by rw [HO.out.2.2.2.1]; exact ownsRow_base oB (fun q hq => by have := (HO.out.2.1.lt q hq).1; omega), bw.trans (uF.below (fun q _ e => by omega) bw.size)⟩)
        clear kr kF uF bw oA oB
        refine any_do rfl rfl (fun K hK => ?_)
        go_simp
        refine hK _ _ hS ?_
        clear hK K
        (try simp only [Act.put, List.getElem_toArray, List.getElem_cons_succ, List.getElem_cons_zero, List.setIfInBounds_toArray, List.set_cons_zero, List.set_cons_succ])
        (refine any_take (i := 16) (v := ?_) rfl (by kernel_rfl) hd (Nat.le_refl _) (fun _ _ d _ _ h => by cases d <;> exact h) hS (by first | with_reducible rfl | kernel_rfl) ?_ ?_; rotate_left; (focus (intro wS hS; (try dsimp only at hS); go_split_ands; go_simp; (try with_reducible rfl); done)); clear hd; intro hd; (try simp only [Act.put, List.getElem_toArray, List.getElem_cons_succ, List.getElem_cons_zero, List.setIfInBounds_toArray, List.set_cons_zero, List.set_cons_succ]))
        refine any_done (by kernel_rfl) ?_
        clear hS hd r0 r1 f0 f1
        go_wp2
        refine bodyPost_ret (v := .tuple #[.agg #[.slice AZ nZ cZ, .slice BZ mZ dZ], .int .i64 zZ]) (by simp [results, Tryz.f20, go_sem, e0, e1]) rfl FIN.out
end Go.Proofs.YthmkgnifcbnkpaaGreat
