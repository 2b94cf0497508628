/- The law EdgesCheck of layer 16: its walk. -/
import Derived.Test.YthmkgnifcbnkpaaGreatRg3
import Derived.Test.YthmkgnifcbnkpaaGreatRfL
import Derived.Deep.CutRange
namespace Go.Proofs.YthmkgnifcbnkpaaGreat
open Go.RowKit

theorem joinF (N : List Txt) (E : List Ed) (N' : List Txt) (E' : List Ed) : FitG (joinN N E N' E') (joinE N E N' E') := by
  unfold joinN joinE
  by_cases h : joinI N E N' E' = 0
  · rw [if_pos h, if_pos h]
    have h0 : ofI (N ++ N') (E ++ E') = 0 := by
      unfold joinI at h
      split at h
      · rename_i h1; exact (h1 h).elim
      split at h
      · rename_i h1; exact (h1 h).elim
      · exact h
    have hc := caps_le (ofI_caps h0)
    exact fit_made (M := gN (N ++ N') (E ++ E')) (F := gE (E ++ E')) (Short.of (ofI_named h0)) rfl rfl (by omega) (by omega)
  · rw [if_neg h, if_neg h]
    exact ⟨by simp, by simp, by simp, by simp⟩
theorem OwnG.upd {w w' : World} {A B : Option Addr} {c d : Nat} {N : List Txt} {E : List Ed} {g : Nat} (h : OwnG w A c B d N E) (hu : Upd (fun q => q = g) w w') (hA : ∀ b o s, A = some ⟨b, o, s⟩ → b ≠ g) (hB : ∀ b o s, B = some ⟨b, o, s⟩ → b ≠ g) : OwnG w' A c B d N E := ⟨h.n.upd hu hA, h.e.upd hu hB, h.hc, h.hd⟩
theorem ownN_blk {w : World} {b o : Nat} {s : Option Nat} {B : Option Addr} {c d : Nat} {N : List Txt} {E : List Ed} (h : OwnG w (some ⟨b, o, s⟩) c B d N E) : b < w.heap.size := by
  obtain ⟨b', o', e, x⟩ := h.n.txt (k := N.length) (s := mkT) (by rw [List.getElem?_append_right (Nat.le_refl _), Nat.sub_self]; rfl)
  injection e with e
  injection e with e1 e2 e3
  subst e1
  exact World.block_lt_of_cell? _ _ x
theorem ownE_blk {w : World} {b o : Nat} {s : Option Nat} {A : Option Addr} {c d : Nat} {N : List Txt} {E : List Ed} (h : OwnG w A c (some ⟨b, o, s⟩) d N E) : b < w.heap.size := by
  obtain ⟨b', o', e, x, -⟩ := h.e.ed (k := E.length) (x := mkE) (by rw [List.getElem?_append_right (Nat.le_refl _), Nat.sub_self]; rfl)
  injection e with e
  injection e with e1 e2 e3
  subst e1
  exact World.block_lt_of_cell? _ _ x
theorem two_set (W : World) (g _g' n m : Nat) (A : Option Addr) (c : Nat) (B : Option Addr) (d : Nat) (k : Blk W g 25 #[.slice none 0 0, .slice none 0 0]) : Blk ((W.setCell ⟨g, 0, none⟩ (.slice A n c)).setCell ⟨g, 1, none⟩ (.slice B m d)) g 25 #[.slice A n c, .slice B m d] ∧ Upd (fun q => q = g) W ((W.setCell ⟨g, 0, none⟩ (.slice A n c)).setCell ⟨g, 1, none⟩ (.slice B m d)) :=
  ⟨(k.set 0 _).set 1 _, ((Upd.refl (fun q => q = g) W).setCell (p := ⟨g, 0, none⟩) (.inl rfl) _).setCell (p := ⟨g, 1, none⟩) (.inl rfl) _⟩

set_option maxHeartbeats 8000000 in
set_option maxRecDepth 100000 in
theorem chkl_any (w : World) (A : Option Addr) (c : Nat) (B : Option Addr) (d : Nat) (N : List Txt) (E : List Ed) (A' : Option Addr) (c' : Nat) (B' : Option Addr) (d' : Nat) (N' : List Txt) (E' : List Ed) (h : ForG w A c B d N E) (h' : ForG w A' c' B' d' N' E') :
    Calls Tryz.prog 6 #[twoV A N.length c B E.length d, twoV A' N'.length c' B' E'.length d'] w (Sam w (.bool true)) := by
  have k0 := (Blk.new w 25 #[.slice A N.length c, .slice B E.length d]).alloc (.cells #[.slice A' N'.length c', .slice B' E'.length d'] 25)
  have k1 := Blk.new (w.alloc (.cells #[.slice A N.length c, .slice B E.length d] 25)) 25 #[.slice A' N'.length c', .slice B' E'.length d']
  simp only [World.size_alloc] at k1
  have u0 : Below w.heap.size w ((w.alloc (.cells #[.slice A N.length c, .slice B E.length d] 25)).alloc (.cells #[.slice A' N'.length c', .slice B' E'.length d'] 25)) := by (repeat (first | exact Below.refl _ _ | apply Below.drew | refine Below.alloc ?_ (by first | exact Nat.le_refl _ | (simp; done) | (simp; omega)) _ | refine Below.setCell ?_ (by first | exact Nat.le_refl _ | (simp; done) | (simp; omega)) _))
  have hn16 := h.fit.n
  have hm48 := h.fit.e
  have hn16' := h'.fit.n
  have hm48' := h'.fit.e
  have H := Lib.hid (And.intro (h.below u0) (And.intro (h'.below u0) (And.intro k0 (And.intro k1 u0))))
  clear h h' k0 k1 u0
  obtain ⟨n, en⟩ : ∃ n, N.length = n := ⟨_, rfl⟩
  obtain ⟨m, em⟩ : ∃ m, E.length = m := ⟨_, rfl⟩
  obtain ⟨n', en'⟩ : ∃ n, N'.length = n := ⟨_, rfl⟩
  obtain ⟨m', em'⟩ : ∃ m, E'.length = m := ⟨_, rfl⟩
  rw [en, em, en', em'] at H
  rw [en] at hn16
  rw [em] at hm48
  rw [en'] at hn16'
  rw [em'] at hm48'
  rw [en, em, en', em']
  have HL := Lib.hid (And.intro en (And.intro em (And.intro en' em')))
  clear en em en' em'
  unfold twoV
  go_enter Tryz.func6, Tryz.ntmps6
  go_upto_region 1 with (fail)
  generalize (w.alloc (.cells #[.slice A n c, .slice B m d] 25)).alloc (.cells #[.slice A' n' c', .slice B' m' d'] 25) = W0 at H ⊢
  have UP := Lib.hid (show ∀ W, Below W0.heap.size W0 W → (W.cell? ⟨w.heap.size, 0, none⟩ = some (.slice A n c) ∧ W.cell? ⟨w.heap.size, 1, none⟩ = some (.slice B m d) ∧ W.cell? ⟨w.heap.size + 1, 0, none⟩ = some (.slice A' n' c') ∧ W.cell? ⟨w.heap.size + 1, 1, none⟩ = some (.slice B' m' d')) ∧ ForG W A c B d N E ∧ ForG W A' c' B' d' N' E' ∧ Below w.heap.size w W from fun W hb => by
    have u := Upd.of_below hb (fun _ => False)
    have a := H.out.2.2.1.upd u id
    have b := H.out.2.2.2.1.upd u id
    exact ⟨⟨a.cell 0, a.cell 1, b.cell 0, b.cell 1⟩, H.out.1.below hb, H.out.2.1.below hb, H.out.2.2.2.2.trans (hb.mono H.out.2.2.2.2.size)⟩)
  have hz0 : w.heap.size + 1 < W0.heap.size := H.out.2.2.2.1.lt
  obtain ⟨q0, q1, q2, q3⟩ := (UP.out W0 (Below.refl _ _)).1
  have hw1 : IntKind.i64.wrap ((n : Int) + (m : Int)) = (n : Int) + (m : Int) := IntWalk.i64_in _ (by omega)
  have hw2 : IntKind.i64.wrap ((n : Int) + (m : Int) + (n' : Int)) = (n : Int) + (m : Int) + (n' : Int) := IntWalk.i64_in _ (by omega)
  have hw3 : IntKind.i64.wrap ((n : Int) + (m : Int) + (n' : Int) + (m' : Int)) = (n : Int) + (m : Int) + (n' : Int) + (m' : Int) := IntWalk.i64_in _ (by omega)
  by_cases hbig : 2000 < n + m + n' + m'
  · have hbI : (2000 : Int) < (n : Int) + (m : Int) + (n' : Int) + (m' : Int) := by omega
    go_wp2_with fail
    refine (awake_any W0).mono ?_
    rintro e W9 ⟨rfl, b9⟩
    have FIN := Lib.hid (UP.out _ b9).2.2.2
    clear b9
    go_wp2
    go_ret
    exact ⟨rfl, FIN.out⟩
  have hbI : ¬ ((2000 : Int) < (n : Int) + (m : Int) + (n' : Int) + (m' : Int)) := by omega
  have how1 : ∀ V, Below W0.heap.size W0 V → Calls Tryz.prog 13 #[.agg #[.slice A n c, .slice B m d]] V (fun e w' => ∃ A' c' B' d', e = .returned (.agg #[.slice A' n c', .slice B' m d']) ∧ OwnG w' A' c' B' d' N E ∧ Below V.heap.size V w' ∧ (∀ b o s, A' = some ⟨b, o, s⟩ → V.heap.size ≤ b) ∧ (∀ b o s, B' = some ⟨b, o, s⟩ → V.heap.size ≤ b)) := fun V hb => by
    have := own_any V A c B d N E (UP.out V hb).2.1 (by rw [HL.out.1]; omega) (by rw [HL.out.2.1]; omega)
    unfold twoV at this
    rw [HL.out.1, HL.out.2.1] at this
    exact this
  have how2 : ∀ V, Below W0.heap.size W0 V → Calls Tryz.prog 13 #[.agg #[.slice A' n' c', .slice B' m' d']] V (fun e w' => ∃ A c B d, e = .returned (.agg #[.slice A n' c, .slice B m' d]) ∧ OwnG w' A c B d N' E' ∧ Below V.heap.size V w' ∧ (∀ b o s, A = some ⟨b, o, s⟩ → V.heap.size ≤ b) ∧ (∀ b o s, B = some ⟨b, o, s⟩ → V.heap.size ≤ b)) := fun V hb => by
    have := own_any V A' c' B' d' N' E' (UP.out V hb).2.2.1 (by rw [HL.out.2.2.1]; omega) (by rw [HL.out.2.2.2]; omega)
    unfold twoV at this
    rw [HL.out.2.2.1, HL.out.2.2.2] at this
    exact this
  have HOW := Lib.hid (And.intro how1 how2)
  clear how1 how2
  go_upto_region 3 with (fail)
  clear q0 q1 q2 q3 hw1 hw2 hw3 hbI
  go_cut [5, 6] from 19 (fun s5 s6 wc => ∃ (g5 g6 : Nat) (X1 : Option Addr) (cx1 : Nat) (Y1 : Option Addr) (dy1 : Nat) (X3 : Option Addr) (cx3 : Nat) (Y3 : Option Addr) (dy3 : Nat), s5 = .pointer (some ⟨g5, 0, none⟩) ∧ s6 = .pointer (some ⟨g6, 0, none⟩) ∧ Hid (Below W0.heap.size W0 wc ∧ Blk wc g5 25 #[.slice X1 n cx1, .slice Y1 m dy1] ∧ Blk wc g6 25 #[.slice X3 n' cx3, .slice Y3 m' dy3] ∧ OwnG wc X1 cx1 Y1 dy1 N E ∧ OwnG wc X3 cx3 Y3 dy3 N' E'))
  case first =>
    have HB00 := Lib.hid (show Below W0.heap.size W0 W0.drew from (Below.refl _ _).drew)
    have hS := (UP.out _ HB00.out).1
    refine wp_region_any2 (fun V => V.cell? ⟨w.heap.size, 0, none⟩ = some (.slice A n c) ∧ V.cell? ⟨w.heap.size, 1, none⟩ = some (.slice B m d) ∧ V.cell? ⟨w.heap.size + 1, 0, none⟩ = some (.slice A' n' c') ∧ V.cell? ⟨w.heap.size + 1, 1, none⟩ = some (.slice B' m' d')) (by kernel_rfl) (by kernel_rfl) hS ?_
    refine any_start (fun hd => ?_)
    generalize W0.drew = V0 at HB00 hS ⊢
    (refine any_take (i := 0) (v := ?_) rfl (by kernel_rfl) hd (Nat.le_refl _) (fun _ _ d _ _ h => by cases d <;> exact h) hS (by first | with_reducible rfl | kernel_rfl) ?_ ?_; rotate_left; (focus (intro wS hS; (try dsimp only at hS); go_split_ands; go_simp; (try with_reducible rfl); done)); clear hd; intro hd; (try simp only [Act.put, List.getElem_toArray, List.getElem_cons_zero, List.setIfInBounds_toArray, List.set_cons_zero, List.set_cons_succ]))
    (refine any_take (i := 2) (v := ?_) rfl (by kernel_rfl) hd (Nat.le_refl _) (fun _ _ d _ _ h => by cases d <;> exact h) hS (by first | with_reducible rfl | kernel_rfl) ?_ ?_; rotate_left; (focus (intro wS hS; (try dsimp only at hS); go_split_ands; go_simp; (try with_reducible rfl); done)); clear hd; intro hd; (try simp only [Act.put, List.getElem_toArray, List.getElem_cons_succ, List.getElem_cons_zero, List.setIfInBounds_toArray, List.set_cons_zero, List.set_cons_succ]))
    clear hS
    refine any_run hd (L := [1, 4, 5]) (by kernel_rfl) (by decide) (fun i hi hd2 => ?_)
    clear hd
    have hd := hd2
    clear hd2
    simp only [List.mem_cons, List.not_mem_nil, or_false] at hi
    rcases hi with rfl | rfl | rfl
    · refine any_do rfl rfl (fun K hK => ?_)
      go_simp
      refine (HOW.out.1 V0 (HB00.out)).mono ?_
      rintro e V1 ⟨X1, cx1, Y1, dy1, rfl, g1, b1, ha1, hb1⟩
      have HC1 := Lib.hid (And.intro (show Below W0.heap.size W0 V1 from (HB00.out).trans (b1.mono (HB00.out).size)) (And.intro g1 (And.intro b1 (And.intro ha1 hb1))))
      clear g1 b1 ha1 hb1
      refine hK _ _ (UP.out _ HC1.out.1).1 ?_
      clear hK K
      (try simp only [Act.put, List.getElem_toArray, List.getElem_cons_succ, List.getElem_cons_zero, List.setIfInBounds_toArray, List.set_cons_zero, List.set_cons_succ])
      refine any_run hd (L := [3, 4, 5]) (by kernel_rfl) (by decide) (fun i hi hd2 => ?_)
      clear hd
      have hd := hd2
      clear hd2
      simp only [List.mem_cons, List.not_mem_nil, or_false] at hi
      rcases hi with rfl | rfl | rfl
      · refine any_do rfl rfl (fun K hK => ?_)
        go_simp
        refine (HOW.out.2 V1 (HC1.out.1)).mono ?_
        rintro e V2 ⟨X3, cx3, Y3, dy3, rfl, g3, b2, ha3, hb3⟩
        have HC2 := Lib.hid (And.intro (show Below W0.heap.size W0 V2 from (HC1.out.1).trans (b2.mono (HC1.out.1).size)) (And.intro g3 (And.intro b2 (And.intro ha3 hb3))))
        clear g3 b2 ha3 hb3
        refine hK _ _ (UP.out _ HC2.out.1).1 ?_
        clear hK K
        (try simp only [Act.put, List.getElem_toArray, List.getElem_cons_succ, List.getElem_cons_zero, List.setIfInBounds_toArray, List.set_cons_zero, List.set_cons_succ])
        refine any_run hd (L := [4, 5]) (by kernel_rfl) (by decide) (fun i hi hd2 => ?_)
        clear hd
        have hd := hd2
        clear hd2
        simp only [List.mem_cons, List.not_mem_nil, or_false] at hi
        rcases hi with rfl | rfl
        · refine any_do rfl rfl (fun K hK => ?_)
          go_simp
          have HA3 := Lib.hid (And.intro (show Below W0.heap.size W0 (V2.alloc (.cells #[.slice none 0 0, .slice none 0 0] 25)) from (HC2.out.1).alloc (HC2.out.1).size _) (And.intro (Blk.new V2 25 #[.slice none 0 0, .slice none 0 0]) (show Below V2.heap.size V2 (V2.alloc (.cells #[.slice none 0 0, .slice none 0 0] 25)) from (Below.refl _ _).alloc (Nat.le_refl _) _)))
          refine hK _ _ (UP.out _ HA3.out.1).1 ?_
          clear hK K
          (try simp only [Act.put, List.getElem_toArray, List.getElem_cons_succ, List.getElem_cons_zero, List.setIfInBounds_toArray, List.set_cons_zero, List.set_cons_succ])
          generalize V2.alloc (.cells #[.slice none 0 0, .slice none 0 0] 25) = V3 at HA3 ⊢
          refine any_run hd (L := [5]) (by kernel_rfl) (by decide) (fun i hi hd2 => ?_)
          clear hd
          have hd := hd2
          clear hd2
          obtain rfl := List.mem_singleton.1 hi
          clear hi
          refine any_do rfl rfl (fun K hK => ?_)
          go_simp
          have HA4 := Lib.hid (And.intro (show Below W0.heap.size W0 (V3.alloc (.cells #[.slice none 0 0, .slice none 0 0] 25)) from (HA3.out.1).alloc (HA3.out.1).size _) (And.intro (Blk.new V3 25 #[.slice none 0 0, .slice none 0 0]) (show Below V3.heap.size V3 (V3.alloc (.cells #[.slice none 0 0, .slice none 0 0] 25)) from (Below.refl _ _).alloc (Nat.le_refl _) _)))
          refine hK _ _ (UP.out _ HA4.out.1).1 ?_
          clear hK K
          (try simp only [Act.put, List.getElem_toArray, List.getElem_cons_succ, List.getElem_cons_zero, List.setIfInBounds_toArray, List.set_cons_zero, List.set_cons_succ])
          generalize V3.alloc (.cells #[.slice none 0 0, .slice none 0 0] 25) = V4 at HA4 ⊢
          have k4 := (HA3.out.2.1).upd (Upd.of_below (HA4.out.2.2) (fun _ => False)) id
          have l4 : V2.heap.size < V4.heap.size := Nat.lt_of_lt_of_le (HA3.out.2.1).lt (HA4.out.2.2).size
          have k5 := (HA4.out.2.1).upd (Upd.of_below (Below.refl V4.heap.size V4) (fun _ => False)) id
          have l5 : V3.heap.size < V4.heap.size := Nat.lt_of_lt_of_le (HA4.out.2.1).lt (Below.refl V4.heap.size V4).size
          have g1 := HC1.out.2.1.below (((HC2.out.2.2.1).trans ((HA3.out.2.2).mono (HC2.out.2.2.1).size)).trans ((HA4.out.2.2).mono ((HC2.out.2.2.1).trans ((HA3.out.2.2).mono (HC2.out.2.2.1).size)).size))
          have g3 := HC2.out.2.1.below ((HA3.out.2.2).trans ((HA4.out.2.2).mono (HA3.out.2.2).size))
          have b0 := HA4.out.1
          have hne : V2.heap.size < V3.heap.size := Nat.lt_of_lt_of_le (HA3.out.2.1).lt (Below.refl V3.heap.size V3).size
          have z4 : W0.heap.size ≤ V2.heap.size := (HC2.out.1).size
          have z5 : W0.heap.size ≤ V3.heap.size := (HA3.out.1).size
          have n14A : ∀ b o s, X1 = some ⟨b, o, s⟩ → b ≠ V2.heap.size := fun b o s e => by subst e; have h1 := ownN_blk HC1.out.2.1; have h2 := (HC2.out.2.2.1).size; omega
          have n14B : ∀ b o s, Y1 = some ⟨b, o, s⟩ → b ≠ V2.heap.size := fun b o s e => by subst e; have h1 := ownE_blk HC1.out.2.1; have h2 := (HC2.out.2.2.1).size; omega
          have n15A : ∀ b o s, X1 = some ⟨b, o, s⟩ → b ≠ V3.heap.size := fun b o s e => by subst e; have h1 := ownN_blk HC1.out.2.1; have h2 := ((HC2.out.2.2.1).trans ((HA3.out.2.2).mono (HC2.out.2.2.1).size)).size; omega
          have n15B : ∀ b o s, Y1 = some ⟨b, o, s⟩ → b ≠ V3.heap.size := fun b o s e => by subst e; have h1 := ownE_blk HC1.out.2.1; have h2 := ((HC2.out.2.2.1).trans ((HA3.out.2.2).mono (HC2.out.2.2.1).size)).size; omega
          have n34A : ∀ b o s, X3 = some ⟨b, o, s⟩ → b ≠ V2.heap.size := fun b o s e => by subst e; have h1 := ownN_blk HC2.out.2.1; have h2 := (Below.refl V2.heap.size V2).size; omega
          have n34B : ∀ b o s, Y3 = some ⟨b, o, s⟩ → b ≠ V2.heap.size := fun b o s e => by subst e; have h1 := ownE_blk HC2.out.2.1; have h2 := (Below.refl V2.heap.size V2).size; omega
          have n35A : ∀ b o s, X3 = some ⟨b, o, s⟩ → b ≠ V3.heap.size := fun b o s e => by subst e; have h1 := ownN_blk HC2.out.2.1; have h2 := (HA3.out.2.2).size; omega
          have n35B : ∀ b o s, Y3 = some ⟨b, o, s⟩ → b ≠ V3.heap.size := fun b o s e => by subst e; have h1 := ownE_blk HC2.out.2.1; have h2 := (HA3.out.2.2).size; omega
          obtain ⟨ga, hga⟩ : ∃ g, V2.heap.size = g := ⟨_, rfl⟩
          obtain ⟨gb, hgb⟩ : ∃ g, V3.heap.size = g := ⟨_, rfl⟩
          rw [hga] at k4 l4 hne z4 n14A n14B n34A n34B
          rw [hgb] at k5 l5 hne z5 n15A n15B n35A n35B
          rw [hga, hgb]
          have HQ := Lib.hid (And.intro (And.intro k4 (And.intro k5 (And.intro g1 (And.intro g3 b0)))) (And.intro (And.intro l4 (And.intro l5 (And.intro z4 (And.intro z5 hne)))) (And.intro (And.intro n14A n14B) (And.intro (And.intro n34A n34B) (And.intro (And.intro n15A n15B) (And.intro n35A n35B))))))
          clear k4 k5 g1 g3 b0 l4 l5 z4 z5 hne n14A n14B n34A n34B n15A n15B n35A n35B hga hgb
          refine any_run hd (L := [6]) (by kernel_rfl) (by decide) (fun i hi hd2 => ?_)
          clear hd
          have hd := hd2
          clear hd2
          obtain rfl := List.mem_singleton.1 hi
          clear hi
          have r0 : V4.cell? ⟨ga, 0, none⟩ = some (.slice none 0 0) := HQ.out.1.1.cell 0
          have r1 : V4.cell? ⟨ga, 1, none⟩ = some (.slice none 0 0) := HQ.out.1.1.cell 1
          have f0 := HQ.out.1.1.frozen 0
          have f1 := HQ.out.1.1.frozen 1
          have HR := Lib.hid (two_set V4 ga gb n m X1 cx1 Y1 dy1 HQ.out.1.1)
          have HR2 := Lib.hid (show Below W0.heap.size W0 ((V4.setCell ⟨ga, 0, none⟩ (.slice X1 n cx1)).setCell ⟨ga, 1, none⟩ (.slice Y1 m dy1)) from HQ.out.1.2.2.2.2.trans (HR.out.2.below (fun g _ e => by have := HQ.out.2.1.2.2.1; omega) HQ.out.1.2.2.2.2.size))
          refine any_do rfl rfl (fun K hK => ?_)
          go_simp
          refine hK _ _ (UP.out _ HR2.out).1 ?_
          clear hK K r0 r1 f0 f1
          (try simp only [Act.put, List.getElem_toArray, List.getElem_cons_succ, List.getElem_cons_zero, List.setIfInBounds_toArray, List.set_cons_zero, List.set_cons_succ])
          generalize ((V4.setCell ⟨ga, 0, none⟩ (.slice X1 n cx1)).setCell ⟨ga, 1, none⟩ (.slice Y1 m dy1)) = Va at HR HR2 ⊢
          have HT := Lib.hid (show Blk Va gb 25 #[.slice none 0 0, .slice none 0 0] ∧ OwnG Va X1 cx1 Y1 dy1 N E ∧ OwnG Va X3 cx3 Y3 dy3 N' E' from ⟨HQ.out.1.2.1.upd HR.out.2 (fun e => by have := HQ.out.2.1.2.2.2.2; omega), HQ.out.1.2.2.1.upd HR.out.2 HQ.out.2.2.1.1 HQ.out.2.2.1.2, HQ.out.1.2.2.2.1.upd HR.out.2 HQ.out.2.2.2.1.1 HQ.out.2.2.2.1.2⟩)
          refine any_run hd (L := [7]) (by kernel_rfl) (by decide) (fun i hi hd2 => ?_)
          clear hd
          have hd := hd2
          clear hd2
          obtain rfl := List.mem_singleton.1 hi
          clear hi
          have r0 : Va.cell? ⟨gb, 0, none⟩ = some (.slice none 0 0) := HT.out.1.cell 0
          have r1 : Va.cell? ⟨gb, 1, none⟩ = some (.slice none 0 0) := HT.out.1.cell 1
          have f0 := HT.out.1.frozen 0
          have f1 := HT.out.1.frozen 1
          have HS := Lib.hid (two_set Va gb ga n' m' X3 cx3 Y3 dy3 HT.out.1)
          have HS2 := Lib.hid (show Below W0.heap.size W0 ((Va.setCell ⟨gb, 0, none⟩ (.slice X3 n' cx3)).setCell ⟨gb, 1, none⟩ (.slice Y3 m' dy3)) from HR2.out.trans (HS.out.2.below (fun g _ e => by have := HQ.out.2.1.2.2.2.1; omega) HR2.out.size))
          refine any_do rfl rfl (fun K hK => ?_)
          go_simp
          refine hK _ _ (UP.out _ HS2.out).1 ?_
          clear hK K r0 r1 f0 f1
          (try simp only [Act.put, List.getElem_toArray, List.getElem_cons_succ, List.getElem_cons_zero, List.setIfInBounds_toArray, List.set_cons_zero, List.set_cons_succ])
          generalize ((Va.setCell ⟨gb, 0, none⟩ (.slice X3 n' cx3)).setCell ⟨gb, 1, none⟩ (.slice Y3 m' dy3)) = Vb at HS HS2 ⊢
          refine any_done (by kernel_rfl) ?_
          clear hd
          have FIN := Lib.hid (show Below W0.heap.size W0 Vb ∧ Blk Vb ga 25 #[.slice X1 n cx1, .slice Y1 m dy1] ∧ Blk Vb gb 25 #[.slice X3 n' cx3, .slice Y3 m' dy3] ∧ OwnG Vb X1 cx1 Y1 dy1 N E ∧ OwnG Vb X3 cx3 Y3 dy3 N' E' from ⟨HS2.out, HR.out.1.upd HS.out.2 (fun e => by have := HQ.out.2.1.2.2.2.2; omega), HS.out.1, HT.out.2.1.upd HS.out.2 HQ.out.2.2.2.2.1.1 HQ.out.2.2.2.2.1.2, HT.out.2.2.upd HS.out.2 HQ.out.2.2.2.2.2.1 HQ.out.2.2.2.2.2.2⟩)
          go_wp2
          go_meet
          case rel => exact ⟨ga, gb, X1, cx1, Y1, dy1, X3, cx3, Y3, dy3, rfl, rfl, FIN⟩
        · refine any_do rfl rfl (fun K hK => ?_)
          go_simp
          have HA5 := Lib.hid (And.intro (show Below W0.heap.size W0 (V2.alloc (.cells #[.slice none 0 0, .slice none 0 0] 25)) from (HC2.out.1).alloc (HC2.out.1).size _) (And.intro (Blk.new V2 25 #[.slice none 0 0, .slice none 0 0]) (show Below V2.heap.size V2 (V2.alloc (.cells #[.slice none 0 0, .slice none 0 0] 25)) from (Below.refl _ _).alloc (Nat.le_refl _) _)))
          refine hK _ _ (UP.out _ HA5.out.1).1 ?_
          clear hK K
          (try simp only [Act.put, List.getElem_toArray, List.getElem_cons_succ, List.getElem_cons_zero, List.setIfInBounds_toArray, List.set_cons_zero, List.set_cons_succ])
          generalize V2.alloc (.cells #[.slice none 0 0, .slice none 0 0] 25) = V5 at HA5 ⊢
          refine any_run hd (L := [4]) (by kernel_rfl) (by decide) (fun i hi hd2 => ?_)
          clear hd
          have hd := hd2
          clear hd2
          obtain rfl := List.mem_singleton.1 hi
          clear hi
          refine any_do rfl rfl (fun K hK => ?_)
          go_simp
          have HA6 := Lib.hid (And.intro (show Below W0.heap.size W0 (V5.alloc (.cells #[.slice none 0 0, .slice none 0 0] 25)) from (HA5.out.1).alloc (HA5.out.1).size _) (And.intro (Blk.new V5 25 #[.slice none 0 0, .slice none 0 0]) (show Below V5.heap.size V5 (V5.alloc (.cells #[.slice none 0 0, .slice none 0 0] 25)) from (Below.refl _ _).alloc (Nat.le_refl _) _)))
          refine hK _ _ (UP.out _ HA6.out.1).1 ?_
          clear hK K
          (try simp only [Act.put, List.getElem_toArray, List.getElem_cons_succ, List.getElem_cons_zero, List.setIfInBounds_toArray, List.set_cons_zero, List.set_cons_succ])
          generalize V5.alloc (.cells #[.slice none 0 0, .slice none 0 0] 25) = V6 at HA6 ⊢
          have k4 := (HA6.out.2.1).upd (Upd.of_below (Below.refl V6.heap.size V6) (fun _ => False)) id
          have l4 : V5.heap.size < V6.heap.size := Nat.lt_of_lt_of_le (HA6.out.2.1).lt (Below.refl V6.heap.size V6).size
          have k5 := (HA5.out.2.1).upd (Upd.of_below (HA6.out.2.2) (fun _ => False)) id
          have l5 : V2.heap.size < V6.heap.size := Nat.lt_of_lt_of_le (HA5.out.2.1).lt (HA6.out.2.2).size
          have g1 := HC1.out.2.1.below (((HC2.out.2.2.1).trans ((HA5.out.2.2).mono (HC2.out.2.2.1).size)).trans ((HA6.out.2.2).mono ((HC2.out.2.2.1).trans ((HA5.out.2.2).mono (HC2.out.2.2.1).size)).size))
          have g3 := HC2.out.2.1.below ((HA5.out.2.2).trans ((HA6.out.2.2).mono (HA5.out.2.2).size))
          have b0 := HA6.out.1
          have hne : V2.heap.size < V5.heap.size := Nat.lt_of_lt_of_le (HA5.out.2.1).lt (Below.refl V5.heap.size V5).size
          have z4 : W0.heap.size ≤ V5.heap.size := (HA5.out.1).size
          have z5 : W0.heap.size ≤ V2.heap.size := (HC2.out.1).size
          have n14A : ∀ b o s, X1 = some ⟨b, o, s⟩ → b ≠ V5.heap.size := fun b o s e => by subst e; have h1 := ownN_blk HC1.out.2.1; have h2 := ((HC2.out.2.2.1).trans ((HA5.out.2.2).mono (HC2.out.2.2.1).size)).size; omega
          have n14B : ∀ b o s, Y1 = some ⟨b, o, s⟩ → b ≠ V5.heap.size := fun b o s e => by subst e; have h1 := ownE_blk HC1.out.2.1; have h2 := ((HC2.out.2.2.1).trans ((HA5.out.2.2).mono (HC2.out.2.2.1).size)).size; omega
          have n15A : ∀ b o s, X1 = some ⟨b, o, s⟩ → b ≠ V2.heap.size := fun b o s e => by subst e; have h1 := ownN_blk HC1.out.2.1; have h2 := (HC2.out.2.2.1).size; omega
          have n15B : ∀ b o s, Y1 = some ⟨b, o, s⟩ → b ≠ V2.heap.size := fun b o s e => by subst e; have h1 := ownE_blk HC1.out.2.1; have h2 := (HC2.out.2.2.1).size; omega
          have n34A : ∀ b o s, X3 = some ⟨b, o, s⟩ → b ≠ V5.heap.size := fun b o s e => by subst e; have h1 := ownN_blk HC2.out.2.1; have h2 := (HA5.out.2.2).size; omega
          have n34B : ∀ b o s, Y3 = some ⟨b, o, s⟩ → b ≠ V5.heap.size := fun b o s e => by subst e; have h1 := ownE_blk HC2.out.2.1; have h2 := (HA5.out.2.2).size; omega
          have n35A : ∀ b o s, X3 = some ⟨b, o, s⟩ → b ≠ V2.heap.size := fun b o s e => by subst e; have h1 := ownN_blk HC2.out.2.1; have h2 := (Below.refl V2.heap.size V2).size; omega
          have n35B : ∀ b o s, Y3 = some ⟨b, o, s⟩ → b ≠ V2.heap.size := fun b o s e => by subst e; have h1 := ownE_blk HC2.out.2.1; have h2 := (Below.refl V2.heap.size V2).size; omega
          obtain ⟨ga, hga⟩ : ∃ g, V5.heap.size = g := ⟨_, rfl⟩
          obtain ⟨gb, hgb⟩ : ∃ g, V2.heap.size = g := ⟨_, rfl⟩
          rw [hga] at k4 l4 hne z4 n14A n14B n34A n34B
          rw [hgb] at k5 l5 hne z5 n15A n15B n35A n35B
          rw [hga, hgb]
          have HQ := Lib.hid (And.intro (And.intro k4 (And.intro k5 (And.intro g1 (And.intro g3 b0)))) (And.intro (And.intro l4 (And.intro l5 (And.intro z4 (And.intro z5 hne)))) (And.intro (And.intro n14A n14B) (And.intro (And.intro n34A n34B) (And.intro (And.intro n15A n15B) (And.intro n35A n35B))))))
          clear k4 k5 g1 g3 b0 l4 l5 z4 z5 hne n14A n14B n34A n34B n15A n15B n35A n35B hga hgb
          refine any_run hd (L := [6]) (by kernel_rfl) (by decide) (fun i hi hd2 => ?_)
          clear hd
          have hd := hd2
          clear hd2
          obtain rfl := List.mem_singleton.1 hi
          clear hi
          have r0 : V6.cell? ⟨ga, 0, none⟩ = some (.slice none 0 0) := HQ.out.1.1.cell 0
          have r1 : V6.cell? ⟨ga, 1, none⟩ = some (.slice none 0 0) := HQ.out.1.1.cell 1
          have f0 := HQ.out.1.1.frozen 0
          have f1 := HQ.out.1.1.frozen 1
          have HR := Lib.hid (two_set V6 ga gb n m X1 cx1 Y1 dy1 HQ.out.1.1)
          have HR2 := Lib.hid (show Below W0.heap.size W0 ((V6.setCell ⟨ga, 0, none⟩ (.slice X1 n cx1)).setCell ⟨ga, 1, none⟩ (.slice Y1 m dy1)) from HQ.out.1.2.2.2.2.trans (HR.out.2.below (fun g _ e => by have := HQ.out.2.1.2.2.1; omega) HQ.out.1.2.2.2.2.size))
          refine any_do rfl rfl (fun K hK => ?_)
          go_simp
          refine hK _ _ (UP.out _ HR2.out).1 ?_
          clear hK K r0 r1 f0 f1
          (try simp only [Act.put, List.getElem_toArray, List.getElem_cons_succ, List.getElem_cons_zero, List.setIfInBounds_toArray, List.set_cons_zero, List.set_cons_succ])
          generalize ((V6.setCell ⟨ga, 0, none⟩ (.slice X1 n cx1)).setCell ⟨ga, 1, none⟩ (.slice Y1 m dy1)) = Va at HR HR2 ⊢
          have HT := Lib.hid (show Blk Va gb 25 #[.slice none 0 0, .slice none 0 0] ∧ OwnG Va X1 cx1 Y1 dy1 N E ∧ OwnG Va X3 cx3 Y3 dy3 N' E' from ⟨HQ.out.1.2.1.upd HR.out.2 (fun e => by have := HQ.out.2.1.2.2.2.2; omega), HQ.out.1.2.2.1.upd HR.out.2 HQ.out.2.2.1.1 HQ.out.2.2.1.2, HQ.out.1.2.2.2.1.upd HR.out.2 HQ.out.2.2.2.1.1 HQ.out.2.2.2.1.2⟩)
          refine any_run hd (L := [7]) (by kernel_rfl) (by decide) (fun i hi hd2 => ?_)
          clear hd
          have hd := hd2
          clear hd2
          obtain rfl := List.mem_singleton.1 hi
          clear hi
          have r0 : Va.cell? ⟨gb, 0, none⟩ = some (.slice none 0 0) := HT.out.1.cell 0
          have r1 : Va.cell? ⟨gb, 1, none⟩ = some (.slice none 0 0) := HT.out.1.cell 1
          have f0 := HT.out.1.frozen 0
          have f1 := HT.out.1.frozen 1
          have HS := Lib.hid (two_set Va gb ga n' m' X3 cx3 Y3 dy3 HT.out.1)
          have HS2 := Lib.hid (show Below W0.heap.size W0 ((Va.setCell ⟨gb, 0, none⟩ (.slice X3 n' cx3)).setCell ⟨gb, 1, none⟩ (.slice Y3 m' dy3)) from HR2.out.trans (HS.out.2.below (fun g _ e => by have := HQ.out.2.1.2.2.2.1; omega) HR2.out.size))
          refine any_do rfl rfl (fun K hK => ?_)
          go_simp
          refine hK _ _ (UP.out _ HS2.out).1 ?_
          clear hK K r0 r1 f0 f1
          (try simp only [Act.put, List.getElem_toArray, List.getElem_cons_succ, List.getElem_cons_zero, List.setIfInBounds_toArray, List.set_cons_zero, List.set_cons_succ])
          generalize ((Va.setCell ⟨gb, 0, none⟩ (.slice X3 n' cx3)).setCell ⟨gb, 1, none⟩ (.slice Y3 m' dy3)) = Vb at HS HS2 ⊢
          refine any_done (by kernel_rfl) ?_
          clear hd
          have FIN := Lib.hid (show Below W0.heap.size W0 Vb ∧ Blk Vb ga 25 #[.slice X1 n cx1, .slice Y1 m dy1] ∧ Blk Vb gb 25 #[.slice X3 n' cx3, .slice Y3 m' dy3] ∧ OwnG Vb X1 cx1 Y1 dy1 N E ∧ OwnG Vb X3 cx3 Y3 dy3 N' E' from ⟨HS2.out, HR.out.1.upd HS.out.2 (fun e => by have := HQ.out.2.1.2.2.2.2; omega), HS.out.1, HT.out.2.1.upd HS.out.2 HQ.out.2.2.2.2.1.1 HQ.out.2.2.2.2.1.2, HT.out.2.2.upd HS.out.2 HQ.out.2.2.2.2.2.1 HQ.out.2.2.2.2.2.2⟩)
          go_wp2
          go_meet
          case rel => exact ⟨ga, gb, X1, cx1, Y1, dy1, X3, cx3, Y3, dy3, rfl, rfl, FIN⟩
      · refine any_do rfl rfl (fun K hK => ?_)
        go_simp
        have HA7 := Lib.hid (And.intro (show Below W0.heap.size W0 (V1.alloc (.cells #[.slice none 0 0, .slice none 0 0] 25)) from (HC1.out.1).alloc (HC1.out.1).size _) (And.intro (Blk.new V1 25 #[.slice none 0 0, .slice none 0 0]) (show Below V1.heap.size V1 (V1.alloc (.cells #[.slice none 0 0, .slice none 0 0] 25)) from (Below.refl _ _).alloc (Nat.le_refl _) _)))
        refine hK _ _ (UP.out _ HA7.out.1).1 ?_
        clear hK K
        (try simp only [Act.put, List.getElem_toArray, List.getElem_cons_succ, List.getElem_cons_zero, List.setIfInBounds_toArray, List.set_cons_zero, List.set_cons_succ])
        generalize V1.alloc (.cells #[.slice none 0 0, .slice none 0 0] 25) = V7 at HA7 ⊢
        refine any_run hd (L := [3, 5]) (by kernel_rfl) (by decide) (fun i hi hd2 => ?_)
        clear hd
        have hd := hd2
        clear hd2
        simp only [List.mem_cons, List.not_mem_nil, or_false] at hi
        rcases hi with rfl | rfl
        · refine any_do rfl rfl (fun K hK => ?_)
          go_simp
          refine (HOW.out.2 V7 (HA7.out.1)).mono ?_
          rintro e V8 ⟨X3, cx3, Y3, dy3, rfl, g3, b8, ha3, hb3⟩
          have HC8 := Lib.hid (And.intro (show Below W0.heap.size W0 V8 from (HA7.out.1).trans (b8.mono (HA7.out.1).size)) (And.intro g3 (And.intro b8 (And.intro ha3 hb3))))
          clear g3 b8 ha3 hb3
          refine hK _ _ (UP.out _ HC8.out.1).1 ?_
          clear hK K
          (try simp only [Act.put, List.getElem_toArray, List.getElem_cons_succ, List.getElem_cons_zero, List.setIfInBounds_toArray, List.set_cons_zero, List.set_cons_succ])
          refine any_run hd (L := [5]) (by kernel_rfl) (by decide) (fun i hi hd2 => ?_)
          clear hd
          have hd := hd2
          clear hd2
          obtain rfl := List.mem_singleton.1 hi
          clear hi
          refine any_do rfl rfl (fun K hK => ?_)
          go_simp
          have HA9 := Lib.hid (And.intro (show Below W0.heap.size W0 (V8.alloc (.cells #[.slice none 0 0, .slice none 0 0] 25)) from (HC8.out.1).alloc (HC8.out.1).size _) (And.intro (Blk.new V8 25 #[.slice none 0 0, .slice none 0 0]) (show Below V8.heap.size V8 (V8.alloc (.cells #[.slice none 0 0, .slice none 0 0] 25)) from (Below.refl _ _).alloc (Nat.le_refl _) _)))
          refine hK _ _ (UP.out _ HA9.out.1).1 ?_
          clear hK K
          (try simp only [Act.put, List.getElem_toArray, List.getElem_cons_succ, List.getElem_cons_zero, List.setIfInBounds_toArray, List.set_cons_zero, List.set_cons_succ])
          generalize V8.alloc (.cells #[.slice none 0 0, .slice none 0 0] 25) = V9 at HA9 ⊢
          have k4 := (HA7.out.2.1).upd (Upd.of_below ((HC8.out.2.2.1).trans ((HA9.out.2.2).mono (HC8.out.2.2.1).size)) (fun _ => False)) id
          have l4 : V1.heap.size < V9.heap.size := Nat.lt_of_lt_of_le (HA7.out.2.1).lt ((HC8.out.2.2.1).trans ((HA9.out.2.2).mono (HC8.out.2.2.1).size)).size
          have k5 := (HA9.out.2.1).upd (Upd.of_below (Below.refl V9.heap.size V9) (fun _ => False)) id
          have l5 : V8.heap.size < V9.heap.size := Nat.lt_of_lt_of_le (HA9.out.2.1).lt (Below.refl V9.heap.size V9).size
          have g1 := HC1.out.2.1.below (((HA7.out.2.2).trans ((HC8.out.2.2.1).mono (HA7.out.2.2).size)).trans ((HA9.out.2.2).mono ((HA7.out.2.2).trans ((HC8.out.2.2.1).mono (HA7.out.2.2).size)).size))
          have g3 := HC8.out.2.1.below (HA9.out.2.2)
          have b0 := HA9.out.1
          have hne : V1.heap.size < V8.heap.size := Nat.lt_of_lt_of_le (HA7.out.2.1).lt (HC8.out.2.2.1).size
          have z4 : W0.heap.size ≤ V1.heap.size := (HC1.out.1).size
          have z5 : W0.heap.size ≤ V8.heap.size := (HC8.out.1).size
          have n14A : ∀ b o s, X1 = some ⟨b, o, s⟩ → b ≠ V1.heap.size := fun b o s e => by subst e; have h1 := ownN_blk HC1.out.2.1; have h2 := (Below.refl V1.heap.size V1).size; omega
          have n14B : ∀ b o s, Y1 = some ⟨b, o, s⟩ → b ≠ V1.heap.size := fun b o s e => by subst e; have h1 := ownE_blk HC1.out.2.1; have h2 := (Below.refl V1.heap.size V1).size; omega
          have n15A : ∀ b o s, X1 = some ⟨b, o, s⟩ → b ≠ V8.heap.size := fun b o s e => by subst e; have h1 := ownN_blk HC1.out.2.1; have h2 := ((HA7.out.2.2).trans ((HC8.out.2.2.1).mono (HA7.out.2.2).size)).size; omega
          have n15B : ∀ b o s, Y1 = some ⟨b, o, s⟩ → b ≠ V8.heap.size := fun b o s e => by subst e; have h1 := ownE_blk HC1.out.2.1; have h2 := ((HA7.out.2.2).trans ((HC8.out.2.2.1).mono (HA7.out.2.2).size)).size; omega
          have n34A : ∀ b o s, X3 = some ⟨b, o, s⟩ → b ≠ V1.heap.size := fun b o s e => by have h1 := HC8.out.2.2.2.1 b o s e; have h2 := Nat.lt_of_lt_of_le (HA7.out.2.1).lt (Below.refl V7.heap.size V7).size; omega
          have n34B : ∀ b o s, Y3 = some ⟨b, o, s⟩ → b ≠ V1.heap.size := fun b o s e => by have h1 := HC8.out.2.2.2.2 b o s e; have h2 := Nat.lt_of_lt_of_le (HA7.out.2.1).lt (Below.refl V7.heap.size V7).size; omega
          have n35A : ∀ b o s, X3 = some ⟨b, o, s⟩ → b ≠ V8.heap.size := fun b o s e => by subst e; have h1 := ownN_blk HC8.out.2.1; have h2 := (Below.refl V8.heap.size V8).size; omega
          have n35B : ∀ b o s, Y3 = some ⟨b, o, s⟩ → b ≠ V8.heap.size := fun b o s e => by subst e; have h1 := ownE_blk HC8.out.2.1; have h2 := (Below.refl V8.heap.size V8).size; omega
          obtain ⟨ga, hga⟩ : ∃ g, V1.heap.size = g := ⟨_, rfl⟩
          obtain ⟨gb, hgb⟩ : ∃ g, V8.heap.size = g := ⟨_, rfl⟩
          rw [hga] at k4 l4 hne z4 n14A n14B n34A n34B
          rw [hgb] at k5 l5 hne z5 n15A n15B n35A n35B
          rw [hga, hgb]
          have HQ := Lib.hid (And.intro (And.intro k4 (And.intro k5 (And.intro g1 (And.intro g3 b0)))) (And.intro (And.intro l4 (And.intro l5 (And.intro z4 (And.intro z5 hne)))) (And.intro (And.intro n14A n14B) (And.intro (And.intro n34A n34B) (And.intro (And.intro n15A n15B) (And.intro n35A n35B))))))
          clear k4 k5 g1 g3 b0 l4 l5 z4 z5 hne n14A n14B n34A n34B n15A n15B n35A n35B hga hgb
          refine any_run hd (L := [6]) (by kernel_rfl) (by decide) (fun i hi hd2 => ?_)
          clear hd
          have hd := hd2
          clear hd2
          obtain rfl := List.mem_singleton.1 hi
          clear hi
          have r0 : V9.cell? ⟨ga, 0, none⟩ = some (.slice none 0 0) := HQ.out.1.1.cell 0
          have r1 : V9.cell? ⟨ga, 1, none⟩ = some (.slice none 0 0) := HQ.out.1.1.cell 1
          have f0 := HQ.out.1.1.frozen 0
          have f1 := HQ.out.1.1.frozen 1
          have HR := Lib.hid (two_set V9 ga gb n m X1 cx1 Y1 dy1 HQ.out.1.1)
          have HR2 := Lib.hid (show Below W0.heap.size W0 ((V9.setCell ⟨ga, 0, none⟩ (.slice X1 n cx1)).setCell ⟨ga, 1, none⟩ (.slice Y1 m dy1)) from HQ.out.1.2.2.2.2.trans (HR.out.2.below (fun g _ e => by have := HQ.out.2.1.2.2.1; omega) HQ.out.1.2.2.2.2.size))
          refine any_do rfl rfl (fun K hK => ?_)
          go_simp
          refine hK _ _ (UP.out _ HR2.out).1 ?_
          clear hK K r0 r1 f0 f1
          (try simp only [Act.put, List.getElem_toArray, List.getElem_cons_succ, List.getElem_cons_zero, List.setIfInBounds_toArray, List.set_cons_zero, List.set_cons_succ])
          generalize ((V9.setCell ⟨ga, 0, none⟩ (.slice X1 n cx1)).setCell ⟨ga, 1, none⟩ (.slice Y1 m dy1)) = Va at HR HR2 ⊢
          have HT := Lib.hid (show Blk Va gb 25 #[.slice none 0 0, .slice none 0 0] ∧ OwnG Va X1 cx1 Y1 dy1 N E ∧ OwnG Va X3 cx3 Y3 dy3 N' E' from ⟨HQ.out.1.2.1.upd HR.out.2 (fun e => by have := HQ.out.2.1.2.2.2.2; omega), HQ.out.1.2.2.1.upd HR.out.2 HQ.out.2.2.1.1 HQ.out.2.2.1.2, HQ.out.1.2.2.2.1.upd HR.out.2 HQ.out.2.2.2.1.1 HQ.out.2.2.2.1.2⟩)
          refine any_run hd (L := [7]) (by kernel_rfl) (by decide) (fun i hi hd2 => ?_)
          clear hd
          have hd := hd2
          clear hd2
          obtain rfl := List.mem_singleton.1 hi
          clear hi
          have r0 : Va.cell? ⟨gb, 0, none⟩ = some (.slice none 0 0) := HT.out.1.cell 0
          have r1 : Va.cell? ⟨gb, 1, none⟩ = some (.slice none 0 0) := HT.out.1.cell 1
          have f0 := HT.out.1.frozen 0
          have f1 := HT.out.1.frozen 1
          have HS := Lib.hid (two_set Va gb ga n' m' X3 cx3 Y3 dy3 HT.out.1)
          have HS2 := Lib.hid (show Below W0.heap.size W0 ((Va.setCell ⟨gb, 0, none⟩ (.slice X3 n' cx3)).setCell ⟨gb, 1, none⟩ (.slice Y3 m' dy3)) from HR2.out.trans (HS.out.2.below (fun g _ e => by have := HQ.out.2.1.2.2.2.1; omega) HR2.out.size))
          refine any_do rfl rfl (fun K hK => ?_)
          go_simp
          refine hK _ _ (UP.out _ HS2.out).1 ?_
          clear hK K r0 r1 f0 f1
          (try simp only [Act.put, List.getElem_toArray, List.getElem_cons_succ, List.getElem_cons_zero, List.setIfInBounds_toArray, List.set_cons_zero, List.set_cons_succ])
          generalize ((Va.setCell ⟨gb, 0, none⟩ (.slice X3 n' cx3)).setCell ⟨gb, 1, none⟩ (.slice Y3 m' dy3)) = Vb at HS HS2 ⊢
          refine any_done (by kernel_rfl) ?_
          clear hd
          have FIN := Lib.hid (show Below W0.heap.size W0 Vb ∧ Blk Vb ga 25 #[.slice X1 n cx1, .slice Y1 m dy1] ∧ Blk Vb gb 25 #[.slice X3 n' cx3, .slice Y3 m' dy3] ∧ OwnG Vb X1 cx1 Y1 dy1 N E ∧ OwnG Vb X3 cx3 Y3 dy3 N' E' from ⟨HS2.out, HR.out.1.upd HS.out.2 (fun e => by have := HQ.out.2.1.2.2.2.2; omega), HS.out.1, HT.out.2.1.upd HS.out.2 HQ.out.2.2.2.2.1.1 HQ.out.2.2.2.2.1.2, HT.out.2.2.upd HS.out.2 HQ.out.2.2.2.2.2.1 HQ.out.2.2.2.2.2.2⟩)
          go_wp2
          go_meet
          case rel => exact ⟨ga, gb, X1, cx1, Y1, dy1, X3, cx3, Y3, dy3, rfl, rfl, FIN⟩
        · refine any_do rfl rfl (fun K hK => ?_)
          go_simp
          have HA10 := Lib.hid (And.intro (show Below W0.heap.size W0 (V7.alloc (.cells #[.slice none 0 0, .slice none 0 0] 25)) from (HA7.out.1).alloc (HA7.out.1).size _) (And.intro (Blk.new V7 25 #[.slice none 0 0, .slice none 0 0]) (show Below V7.heap.size V7 (V7.alloc (.cells #[.slice none 0 0, .slice none 0 0] 25)) from (Below.refl _ _).alloc (Nat.le_refl _) _)))
          refine hK _ _ (UP.out _ HA10.out.1).1 ?_
          clear hK K
          (try simp only [Act.put, List.getElem_toArray, List.getElem_cons_succ, List.getElem_cons_zero, List.setIfInBounds_toArray, List.set_cons_zero, List.set_cons_succ])
          generalize V7.alloc (.cells #[.slice none 0 0, .slice none 0 0] 25) = V10 at HA10 ⊢
          refine any_run hd (L := [3]) (by kernel_rfl) (by decide) (fun i hi hd2 => ?_)
          clear hd
          have hd := hd2
          clear hd2
          obtain rfl := List.mem_singleton.1 hi
          clear hi
          refine any_do rfl rfl (fun K hK => ?_)
          go_simp
          refine (HOW.out.2 V10 (HA10.out.1)).mono ?_
          rintro e V11 ⟨X3, cx3, Y3, dy3, rfl, g3, b11, ha3, hb3⟩
          have HC11 := Lib.hid (And.intro (show Below W0.heap.size W0 V11 from (HA10.out.1).trans (b11.mono (HA10.out.1).size)) (And.intro g3 (And.intro b11 (And.intro ha3 hb3))))
          clear g3 b11 ha3 hb3
          refine hK _ _ (UP.out _ HC11.out.1).1 ?_
          clear hK K
          (try simp only [Act.put, List.getElem_toArray, List.getElem_cons_succ, List.getElem_cons_zero, List.setIfInBounds_toArray, List.set_cons_zero, List.set_cons_succ])
          have k4 := (HA7.out.2.1).upd (Upd.of_below ((HA10.out.2.2).trans ((HC11.out.2.2.1).mono (HA10.out.2.2).size)) (fun _ => False)) id
          have l4 : V1.heap.size < V11.heap.size := Nat.lt_of_lt_of_le (HA7.out.2.1).lt ((HA10.out.2.2).trans ((HC11.out.2.2.1).mono (HA10.out.2.2).size)).size
          have k5 := (HA10.out.2.1).upd (Upd.of_below (HC11.out.2.2.1) (fun _ => False)) id
          have l5 : V7.heap.size < V11.heap.size := Nat.lt_of_lt_of_le (HA10.out.2.1).lt (HC11.out.2.2.1).size
          have g1 := HC1.out.2.1.below (((HA7.out.2.2).trans ((HA10.out.2.2).mono (HA7.out.2.2).size)).trans ((HC11.out.2.2.1).mono ((HA7.out.2.2).trans ((HA10.out.2.2).mono (HA7.out.2.2).size)).size))
          have g3 := HC11.out.2.1.below (Below.refl V11.heap.size V11)
          have b0 := HC11.out.1
          have hne : V1.heap.size < V7.heap.size := Nat.lt_of_lt_of_le (HA7.out.2.1).lt (Below.refl V7.heap.size V7).size
          have z4 : W0.heap.size ≤ V1.heap.size := (HC1.out.1).size
          have z5 : W0.heap.size ≤ V7.heap.size := (HA7.out.1).size
          have n14A : ∀ b o s, X1 = some ⟨b, o, s⟩ → b ≠ V1.heap.size := fun b o s e => by subst e; have h1 := ownN_blk HC1.out.2.1; have h2 := (Below.refl V1.heap.size V1).size; omega
          have n14B : ∀ b o s, Y1 = some ⟨b, o, s⟩ → b ≠ V1.heap.size := fun b o s e => by subst e; have h1 := ownE_blk HC1.out.2.1; have h2 := (Below.refl V1.heap.size V1).size; omega
          have n15A : ∀ b o s, X1 = some ⟨b, o, s⟩ → b ≠ V7.heap.size := fun b o s e => by subst e; have h1 := ownN_blk HC1.out.2.1; have h2 := (HA7.out.2.2).size; omega
          have n15B : ∀ b o s, Y1 = some ⟨b, o, s⟩ → b ≠ V7.heap.size := fun b o s e => by subst e; have h1 := ownE_blk HC1.out.2.1; have h2 := (HA7.out.2.2).size; omega
          have n34A : ∀ b o s, X3 = some ⟨b, o, s⟩ → b ≠ V1.heap.size := fun b o s e => by have h1 := HC11.out.2.2.2.1 b o s e; have h2 := Nat.lt_of_lt_of_le (HA7.out.2.1).lt (HA10.out.2.2).size; omega
          have n34B : ∀ b o s, Y3 = some ⟨b, o, s⟩ → b ≠ V1.heap.size := fun b o s e => by have h1 := HC11.out.2.2.2.2 b o s e; have h2 := Nat.lt_of_lt_of_le (HA7.out.2.1).lt (HA10.out.2.2).size; omega
          have n35A : ∀ b o s, X3 = some ⟨b, o, s⟩ → b ≠ V7.heap.size := fun b o s e => by have h1 := HC11.out.2.2.2.1 b o s e; have h2 := Nat.lt_of_lt_of_le (HA10.out.2.1).lt (Below.refl V10.heap.size V10).size; omega
          have n35B : ∀ b o s, Y3 = some ⟨b, o, s⟩ → b ≠ V7.heap.size := fun b o s e => by have h1 := HC11.out.2.2.2.2 b o s e; have h2 := Nat.lt_of_lt_of_le (HA10.out.2.1).lt (Below.refl V10.heap.size V10).size; omega
          obtain ⟨ga, hga⟩ : ∃ g, V1.heap.size = g := ⟨_, rfl⟩
          obtain ⟨gb, hgb⟩ : ∃ g, V7.heap.size = g := ⟨_, rfl⟩
          rw [hga] at k4 l4 hne z4 n14A n14B n34A n34B
          rw [hgb] at k5 l5 hne z5 n15A n15B n35A n35B
          rw [hga, hgb]
          have HQ := Lib.hid (And.intro (And.intro k4 (And.intro k5 (And.intro g1 (And.intro g3 b0)))) (And.intro (And.intro l4 (And.intro l5 (And.intro z4 (And.intro z5 hne)))) (And.intro (And.intro n14A n14B) (And.intro (And.intro n34A n34B) (And.intro (And.intro n15A n15B) (And.intro n35A n35B))))))
          clear k4 k5 g1 g3 b0 l4 l5 z4 z5 hne n14A n14B n34A n34B n15A n15B n35A n35B hga hgb
          refine any_run hd (L := [6]) (by kernel_rfl) (by decide) (fun i hi hd2 => ?_)
          clear hd
          have hd := hd2
          clear hd2
          obtain rfl := List.mem_singleton.1 hi
          clear hi
          have r0 : V11.cell? ⟨ga, 0, none⟩ = some (.slice none 0 0) := HQ.out.1.1.cell 0
          have r1 : V11.cell? ⟨ga, 1, none⟩ = some (.slice none 0 0) := HQ.out.1.1.cell 1
          have f0 := HQ.out.1.1.frozen 0
          have f1 := HQ.out.1.1.frozen 1
          have HR := Lib.hid (two_set V11 ga gb n m X1 cx1 Y1 dy1 HQ.out.1.1)
          have HR2 := Lib.hid (show Below W0.heap.size W0 ((V11.setCell ⟨ga, 0, none⟩ (.slice X1 n cx1)).setCell ⟨ga, 1, none⟩ (.slice Y1 m dy1)) from HQ.out.1.2.2.2.2.trans (HR.out.2.below (fun g _ e => by have := HQ.out.2.1.2.2.1; omega) HQ.out.1.2.2.2.2.size))
          refine any_do rfl rfl (fun K hK => ?_)
          go_simp
          refine hK _ _ (UP.out _ HR2.out).1 ?_
          clear hK K r0 r1 f0 f1
          (try simp only [Act.put, List.getElem_toArray, List.getElem_cons_succ, List.getElem_cons_zero, List.setIfInBounds_toArray, List.set_cons_zero, List.set_cons_succ])
          generalize ((V11.setCell ⟨ga, 0, none⟩ (.slice X1 n cx1)).setCell ⟨ga, 1, none⟩ (.slice Y1 m dy1)) = Va at HR HR2 ⊢
          have HT := Lib.hid (show Blk Va gb 25 #[.slice none 0 0, .slice none 0 0] ∧ OwnG Va X1 cx1 Y1 dy1 N E ∧ OwnG Va X3 cx3 Y3 dy3 N' E' from ⟨HQ.out.1.2.1.upd HR.out.2 (fun e => by have := HQ.out.2.1.2.2.2.2; omega), HQ.out.1.2.2.1.upd HR.out.2 HQ.out.2.2.1.1 HQ.out.2.2.1.2, HQ.out.1.2.2.2.1.upd HR.out.2 HQ.out.2.2.2.1.1 HQ.out.2.2.2.1.2⟩)
          refine any_run hd (L := [7]) (by kernel_rfl) (by decide) (fun i hi hd2 => ?_)
          clear hd
          have hd := hd2
          clear hd2
          obtain rfl := List.mem_singleton.1 hi
          clear hi
          have r0 : Va.cell? ⟨gb, 0, none⟩ = some (.slice none 0 0) := HT.out.1.cell 0
          have r1 : Va.cell? ⟨gb, 1, none⟩ = some (.slice none 0 0) := HT.out.1.cell 1
          have f0 := HT.out.1.frozen 0
          have f1 := HT.out.1.frozen 1
          have HS := Lib.hid (two_set Va gb ga n' m' X3 cx3 Y3 dy3 HT.out.1)
          have HS2 := Lib.hid (show Below W0.heap.size W0 ((Va.setCell ⟨gb, 0, none⟩ (.slice X3 n' cx3)).setCell ⟨gb, 1, none⟩ (.slice Y3 m' dy3)) from HR2.out.trans (HS.out.2.below (fun g _ e => by have := HQ.out.2.1.2.2.2.1; omega) HR2.out.size))
          refine any_do rfl rfl (fun K hK => ?_)
          go_simp
          refine hK _ _ (UP.out _ HS2.out).1 ?_
          clear hK K r0 r1 f0 f1
          (try simp only [Act.put, List.getElem_toArray, List.getElem_cons_succ, List.getElem_cons_zero, List.setIfInBounds_toArray, List.set_cons_zero, List.set_cons_succ])
          generalize ((Va.setCell ⟨gb, 0, none⟩ (.slice X3 n' cx3)).setCell ⟨gb, 1, none⟩ (.slice Y3 m' dy3)) = Vb at HS HS2 ⊢
          refine any_done (by kernel_rfl) ?_
          clear hd
          have FIN := Lib.hid (show Below W0.heap.size W0 Vb ∧ Blk Vb ga 25 #[.slice X1 n cx1, .slice Y1 m dy1] ∧ Blk Vb gb 25 #[.slice X3 n' cx3, .slice Y3 m' dy3] ∧ OwnG Vb X1 cx1 Y1 dy1 N E ∧ OwnG Vb X3 cx3 Y3 dy3 N' E' from ⟨HS2.out, HR.out.1.upd HS.out.2 (fun e => by have := HQ.out.2.1.2.2.2.2; omega), HS.out.1, HT.out.2.1.upd HS.out.2 HQ.out.2.2.2.2.1.1 HQ.out.2.2.2.2.1.2, HT.out.2.2.upd HS.out.2 HQ.out.2.2.2.2.2.1 HQ.out.2.2.2.2.2.2⟩)
          go_wp2
          go_meet
          case rel => exact ⟨ga, gb, X1, cx1, Y1, dy1, X3, cx3, Y3, dy3, rfl, rfl, FIN⟩
      · refine any_do rfl rfl (fun K hK => ?_)
        go_simp
        have HA12 := Lib.hid (And.intro (show Below W0.heap.size W0 (V1.alloc (.cells #[.slice none 0 0, .slice none 0 0] 25)) from (HC1.out.1).alloc (HC1.out.1).size _) (And.intro (Blk.new V1 25 #[.slice none 0 0, .slice none 0 0]) (show Below V1.heap.size V1 (V1.alloc (.cells #[.slice none 0 0, .slice none 0 0] 25)) from (Below.refl _ _).alloc (Nat.le_refl _) _)))
        refine hK _ _ (UP.out _ HA12.out.1).1 ?_
        clear hK K
        (try simp only [Act.put, List.getElem_toArray, List.getElem_cons_succ, List.getElem_cons_zero, List.setIfInBounds_toArray, List.set_cons_zero, List.set_cons_succ])
        generalize V1.alloc (.cells #[.slice none 0 0, .slice none 0 0] 25) = V12 at HA12 ⊢
        refine any_run hd (L := [3, 4]) (by kernel_rfl) (by decide) (fun i hi hd2 => ?_)
        clear hd
        have hd := hd2
        clear hd2
        simp only [List.mem_cons, List.not_mem_nil, or_false] at hi
        rcases hi with rfl | rfl
        · refine any_do rfl rfl (fun K hK => ?_)
          go_simp
          refine (HOW.out.2 V12 (HA12.out.1)).mono ?_
          rintro e V13 ⟨X3, cx3, Y3, dy3, rfl, g3, b13, ha3, hb3⟩
          have HC13 := Lib.hid (And.intro (show Below W0.heap.size W0 V13 from (HA12.out.1).trans (b13.mono (HA12.out.1).size)) (And.intro g3 (And.intro b13 (And.intro ha3 hb3))))
          clear g3 b13 ha3 hb3
          refine hK _ _ (UP.out _ HC13.out.1).1 ?_
          clear hK K
          (try simp only [Act.put, List.getElem_toArray, List.getElem_cons_succ, List.getElem_cons_zero, List.setIfInBounds_toArray, List.set_cons_zero, List.set_cons_succ])
          refine any_run hd (L := [4]) (by kernel_rfl) (by decide) (fun i hi hd2 => ?_)
          clear hd
          have hd := hd2
          clear hd2
          obtain rfl := List.mem_singleton.1 hi
          clear hi
          refine any_do rfl rfl (fun K hK => ?_)
          go_simp
          have HA14 := Lib.hid (And.intro (show Below W0.heap.size W0 (V13.alloc (.cells #[.slice none 0 0, .slice none 0 0] 25)) from (HC13.out.1).alloc (HC13.out.1).size _) (And.intro (Blk.new V13 25 #[.slice none 0 0, .slice none 0 0]) (show Below V13.heap.size V13 (V13.alloc (.cells #[.slice none 0 0, .slice none 0 0] 25)) from (Below.refl _ _).alloc (Nat.le_refl _) _)))
          refine hK _ _ (UP.out _ HA14.out.1).1 ?_
          clear hK K
          (try simp only [Act.put, List.getElem_toArray, List.getElem_cons_succ, List.getElem_cons_zero, List.setIfInBounds_toArray, List.set_cons_zero, List.set_cons_succ])
          generalize V13.alloc (.cells #[.slice none 0 0, .slice none 0 0] 25) = V14 at HA14 ⊢
          have k4 := (HA14.out.2.1).upd (Upd.of_below (Below.refl V14.heap.size V14) (fun _ => False)) id
          have l4 : V13.heap.size < V14.heap.size := Nat.lt_of_lt_of_le (HA14.out.2.1).lt (Below.refl V14.heap.size V14).size
          have k5 := (HA12.out.2.1).upd (Upd.of_below ((HC13.out.2.2.1).trans ((HA14.out.2.2).mono (HC13.out.2.2.1).size)) (fun _ => False)) id
          have l5 : V1.heap.size < V14.heap.size := Nat.lt_of_lt_of_le (HA12.out.2.1).lt ((HC13.out.2.2.1).trans ((HA14.out.2.2).mono (HC13.out.2.2.1).size)).size
          have g1 := HC1.out.2.1.below (((HA12.out.2.2).trans ((HC13.out.2.2.1).mono (HA12.out.2.2).size)).trans ((HA14.out.2.2).mono ((HA12.out.2.2).trans ((HC13.out.2.2.1).mono (HA12.out.2.2).size)).size))
          have g3 := HC13.out.2.1.below (HA14.out.2.2)
          have b0 := HA14.out.1
          have hne : V1.heap.size < V13.heap.size := Nat.lt_of_lt_of_le (HA12.out.2.1).lt (HC13.out.2.2.1).size
          have z4 : W0.heap.size ≤ V13.heap.size := (HC13.out.1).size
          have z5 : W0.heap.size ≤ V1.heap.size := (HC1.out.1).size
          have n14A : ∀ b o s, X1 = some ⟨b, o, s⟩ → b ≠ V13.heap.size := fun b o s e => by subst e; have h1 := ownN_blk HC1.out.2.1; have h2 := ((HA12.out.2.2).trans ((HC13.out.2.2.1).mono (HA12.out.2.2).size)).size; omega
          have n14B : ∀ b o s, Y1 = some ⟨b, o, s⟩ → b ≠ V13.heap.size := fun b o s e => by subst e; have h1 := ownE_blk HC1.out.2.1; have h2 := ((HA12.out.2.2).trans ((HC13.out.2.2.1).mono (HA12.out.2.2).size)).size; omega
          have n15A : ∀ b o s, X1 = some ⟨b, o, s⟩ → b ≠ V1.heap.size := fun b o s e => by subst e; have h1 := ownN_blk HC1.out.2.1; have h2 := (Below.refl V1.heap.size V1).size; omega
          have n15B : ∀ b o s, Y1 = some ⟨b, o, s⟩ → b ≠ V1.heap.size := fun b o s e => by subst e; have h1 := ownE_blk HC1.out.2.1; have h2 := (Below.refl V1.heap.size V1).size; omega
          have n34A : ∀ b o s, X3 = some ⟨b, o, s⟩ → b ≠ V13.heap.size := fun b o s e => by subst e; have h1 := ownN_blk HC13.out.2.1; have h2 := (Below.refl V13.heap.size V13).size; omega
          have n34B : ∀ b o s, Y3 = some ⟨b, o, s⟩ → b ≠ V13.heap.size := fun b o s e => by subst e; have h1 := ownE_blk HC13.out.2.1; have h2 := (Below.refl V13.heap.size V13).size; omega
          have n35A : ∀ b o s, X3 = some ⟨b, o, s⟩ → b ≠ V1.heap.size := fun b o s e => by have h1 := HC13.out.2.2.2.1 b o s e; have h2 := Nat.lt_of_lt_of_le (HA12.out.2.1).lt (Below.refl V12.heap.size V12).size; omega
          have n35B : ∀ b o s, Y3 = some ⟨b, o, s⟩ → b ≠ V1.heap.size := fun b o s e => by have h1 := HC13.out.2.2.2.2 b o s e; have h2 := Nat.lt_of_lt_of_le (HA12.out.2.1).lt (Below.refl V12.heap.size V12).size; omega
          obtain ⟨ga, hga⟩ : ∃ g, V13.heap.size = g := ⟨_, rfl⟩
          obtain ⟨gb, hgb⟩ : ∃ g, V1.heap.size = g := ⟨_, rfl⟩
          rw [hga] at k4 l4 hne z4 n14A n14B n34A n34B
          rw [hgb] at k5 l5 hne z5 n15A n15B n35A n35B
          rw [hga, hgb]
          have HQ := Lib.hid (And.intro (And.intro k4 (And.intro k5 (And.intro g1 (And.intro g3 b0)))) (And.intro (And.intro l4 (And.intro l5 (And.intro z4 (And.intro z5 hne)))) (And.intro (And.intro n14A n14B) (And.intro (And.intro n34A n34B) (And.intro (And.intro n15A n15B) (And.intro n35A n35B))))))
          clear k4 k5 g1 g3 b0 l4 l5 z4 z5 hne n14A n14B n34A n34B n15A n15B n35A n35B hga hgb
          refine any_run hd (L := [6]) (by kernel_rfl) (by decide) (fun i hi hd2 => ?_)
          clear hd
          have hd := hd2
          clear hd2
          obtain rfl := List.mem_singleton.1 hi
          clear hi
          have r0 : V14.cell? ⟨ga, 0, none⟩ = some (.slice none 0 0) := HQ.out.1.1.cell 0
          have r1 : V14.cell? ⟨ga, 1, none⟩ = some (.slice none 0 0) := HQ.out.1.1.cell 1
          have f0 := HQ.out.1.1.frozen 0
          have f1 := HQ.out.1.1.frozen 1
          have HR := Lib.hid (two_set V14 ga gb n m X1 cx1 Y1 dy1 HQ.out.1.1)
          have HR2 := Lib.hid (show Below W0.heap.size W0 ((V14.setCell ⟨ga, 0, none⟩ (.slice X1 n cx1)).setCell ⟨ga, 1, none⟩ (.slice Y1 m dy1)) from HQ.out.1.2.2.2.2.trans (HR.out.2.below (fun g _ e => by have := HQ.out.2.1.2.2.1; omega) HQ.out.1.2.2.2.2.size))
          refine any_do rfl rfl (fun K hK => ?_)
          go_simp
          refine hK _ _ (UP.out _ HR2.out).1 ?_
          clear hK K r0 r1 f0 f1
          (try simp only [Act.put, List.getElem_toArray, List.getElem_cons_succ, List.getElem_cons_zero, List.setIfInBounds_toArray, List.set_cons_zero, List.set_cons_succ])
          generalize ((V14.setCell ⟨ga, 0, none⟩ (.slice X1 n cx1)).setCell ⟨ga, 1, none⟩ (.slice Y1 m dy1)) = Va at HR HR2 ⊢
          have HT := Lib.hid (show Blk Va gb 25 #[.slice none 0 0, .slice none 0 0] ∧ OwnG Va X1 cx1 Y1 dy1 N E ∧ OwnG Va X3 cx3 Y3 dy3 N' E' from ⟨HQ.out.1.2.1.upd HR.out.2 (fun e => by have := HQ.out.2.1.2.2.2.2; omega), HQ.out.1.2.2.1.upd HR.out.2 HQ.out.2.2.1.1 HQ.out.2.2.1.2, HQ.out.1.2.2.2.1.upd HR.out.2 HQ.out.2.2.2.1.1 HQ.out.2.2.2.1.2⟩)
          refine any_run hd (L := [7]) (by kernel_rfl) (by decide) (fun i hi hd2 => ?_)
          clear hd
          have hd := hd2
          clear hd2
          obtain rfl := List.mem_singleton.1 hi
          clear hi
          have r0 : Va.cell? ⟨gb, 0, none⟩ = some (.slice none 0 0) := HT.out.1.cell 0
          have r1 : Va.cell? ⟨gb, 1, none⟩ = some (.slice none 0 0) := HT.out.1.cell 1
          have f0 := HT.out.1.frozen 0
          have f1 := HT.out.1.frozen 1
          have HS := Lib.hid (two_set Va gb ga n' m' X3 cx3 Y3 dy3 HT.out.1)
          have HS2 := Lib.hid (show Below W0.heap.size W0 ((Va.setCell ⟨gb, 0, none⟩ (.slice X3 n' cx3)).setCell ⟨gb, 1, none⟩ (.slice Y3 m' dy3)) from HR2.out.trans (HS.out.2.below (fun g _ e => by have := HQ.out.2.1.2.2.2.1; omega) HR2.out.size))
          refine any_do rfl rfl (fun K hK => ?_)
          go_simp
          refine hK _ _ (UP.out _ HS2.out).1 ?_
          clear hK K r0 r1 f0 f1
          (try simp only [Act.put, List.getElem_toArray, List.getElem_cons_succ, List.getElem_cons_zero, List.setIfInBounds_toArray, List.set_cons_zero, List.set_cons_succ])
          generalize ((Va.setCell ⟨gb, 0, none⟩ (.slice X3 n' cx3)).setCell ⟨gb, 1, none⟩ (.slice Y3 m' dy3)) = Vb at HS HS2 ⊢
          refine any_done (by kernel_rfl) ?_
          clear hd
          have FIN := Lib.hid (show Below W0.heap.size W0 Vb ∧ Blk Vb ga 25 #[.slice X1 n cx1, .slice Y1 m dy1] ∧ Blk Vb gb 25 #[.slice X3 n' cx3, .slice Y3 m' dy3] ∧ OwnG Vb X1 cx1 Y1 dy1 N E ∧ OwnG Vb X3 cx3 Y3 dy3 N' E' from ⟨HS2.out, HR.out.1.upd HS.out.2 (fun e => by have := HQ.out.2.1.2.2.2.2; omega), HS.out.1, HT.out.2.1.upd HS.out.2 HQ.out.2.2.2.2.1.1 HQ.out.2.2.2.2.1.2, HT.out.2.2.upd HS.out.2 HQ.out.2.2.2.2.2.1 HQ.out.2.2.2.2.2.2⟩)
          go_wp2
          go_meet
          case rel => exact ⟨ga, gb, X1, cx1, Y1, dy1, X3, cx3, Y3, dy3, rfl, rfl, FIN⟩
        · refine any_do rfl rfl (fun K hK => ?_)
          go_simp
          have HA15 := Lib.hid (And.intro (show Below W0.heap.size W0 (V12.alloc (.cells #[.slice none 0 0, .slice none 0 0] 25)) from (HA12.out.1).alloc (HA12.out.1).size _) (And.intro (Blk.new V12 25 #[.slice none 0 0, .slice none 0 0]) (show Below V12.heap.size V12 (V12.alloc (.cells #[.slice none 0 0, .slice none 0 0] 25)) from (Below.refl _ _).alloc (Nat.le_refl _) _)))
          refine hK _ _ (UP.out _ HA15.out.1).1 ?_
          clear hK K
          (try simp only [Act.put, List.getElem_toArray, List.getElem_cons_succ, List.getElem_cons_zero, List.setIfInBounds_toArray, List.set_cons_zero, List.set_cons_succ])
          generalize V12.alloc (.cells #[.slice none 0 0, .slice none 0 0] 25) = V15 at HA15 ⊢
          refine any_run hd (L := [3]) (by kernel_rfl) (by decide) (fun i hi hd2 => ?_)
          clear hd
          have hd := hd2
          clear hd2
          obtain rfl := List.mem_singleton.1 hi
          clear hi
          refine any_do rfl rfl (fun K hK => ?_)
          go_simp
          refine (HOW.out.2 V15 (HA15.out.1)).mono ?_
          rintro e V16 ⟨X3, cx3, Y3, dy3, rfl, g3, b16, ha3, hb3⟩
          have HC16 := Lib.hid (And.intro (show Below W0.heap.size W0 V16 from (HA15.out.1).trans (b16.mono (HA15.out.1).size)) (And.intro g3 (And.intro b16 (And.intro ha3 hb3))))
          clear g3 b16 ha3 hb3
          refine hK _ _ (UP.out _ HC16.out.1).1 ?_
          clear hK K
          (try simp only [Act.put, List.getElem_toArray, List.getElem_cons_succ, List.getElem_cons_zero, List.setIfInBounds_toArray, List.set_cons_zero, List.set_cons_succ])
          have k4 := (HA15.out.2.1).upd (Upd.of_below (HC16.out.2.2.1) (fun _ => False)) id
          have l4 : V12.heap.size < V16.heap.size := Nat.lt_of_lt_of_le (HA15.out.2.1).lt (HC16.out.2.2.1).size
          have k5 := (HA12.out.2.1).upd (Upd.of_below ((HA15.out.2.2).trans ((HC16.out.2.2.1).mono (HA15.out.2.2).size)) (fun _ => False)) id
          have l5 : V1.heap.size < V16.heap.size := Nat.lt_of_lt_of_le (HA12.out.2.1).lt ((HA15.out.2.2).trans ((HC16.out.2.2.1).mono (HA15.out.2.2).size)).size
          have g1 := HC1.out.2.1.below (((HA12.out.2.2).trans ((HA15.out.2.2).mono (HA12.out.2.2).size)).trans ((HC16.out.2.2.1).mono ((HA12.out.2.2).trans ((HA15.out.2.2).mono (HA12.out.2.2).size)).size))
          have g3 := HC16.out.2.1.below (Below.refl V16.heap.size V16)
          have b0 := HC16.out.1
          have hne : V1.heap.size < V12.heap.size := Nat.lt_of_lt_of_le (HA12.out.2.1).lt (Below.refl V12.heap.size V12).size
          have z4 : W0.heap.size ≤ V12.heap.size := (HA12.out.1).size
          have z5 : W0.heap.size ≤ V1.heap.size := (HC1.out.1).size
          have n14A : ∀ b o s, X1 = some ⟨b, o, s⟩ → b ≠ V12.heap.size := fun b o s e => by subst e; have h1 := ownN_blk HC1.out.2.1; have h2 := (HA12.out.2.2).size; omega
          have n14B : ∀ b o s, Y1 = some ⟨b, o, s⟩ → b ≠ V12.heap.size := fun b o s e => by subst e; have h1 := ownE_blk HC1.out.2.1; have h2 := (HA12.out.2.2).size; omega
          have n15A : ∀ b o s, X1 = some ⟨b, o, s⟩ → b ≠ V1.heap.size := fun b o s e => by subst e; have h1 := ownN_blk HC1.out.2.1; have h2 := (Below.refl V1.heap.size V1).size; omega
          have n15B : ∀ b o s, Y1 = some ⟨b, o, s⟩ → b ≠ V1.heap.size := fun b o s e => by subst e; have h1 := ownE_blk HC1.out.2.1; have h2 := (Below.refl V1.heap.size V1).size; omega
          have n34A : ∀ b o s, X3 = some ⟨b, o, s⟩ → b ≠ V12.heap.size := fun b o s e => by have h1 := HC16.out.2.2.2.1 b o s e; have h2 := Nat.lt_of_lt_of_le (HA15.out.2.1).lt (Below.refl V15.heap.size V15).size; omega
          have n34B : ∀ b o s, Y3 = some ⟨b, o, s⟩ → b ≠ V12.heap.size := fun b o s e => by have h1 := HC16.out.2.2.2.2 b o s e; have h2 := Nat.lt_of_lt_of_le (HA15.out.2.1).lt (Below.refl V15.heap.size V15).size; omega
          have n35A : ∀ b o s, X3 = some ⟨b, o, s⟩ → b ≠ V1.heap.size := fun b o s e => by have h1 := HC16.out.2.2.2.1 b o s e; have h2 := Nat.lt_of_lt_of_le (HA12.out.2.1).lt (HA15.out.2.2).size; omega
          have n35B : ∀ b o s, Y3 = some ⟨b, o, s⟩ → b ≠ V1.heap.size := fun b o s e => by have h1 := HC16.out.2.2.2.2 b o s e; have h2 := Nat.lt_of_lt_of_le (HA12.out.2.1).lt (HA15.out.2.2).size; omega
          obtain ⟨ga, hga⟩ : ∃ g, V12.heap.size = g := ⟨_, rfl⟩
          obtain ⟨gb, hgb⟩ : ∃ g, V1.heap.size = g := ⟨_, rfl⟩
          rw [hga] at k4 l4 hne z4 n14A n14B n34A n34B
          rw [hgb] at k5 l5 hne z5 n15A n15B n35A n35B
          rw [hga, hgb]
          have HQ := Lib.hid (And.intro (And.intro k4 (And.intro k5 (And.intro g1 (And.intro g3 b0)))) (And.intro (And.intro l4 (And.intro l5 (And.intro z4 (And.intro z5 hne)))) (And.intro (And.intro n14A n14B) (And.intro (And.intro n34A n34B) (And.intro (And.intro n15A n15B) (And.intro n35A n35B))))))
          clear k4 k5 g1 g3 b0 l4 l5 z4 z5 hne n14A n14B n34A n34B n15A n15B n35A n35B hga hgb
          refine any_run hd (L := [6]) (by kernel_rfl) (by decide) (fun i hi hd2 => ?_)
          clear hd
          have hd := hd2
          clear hd2
          obtain rfl := List.mem_singleton.1 hi
          clear hi
          have r0 : V16.cell? ⟨ga, 0, none⟩ = some (.slice none 0 0) := HQ.out.1.1.cell 0
          have r1 : V16.cell? ⟨ga, 1, none⟩ = some (.slice none 0 0) := HQ.out.1.1.cell 1
          have f0 := HQ.out.1.1.frozen 0
          have f1 := HQ.out.1.1.frozen 1
          have HR := Lib.hid (two_set V16 ga gb n m X1 cx1 Y1 dy1 HQ.out.1.1)
          have HR2 := Lib.hid (show Below W0.heap.size W0 ((V16.setCell ⟨ga, 0, none⟩ (.slice X1 n cx1)).setCell ⟨ga, 1, none⟩ (.slice Y1 m dy1)) from HQ.out.1.2.2.2.2.trans (HR.out.2.below (fun g _ e => by have := HQ.out.2.1.2.2.1; omega) HQ.out.1.2.2.2.2.size))
          refine any_do rfl rfl (fun K hK => ?_)
          go_simp
          refine hK _ _ (UP.out _ HR2.out).1 ?_
          clear hK K r0 r1 f0 f1
          (try simp only [Act.put, List.getElem_toArray, List.getElem_cons_succ, List.getElem_cons_zero, List.setIfInBounds_toArray, List.set_cons_zero, List.set_cons_succ])
          generalize ((V16.setCell ⟨ga, 0, none⟩ (.slice X1 n cx1)).setCell ⟨ga, 1, none⟩ (.slice Y1 m dy1)) = Va at HR HR2 ⊢
          have HT := Lib.hid (show Blk Va gb 25 #[.slice none 0 0, .slice none 0 0] ∧ OwnG Va X1 cx1 Y1 dy1 N E ∧ OwnG Va X3 cx3 Y3 dy3 N' E' from ⟨HQ.out.1.2.1.upd HR.out.2 (fun e => by have := HQ.out.2.1.2.2.2.2; omega), HQ.out.1.2.2.1.upd HR.out.2 HQ.out.2.2.1.1 HQ.out.2.2.1.2, HQ.out.1.2.2.2.1.upd HR.out.2 HQ.out.2.2.2.1.1 HQ.out.2.2.2.1.2⟩)
          refine any_run hd (L := [7]) (by kernel_rfl) (by decide) (fun i hi hd2 => ?_)
          clear hd
          have hd := hd2
          clear hd2
          obtain rfl := List.mem_singleton.1 hi
          clear hi
          have r0 : Va.cell? ⟨gb, 0, none⟩ = some (.slice none 0 0) := HT.out.1.cell 0
          have r1 : Va.cell? ⟨gb, 1, none⟩ = some (.slice none 0 0) := HT.out.1.cell 1
          have f0 := HT.out.1.frozen 0
          have f1 := HT.out.1.frozen 1
          have HS := Lib.hid (two_set Va gb ga n' m' X3 cx3 Y3 dy3 HT.out.1)
          have HS2 := Lib.hid (show Below W0.heap.size W0 ((Va.setCell ⟨gb, 0, none⟩ (.slice X3 n' cx3)).setCell ⟨gb, 1, none⟩ (.slice Y3 m' dy3)) from HR2.out.trans (HS.out.2.below (fun g _ e => by have := HQ.out.2.1.2.2.2.1; omega) HR2.out.size))
          refine any_do rfl rfl (fun K hK => ?_)
          go_simp
          refine hK _ _ (UP.out _ HS2.out).1 ?_
          clear hK K r0 r1 f0 f1
          (try simp only [Act.put, List.getElem_toArray, List.getElem_cons_succ, List.getElem_cons_zero, List.setIfInBounds_toArray, List.set_cons_zero, List.set_cons_succ])
          generalize ((Va.setCell ⟨gb, 0, none⟩ (.slice X3 n' cx3)).setCell ⟨gb, 1, none⟩ (.slice Y3 m' dy3)) = Vb at HS HS2 ⊢
          refine any_done (by kernel_rfl) ?_
          clear hd
          have FIN := Lib.hid (show Below W0.heap.size W0 Vb ∧ Blk Vb ga 25 #[.slice X1 n cx1, .slice Y1 m dy1] ∧ Blk Vb gb 25 #[.slice X3 n' cx3, .slice Y3 m' dy3] ∧ OwnG Vb X1 cx1 Y1 dy1 N E ∧ OwnG Vb X3 cx3 Y3 dy3 N' E' from ⟨HS2.out, HR.out.1.upd HS.out.2 (fun e => by have := HQ.out.2.1.2.2.2.2; omega), HS.out.1, HT.out.2.1.upd HS.out.2 HQ.out.2.2.2.2.1.1 HQ.out.2.2.2.2.1.2, HT.out.2.2.upd HS.out.2 HQ.out.2.2.2.2.2.1 HQ.out.2.2.2.2.2.2⟩)
          go_wp2
          go_meet
          case rel => exact ⟨ga, gb, X1, cx1, Y1, dy1, X3, cx3, Y3, dy3, rfl, rfl, FIN⟩
    · refine any_do rfl rfl (fun K hK => ?_)
      go_simp
      have HA17 := Lib.hid (And.intro (show Below W0.heap.size W0 (V0.alloc (.cells #[.slice none 0 0, .slice none 0 0] 25)) from (HB00.out).alloc (HB00.out).size _) (And.intro (Blk.new V0 25 #[.slice none 0 0, .slice none 0 0]) (show Below V0.heap.size V0 (V0.alloc (.cells #[.slice none 0 0, .slice none 0 0] 25)) from (Below.refl _ _).alloc (Nat.le_refl _) _)))
      refine hK _ _ (UP.out _ HA17.out.1).1 ?_
      clear hK K
      (try simp only [Act.put, List.getElem_toArray, List.getElem_cons_succ, List.getElem_cons_zero, List.setIfInBounds_toArray, List.set_cons_zero, List.set_cons_succ])
      generalize V0.alloc (.cells #[.slice none 0 0, .slice none 0 0] 25) = V17 at HA17 ⊢
      refine any_run hd (L := [1, 5]) (by kernel_rfl) (by decide) (fun i hi hd2 => ?_)
      clear hd
      have hd := hd2
      clear hd2
      simp only [List.mem_cons, List.not_mem_nil, or_false] at hi
      rcases hi with rfl | rfl
      · refine any_do rfl rfl (fun K hK => ?_)
        go_simp
        refine (HOW.out.1 V17 (HA17.out.1)).mono ?_
        rintro e V18 ⟨X1, cx1, Y1, dy1, rfl, g1, b18, ha1, hb1⟩
        have HC18 := Lib.hid (And.intro (show Below W0.heap.size W0 V18 from (HA17.out.1).trans (b18.mono (HA17.out.1).size)) (And.intro g1 (And.intro b18 (And.intro ha1 hb1))))
        clear g1 b18 ha1 hb1
        refine hK _ _ (UP.out _ HC18.out.1).1 ?_
        clear hK K
        (try simp only [Act.put, List.getElem_toArray, List.getElem_cons_succ, List.getElem_cons_zero, List.setIfInBounds_toArray, List.set_cons_zero, List.set_cons_succ])
        refine any_run hd (L := [3, 5]) (by kernel_rfl) (by decide) (fun i hi hd2 => ?_)
        clear hd
        have hd := hd2
        clear hd2
        simp only [List.mem_cons, List.not_mem_nil, or_false] at hi
        rcases hi with rfl | rfl
        · refine any_do rfl rfl (fun K hK => ?_)
          go_simp
          refine (HOW.out.2 V18 (HC18.out.1)).mono ?_
          rintro e V19 ⟨X3, cx3, Y3, dy3, rfl, g3, b19, ha3, hb3⟩
          have HC19 := Lib.hid (And.intro (show Below W0.heap.size W0 V19 from (HC18.out.1).trans (b19.mono (HC18.out.1).size)) (And.intro g3 (And.intro b19 (And.intro ha3 hb3))))
          clear g3 b19 ha3 hb3
          refine hK _ _ (UP.out _ HC19.out.1).1 ?_
          clear hK K
          (try simp only [Act.put, List.getElem_toArray, List.getElem_cons_succ, List.getElem_cons_zero, List.setIfInBounds_toArray, List.set_cons_zero, List.set_cons_succ])
          refine any_run hd (L := [5]) (by kernel_rfl) (by decide) (fun i hi hd2 => ?_)
          clear hd
          have hd := hd2
          clear hd2
          obtain rfl := List.mem_singleton.1 hi
          clear hi
          refine any_do rfl rfl (fun K hK => ?_)
          go_simp
          have HA20 := Lib.hid (And.intro (show Below W0.heap.size W0 (V19.alloc (.cells #[.slice none 0 0, .slice none 0 0] 25)) from (HC19.out.1).alloc (HC19.out.1).size _) (And.intro (Blk.new V19 25 #[.slice none 0 0, .slice none 0 0]) (show Below V19.heap.size V19 (V19.alloc (.cells #[.slice none 0 0, .slice none 0 0] 25)) from (Below.refl _ _).alloc (Nat.le_refl _) _)))
          refine hK _ _ (UP.out _ HA20.out.1).1 ?_
          clear hK K
          (try simp only [Act.put, List.getElem_toArray, List.getElem_cons_succ, List.getElem_cons_zero, List.setIfInBounds_toArray, List.set_cons_zero, List.set_cons_succ])
          generalize V19.alloc (.cells #[.slice none 0 0, .slice none 0 0] 25) = V20 at HA20 ⊢
          have k4 := (HA17.out.2.1).upd (Upd.of_below (((HC18.out.2.2.1).trans ((HC19.out.2.2.1).mono (HC18.out.2.2.1).size)).trans ((HA20.out.2.2).mono ((HC18.out.2.2.1).trans ((HC19.out.2.2.1).mono (HC18.out.2.2.1).size)).size)) (fun _ => False)) id
          have l4 : V0.heap.size < V20.heap.size := Nat.lt_of_lt_of_le (HA17.out.2.1).lt (((HC18.out.2.2.1).trans ((HC19.out.2.2.1).mono (HC18.out.2.2.1).size)).trans ((HA20.out.2.2).mono ((HC18.out.2.2.1).trans ((HC19.out.2.2.1).mono (HC18.out.2.2.1).size)).size)).size
          have k5 := (HA20.out.2.1).upd (Upd.of_below (Below.refl V20.heap.size V20) (fun _ => False)) id
          have l5 : V19.heap.size < V20.heap.size := Nat.lt_of_lt_of_le (HA20.out.2.1).lt (Below.refl V20.heap.size V20).size
          have g1 := HC18.out.2.1.below ((HC19.out.2.2.1).trans ((HA20.out.2.2).mono (HC19.out.2.2.1).size))
          have g3 := HC19.out.2.1.below (HA20.out.2.2)
          have b0 := HA20.out.1
          have hne : V0.heap.size < V19.heap.size := Nat.lt_of_lt_of_le (HA17.out.2.1).lt ((HC18.out.2.2.1).trans ((HC19.out.2.2.1).mono (HC18.out.2.2.1).size)).size
          have z4 : W0.heap.size ≤ V0.heap.size := (HB00.out).size
          have z5 : W0.heap.size ≤ V19.heap.size := (HC19.out.1).size
          have n14A : ∀ b o s, X1 = some ⟨b, o, s⟩ → b ≠ V0.heap.size := fun b o s e => by have h1 := HC18.out.2.2.2.1 b o s e; have h2 := Nat.lt_of_lt_of_le (HA17.out.2.1).lt (Below.refl V17.heap.size V17).size; omega
          have n14B : ∀ b o s, Y1 = some ⟨b, o, s⟩ → b ≠ V0.heap.size := fun b o s e => by have h1 := HC18.out.2.2.2.2 b o s e; have h2 := Nat.lt_of_lt_of_le (HA17.out.2.1).lt (Below.refl V17.heap.size V17).size; omega
          have n15A : ∀ b o s, X1 = some ⟨b, o, s⟩ → b ≠ V19.heap.size := fun b o s e => by subst e; have h1 := ownN_blk HC18.out.2.1; have h2 := (HC19.out.2.2.1).size; omega
          have n15B : ∀ b o s, Y1 = some ⟨b, o, s⟩ → b ≠ V19.heap.size := fun b o s e => by subst e; have h1 := ownE_blk HC18.out.2.1; have h2 := (HC19.out.2.2.1).size; omega
          have n34A : ∀ b o s, X3 = some ⟨b, o, s⟩ → b ≠ V0.heap.size := fun b o s e => by have h1 := HC19.out.2.2.2.1 b o s e; have h2 := Nat.lt_of_lt_of_le (HA17.out.2.1).lt (HC18.out.2.2.1).size; omega
          have n34B : ∀ b o s, Y3 = some ⟨b, o, s⟩ → b ≠ V0.heap.size := fun b o s e => by have h1 := HC19.out.2.2.2.2 b o s e; have h2 := Nat.lt_of_lt_of_le (HA17.out.2.1).lt (HC18.out.2.2.1).size; omega
          have n35A : ∀ b o s, X3 = some ⟨b, o, s⟩ → b ≠ V19.heap.size := fun b o s e => by subst e; have h1 := ownN_blk HC19.out.2.1; have h2 := (Below.refl V19.heap.size V19).size; omega
          have n35B : ∀ b o s, Y3 = some ⟨b, o, s⟩ → b ≠ V19.heap.size := fun b o s e => by subst e; have h1 := ownE_blk HC19.out.2.1; have h2 := (Below.refl V19.heap.size V19).size; omega
          obtain ⟨ga, hga⟩ : ∃ g, V0.heap.size = g := ⟨_, rfl⟩
          obtain ⟨gb, hgb⟩ : ∃ g, V19.heap.size = g := ⟨_, rfl⟩
          rw [hga] at k4 l4 hne z4 n14A n14B n34A n34B
          rw [hgb] at k5 l5 hne z5 n15A n15B n35A n35B
          rw [hga, hgb]
          have HQ := Lib.hid (And.intro (And.intro k4 (And.intro k5 (And.intro g1 (And.intro g3 b0)))) (And.intro (And.intro l4 (And.intro l5 (And.intro z4 (And.intro z5 hne)))) (And.intro (And.intro n14A n14B) (And.intro (And.intro n34A n34B) (And.intro (And.intro n15A n15B) (And.intro n35A n35B))))))
          clear k4 k5 g1 g3 b0 l4 l5 z4 z5 hne n14A n14B n34A n34B n15A n15B n35A n35B hga hgb
          refine any_run hd (L := [6]) (by kernel_rfl) (by decide) (fun i hi hd2 => ?_)
          clear hd
          have hd := hd2
          clear hd2
          obtain rfl := List.mem_singleton.1 hi
          clear hi
          have r0 : V20.cell? ⟨ga, 0, none⟩ = some (.slice none 0 0) := HQ.out.1.1.cell 0
          have r1 : V20.cell? ⟨ga, 1, none⟩ = some (.slice none 0 0) := HQ.out.1.1.cell 1
          have f0 := HQ.out.1.1.frozen 0
          have f1 := HQ.out.1.1.frozen 1
          have HR := Lib.hid (two_set V20 ga gb n m X1 cx1 Y1 dy1 HQ.out.1.1)
          have HR2 := Lib.hid (show Below W0.heap.size W0 ((V20.setCell ⟨ga, 0, none⟩ (.slice X1 n cx1)).setCell ⟨ga, 1, none⟩ (.slice Y1 m dy1)) from HQ.out.1.2.2.2.2.trans (HR.out.2.below (fun g _ e => by have := HQ.out.2.1.2.2.1; omega) HQ.out.1.2.2.2.2.size))
          refine any_do rfl rfl (fun K hK => ?_)
          go_simp
          refine hK _ _ (UP.out _ HR2.out).1 ?_
          clear hK K r0 r1 f0 f1
          (try simp only [Act.put, List.getElem_toArray, List.getElem_cons_succ, List.getElem_cons_zero, List.setIfInBounds_toArray, List.set_cons_zero, List.set_cons_succ])
          generalize ((V20.setCell ⟨ga, 0, none⟩ (.slice X1 n cx1)).setCell ⟨ga, 1, none⟩ (.slice Y1 m dy1)) = Va at HR HR2 ⊢
          have HT := Lib.hid (show Blk Va gb 25 #[.slice none 0 0, .slice none 0 0] ∧ OwnG Va X1 cx1 Y1 dy1 N E ∧ OwnG Va X3 cx3 Y3 dy3 N' E' from ⟨HQ.out.1.2.1.upd HR.out.2 (fun e => by have := HQ.out.2.1.2.2.2.2; omega), HQ.out.1.2.2.1.upd HR.out.2 HQ.out.2.2.1.1 HQ.out.2.2.1.2, HQ.out.1.2.2.2.1.upd HR.out.2 HQ.out.2.2.2.1.1 HQ.out.2.2.2.1.2⟩)
          refine any_run hd (L := [7]) (by kernel_rfl) (by decide) (fun i hi hd2 => ?_)
          clear hd
          have hd := hd2
          clear hd2
          obtain rfl := List.mem_singleton.1 hi
          clear hi
          have r0 : Va.cell? ⟨gb, 0, none⟩ = some (.slice none 0 0) := HT.out.1.cell 0
          have r1 : Va.cell? ⟨gb, 1, none⟩ = some (.slice none 0 0) := HT.out.1.cell 1
          have f0 := HT.out.1.frozen 0
          have f1 := HT.out.1.frozen 1
          have HS := Lib.hid (two_set Va gb ga n' m' X3 cx3 Y3 dy3 HT.out.1)
          have HS2 := Lib.hid (show Below W0.heap.size W0 ((Va.setCell ⟨gb, 0, none⟩ (.slice X3 n' cx3)).setCell ⟨gb, 1, none⟩ (.slice Y3 m' dy3)) from HR2.out.trans (HS.out.2.below (fun g _ e => by have := HQ.out.2.1.2.2.2.1; omega) HR2.out.size))
          refine any_do rfl rfl (fun K hK => ?_)
          go_simp
          refine hK _ _ (UP.out _ HS2.out).1 ?_
          clear hK K r0 r1 f0 f1
          (try simp only [Act.put, List.getElem_toArray, List.getElem_cons_succ, List.getElem_cons_zero, List.setIfInBounds_toArray, List.set_cons_zero, List.set_cons_succ])
          generalize ((Va.setCell ⟨gb, 0, none⟩ (.slice X3 n' cx3)).setCell ⟨gb, 1, none⟩ (.slice Y3 m' dy3)) = Vb at HS HS2 ⊢
          refine any_done (by kernel_rfl) ?_
          clear hd
          have FIN := Lib.hid (show Below W0.heap.size W0 Vb ∧ Blk Vb ga 25 #[.slice X1 n cx1, .slice Y1 m dy1] ∧ Blk Vb gb 25 #[.slice X3 n' cx3, .slice Y3 m' dy3] ∧ OwnG Vb X1 cx1 Y1 dy1 N E ∧ OwnG Vb X3 cx3 Y3 dy3 N' E' from ⟨HS2.out, HR.out.1.upd HS.out.2 (fun e => by have := HQ.out.2.1.2.2.2.2; omega), HS.out.1, HT.out.2.1.upd HS.out.2 HQ.out.2.2.2.2.1.1 HQ.out.2.2.2.2.1.2, HT.out.2.2.upd HS.out.2 HQ.out.2.2.2.2.2.1 HQ.out.2.2.2.2.2.2⟩)
          go_wp2
          go_meet
          case rel => exact ⟨ga, gb, X1, cx1, Y1, dy1, X3, cx3, Y3, dy3, rfl, rfl, FIN⟩
        · refine any_do rfl rfl (fun K hK => ?_)
          go_simp
          have HA21 := Lib.hid (And.intro (show Below W0.heap.size W0 (V18.alloc (.cells #[.slice none 0 0, .slice none 0 0] 25)) from (HC18.out.1).alloc (HC18.out.1).size _) (And.intro (Blk.new V18 25 #[.slice none 0 0, .slice none 0 0]) (show Below V18.heap.size V18 (V18.alloc (.cells #[.slice none 0 0, .slice none 0 0] 25)) from (Below.refl _ _).alloc (Nat.le_refl _) _)))
          refine hK _ _ (UP.out _ HA21.out.1).1 ?_
          clear hK K
          (try simp only [Act.put, List.getElem_toArray, List.getElem_cons_succ, List.getElem_cons_zero, List.setIfInBounds_toArray, List.set_cons_zero, List.set_cons_succ])
          generalize V18.alloc (.cells #[.slice none 0 0, .slice none 0 0] 25) = V21 at HA21 ⊢
          refine any_run hd (L := [3]) (by kernel_rfl) (by decide) (fun i hi hd2 => ?_)
          clear hd
          have hd := hd2
          clear hd2
          obtain rfl := List.mem_singleton.1 hi
          clear hi
          refine any_do rfl rfl (fun K hK => ?_)
          go_simp
          refine (HOW.out.2 V21 (HA21.out.1)).mono ?_
          rintro e V22 ⟨X3, cx3, Y3, dy3, rfl, g3, b22, ha3, hb3⟩
          have HC22 := Lib.hid (And.intro (show Below W0.heap.size W0 V22 from (HA21.out.1).trans (b22.mono (HA21.out.1).size)) (And.intro g3 (And.intro b22 (And.intro ha3 hb3))))
          clear g3 b22 ha3 hb3
          refine hK _ _ (UP.out _ HC22.out.1).1 ?_
          clear hK K
          (try simp only [Act.put, List.getElem_toArray, List.getElem_cons_succ, List.getElem_cons_zero, List.setIfInBounds_toArray, List.set_cons_zero, List.set_cons_succ])
          have k4 := (HA17.out.2.1).upd (Upd.of_below (((HC18.out.2.2.1).trans ((HA21.out.2.2).mono (HC18.out.2.2.1).size)).trans ((HC22.out.2.2.1).mono ((HC18.out.2.2.1).trans ((HA21.out.2.2).mono (HC18.out.2.2.1).size)).size)) (fun _ => False)) id
          have l4 : V0.heap.size < V22.heap.size := Nat.lt_of_lt_of_le (HA17.out.2.1).lt (((HC18.out.2.2.1).trans ((HA21.out.2.2).mono (HC18.out.2.2.1).size)).trans ((HC22.out.2.2.1).mono ((HC18.out.2.2.1).trans ((HA21.out.2.2).mono (HC18.out.2.2.1).size)).size)).size
          have k5 := (HA21.out.2.1).upd (Upd.of_below (HC22.out.2.2.1) (fun _ => False)) id
          have l5 : V18.heap.size < V22.heap.size := Nat.lt_of_lt_of_le (HA21.out.2.1).lt (HC22.out.2.2.1).size
          have g1 := HC18.out.2.1.below ((HA21.out.2.2).trans ((HC22.out.2.2.1).mono (HA21.out.2.2).size))
          have g3 := HC22.out.2.1.below (Below.refl V22.heap.size V22)
          have b0 := HC22.out.1
          have hne : V0.heap.size < V18.heap.size := Nat.lt_of_lt_of_le (HA17.out.2.1).lt (HC18.out.2.2.1).size
          have z4 : W0.heap.size ≤ V0.heap.size := (HB00.out).size
          have z5 : W0.heap.size ≤ V18.heap.size := (HC18.out.1).size
          have n14A : ∀ b o s, X1 = some ⟨b, o, s⟩ → b ≠ V0.heap.size := fun b o s e => by have h1 := HC18.out.2.2.2.1 b o s e; have h2 := Nat.lt_of_lt_of_le (HA17.out.2.1).lt (Below.refl V17.heap.size V17).size; omega
          have n14B : ∀ b o s, Y1 = some ⟨b, o, s⟩ → b ≠ V0.heap.size := fun b o s e => by have h1 := HC18.out.2.2.2.2 b o s e; have h2 := Nat.lt_of_lt_of_le (HA17.out.2.1).lt (Below.refl V17.heap.size V17).size; omega
          have n15A : ∀ b o s, X1 = some ⟨b, o, s⟩ → b ≠ V18.heap.size := fun b o s e => by subst e; have h1 := ownN_blk HC18.out.2.1; have h2 := (Below.refl V18.heap.size V18).size; omega
          have n15B : ∀ b o s, Y1 = some ⟨b, o, s⟩ → b ≠ V18.heap.size := fun b o s e => by subst e; have h1 := ownE_blk HC18.out.2.1; have h2 := (Below.refl V18.heap.size V18).size; omega
          have n34A : ∀ b o s, X3 = some ⟨b, o, s⟩ → b ≠ V0.heap.size := fun b o s e => by have h1 := HC22.out.2.2.2.1 b o s e; have h2 := Nat.lt_of_lt_of_le (HA17.out.2.1).lt ((HC18.out.2.2.1).trans ((HA21.out.2.2).mono (HC18.out.2.2.1).size)).size; omega
          have n34B : ∀ b o s, Y3 = some ⟨b, o, s⟩ → b ≠ V0.heap.size := fun b o s e => by have h1 := HC22.out.2.2.2.2 b o s e; have h2 := Nat.lt_of_lt_of_le (HA17.out.2.1).lt ((HC18.out.2.2.1).trans ((HA21.out.2.2).mono (HC18.out.2.2.1).size)).size; omega
          have n35A : ∀ b o s, X3 = some ⟨b, o, s⟩ → b ≠ V18.heap.size := fun b o s e => by have h1 := HC22.out.2.2.2.1 b o s e; have h2 := Nat.lt_of_lt_of_le (HA21.out.2.1).lt (Below.refl V21.heap.size V21).size; omega
          have n35B : ∀ b o s, Y3 = some ⟨b, o, s⟩ → b ≠ V18.heap.size := fun b o s e => by have h1 := HC22.out.2.2.2.2 b o s e; have h2 := Nat.lt_of_lt_of_le (HA21.out.2.1).lt (Below.refl V21.heap.size V21).size; omega
          obtain ⟨ga, hga⟩ : ∃ g, V0.heap.size = g := ⟨_, rfl⟩
          obtain ⟨gb, hgb⟩ : ∃ g, V18.heap.size = g := ⟨_, rfl⟩
          rw [hga] at k4 l4 hne z4 n14A n14B n34A n34B
          rw [hgb] at k5 l5 hne z5 n15A n15B n35A n35B
          rw [hga, hgb]
          have HQ := Lib.hid (And.intro (And.intro k4 (And.intro k5 (And.intro g1 (And.intro g3 b0)))) (And.intro (And.intro l4 (And.intro l5 (And.intro z4 (And.intro z5 hne)))) (And.intro (And.intro n14A n14B) (And.intro (And.intro n34A n34B) (And.intro (And.intro n15A n15B) (And.intro n35A n35B))))))
          clear k4 k5 g1 g3 b0 l4 l5 z4 z5 hne n14A n14B n34A n34B n15A n15B n35A n35B hga hgb
          refine any_run hd (L := [6]) (by kernel_rfl) (by decide) (fun i hi hd2 => ?_)
          clear hd
          have hd := hd2
          clear hd2
          obtain rfl := List.mem_singleton.1 hi
          clear hi
          have r0 : V22.cell? ⟨ga, 0, none⟩ = some (.slice none 0 0) := HQ.out.1.1.cell 0
          have r1 : V22.cell? ⟨ga, 1, none⟩ = some (.slice none 0 0) := HQ.out.1.1.cell 1
          have f0 := HQ.out.1.1.frozen 0
          have f1 := HQ.out.1.1.frozen 1
          have HR := Lib.hid (two_set V22 ga gb n m X1 cx1 Y1 dy1 HQ.out.1.1)
          have HR2 := Lib.hid (show Below W0.heap.size W0 ((V22.setCell ⟨ga, 0, none⟩ (.slice X1 n cx1)).setCell ⟨ga, 1, none⟩ (.slice Y1 m dy1)) from HQ.out.1.2.2.2.2.trans (HR.out.2.below (fun g _ e => by have := HQ.out.2.1.2.2.1; omega) HQ.out.1.2.2.2.2.size))
          refine any_do rfl rfl (fun K hK => ?_)
          go_simp
          refine hK _ _ (UP.out _ HR2.out).1 ?_
          clear hK K r0 r1 f0 f1
          (try simp only [Act.put, List.getElem_toArray, List.getElem_cons_succ, List.getElem_cons_zero, List.setIfInBounds_toArray, List.set_cons_zero, List.set_cons_succ])
          generalize ((V22.setCell ⟨ga, 0, none⟩ (.slice X1 n cx1)).setCell ⟨ga, 1, none⟩ (.slice Y1 m dy1)) = Va at HR HR2 ⊢
          have HT := Lib.hid (show Blk Va gb 25 #[.slice none 0 0, .slice none 0 0] ∧ OwnG Va X1 cx1 Y1 dy1 N E ∧ OwnG Va X3 cx3 Y3 dy3 N' E' from ⟨HQ.out.1.2.1.upd HR.out.2 (fun e => by have := HQ.out.2.1.2.2.2.2; omega), HQ.out.1.2.2.1.upd HR.out.2 HQ.out.2.2.1.1 HQ.out.2.2.1.2, HQ.out.1.2.2.2.1.upd HR.out.2 HQ.out.2.2.2.1.1 HQ.out.2.2.2.1.2⟩)
          refine any_run hd (L := [7]) (by kernel_rfl) (by decide) (fun i hi hd2 => ?_)
          clear hd
          have hd := hd2
          clear hd2
          obtain rfl := List.mem_singleton.1 hi
          clear hi
          have r0 : Va.cell? ⟨gb, 0, none⟩ = some (.slice none 0 0) := HT.out.1.cell 0
          have r1 : Va.cell? ⟨gb, 1, none⟩ = some (.slice none 0 0) := HT.out.1.cell 1
          have f0 := HT.out.1.frozen 0
          have f1 := HT.out.1.frozen 1
          have HS := Lib.hid (two_set Va gb ga n' m' X3 cx3 Y3 dy3 HT.out.1)
          have HS2 := Lib.hid (show Below W0.heap.size W0 ((Va.setCell ⟨gb, 0, none⟩ (.slice X3 n' cx3)).setCell ⟨gb, 1, none⟩ (.slice Y3 m' dy3)) from HR2.out.trans (HS.out.2.below (fun g _ e => by have := HQ.out.2.1.2.2.2.1; omega) HR2.out.size))
          refine any_do rfl rfl (fun K hK => ?_)
          go_simp
          refine hK _ _ (UP.out _ HS2.out).1 ?_
          clear hK K r0 r1 f0 f1
          (try simp only [Act.put, List.getElem_toArray, List.getElem_cons_succ, List.getElem_cons_zero, List.setIfInBounds_toArray, List.set_cons_zero, List.set_cons_succ])
          generalize ((Va.setCell ⟨gb, 0, none⟩ (.slice X3 n' cx3)).setCell ⟨gb, 1, none⟩ (.slice Y3 m' dy3)) = Vb at HS HS2 ⊢
          refine any_done (by kernel_rfl) ?_
          clear hd
          have FIN := Lib.hid (show Below W0.heap.size W0 Vb ∧ Blk Vb ga 25 #[.slice X1 n cx1, .slice Y1 m dy1] ∧ Blk Vb gb 25 #[.slice X3 n' cx3, .slice Y3 m' dy3] ∧ OwnG Vb X1 cx1 Y1 dy1 N E ∧ OwnG Vb X3 cx3 Y3 dy3 N' E' from ⟨HS2.out, HR.out.1.upd HS.out.2 (fun e => by have := HQ.out.2.1.2.2.2.2; omega), HS.out.1, HT.out.2.1.upd HS.out.2 HQ.out.2.2.2.2.1.1 HQ.out.2.2.2.2.1.2, HT.out.2.2.upd HS.out.2 HQ.out.2.2.2.2.2.1 HQ.out.2.2.2.2.2.2⟩)
          go_wp2
          go_meet
          case rel => exact ⟨ga, gb, X1, cx1, Y1, dy1, X3, cx3, Y3, dy3, rfl, rfl, FIN⟩
      · refine any_do rfl rfl (fun K hK => ?_)
        go_simp
        have HA23 := Lib.hid (And.intro (show Below W0.heap.size W0 (V17.alloc (.cells #[.slice none 0 0, .slice none 0 0] 25)) from (HA17.out.1).alloc (HA17.out.1).size _) (And.intro (Blk.new V17 25 #[.slice none 0 0, .slice none 0 0]) (show Below V17.heap.size V17 (V17.alloc (.cells #[.slice none 0 0, .slice none 0 0] 25)) from (Below.refl _ _).alloc (Nat.le_refl _) _)))
        refine hK _ _ (UP.out _ HA23.out.1).1 ?_
        clear hK K
        (try simp only [Act.put, List.getElem_toArray, List.getElem_cons_succ, List.getElem_cons_zero, List.setIfInBounds_toArray, List.set_cons_zero, List.set_cons_succ])
        generalize V17.alloc (.cells #[.slice none 0 0, .slice none 0 0] 25) = V23 at HA23 ⊢
        refine any_run hd (L := [1]) (by kernel_rfl) (by decide) (fun i hi hd2 => ?_)
        clear hd
        have hd := hd2
        clear hd2
        obtain rfl := List.mem_singleton.1 hi
        clear hi
        refine any_do rfl rfl (fun K hK => ?_)
        go_simp
        refine (HOW.out.1 V23 (HA23.out.1)).mono ?_
        rintro e V24 ⟨X1, cx1, Y1, dy1, rfl, g1, b24, ha1, hb1⟩
        have HC24 := Lib.hid (And.intro (show Below W0.heap.size W0 V24 from (HA23.out.1).trans (b24.mono (HA23.out.1).size)) (And.intro g1 (And.intro b24 (And.intro ha1 hb1))))
        clear g1 b24 ha1 hb1
        refine hK _ _ (UP.out _ HC24.out.1).1 ?_
        clear hK K
        (try simp only [Act.put, List.getElem_toArray, List.getElem_cons_succ, List.getElem_cons_zero, List.setIfInBounds_toArray, List.set_cons_zero, List.set_cons_succ])
        refine any_run hd (L := [3]) (by kernel_rfl) (by decide) (fun i hi hd2 => ?_)
        clear hd
        have hd := hd2
        clear hd2
        obtain rfl := List.mem_singleton.1 hi
        clear hi
        refine any_do rfl rfl (fun K hK => ?_)
        go_simp
        refine (HOW.out.2 V24 (HC24.out.1)).mono ?_
        rintro e V25 ⟨X3, cx3, Y3, dy3, rfl, g3, b25, ha3, hb3⟩
        have HC25 := Lib.hid (And.intro (show Below W0.heap.size W0 V25 from (HC24.out.1).trans (b25.mono (HC24.out.1).size)) (And.intro g3 (And.intro b25 (And.intro ha3 hb3))))
        clear g3 b25 ha3 hb3
        refine hK _ _ (UP.out _ HC25.out.1).1 ?_
        clear hK K
        (try simp only [Act.put, List.getElem_toArray, List.getElem_cons_succ, List.getElem_cons_zero, List.setIfInBounds_toArray, List.set_cons_zero, List.set_cons_succ])
        have k4 := (HA17.out.2.1).upd (Upd.of_below (((HA23.out.2.2).trans ((HC24.out.2.2.1).mono (HA23.out.2.2).size)).trans ((HC25.out.2.2.1).mono ((HA23.out.2.2).trans ((HC24.out.2.2.1).mono (HA23.out.2.2).size)).size)) (fun _ => False)) id
        have l4 : V0.heap.size < V25.heap.size := Nat.lt_of_lt_of_le (HA17.out.2.1).lt (((HA23.out.2.2).trans ((HC24.out.2.2.1).mono (HA23.out.2.2).size)).trans ((HC25.out.2.2.1).mono ((HA23.out.2.2).trans ((HC24.out.2.2.1).mono (HA23.out.2.2).size)).size)).size
        have k5 := (HA23.out.2.1).upd (Upd.of_below ((HC24.out.2.2.1).trans ((HC25.out.2.2.1).mono (HC24.out.2.2.1).size)) (fun _ => False)) id
        have l5 : V17.heap.size < V25.heap.size := Nat.lt_of_lt_of_le (HA23.out.2.1).lt ((HC24.out.2.2.1).trans ((HC25.out.2.2.1).mono (HC24.out.2.2.1).size)).size
        have g1 := HC24.out.2.1.below (HC25.out.2.2.1)
        have g3 := HC25.out.2.1.below (Below.refl V25.heap.size V25)
        have b0 := HC25.out.1
        have hne : V0.heap.size < V17.heap.size := Nat.lt_of_lt_of_le (HA17.out.2.1).lt (Below.refl V17.heap.size V17).size
        have z4 : W0.heap.size ≤ V0.heap.size := (HB00.out).size
        have z5 : W0.heap.size ≤ V17.heap.size := (HA17.out.1).size
        have n14A : ∀ b o s, X1 = some ⟨b, o, s⟩ → b ≠ V0.heap.size := fun b o s e => by have h1 := HC24.out.2.2.2.1 b o s e; have h2 := Nat.lt_of_lt_of_le (HA17.out.2.1).lt (HA23.out.2.2).size; omega
        have n14B : ∀ b o s, Y1 = some ⟨b, o, s⟩ → b ≠ V0.heap.size := fun b o s e => by have h1 := HC24.out.2.2.2.2 b o s e; have h2 := Nat.lt_of_lt_of_le (HA17.out.2.1).lt (HA23.out.2.2).size; omega
        have n15A : ∀ b o s, X1 = some ⟨b, o, s⟩ → b ≠ V17.heap.size := fun b o s e => by have h1 := HC24.out.2.2.2.1 b o s e; have h2 := Nat.lt_of_lt_of_le (HA23.out.2.1).lt (Below.refl V23.heap.size V23).size; omega
        have n15B : ∀ b o s, Y1 = some ⟨b, o, s⟩ → b ≠ V17.heap.size := fun b o s e => by have h1 := HC24.out.2.2.2.2 b o s e; have h2 := Nat.lt_of_lt_of_le (HA23.out.2.1).lt (Below.refl V23.heap.size V23).size; omega
        have n34A : ∀ b o s, X3 = some ⟨b, o, s⟩ → b ≠ V0.heap.size := fun b o s e => by have h1 := HC25.out.2.2.2.1 b o s e; have h2 := Nat.lt_of_lt_of_le (HA17.out.2.1).lt ((HA23.out.2.2).trans ((HC24.out.2.2.1).mono (HA23.out.2.2).size)).size; omega
        have n34B : ∀ b o s, Y3 = some ⟨b, o, s⟩ → b ≠ V0.heap.size := fun b o s e => by have h1 := HC25.out.2.2.2.2 b o s e; have h2 := Nat.lt_of_lt_of_le (HA17.out.2.1).lt ((HA23.out.2.2).trans ((HC24.out.2.2.1).mono (HA23.out.2.2).size)).size; omega
        have n35A : ∀ b o s, X3 = some ⟨b, o, s⟩ → b ≠ V17.heap.size := fun b o s e => by have h1 := HC25.out.2.2.2.1 b o s e; have h2 := Nat.lt_of_lt_of_le (HA23.out.2.1).lt (HC24.out.2.2.1).size; omega
        have n35B : ∀ b o s, Y3 = some ⟨b, o, s⟩ → b ≠ V17.heap.size := fun b o s e => by have h1 := HC25.out.2.2.2.2 b o s e; have h2 := Nat.lt_of_lt_of_le (HA23.out.2.1).lt (HC24.out.2.2.1).size; omega
        obtain ⟨ga, hga⟩ : ∃ g, V0.heap.size = g := ⟨_, rfl⟩
        obtain ⟨gb, hgb⟩ : ∃ g, V17.heap.size = g := ⟨_, rfl⟩
        rw [hga] at k4 l4 hne z4 n14A n14B n34A n34B
        rw [hgb] at k5 l5 hne z5 n15A n15B n35A n35B
        rw [hga, hgb]
        have HQ := Lib.hid (And.intro (And.intro k4 (And.intro k5 (And.intro g1 (And.intro g3 b0)))) (And.intro (And.intro l4 (And.intro l5 (And.intro z4 (And.intro z5 hne)))) (And.intro (And.intro n14A n14B) (And.intro (And.intro n34A n34B) (And.intro (And.intro n15A n15B) (And.intro n35A n35B))))))
        clear k4 k5 g1 g3 b0 l4 l5 z4 z5 hne n14A n14B n34A n34B n15A n15B n35A n35B hga hgb
        refine any_run hd (L := [6]) (by kernel_rfl) (by decide) (fun i hi hd2 => ?_)
        clear hd
        have hd := hd2
        clear hd2
        obtain rfl := List.mem_singleton.1 hi
        clear hi
        have r0 : V25.cell? ⟨ga, 0, none⟩ = some (.slice none 0 0) := HQ.out.1.1.cell 0
        have r1 : V25.cell? ⟨ga, 1, none⟩ = some (.slice none 0 0) := HQ.out.1.1.cell 1
        have f0 := HQ.out.1.1.frozen 0
        have f1 := HQ.out.1.1.frozen 1
        have HR := Lib.hid (two_set V25 ga gb n m X1 cx1 Y1 dy1 HQ.out.1.1)
        have HR2 := Lib.hid (show Below W0.heap.size W0 ((V25.setCell ⟨ga, 0, none⟩ (.slice X1 n cx1)).setCell ⟨ga, 1, none⟩ (.slice Y1 m dy1)) from HQ.out.1.2.2.2.2.trans (HR.out.2.below (fun g _ e => by have := HQ.out.2.1.2.2.1; omega) HQ.out.1.2.2.2.2.size))
        refine any_do rfl rfl (fun K hK => ?_)
        go_simp
        refine hK _ _ (UP.out _ HR2.out).1 ?_
        clear hK K r0 r1 f0 f1
        (try simp only [Act.put, List.getElem_toArray, List.getElem_cons_succ, List.getElem_cons_zero, List.setIfInBounds_toArray, List.set_cons_zero, List.set_cons_succ])
        generalize ((V25.setCell ⟨ga, 0, none⟩ (.slice X1 n cx1)).setCell ⟨ga, 1, none⟩ (.slice Y1 m dy1)) = Va at HR HR2 ⊢
        have HT := Lib.hid (show Blk Va gb 25 #[.slice none 0 0, .slice none 0 0] ∧ OwnG Va X1 cx1 Y1 dy1 N E ∧ OwnG Va X3 cx3 Y3 dy3 N' E' from ⟨HQ.out.1.2.1.upd HR.out.2 (fun e => by have := HQ.out.2.1.2.2.2.2; omega), HQ.out.1.2.2.1.upd HR.out.2 HQ.out.2.2.1.1 HQ.out.2.2.1.2, HQ.out.1.2.2.2.1.upd HR.out.2 HQ.out.2.2.2.1.1 HQ.out.2.2.2.1.2⟩)
        refine any_run hd (L := [7]) (by kernel_rfl) (by decide) (fun i hi hd2 => ?_)
        clear hd
        have hd := hd2
        clear hd2
        obtain rfl := List.mem_singleton.1 hi
        clear hi
        have r0 : Va.cell? ⟨gb, 0, none⟩ = some (.slice none 0 0) := HT.out.1.cell 0
        have r1 : Va.cell? ⟨gb, 1, none⟩ = some (.slice none 0 0) := HT.out.1.cell 1
        have f0 := HT.out.1.frozen 0
        have f1 := HT.out.1.frozen 1
        have HS := Lib.hid (two_set Va gb ga n' m' X3 cx3 Y3 dy3 HT.out.1)
        have HS2 := Lib.hid (show Below W0.heap.size W0 ((Va.setCell ⟨gb, 0, none⟩ (.slice X3 n' cx3)).setCell ⟨gb, 1, none⟩ (.slice Y3 m' dy3)) from HR2.out.trans (HS.out.2.below (fun g _ e => by have := HQ.out.2.1.2.2.2.1; omega) HR2.out.size))
        refine any_do rfl rfl (fun K hK => ?_)
        go_simp
        refine hK _ _ (UP.out _ HS2.out).1 ?_
        clear hK K r0 r1 f0 f1
        (try simp only [Act.put, List.getElem_toArray, List.getElem_cons_succ, List.getElem_cons_zero, List.setIfInBounds_toArray, List.set_cons_zero, List.set_cons_succ])
        generalize ((Va.setCell ⟨gb, 0, none⟩ (.slice X3 n' cx3)).setCell ⟨gb, 1, none⟩ (.slice Y3 m' dy3)) = Vb at HS HS2 ⊢
        refine any_done (by kernel_rfl) ?_
        clear hd
        have FIN := Lib.hid (show Below W0.heap.size W0 Vb ∧ Blk Vb ga 25 #[.slice X1 n cx1, .slice Y1 m dy1] ∧ Blk Vb gb 25 #[.slice X3 n' cx3, .slice Y3 m' dy3] ∧ OwnG Vb X1 cx1 Y1 dy1 N E ∧ OwnG Vb X3 cx3 Y3 dy3 N' E' from ⟨HS2.out, HR.out.1.upd HS.out.2 (fun e => by have := HQ.out.2.1.2.2.2.2; omega), HS.out.1, HT.out.2.1.upd HS.out.2 HQ.out.2.2.2.2.1.1 HQ.out.2.2.2.2.1.2, HT.out.2.2.upd HS.out.2 HQ.out.2.2.2.2.2.1 HQ.out.2.2.2.2.2.2⟩)
        go_wp2
        go_meet
        case rel => exact ⟨ga, gb, X1, cx1, Y1, dy1, X3, cx3, Y3, dy3, rfl, rfl, FIN⟩
    · refine any_do rfl rfl (fun K hK => ?_)
      go_simp
      have HA26 := Lib.hid (And.intro (show Below W0.heap.size W0 (V0.alloc (.cells #[.slice none 0 0, .slice none 0 0] 25)) from (HB00.out).alloc (HB00.out).size _) (And.intro (Blk.new V0 25 #[.slice none 0 0, .slice none 0 0]) (show Below V0.heap.size V0 (V0.alloc (.cells #[.slice none 0 0, .slice none 0 0] 25)) from (Below.refl _ _).alloc (Nat.le_refl _) _)))
      refine hK _ _ (UP.out _ HA26.out.1).1 ?_
      clear hK K
      (try simp only [Act.put, List.getElem_toArray, List.getElem_cons_succ, List.getElem_cons_zero, List.setIfInBounds_toArray, List.set_cons_zero, List.set_cons_succ])
      generalize V0.alloc (.cells #[.slice none 0 0, .slice none 0 0] 25) = V26 at HA26 ⊢
      refine any_run hd (L := [1, 4]) (by kernel_rfl) (by decide) (fun i hi hd2 => ?_)
      clear hd
      have hd := hd2
      clear hd2
      simp only [List.mem_cons, List.not_mem_nil, or_false] at hi
      rcases hi with rfl | rfl
      · refine any_do rfl rfl (fun K hK => ?_)
        go_simp
        refine (HOW.out.1 V26 (HA26.out.1)).mono ?_
        rintro e V27 ⟨X1, cx1, Y1, dy1, rfl, g1, b27, ha1, hb1⟩
        have HC27 := Lib.hid (And.intro (show Below W0.heap.size W0 V27 from (HA26.out.1).trans (b27.mono (HA26.out.1).size)) (And.intro g1 (And.intro b27 (And.intro ha1 hb1))))
        clear g1 b27 ha1 hb1
        refine hK _ _ (UP.out _ HC27.out.1).1 ?_
        clear hK K
        (try simp only [Act.put, List.getElem_toArray, List.getElem_cons_succ, List.getElem_cons_zero, List.setIfInBounds_toArray, List.set_cons_zero, List.set_cons_succ])
        refine any_run hd (L := [3, 4]) (by kernel_rfl) (by decide) (fun i hi hd2 => ?_)
        clear hd
        have hd := hd2
        clear hd2
        simp only [List.mem_cons, List.not_mem_nil, or_false] at hi
        rcases hi with rfl | rfl
        · refine any_do rfl rfl (fun K hK => ?_)
          go_simp
          refine (HOW.out.2 V27 (HC27.out.1)).mono ?_
          rintro e V28 ⟨X3, cx3, Y3, dy3, rfl, g3, b28, ha3, hb3⟩
          have HC28 := Lib.hid (And.intro (show Below W0.heap.size W0 V28 from (HC27.out.1).trans (b28.mono (HC27.out.1).size)) (And.intro g3 (And.intro b28 (And.intro ha3 hb3))))
          clear g3 b28 ha3 hb3
          refine hK _ _ (UP.out _ HC28.out.1).1 ?_
          clear hK K
          (try simp only [Act.put, List.getElem_toArray, List.getElem_cons_succ, List.getElem_cons_zero, List.setIfInBounds_toArray, List.set_cons_zero, List.set_cons_succ])
          refine any_run hd (L := [4]) (by kernel_rfl) (by decide) (fun i hi hd2 => ?_)
          clear hd
          have hd := hd2
          clear hd2
          obtain rfl := List.mem_singleton.1 hi
          clear hi
          refine any_do rfl rfl (fun K hK => ?_)
          go_simp
          have HA29 := Lib.hid (And.intro (show Below W0.heap.size W0 (V28.alloc (.cells #[.slice none 0 0, .slice none 0 0] 25)) from (HC28.out.1).alloc (HC28.out.1).size _) (And.intro (Blk.new V28 25 #[.slice none 0 0, .slice none 0 0]) (show Below V28.heap.size V28 (V28.alloc (.cells #[.slice none 0 0, .slice none 0 0] 25)) from (Below.refl _ _).alloc (Nat.le_refl _) _)))
          refine hK _ _ (UP.out _ HA29.out.1).1 ?_
          clear hK K
          (try simp only [Act.put, List.getElem_toArray, List.getElem_cons_succ, List.getElem_cons_zero, List.setIfInBounds_toArray, List.set_cons_zero, List.set_cons_succ])
          generalize V28.alloc (.cells #[.slice none 0 0, .slice none 0 0] 25) = V29 at HA29 ⊢
          have k4 := (HA29.out.2.1).upd (Upd.of_below (Below.refl V29.heap.size V29) (fun _ => False)) id
          have l4 : V28.heap.size < V29.heap.size := Nat.lt_of_lt_of_le (HA29.out.2.1).lt (Below.refl V29.heap.size V29).size
          have k5 := (HA26.out.2.1).upd (Upd.of_below (((HC27.out.2.2.1).trans ((HC28.out.2.2.1).mono (HC27.out.2.2.1).size)).trans ((HA29.out.2.2).mono ((HC27.out.2.2.1).trans ((HC28.out.2.2.1).mono (HC27.out.2.2.1).size)).size)) (fun _ => False)) id
          have l5 : V0.heap.size < V29.heap.size := Nat.lt_of_lt_of_le (HA26.out.2.1).lt (((HC27.out.2.2.1).trans ((HC28.out.2.2.1).mono (HC27.out.2.2.1).size)).trans ((HA29.out.2.2).mono ((HC27.out.2.2.1).trans ((HC28.out.2.2.1).mono (HC27.out.2.2.1).size)).size)).size
          have g1 := HC27.out.2.1.below ((HC28.out.2.2.1).trans ((HA29.out.2.2).mono (HC28.out.2.2.1).size))
          have g3 := HC28.out.2.1.below (HA29.out.2.2)
          have b0 := HA29.out.1
          have hne : V0.heap.size < V28.heap.size := Nat.lt_of_lt_of_le (HA26.out.2.1).lt ((HC27.out.2.2.1).trans ((HC28.out.2.2.1).mono (HC27.out.2.2.1).size)).size
          have z4 : W0.heap.size ≤ V28.heap.size := (HC28.out.1).size
          have z5 : W0.heap.size ≤ V0.heap.size := (HB00.out).size
          have n14A : ∀ b o s, X1 = some ⟨b, o, s⟩ → b ≠ V28.heap.size := fun b o s e => by subst e; have h1 := ownN_blk HC27.out.2.1; have h2 := (HC28.out.2.2.1).size; omega
          have n14B : ∀ b o s, Y1 = some ⟨b, o, s⟩ → b ≠ V28.heap.size := fun b o s e => by subst e; have h1 := ownE_blk HC27.out.2.1; have h2 := (HC28.out.2.2.1).size; omega
          have n15A : ∀ b o s, X1 = some ⟨b, o, s⟩ → b ≠ V0.heap.size := fun b o s e => by have h1 := HC27.out.2.2.2.1 b o s e; have h2 := Nat.lt_of_lt_of_le (HA26.out.2.1).lt (Below.refl V26.heap.size V26).size; omega
          have n15B : ∀ b o s, Y1 = some ⟨b, o, s⟩ → b ≠ V0.heap.size := fun b o s e => by have h1 := HC27.out.2.2.2.2 b o s e; have h2 := Nat.lt_of_lt_of_le (HA26.out.2.1).lt (Below.refl V26.heap.size V26).size; omega
          have n34A : ∀ b o s, X3 = some ⟨b, o, s⟩ → b ≠ V28.heap.size := fun b o s e => by subst e; have h1 := ownN_blk HC28.out.2.1; have h2 := (Below.refl V28.heap.size V28).size; omega
          have n34B : ∀ b o s, Y3 = some ⟨b, o, s⟩ → b ≠ V28.heap.size := fun b o s e => by subst e; have h1 := ownE_blk HC28.out.2.1; have h2 := (Below.refl V28.heap.size V28).size; omega
          have n35A : ∀ b o s, X3 = some ⟨b, o, s⟩ → b ≠ V0.heap.size := fun b o s e => by have h1 := HC28.out.2.2.2.1 b o s e; have h2 := Nat.lt_of_lt_of_le (HA26.out.2.1).lt (HC27.out.2.2.1).size; omega
          have n35B : ∀ b o s, Y3 = some ⟨b, o, s⟩ → b ≠ V0.heap.size := fun b o s e => by have h1 := HC28.out.2.2.2.2 b o s e; have h2 := Nat.lt_of_lt_of_le (HA26.out.2.1).lt (HC27.out.2.2.1).size; omega
          obtain ⟨ga, hga⟩ : ∃ g, V28.heap.size = g := ⟨_, rfl⟩
          obtain ⟨gb, hgb⟩ : ∃ g, V0.heap.size = g := ⟨_, rfl⟩
          rw [hga] at k4 l4 hne z4 n14A n14B n34A n34B
          rw [hgb] at k5 l5 hne z5 n15A n15B n35A n35B
          rw [hga, hgb]
          have HQ := Lib.hid (And.intro (And.intro k4 (And.intro k5 (And.intro g1 (And.intro g3 b0)))) (And.intro (And.intro l4 (And.intro l5 (And.intro z4 (And.intro z5 hne)))) (And.intro (And.intro n14A n14B) (And.intro (And.intro n34A n34B) (And.intro (And.intro n15A n15B) (And.intro n35A n35B))))))
          clear k4 k5 g1 g3 b0 l4 l5 z4 z5 hne n14A n14B n34A n34B n15A n15B n35A n35B hga hgb
          refine any_run hd (L := [6]) (by kernel_rfl) (by decide) (fun i hi hd2 => ?_)
          clear hd
          have hd := hd2
          clear hd2
          obtain rfl := List.mem_singleton.1 hi
          clear hi
          have r0 : V29.cell? ⟨ga, 0, none⟩ = some (.slice none 0 0) := HQ.out.1.1.cell 0
          have r1 : V29.cell? ⟨ga, 1, none⟩ = some (.slice none 0 0) := HQ.out.1.1.cell 1
          have f0 := HQ.out.1.1.frozen 0
          have f1 := HQ.out.1.1.frozen 1
          have HR := Lib.hid (two_set V29 ga gb n m X1 cx1 Y1 dy1 HQ.out.1.1)
          have HR2 := Lib.hid (show Below W0.heap.size W0 ((V29.setCell ⟨ga, 0, none⟩ (.slice X1 n cx1)).setCell ⟨ga, 1, none⟩ (.slice Y1 m dy1)) from HQ.out.1.2.2.2.2.trans (HR.out.2.below (fun g _ e => by have := HQ.out.2.1.2.2.1; omega) HQ.out.1.2.2.2.2.size))
          refine any_do rfl rfl (fun K hK => ?_)
          go_simp
          refine hK _ _ (UP.out _ HR2.out).1 ?_
          clear hK K r0 r1 f0 f1
          (try simp only [Act.put, List.getElem_toArray, List.getElem_cons_succ, List.getElem_cons_zero, List.setIfInBounds_toArray, List.set_cons_zero, List.set_cons_succ])
          generalize ((V29.setCell ⟨ga, 0, none⟩ (.slice X1 n cx1)).setCell ⟨ga, 1, none⟩ (.slice Y1 m dy1)) = Va at HR HR2 ⊢
          have HT := Lib.hid (show Blk Va gb 25 #[.slice none 0 0, .slice none 0 0] ∧ OwnG Va X1 cx1 Y1 dy1 N E ∧ OwnG Va X3 cx3 Y3 dy3 N' E' from ⟨HQ.out.1.2.1.upd HR.out.2 (fun e => by have := HQ.out.2.1.2.2.2.2; omega), HQ.out.1.2.2.1.upd HR.out.2 HQ.out.2.2.1.1 HQ.out.2.2.1.2, HQ.out.1.2.2.2.1.upd HR.out.2 HQ.out.2.2.2.1.1 HQ.out.2.2.2.1.2⟩)
          refine any_run hd (L := [7]) (by kernel_rfl) (by decide) (fun i hi hd2 => ?_)
          clear hd
          have hd := hd2
          clear hd2
          obtain rfl := List.mem_singleton.1 hi
          clear hi
          have r0 : Va.cell? ⟨gb, 0, none⟩ = some (.slice none 0 0) := HT.out.1.cell 0
          have r1 : Va.cell? ⟨gb, 1, none⟩ = some (.slice none 0 0) := HT.out.1.cell 1
          have f0 := HT.out.1.frozen 0
          have f1 := HT.out.1.frozen 1
          have HS := Lib.hid (two_set Va gb ga n' m' X3 cx3 Y3 dy3 HT.out.1)
          have HS2 := Lib.hid (show Below W0.heap.size W0 ((Va.setCell ⟨gb, 0, none⟩ (.slice X3 n' cx3)).setCell ⟨gb, 1, none⟩ (.slice Y3 m' dy3)) from HR2.out.trans (HS.out.2.below (fun g _ e => by have := HQ.out.2.1.2.2.2.1; omega) HR2.out.size))
          refine any_do rfl rfl (fun K hK => ?_)
          go_simp
          refine hK _ _ (UP.out _ HS2.out).1 ?_
          clear hK K r0 r1 f0 f1
          (try simp only [Act.put, List.getElem_toArray, List.getElem_cons_succ, List.getElem_cons_zero, List.setIfInBounds_toArray, List.set_cons_zero, List.set_cons_succ])
          generalize ((Va.setCell ⟨gb, 0, none⟩ (.slice X3 n' cx3)).setCell ⟨gb, 1, none⟩ (.slice Y3 m' dy3)) = Vb at HS HS2 ⊢
          refine any_done (by kernel_rfl) ?_
          clear hd
          have FIN := Lib.hid (show Below W0.heap.size W0 Vb ∧ Blk Vb ga 25 #[.slice X1 n cx1, .slice Y1 m dy1] ∧ Blk Vb gb 25 #[.slice X3 n' cx3, .slice Y3 m' dy3] ∧ OwnG Vb X1 cx1 Y1 dy1 N E ∧ OwnG Vb X3 cx3 Y3 dy3 N' E' from ⟨HS2.out, HR.out.1.upd HS.out.2 (fun e => by have := HQ.out.2.1.2.2.2.2; omega), HS.out.1, HT.out.2.1.upd HS.out.2 HQ.out.2.2.2.2.1.1 HQ.out.2.2.2.2.1.2, HT.out.2.2.upd HS.out.2 HQ.out.2.2.2.2.2.1 HQ.out.2.2.2.2.2.2⟩)
          go_wp2
          go_meet
          case rel => exact ⟨ga, gb, X1, cx1, Y1, dy1, X3, cx3, Y3, dy3, rfl, rfl, FIN⟩
        · refine any_do rfl rfl (fun K hK => ?_)
          go_simp
          have HA30 := Lib.hid (And.intro (show Below W0.heap.size W0 (V27.alloc (.cells #[.slice none 0 0, .slice none 0 0] 25)) from (HC27.out.1).alloc (HC27.out.1).size _) (And.intro (Blk.new V27 25 #[.slice none 0 0, .slice none 0 0]) (show Below V27.heap.size V27 (V27.alloc (.cells #[.slice none 0 0, .slice none 0 0] 25)) from (Below.refl _ _).alloc (Nat.le_refl _) _)))
          refine hK _ _ (UP.out _ HA30.out.1).1 ?_
          clear hK K
          (try simp only [Act.put, List.getElem_toArray, List.getElem_cons_succ, List.getElem_cons_zero, List.setIfInBounds_toArray, List.set_cons_zero, List.set_cons_succ])
          generalize V27.alloc (.cells #[.slice none 0 0, .slice none 0 0] 25) = V30 at HA30 ⊢
          refine any_run hd (L := [3]) (by kernel_rfl) (by decide) (fun i hi hd2 => ?_)
          clear hd
          have hd := hd2
          clear hd2
          obtain rfl := List.mem_singleton.1 hi
          clear hi
          refine any_do rfl rfl (fun K hK => ?_)
          go_simp
          refine (HOW.out.2 V30 (HA30.out.1)).mono ?_
          rintro e V31 ⟨X3, cx3, Y3, dy3, rfl, g3, b31, ha3, hb3⟩
          have HC31 := Lib.hid (And.intro (show Below W0.heap.size W0 V31 from (HA30.out.1).trans (b31.mono (HA30.out.1).size)) (And.intro g3 (And.intro b31 (And.intro ha3 hb3))))
          clear g3 b31 ha3 hb3
          refine hK _ _ (UP.out _ HC31.out.1).1 ?_
          clear hK K
          (try simp only [Act.put, List.getElem_toArray, List.getElem_cons_succ, List.getElem_cons_zero, List.setIfInBounds_toArray, List.set_cons_zero, List.set_cons_succ])
          have k4 := (HA30.out.2.1).upd (Upd.of_below (HC31.out.2.2.1) (fun _ => False)) id
          have l4 : V27.heap.size < V31.heap.size := Nat.lt_of_lt_of_le (HA30.out.2.1).lt (HC31.out.2.2.1).size
          have k5 := (HA26.out.2.1).upd (Upd.of_below (((HC27.out.2.2.1).trans ((HA30.out.2.2).mono (HC27.out.2.2.1).size)).trans ((HC31.out.2.2.1).mono ((HC27.out.2.2.1).trans ((HA30.out.2.2).mono (HC27.out.2.2.1).size)).size)) (fun _ => False)) id
          have l5 : V0.heap.size < V31.heap.size := Nat.lt_of_lt_of_le (HA26.out.2.1).lt (((HC27.out.2.2.1).trans ((HA30.out.2.2).mono (HC27.out.2.2.1).size)).trans ((HC31.out.2.2.1).mono ((HC27.out.2.2.1).trans ((HA30.out.2.2).mono (HC27.out.2.2.1).size)).size)).size
          have g1 := HC27.out.2.1.below ((HA30.out.2.2).trans ((HC31.out.2.2.1).mono (HA30.out.2.2).size))
          have g3 := HC31.out.2.1.below (Below.refl V31.heap.size V31)
          have b0 := HC31.out.1
          have hne : V0.heap.size < V27.heap.size := Nat.lt_of_lt_of_le (HA26.out.2.1).lt (HC27.out.2.2.1).size
          have z4 : W0.heap.size ≤ V27.heap.size := (HC27.out.1).size
          have z5 : W0.heap.size ≤ V0.heap.size := (HB00.out).size
          have n14A : ∀ b o s, X1 = some ⟨b, o, s⟩ → b ≠ V27.heap.size := fun b o s e => by subst e; have h1 := ownN_blk HC27.out.2.1; have h2 := (Below.refl V27.heap.size V27).size; omega
          have n14B : ∀ b o s, Y1 = some ⟨b, o, s⟩ → b ≠ V27.heap.size := fun b o s e => by subst e; have h1 := ownE_blk HC27.out.2.1; have h2 := (Below.refl V27.heap.size V27).size; omega
          have n15A : ∀ b o s, X1 = some ⟨b, o, s⟩ → b ≠ V0.heap.size := fun b o s e => by have h1 := HC27.out.2.2.2.1 b o s e; have h2 := Nat.lt_of_lt_of_le (HA26.out.2.1).lt (Below.refl V26.heap.size V26).size; omega
          have n15B : ∀ b o s, Y1 = some ⟨b, o, s⟩ → b ≠ V0.heap.size := fun b o s e => by have h1 := HC27.out.2.2.2.2 b o s e; have h2 := Nat.lt_of_lt_of_le (HA26.out.2.1).lt (Below.refl V26.heap.size V26).size; omega
          have n34A : ∀ b o s, X3 = some ⟨b, o, s⟩ → b ≠ V27.heap.size := fun b o s e => by have h1 := HC31.out.2.2.2.1 b o s e; have h2 := Nat.lt_of_lt_of_le (HA30.out.2.1).lt (Below.refl V30.heap.size V30).size; omega
          have n34B : ∀ b o s, Y3 = some ⟨b, o, s⟩ → b ≠ V27.heap.size := fun b o s e => by have h1 := HC31.out.2.2.2.2 b o s e; have h2 := Nat.lt_of_lt_of_le (HA30.out.2.1).lt (Below.refl V30.heap.size V30).size; omega
          have n35A : ∀ b o s, X3 = some ⟨b, o, s⟩ → b ≠ V0.heap.size := fun b o s e => by have h1 := HC31.out.2.2.2.1 b o s e; have h2 := Nat.lt_of_lt_of_le (HA26.out.2.1).lt ((HC27.out.2.2.1).trans ((HA30.out.2.2).mono (HC27.out.2.2.1).size)).size; omega
          have n35B : ∀ b o s, Y3 = some ⟨b, o, s⟩ → b ≠ V0.heap.size := fun b o s e => by have h1 := HC31.out.2.2.2.2 b o s e; have h2 := Nat.lt_of_lt_of_le (HA26.out.2.1).lt ((HC27.out.2.2.1).trans ((HA30.out.2.2).mono (HC27.out.2.2.1).size)).size; omega
          obtain ⟨ga, hga⟩ : ∃ g, V27.heap.size = g := ⟨_, rfl⟩
          obtain ⟨gb, hgb⟩ : ∃ g, V0.heap.size = g := ⟨_, rfl⟩
          rw [hga] at k4 l4 hne z4 n14A n14B n34A n34B
          rw [hgb] at k5 l5 hne z5 n15A n15B n35A n35B
          rw [hga, hgb]
          have HQ := Lib.hid (And.intro (And.intro k4 (And.intro k5 (And.intro g1 (And.intro g3 b0)))) (And.intro (And.intro l4 (And.intro l5 (And.intro z4 (And.intro z5 hne)))) (And.intro (And.intro n14A n14B) (And.intro (And.intro n34A n34B) (And.intro (And.intro n15A n15B) (And.intro n35A n35B))))))
          clear k4 k5 g1 g3 b0 l4 l5 z4 z5 hne n14A n14B n34A n34B n15A n15B n35A n35B hga hgb
          refine any_run hd (L := [6]) (by kernel_rfl) (by decide) (fun i hi hd2 => ?_)
          clear hd
          have hd := hd2
          clear hd2
          obtain rfl := List.mem_singleton.1 hi
          clear hi
          have r0 : V31.cell? ⟨ga, 0, none⟩ = some (.slice none 0 0) := HQ.out.1.1.cell 0
          have r1 : V31.cell? ⟨ga, 1, none⟩ = some (.slice none 0 0) := HQ.out.1.1.cell 1
          have f0 := HQ.out.1.1.frozen 0
          have f1 := HQ.out.1.1.frozen 1
          have HR := Lib.hid (two_set V31 ga gb n m X1 cx1 Y1 dy1 HQ.out.1.1)
          have HR2 := Lib.hid (show Below W0.heap.size W0 ((V31.setCell ⟨ga, 0, none⟩ (.slice X1 n cx1)).setCell ⟨ga, 1, none⟩ (.slice Y1 m dy1)) from HQ.out.1.2.2.2.2.trans (HR.out.2.below (fun g _ e => by have := HQ.out.2.1.2.2.1; omega) HQ.out.1.2.2.2.2.size))
          refine any_do rfl rfl (fun K hK => ?_)
          go_simp
          refine hK _ _ (UP.out _ HR2.out).1 ?_
          clear hK K r0 r1 f0 f1
          (try simp only [Act.put, List.getElem_toArray, List.getElem_cons_succ, List.getElem_cons_zero, List.setIfInBounds_toArray, List.set_cons_zero, List.set_cons_succ])
          generalize ((V31.setCell ⟨ga, 0, none⟩ (.slice X1 n cx1)).setCell ⟨ga, 1, none⟩ (.slice Y1 m dy1)) = Va at HR HR2 ⊢
          have HT := Lib.hid (show Blk Va gb 25 #[.slice none 0 0, .slice none 0 0] ∧ OwnG Va X1 cx1 Y1 dy1 N E ∧ OwnG Va X3 cx3 Y3 dy3 N' E' from ⟨HQ.out.1.2.1.upd HR.out.2 (fun e => by have := HQ.out.2.1.2.2.2.2; omega), HQ.out.1.2.2.1.upd HR.out.2 HQ.out.2.2.1.1 HQ.out.2.2.1.2, HQ.out.1.2.2.2.1.upd HR.out.2 HQ.out.2.2.2.1.1 HQ.out.2.2.2.1.2⟩)
          refine any_run hd (L := [7]) (by kernel_rfl) (by decide) (fun i hi hd2 => ?_)
          clear hd
          have hd := hd2
          clear hd2
          obtain rfl := List.mem_singleton.1 hi
          clear hi
          have r0 : Va.cell? ⟨gb, 0, none⟩ = some (.slice none 0 0) := HT.out.1.cell 0
          have r1 : Va.cell? ⟨gb, 1, none⟩ = some (.slice none 0 0) := HT.out.1.cell 1
          have f0 := HT.out.1.frozen 0
          have f1 := HT.out.1.frozen 1
          have HS := Lib.hid (two_set Va gb ga n' m' X3 cx3 Y3 dy3 HT.out.1)
          have HS2 := Lib.hid (show Below W0.heap.size W0 ((Va.setCell ⟨gb, 0, none⟩ (.slice X3 n' cx3)).setCell ⟨gb, 1, none⟩ (.slice Y3 m' dy3)) from HR2.out.trans (HS.out.2.below (fun g _ e => by have := HQ.out.2.1.2.2.2.1; omega) HR2.out.size))
          refine any_do rfl rfl (fun K hK => ?_)
          go_simp
          refine hK _ _ (UP.out _ HS2.out).1 ?_
          clear hK K r0 r1 f0 f1
          (try simp only [Act.put, List.getElem_toArray, List.getElem_cons_succ, List.getElem_cons_zero, List.setIfInBounds_toArray, List.set_cons_zero, List.set_cons_succ])
          generalize ((Va.setCell ⟨gb, 0, none⟩ (.slice X3 n' cx3)).setCell ⟨gb, 1, none⟩ (.slice Y3 m' dy3)) = Vb at HS HS2 ⊢
          refine any_done (by kernel_rfl) ?_
          clear hd
          have FIN := Lib.hid (show Below W0.heap.size W0 Vb ∧ Blk Vb ga 25 #[.slice X1 n cx1, .slice Y1 m dy1] ∧ Blk Vb gb 25 #[.slice X3 n' cx3, .slice Y3 m' dy3] ∧ OwnG Vb X1 cx1 Y1 dy1 N E ∧ OwnG Vb X3 cx3 Y3 dy3 N' E' from ⟨HS2.out, HR.out.1.upd HS.out.2 (fun e => by have := HQ.out.2.1.2.2.2.2; omega), HS.out.1, HT.out.2.1.upd HS.out.2 HQ.out.2.2.2.2.1.1 HQ.out.2.2.2.2.1.2, HT.out.2.2.upd HS.out.2 HQ.out.2.2.2.2.2.1 HQ.out.2.2.2.2.2.2⟩)
          go_wp2
          go_meet
          case rel => exact ⟨ga, gb, X1, cx1, Y1, dy1, X3, cx3, Y3, dy3, rfl, rfl, FIN⟩
      · refine any_do rfl rfl (fun K hK => ?_)
        go_simp
        have HA32 := Lib.hid (And.intro (show Below W0.heap.size W0 (V26.alloc (.cells #[.slice none 0 0, .slice none 0 0] 25)) from (HA26.out.1).alloc (HA26.out.1).size _) (And.intro (Blk.new V26 25 #[.slice none 0 0, .slice none 0 0]) (show Below V26.heap.size V26 (V26.alloc (.cells #[.slice none 0 0, .slice none 0 0] 25)) from (Below.refl _ _).alloc (Nat.le_refl _) _)))
        refine hK _ _ (UP.out _ HA32.out.1).1 ?_
        clear hK K
        (try simp only [Act.put, List.getElem_toArray, List.getElem_cons_succ, List.getElem_cons_zero, List.setIfInBounds_toArray, List.set_cons_zero, List.set_cons_succ])
        generalize V26.alloc (.cells #[.slice none 0 0, .slice none 0 0] 25) = V32 at HA32 ⊢
        refine any_run hd (L := [1]) (by kernel_rfl) (by decide) (fun i hi hd2 => ?_)
        clear hd
        have hd := hd2
        clear hd2
        obtain rfl := List.mem_singleton.1 hi
        clear hi
        refine any_do rfl rfl (fun K hK => ?_)
        go_simp
        refine (HOW.out.1 V32 (HA32.out.1)).mono ?_
        rintro e V33 ⟨X1, cx1, Y1, dy1, rfl, g1, b33, ha1, hb1⟩
        have HC33 := Lib.hid (And.intro (show Below W0.heap.size W0 V33 from (HA32.out.1).trans (b33.mono (HA32.out.1).size)) (And.intro g1 (And.intro b33 (And.intro ha1 hb1))))
        clear g1 b33 ha1 hb1
        refine hK _ _ (UP.out _ HC33.out.1).1 ?_
        clear hK K
        (try simp only [Act.put, List.getElem_toArray, List.getElem_cons_succ, List.getElem_cons_zero, List.setIfInBounds_toArray, List.set_cons_zero, List.set_cons_succ])
        refine any_run hd (L := [3]) (by kernel_rfl) (by decide) (fun i hi hd2 => ?_)
        clear hd
        have hd := hd2
        clear hd2
        obtain rfl := List.mem_singleton.1 hi
        clear hi
        refine any_do rfl rfl (fun K hK => ?_)
        go_simp
        refine (HOW.out.2 V33 (HC33.out.1)).mono ?_
        rintro e V34 ⟨X3, cx3, Y3, dy3, rfl, g3, b34, ha3, hb3⟩
        have HC34 := Lib.hid (And.intro (show Below W0.heap.size W0 V34 from (HC33.out.1).trans (b34.mono (HC33.out.1).size)) (And.intro g3 (And.intro b34 (And.intro ha3 hb3))))
        clear g3 b34 ha3 hb3
        refine hK _ _ (UP.out _ HC34.out.1).1 ?_
        clear hK K
        (try simp only [Act.put, List.getElem_toArray, List.getElem_cons_succ, List.getElem_cons_zero, List.setIfInBounds_toArray, List.set_cons_zero, List.set_cons_succ])
        have k4 := (HA32.out.2.1).upd (Upd.of_below ((HC33.out.2.2.1).trans ((HC34.out.2.2.1).mono (HC33.out.2.2.1).size)) (fun _ => False)) id
        have l4 : V26.heap.size < V34.heap.size := Nat.lt_of_lt_of_le (HA32.out.2.1).lt ((HC33.out.2.2.1).trans ((HC34.out.2.2.1).mono (HC33.out.2.2.1).size)).size
        have k5 := (HA26.out.2.1).upd (Upd.of_below (((HA32.out.2.2).trans ((HC33.out.2.2.1).mono (HA32.out.2.2).size)).trans ((HC34.out.2.2.1).mono ((HA32.out.2.2).trans ((HC33.out.2.2.1).mono (HA32.out.2.2).size)).size)) (fun _ => False)) id
        have l5 : V0.heap.size < V34.heap.size := Nat.lt_of_lt_of_le (HA26.out.2.1).lt (((HA32.out.2.2).trans ((HC33.out.2.2.1).mono (HA32.out.2.2).size)).trans ((HC34.out.2.2.1).mono ((HA32.out.2.2).trans ((HC33.out.2.2.1).mono (HA32.out.2.2).size)).size)).size
        have g1 := HC33.out.2.1.below (HC34.out.2.2.1)
        have g3 := HC34.out.2.1.below (Below.refl V34.heap.size V34)
        have b0 := HC34.out.1
        have hne : V0.heap.size < V26.heap.size := Nat.lt_of_lt_of_le (HA26.out.2.1).lt (Below.refl V26.heap.size V26).size
        have z4 : W0.heap.size ≤ V26.heap.size := (HA26.out.1).size
        have z5 : W0.heap.size ≤ V0.heap.size := (HB00.out).size
        have n14A : ∀ b o s, X1 = some ⟨b, o, s⟩ → b ≠ V26.heap.size := fun b o s e => by have h1 := HC33.out.2.2.2.1 b o s e; have h2 := Nat.lt_of_lt_of_le (HA32.out.2.1).lt (Below.refl V32.heap.size V32).size; omega
        have n14B : ∀ b o s, Y1 = some ⟨b, o, s⟩ → b ≠ V26.heap.size := fun b o s e => by have h1 := HC33.out.2.2.2.2 b o s e; have h2 := Nat.lt_of_lt_of_le (HA32.out.2.1).lt (Below.refl V32.heap.size V32).size; omega
        have n15A : ∀ b o s, X1 = some ⟨b, o, s⟩ → b ≠ V0.heap.size := fun b o s e => by have h1 := HC33.out.2.2.2.1 b o s e; have h2 := Nat.lt_of_lt_of_le (HA26.out.2.1).lt (HA32.out.2.2).size; omega
        have n15B : ∀ b o s, Y1 = some ⟨b, o, s⟩ → b ≠ V0.heap.size := fun b o s e => by have h1 := HC33.out.2.2.2.2 b o s e; have h2 := Nat.lt_of_lt_of_le (HA26.out.2.1).lt (HA32.out.2.2).size; omega
        have n34A : ∀ b o s, X3 = some ⟨b, o, s⟩ → b ≠ V26.heap.size := fun b o s e => by have h1 := HC34.out.2.2.2.1 b o s e; have h2 := Nat.lt_of_lt_of_le (HA32.out.2.1).lt (HC33.out.2.2.1).size; omega
        have n34B : ∀ b o s, Y3 = some ⟨b, o, s⟩ → b ≠ V26.heap.size := fun b o s e => by have h1 := HC34.out.2.2.2.2 b o s e; have h2 := Nat.lt_of_lt_of_le (HA32.out.2.1).lt (HC33.out.2.2.1).size; omega
        have n35A : ∀ b o s, X3 = some ⟨b, o, s⟩ → b ≠ V0.heap.size := fun b o s e => by have h1 := HC34.out.2.2.2.1 b o s e; have h2 := Nat.lt_of_lt_of_le (HA26.out.2.1).lt ((HA32.out.2.2).trans ((HC33.out.2.2.1).mono (HA32.out.2.2).size)).size; omega
        have n35B : ∀ b o s, Y3 = some ⟨b, o, s⟩ → b ≠ V0.heap.size := fun b o s e => by have h1 := HC34.out.2.2.2.2 b o s e; have h2 := Nat.lt_of_lt_of_le (HA26.out.2.1).lt ((HA32.out.2.2).trans ((HC33.out.2.2.1).mono (HA32.out.2.2).size)).size; omega
        obtain ⟨ga, hga⟩ : ∃ g, V26.heap.size = g := ⟨_, rfl⟩
        obtain ⟨gb, hgb⟩ : ∃ g, V0.heap.size = g := ⟨_, rfl⟩
        rw [hga] at k4 l4 hne z4 n14A n14B n34A n34B
        rw [hgb] at k5 l5 hne z5 n15A n15B n35A n35B
        rw [hga, hgb]
        have HQ := Lib.hid (And.intro (And.intro k4 (And.intro k5 (And.intro g1 (And.intro g3 b0)))) (And.intro (And.intro l4 (And.intro l5 (And.intro z4 (And.intro z5 hne)))) (And.intro (And.intro n14A n14B) (And.intro (And.intro n34A n34B) (And.intro (And.intro n15A n15B) (And.intro n35A n35B))))))
        clear k4 k5 g1 g3 b0 l4 l5 z4 z5 hne n14A n14B n34A n34B n15A n15B n35A n35B hga hgb
        refine any_run hd (L := [6]) (by kernel_rfl) (by decide) (fun i hi hd2 => ?_)
        clear hd
        have hd := hd2
        clear hd2
        obtain rfl := List.mem_singleton.1 hi
        clear hi
        have r0 : V34.cell? ⟨ga, 0, none⟩ = some (.slice none 0 0) := HQ.out.1.1.cell 0
        have r1 : V34.cell? ⟨ga, 1, none⟩ = some (.slice none 0 0) := HQ.out.1.1.cell 1
        have f0 := HQ.out.1.1.frozen 0
        have f1 := HQ.out.1.1.frozen 1
        have HR := Lib.hid (two_set V34 ga gb n m X1 cx1 Y1 dy1 HQ.out.1.1)
        have HR2 := Lib.hid (show Below W0.heap.size W0 ((V34.setCell ⟨ga, 0, none⟩ (.slice X1 n cx1)).setCell ⟨ga, 1, none⟩ (.slice Y1 m dy1)) from HQ.out.1.2.2.2.2.trans (HR.out.2.below (fun g _ e => by have := HQ.out.2.1.2.2.1; omega) HQ.out.1.2.2.2.2.size))
        refine any_do rfl rfl (fun K hK => ?_)
        go_simp
        refine hK _ _ (UP.out _ HR2.out).1 ?_
        clear hK K r0 r1 f0 f1
        (try simp only [Act.put, List.getElem_toArray, List.getElem_cons_succ, List.getElem_cons_zero, List.setIfInBounds_toArray, List.set_cons_zero, List.set_cons_succ])
        generalize ((V34.setCell ⟨ga, 0, none⟩ (.slice X1 n cx1)).setCell ⟨ga, 1, none⟩ (.slice Y1 m dy1)) = Va at HR HR2 ⊢
        have HT := Lib.hid (show Blk Va gb 25 #[.slice none 0 0, .slice none 0 0] ∧ OwnG Va X1 cx1 Y1 dy1 N E ∧ OwnG Va X3 cx3 Y3 dy3 N' E' from ⟨HQ.out.1.2.1.upd HR.out.2 (fun e => by have := HQ.out.2.1.2.2.2.2; omega), HQ.out.1.2.2.1.upd HR.out.2 HQ.out.2.2.1.1 HQ.out.2.2.1.2, HQ.out.1.2.2.2.1.upd HR.out.2 HQ.out.2.2.2.1.1 HQ.out.2.2.2.1.2⟩)
        refine any_run hd (L := [7]) (by kernel_rfl) (by decide) (fun i hi hd2 => ?_)
        clear hd
        have hd := hd2
        clear hd2
        obtain rfl := List.mem_singleton.1 hi
        clear hi
        have r0 : Va.cell? ⟨gb, 0, none⟩ = some (.slice none 0 0) := HT.out.1.cell 0
        have r1 : Va.cell? ⟨gb, 1, none⟩ = some (.slice none 0 0) := HT.out.1.cell 1
        have f0 := HT.out.1.frozen 0
        have f1 := HT.out.1.frozen 1
        have HS := Lib.hid (two_set Va gb ga n' m' X3 cx3 Y3 dy3 HT.out.1)
        have HS2 := Lib.hid (show Below W0.heap.size W0 ((Va.setCell ⟨gb, 0, none⟩ (.slice X3 n' cx3)).setCell ⟨gb, 1, none⟩ (.slice Y3 m' dy3)) from HR2.out.trans (HS.out.2.below (fun g _ e => by have := HQ.out.2.1.2.2.2.1; omega) HR2.out.size))
        refine any_do rfl rfl (fun K hK => ?_)
        go_simp
        refine hK _ _ (UP.out _ HS2.out).1 ?_
        clear hK K r0 r1 f0 f1
        (try simp only [Act.put, List.getElem_toArray, List.getElem_cons_succ, List.getElem_cons_zero, List.setIfInBounds_toArray, List.set_cons_zero, List.set_cons_succ])
        generalize ((Va.setCell ⟨gb, 0, none⟩ (.slice X3 n' cx3)).setCell ⟨gb, 1, none⟩ (.slice Y3 m' dy3)) = Vb at HS HS2 ⊢
        refine any_done (by kernel_rfl) ?_
        clear hd
        have FIN := Lib.hid (show Below W0.heap.size W0 Vb ∧ Blk Vb ga 25 #[.slice X1 n cx1, .slice Y1 m dy1] ∧ Blk Vb gb 25 #[.slice X3 n' cx3, .slice Y3 m' dy3] ∧ OwnG Vb X1 cx1 Y1 dy1 N E ∧ OwnG Vb X3 cx3 Y3 dy3 N' E' from ⟨HS2.out, HR.out.1.upd HS.out.2 (fun e => by have := HQ.out.2.1.2.2.2.2; omega), HS.out.1, HT.out.2.1.upd HS.out.2 HQ.out.2.2.2.2.1.1 HQ.out.2.2.2.2.1.2, HT.out.2.2.upd HS.out.2 HQ.out.2.2.2.2.2.1 HQ.out.2.2.2.2.2.2⟩)
        go_wp2
        go_meet
        case rel => exact ⟨ga, gb, X1, cx1, Y1, dy1, X3, cx3, Y3, dy3, rfl, rfl, FIN⟩
  case rest =>
    obtain ⟨g5, g6, X1, cx1, Y1, dy1, X3, cx3, Y3, dy3, rfl, rfl, hC⟩ := hcut
    obtain ⟨W3, hW3⟩ : ∃ W, W = wc := ⟨_, rfl⟩
    subst hW3
    have fA := (UP.out _ hC.out.1).2.1.fit
    have fB := (UP.out _ hC.out.1).2.2.1.fit
    have KK := Lib.hid (show ∀ V, Below W3.heap.size W3 V → (V.cell? ⟨w.heap.size, 0, none⟩ = some (.slice A n c) ∧ V.cell? ⟨w.heap.size, 1, none⟩ = some (.slice B m d) ∧ V.cell? ⟨w.heap.size + 1, 0, none⟩ = some (.slice A' n' c') ∧ V.cell? ⟨w.heap.size + 1, 1, none⟩ = some (.slice B' m' d')) ∧ (V.cell? ⟨g5, 0, none⟩ = some (.slice X1 n cx1) ∧ V.cell? ⟨g5, 1, none⟩ = some (.slice Y1 m dy1) ∧ V.cell? ⟨g6, 0, none⟩ = some (.slice X3 n' cx3) ∧ V.cell? ⟨g6, 1, none⟩ = some (.slice Y3 m' dy3)) ∧ (OwnG V X1 cx1 Y1 dy1 N E ∧ OwnG V X3 cx3 Y3 dy3 N' E') ∧ (ForG V X1 cx1 Y1 dy1 N E ∧ ForG V X3 cx3 Y3 dy3 N' E') ∧ (ForG V A c B d N E ∧ ForG V A' c' B' d' N' E') ∧ Below w.heap.size w V from fun V hb => by
      have b0 := hC.out.1.trans (hb.mono hC.out.1.size)
      have u := Upd.of_below hb (fun _ => False)
      have k5 := hC.out.2.1.upd u id
      have k6 := hC.out.2.2.1.upd u id
      have o1 := hC.out.2.2.2.1.below hb
      have o2 := hC.out.2.2.2.2.below hb
      have up := UP.out _ b0
      exact ⟨up.1, ⟨k5.cell 0, k5.cell 1, k6.cell 0, k6.cell 1⟩, ⟨o1, o2⟩, ⟨o1.forG fA, o2.forG fB⟩, ⟨up.2.1, up.2.2.1⟩, up.2.2.2⟩)
    clear hC
    obtain ⟨zA, hzA⟩ : ∃ z, checkI N E = z := ⟨_, rfl⟩
    obtain ⟨t, ht⟩ : ∃ z, printT N E = z := ⟨_, rfl⟩
    obtain ⟨v, hv⟩ : ∃ z, sameB N E N' E' = z := ⟨_, rfl⟩
    obtain ⟨P, hP⟩ : ∃ z, labO N E = z := ⟨_, rfl⟩
    obtain ⟨Q, hQ⟩ : ∃ z, lonO N E = z := ⟨_, rfl⟩
    obtain ⟨p, hp⟩ : ∃ z, P.length = z := ⟨_, rfl⟩
    obtain ⟨q, hq⟩ : ∃ z, Q.length = z := ⟨_, rfl⟩
    obtain ⟨X, hX⟩ : ∃ z, joinN N E N' E' = z := ⟨_, rfl⟩
    obtain ⟨Y, hY⟩ : ∃ z, joinE N E N' E' = z := ⟨_, rfl⟩
    obtain ⟨zJ, hzJ⟩ : ∃ z, joinI N E N' E' = z := ⟨_, rfl⟩
    obtain ⟨x, hx⟩ : ∃ z, X.length = z := ⟨_, rfl⟩
    obtain ⟨y, hy⟩ : ∃ z, Y.length = z := ⟨_, rfl⟩
    have hfit : FitG X Y := by rw [← hX, ← hY]; exact joinF N E N' E'
    have hx47 : x ≤ 140737488355328 := by have := hfit.n; omega
    have hy47 : y ≤ 140737488355328 := by have := hfit.e; omega
    have hp2 : p ≤ m := by
      rw [← hp, ← hP, ← HL.out.2.1]
      unfold labO
      split
      · have := setOf_len stoT (lbs E)
        rwa [lbs_len] at this
      · simp
    have hq2 : q ≤ n := by
      rw [← hq, ← hQ, ← HL.out.1]
      unfold lonO
      split
      · exact loneL_len N E
      · simp
    have pX : ∀ V A c B d, ForG V A c B d N E → Calls Tryz.prog 21 #[.agg #[.slice A n c, .slice B m d]] V (Sam V (.tuple #[.string t, .int .i64 zA])) := fun V A c B d g => by
      have := print_any V A c B d N E g
      unfold twoV at this
      rw [HL.out.1, HL.out.2.1, ht, hzA] at this
      exact this
    have pA : ∀ V A c B d, ForG V A c B d N E → Calls Tryz.prog 22 #[.agg #[.slice A n c, .slice B m d]] V (Sam V (.tuple #[.string t, .int .i64 zA])) := fun V A c B d g => by
      have := refPrint_any V A c B d N E g
      unfold twoV at this
      rw [HL.out.1, HL.out.2.1, ht, hzA] at this
      exact this
    have kX : ∀ V A c B d, ForG V A c B d N E → Calls Tryz.prog 18 #[.agg #[.slice A n c, .slice B m d]] V (Sam V (.int .i64 zA)) := fun V A c B d g => by
      have := echeck_any V A c B d N E g
      unfold twoV at this
      rw [HL.out.1, HL.out.2.1, hzA] at this
      exact this
    have kA : ∀ V A c B d, ForG V A c B d N E → Calls Tryz.prog 23 #[.agg #[.slice A n c, .slice B m d]] V (Sam V (.int .i64 zA)) := fun V A c B d g => by
      have := refCheck_any V A c B d N E g
      unfold twoV at this
      rw [HL.out.1, HL.out.2.1, hzA] at this
      exact this
    have sX : ∀ V A c B d A' c' B' d', ForG V A c B d N E → ForG V A' c' B' d' N' E' → Calls Tryz.prog 19 #[.agg #[.slice A n c, .slice B m d], .agg #[.slice A' n' c', .slice B' m' d']] V (Sam V (.bool v)) := fun V A c B d A' c' B' d' g g' => by
      have := esame_any V A c B d N E A' c' B' d' N' E' g g'
      unfold twoV at this
      rw [HL.out.1, HL.out.2.1, HL.out.2.2.1, HL.out.2.2.2, hv] at this
      exact this
    have sA : ∀ V A c B d A' c' B' d', ForG V A c B d N E → ForG V A' c' B' d' N' E' → Calls Tryz.prog 11 #[.agg #[.slice A n c, .slice B m d], .agg #[.slice A' n' c', .slice B' m' d']] V (Sam V (.bool v)) := fun V A c B d A' c' B' d' g g' => by
      have := refSame_any V A c B d N E A' c' B' d' N' E' g g'
      unfold twoV at this
      rw [HL.out.1, HL.out.2.1, HL.out.2.2.1, HL.out.2.2.2, hv] at this
      exact this
    have lX : ∀ V A c B d, ForG V A c B d N E → Calls Tryz.prog 24 #[.agg #[.slice A n c, .slice B m d]] V (fun e w' => ∃ A c, e = .returned (.tuple #[.slice A p c, .int .i64 zA]) ∧ w'.ownsRow V.heap.size 9 1 (.slice A p c) p (txtCells P) ∧ Below V.heap.size V w') := fun V A c B d g => by
      have := elabels_any V A c B d N E g
      unfold twoV LabP at this
      rw [HL.out.1, HL.out.2.1, hP, hp, hzA] at this
      exact this
    have oX : ∀ V A c B d, ForG V A c B d N E → Calls Tryz.prog 25 #[.agg #[.slice A n c, .slice B m d]] V (fun e w' => ∃ A c, e = .returned (.tuple #[.slice A q c, .int .i64 zA]) ∧ w'.ownsRow V.heap.size 9 1 (.slice A q c) q (txtCells Q) ∧ Below V.heap.size V w') := fun V A c B d g => by
      have := elone_any V A c B d N E g
      unfold twoV LabP at this
      rw [HL.out.1, HL.out.2.1, hQ, hq, hzA] at this
      exact this
    have rA : ∀ V A c B d, ForG V A c B d N E → Calls Tryz.prog 26 #[.agg #[.slice A n c, .slice B m d]] V (fun e w' => ∃ A c B d, e = .returned (.tuple #[.slice A p c, .slice B q d, .int .i64 zA]) ∧ w'.ownsRow V.heap.size 9 1 (.slice A p c) p (txtCells P) ∧ w'.ownsRow V.heap.size 9 1 (.slice B q d) q (txtCells Q) ∧ Below V.heap.size V w') := fun V A c B d g => by
      have := refParts_any V A c B d N E g
      unfold twoV PartsP at this
      rw [HL.out.1, HL.out.2.1, hP, hQ, hp, hq, hzA] at this
      exact this
    have tP : ∀ V A c B d, RowR V A (txtCells P) → RowR V B (txtCells P) → p ≤ c → p ≤ d → Calls Tryz.prog 27 #[.slice A p c, .slice B p d] V (Sam V (.bool true)) := fun V A c B d a b h1 h2 => by
      have := refSameTexts_any V A c B d P P a b (by rw [hp]; exact h1) (by rw [hp]; exact h2) (by rw [hp]; omega) (by rw [hp]; omega)
      rw [hp, decide_eq_true (rfl : P = P)] at this
      exact this
    have tQ : ∀ V A c B d, RowR V A (txtCells Q) → RowR V B (txtCells Q) → q ≤ c → q ≤ d → Calls Tryz.prog 27 #[.slice A q c, .slice B q d] V (Sam V (.bool true)) := fun V A c B d a b h1 h2 => by
      have := refSameTexts_any V A c B d Q Q a b (by rw [hq]; exact h1) (by rw [hq]; exact h2) (by rw [hq]; omega) (by rw [hq]; omega)
      rw [hq, decide_eq_true (rfl : Q = Q)] at this
      exact this
    have jX : ∀ V A c B d A' c' B' d', ForG V A c B d N E → ForG V A' c' B' d' N' E' → Calls Tryz.prog 20 #[.agg #[.slice A n c, .slice B m d], .agg #[.slice A' n' c', .slice B' m' d']] V (fun e w' => ∃ A c B d, e = .returned (.tuple #[.agg #[.slice A x c, .slice B y d], .int .i64 zJ]) ∧ w'.ownsRow V.heap.size 9 1 (.slice A x c) x (txtCells X) ∧ w'.ownsRow V.heap.size 39 3 (.slice B y d) y (edCells Y) ∧ Below V.heap.size V w') := fun V A c B d A' c' B' d' g g' => by
      have := join_any V A c B d N E A' c' B' d' N' E' g g'
      unfold twoV JoinP twoV at this
      rw [HL.out.1, HL.out.2.1, HL.out.2.2.1, HL.out.2.2.2, hX, hY, hzJ, hx, hy] at this
      exact this
    have jA : ∀ V A c B d A' c' B' d', ForG V A c B d N E → ForG V A' c' B' d' N' E' → Calls Tryz.prog 28 #[.agg #[.slice A n c, .slice B m d], .agg #[.slice A' n' c', .slice B' m' d']] V (fun e w' => ∃ A c B d, e = .returned (.tuple #[.agg #[.slice A x c, .slice B y d], .int .i64 zJ]) ∧ w'.ownsRow V.heap.size 9 1 (.slice A x c) x (txtCells X) ∧ w'.ownsRow V.heap.size 39 3 (.slice B y d) y (edCells Y) ∧ Below V.heap.size V w') := fun V A c B d A' c' B' d' g g' => by
      have := refJoin_any V A c B d N E A' c' B' d' N' E' g g'
      unfold twoV JoinP twoV at this
      rw [HL.out.1, HL.out.2.1, HL.out.2.2.1, HL.out.2.2.2, hX, hY, hzJ, hx, hy] at this
      exact this
    have sJ : ∀ V A c B d A' c' B' d', ForG V A c B d X Y → ForG V A' c' B' d' X Y → Calls Tryz.prog 11 #[.agg #[.slice A x c, .slice B y d], .agg #[.slice A' x c', .slice B' y d']] V (Sam V (.bool true)) := fun V A c B d A' c' B' d' g g' => by
      have := refSame_any V A c B d X Y A' c' B' d' X Y g g'
      unfold twoV at this
      rw [hx, hy, show sameB X Y X Y = true by simp [sameB]] at this
      exact this
    have yA : ∀ V A c B d A' c' B' d', OwnG V A c B d N E → ForG V A' c' B' d' N E → Calls Tryz.prog 17 #[.agg #[.slice A n c, .slice B m d], .agg #[.slice A' n c', .slice B' m d']] V (Sam V (.bool true)) := fun V A c B d A' c' B' d' g g' => by
      have := kept_any V A c B d N E A' c' B' d' g g'
      unfold twoV at this
      rw [HL.out.1, HL.out.2.1] at this
      exact this
    have yB : ∀ V A c B d A' c' B' d', OwnG V A c B d N' E' → ForG V A' c' B' d' N' E' → Calls Tryz.prog 17 #[.agg #[.slice A n' c, .slice B m' d], .agg #[.slice A' n' c', .slice B' m' d']] V (Sam V (.bool true)) := fun V A c B d A' c' B' d' g g' => by
      have := kept_any V A c B d N' E' A' c' B' d' g g'
      unfold twoV at this
      rw [HL.out.2.2.1, HL.out.2.2.2] at this
      exact this
    have PX := Lib.hid pX
    have PA := Lib.hid pA
    have KX := Lib.hid kX
    have KA := Lib.hid kA
    have SX := Lib.hid sX
    have SA := Lib.hid sA
    have LX := Lib.hid lX
    have OX := Lib.hid oX
    have RA := Lib.hid rA
    have TP := Lib.hid tP
    have TQ := Lib.hid tQ
    have JX := Lib.hid jX
    have JA := Lib.hid jA
    have SJ := Lib.hid sJ
    have YA := Lib.hid yA
    have YB := Lib.hid yB
    have HXY := Lib.hid (And.intro hx (And.intro hy hfit))
    have hq47 : q ≤ 2000 := by omega
    have hp47 : p ≤ 2000 := by omega
    clear pX pA kX kA sX sA lX oX rA tP tQ jX jA sJ yA yB hzA ht hv hP hQ hp hq hX hY hzJ hx hy hfit hp2 hq2 fA fB HOW
    -- Print
    obtain ⟨-, ⟨q0, q1, -, -⟩, -⟩ := KK.out W3 (Below.refl _ _)
    go_wp2_with fail
    refine (PX.out W3 X1 cx1 Y1 dy1 (KK.out W3 (Below.refl _ _)).2.2.2.1.1).mono ?_
    rintro e W4 ⟨rfl, b4⟩
    have HB4 := Lib.hid b4
    clear q0 q1 b4
    obtain ⟨⟨q0, q1, -, -⟩, -, -⟩ := KK.out W4 HB4.out
    go_wp2_with fail
    refine (PA.out W4 A c B d (KK.out W4 HB4.out).2.2.2.2.1.1).mono ?_
    rintro e W5 ⟨rfl, b5⟩
    have HB5 := Lib.hid (HB4.out.trans (b5.mono HB4.out.size))
    clear q0 q1 b5
    -- Check, Same
    go_upto_region 6 with (fail)
    go_cut [73] from 19 (fun s73 wc => s73 = .bool false ∧ Hid (Below W3.heap.size W3 wc))
    case first =>
      have KS := Lib.hid (show ∀ V, Below W3.heap.size W3 V → (V.cell? ⟨w.heap.size, 0, none⟩ = some (.slice A n c) ∧ V.cell? ⟨w.heap.size, 1, none⟩ = some (.slice B m d) ∧ V.cell? ⟨w.heap.size + 1, 0, none⟩ = some (.slice A' n' c') ∧ V.cell? ⟨w.heap.size + 1, 1, none⟩ = some (.slice B' m' d')) ∧ (V.cell? ⟨g5, 0, none⟩ = some (.slice X1 n cx1) ∧ V.cell? ⟨g5, 1, none⟩ = some (.slice Y1 m dy1) ∧ V.cell? ⟨g6, 0, none⟩ = some (.slice X3 n' cx3) ∧ V.cell? ⟨g6, 1, none⟩ = some (.slice Y3 m' dy3)) from fun V hb => ⟨(KK.out V hb).1, (KK.out V hb).2.1⟩)
      have HBd := Lib.hid (show Below W3.heap.size W3 W5.drew from HB5.out.drew)
      have hS := KS.out _ HBd.out
      have tb := txt_beq_self t
      refine wp_region_ord (fun V => (V.cell? ⟨w.heap.size, 0, none⟩ = some (.slice A n c) ∧ V.cell? ⟨w.heap.size, 1, none⟩ = some (.slice B m d) ∧ V.cell? ⟨w.heap.size + 1, 0, none⟩ = some (.slice A' n' c') ∧ V.cell? ⟨w.heap.size + 1, 1, none⟩ = some (.slice B' m' d')) ∧ (V.cell? ⟨g5, 0, none⟩ = some (.slice X1 n cx1) ∧ V.cell? ⟨g5, 1, none⟩ = some (.slice Y1 m dy1) ∧ V.cell? ⟨g6, 0, none⟩ = some (.slice X3 n' cx3) ∧ V.cell? ⟨g6, 1, none⟩ = some (.slice Y3 m' dy3))) 24 [(0, true), (2, true), (1, false), (3, false), (4, true), (5, true), (6, true), (7, true), (8, true), (9, true), (10, true), (11, true), (12, true), (13, true), (14, true), (15, true), (16, true), (17, true), (19, true), (20, true), (18, false), (21, false), (22, true), (23, true)] (by kernel_rfl) (by kernel_rfl) (fun _ _ d _ _ h => by cases d <;> exact h) hS ?_
      iterate 2 (refine ord_take (v := ?_) rfl (by first | with_reducible rfl | kernel_rfl) ?_ ?_; rotate_left; (focus (intro wS hS; (try dsimp only at hS); go_split_ands; go_simp; (try with_reducible rfl); done)); (try simp only [Act.put, List.getElem_toArray, List.getElem_cons_succ, List.getElem_cons_zero, List.setIfInBounds_toArray, List.set_cons_zero, List.set_cons_succ]))
      refine ord_do rfl rfl (fun K hK => ?_)
      go_simp
      refine (KX.out W5.drew X1 cx1 Y1 dy1 (KK.out _ HBd.out).2.2.2.1.1).mono ?_
      rintro e W6 ⟨rfl, b6⟩
      have HB6 := Lib.hid (HBd.out.trans (b6.mono HBd.out.size))
      refine hK _ _ (fun _ => KS.out _ HB6.out) ?_
      clear hK b6 hS
      (try simp only [Act.put, List.getElem_toArray, List.getElem_cons_succ, List.getElem_cons_zero, List.setIfInBounds_toArray, List.set_cons_zero, List.set_cons_succ])
      have hS := KS.out _ HB6.out
      refine ord_do rfl rfl (fun K hK => ?_)
      go_simp
      refine (KA.out W6 A c B d (KK.out _ HB6.out).2.2.2.2.1.1).mono ?_
      rintro e W7 ⟨rfl, b7⟩
      have HB7 := Lib.hid (HB6.out.trans (b7.mono HB6.out.size))
      refine hK _ _ (fun _ => KS.out _ HB7.out) ?_
      clear hK b7 hS
      (try simp only [Act.put, List.getElem_toArray, List.getElem_cons_succ, List.getElem_cons_zero, List.setIfInBounds_toArray, List.set_cons_zero, List.set_cons_succ])
      iterate 16 (refine ord_take (v := ?_) rfl (by first | with_reducible rfl | kernel_rfl) ?_ ?_; rotate_left; (focus (intro wS hS; (try dsimp only at hS); go_split_ands; go_simp; (try with_reducible rfl); done)); (try simp only [Act.put, List.getElem_toArray, List.getElem_cons_succ, List.getElem_cons_zero, List.setIfInBounds_toArray, List.set_cons_zero, List.set_cons_succ]))
      (refine ord_dog rfl (by first | with_reducible rfl | kernel_rfl) (fun K hK => ?_); go_simp)
      refine (SX.out W7 X1 cx1 Y1 dy1 X3 cx3 Y3 dy3 (KK.out _ HB7.out).2.2.2.1.1 (KK.out _ HB7.out).2.2.2.1.2).mono ?_
      rintro e W8 ⟨rfl, b8⟩
      have HB8 := Lib.hid (HB7.out.trans (b8.mono HB7.out.size))
      refine hK _ _ (fun _ => KS.out _ HB8.out) ?_
      clear hK K b8
      (try simp only [Act.put, List.getElem_toArray, List.getElem_cons_succ, List.getElem_cons_zero, List.setIfInBounds_toArray, List.set_cons_zero, List.set_cons_succ])
      (refine ord_dog rfl (by first | with_reducible rfl | kernel_rfl) (fun K hK => ?_); go_simp)
      refine (SA.out W8 A c B d A' c' B' d' (KK.out _ HB8.out).2.2.2.2.1.1 (KK.out _ HB8.out).2.2.2.2.1.2).mono ?_
      rintro e W9 ⟨rfl, b9⟩
      have HB9 := Lib.hid (HB8.out.trans (b9.mono HB8.out.size))
      refine hK _ _ (fun _ => KS.out _ HB9.out) ?_
      clear hK K b9
      (try simp only [Act.put, List.getElem_toArray, List.getElem_cons_succ, List.getElem_cons_zero, List.setIfInBounds_toArray, List.set_cons_zero, List.set_cons_succ])
      cases v with
      | false =>
        iterate 2 (refine ord_take (v := ?_) rfl (by first | with_reducible rfl | kernel_rfl) ?_ ?_; rotate_left; (focus (intro wS hS; (try dsimp only at hS); go_split_ands; go_simp; (try with_reducible rfl); done)); (try simp only [Act.put, List.getElem_toArray, List.getElem_cons_succ, List.getElem_cons_zero, List.setIfInBounds_toArray, List.set_cons_zero, List.set_cons_succ]))
        refine ord_done ?_
        go_wp2
        go_meet
        case rel => exact ⟨rfl, HB9⟩
      | true =>
        iterate 2 (refine ord_take (v := ?_) rfl (by first | with_reducible rfl | kernel_rfl) ?_ ?_; rotate_left; (focus (intro wS hS; (try dsimp only at hS); go_split_ands; go_simp; (try with_reducible rfl); done)); (try simp only [Act.put, List.getElem_toArray, List.getElem_cons_succ, List.getElem_cons_zero, List.setIfInBounds_toArray, List.set_cons_zero, List.set_cons_succ]))
        refine ord_done ?_
        go_wp2
        go_meet
        case rel => exact ⟨rfl, HB9⟩
    case rest =>
      obtain ⟨rfl, hB⟩ := hcut
      obtain ⟨W9, hW9⟩ : ∃ W, W = wc := ⟨_, rfl⟩
      subst hW9
      clear PX PA KX KA SX SA HB4 HB5
      -- Labels, Lone, Parts
      obtain ⟨-, ⟨q0, q1, -, -⟩, -⟩ := KK.out W9 hB.out
      go_wp2_with fail
      refine (LX.out W9 X1 cx1 Y1 dy1 (KK.out W9 hB.out).2.2.2.1.1).mono ?_
      rintro e W10 ⟨AL, cL, rfl, oL, b10⟩
      have H10 := Lib.hid (And.intro (hB.out.trans (b10.mono hB.out.size)) oL)
      clear q0 q1 b10 oL
      obtain ⟨-, ⟨q0, q1, -, -⟩, -⟩ := KK.out W10 H10.out.1
      have hz3 : W3.heap.size ≤ W10.heap.size := H10.out.1.size
      go_wp2_with fail
      refine (OX.out W10 X1 cx1 Y1 dy1 (KK.out W10 H10.out.1).2.2.2.1.1).mono ?_
      rintro e W11 ⟨AO, cO, rfl, oO, b11⟩
      have H11 := Lib.hid (And.intro (H10.out.1.trans (b11.mono H10.out.1.size)) (And.intro oO (ownsRow_upd H10.out.2 (Upd.of_below b11 (fun _ => False)) (fun _ _ h => h))))
      have hAO : ∀ g, (Value.slice AO q cO).ownBlock = some g → W10.heap.size ≤ g ∧ g < W11.heap.size := fun g hg => oO.lt g hg
      have HAO := Lib.hid hAO
      clear q0 q1 b11 oO hAO
      obtain ⟨⟨q0, q1, -, -⟩, -, -⟩ := KK.out W11 H11.out.1
      go_wp2_with fail
      refine (RA.out W11 A c B d (KK.out W11 H11.out.1).2.2.2.2.1.1).mono ?_
      rintro e W12 ⟨AR, cR, BR, dR, rfl, oR, oR2, b12⟩
      have u12 := Upd.of_below b12 (fun _ => False)
      have z12 : W11.heap.size ≤ W12.heap.size := b12.size
      have H12 := Lib.hid (And.intro (H11.out.1.trans (b12.mono H11.out.1.size)) (And.intro (ownsRow_upd H11.out.2.1 u12 (fun _ _ h => h)) (And.intro (ownsRow_upd H11.out.2.2 u12 (fun _ _ h => h)) (And.intro oR oR2))))
      clear q0 q1 b12 oR oR2 u12
      go_wp2_with fail
      refine (TP.out W12 AL cL AR cR (RowR.of_own H12.out.2.2.1) (RowR.of_own H12.out.2.2.2.1) (own_le H12.out.2.2.1) (own_le H12.out.2.2.2.1)).mono ?_
      rintro e W13 ⟨rfl, b13⟩
      have u13 := Upd.of_below b13 (fun _ => False)
      have z13 : W12.heap.size ≤ W13.heap.size := b13.size
      have H13 := Lib.hid (And.intro (H12.out.1.trans (b13.mono H12.out.1.size)) (And.intro (ownsRow_upd H12.out.2.1 u13 (fun _ _ h => h)) (ownsRow_upd H12.out.2.2.2.2 u13 (fun _ _ h => h))))
      clear b13 u13
      go_wp2_with fail
      refine (TQ.out W13 AO cO BR dR (RowR.of_own H13.out.2.1) (RowR.of_own H13.out.2.2) (own_le H13.out.2.1) (own_le H13.out.2.2)).mono ?_
      rintro e W14 ⟨rfl, b14⟩
      have z14 : W13.heap.size ≤ W14.heap.size := b14.size
      have H14 := Lib.hid (And.intro (H13.out.1.trans (b14.mono H13.out.1.size)) (ownsRow_upd H13.out.2.1 (Upd.of_below b14 (fun _ => False)) (fun _ _ h => h)))
      clear b14 H10 H11 H12 H13
      -- Join
      obtain ⟨-, ⟨q0, q1, q2, q3⟩, -⟩ := KK.out W14 H14.out.1
      go_wp2_with fail
      refine (JX.out W14 X1 cx1 Y1 dy1 X3 cx3 Y3 dy3 (KK.out W14 H14.out.1).2.2.2.1.1 (KK.out W14 H14.out.1).2.2.2.1.2).mono ?_
      rintro e W15 ⟨A5, c5, B5, d5, rfl, o1, o2, b15⟩
      have k16 := Blk.new W15 25 #[.slice A5 x c5, .slice B5 y d5]
      have b16 : Below W15.heap.size W15 (W15.alloc (.cells #[.slice A5 x c5, .slice B5 y d5] 25)) := (Below.refl _ _).alloc (Nat.le_refl _) _
      have bb := b15.trans (b16.mono b15.size)
      have H16 := Lib.hid (And.intro (H14.out.1.trans (bb.mono H14.out.1.size)) (And.intro k16 (And.intro (o1.alloc (.cells #[.slice A5 x c5, .slice B5 y d5] 25)) (And.intro (o2.alloc (.cells #[.slice A5 x c5, .slice B5 y d5] 25)) (And.intro (ownsRow_upd H14.out.2 (Upd.of_below bb (fun _ => False)) (fun _ _ h => h)) bb.size)))))
      clear k16 b16 bb o1 o2 b15 q0 q1 q2 q3
      go_upto_region 14 with (fail)
      generalize W15.alloc (.cells #[.slice A5 x c5, .slice B5 y d5] 25) = W16 at H16 ⊢
      obtain ⟨⟨q0, q1, q2, q3⟩, -, -⟩ := KK.out W16 H16.out.1
      go_wp2_with fail
      refine (JA.out W16 A c B d A' c' B' d' (KK.out W16 H16.out.1).2.2.2.2.1.1 (KK.out W16 H16.out.1).2.2.2.2.1.2).mono ?_
      rintro e W17 ⟨A7, c7, B7, d7, rfl, o1, o2, b17⟩
      have k18 := Blk.new W17 25 #[.slice A7 x c7, .slice B7 y d7]
      have b18 : Below W17.heap.size W17 (W17.alloc (.cells #[.slice A7 x c7, .slice B7 y d7] 25)) := (Below.refl _ _).alloc (Nat.le_refl _) _
      have bb := b17.trans (b18.mono b17.size)
      have u := Upd.of_below bb (fun _ => False)
      have H18 := Lib.hid (And.intro (H16.out.1.trans (bb.mono H16.out.1.size)) (And.intro k18 (And.intro (show ForG (W17.alloc (.cells #[.slice A7 x c7, .slice B7 y d7] 25)) A7 c7 B7 d7 X Y from ⟨(RowR.of_own o1).below b18, (RowR.of_own o2).below b18, by rw [HXY.out.1]; exact own_le o1, by rw [HXY.out.2.1]; exact own_le o2, HXY.out.2.2⟩) (And.intro (H16.out.2.1.upd u id) (And.intro (ownsRow_upd H16.out.2.2.1 u (fun _ _ h => h)) (And.intro (ownsRow_upd H16.out.2.2.2.1 u (fun _ _ h => h)) (And.intro (ownsRow_upd H16.out.2.2.2.2.1 u (fun _ _ h => h)) (Nat.le_trans H16.out.2.2.2.2.2 bb.size))))))))
      clear k18 b18 bb u o1 o2 b17 q0 q1 q2 q3 H16
      go_upto_region 15 with (fail)
      generalize W17.alloc (.cells #[.slice A7 x c7, .slice B7 y d7] 25) = W18 at H18 ⊢
      have x0 : W18.cell? ⟨W15.heap.size, 0, none⟩ = some (.slice A5 x c5) := H18.out.2.2.2.1.cell 0
      have x1 : W18.cell? ⟨W15.heap.size, 1, none⟩ = some (.slice B5 y d5) := H18.out.2.2.2.1.cell 1
      have y0 : W18.cell? ⟨W17.heap.size, 0, none⟩ = some (.slice A7 x c7) := H18.out.2.1.cell 0
      have y1 : W18.cell? ⟨W17.heap.size, 1, none⟩ = some (.slice B7 y d7) := H18.out.2.1.cell 1
      go_wp2_with fail
      refine (SJ.out W18 A5 c5 B5 d5 A7 c7 B7 d7 ⟨RowR.of_own H18.out.2.2.2.2.1, RowR.of_own H18.out.2.2.2.2.2.1, by rw [HXY.out.1]; exact own_le H18.out.2.2.2.2.1, by rw [HXY.out.2.1]; exact own_le H18.out.2.2.2.2.2.1, HXY.out.2.2⟩ H18.out.2.2.1).mono ?_
      rintro e W19 ⟨rfl, b19⟩
      have u := Upd.of_below b19 (fun _ => False)
      have H19 := Lib.hid (And.intro (H18.out.1.trans (b19.mono H18.out.1.size)) (And.intro (H18.out.2.2.2.1.upd u id) (And.intro (ownsRow_upd H18.out.2.2.2.2.1 u (fun _ _ h => h)) (And.intro (ownsRow_upd H18.out.2.2.2.2.2.1 u (fun _ _ h => h)) (And.intro (ownsRow_upd H18.out.2.2.2.2.2.2.1 u (fun _ _ h => h)) (Nat.le_trans H18.out.2.2.2.2.2.2.2 b19.size))))))
      clear b19 u x0 x1 y0 y1 H18
      have x0 : W19.cell? ⟨W15.heap.size, 0, none⟩ = some (.slice A5 x c5) := H19.out.2.1.cell 0
      have x1 : W19.cell? ⟨W15.heap.size, 1, none⟩ = some (.slice B5 y d5) := H19.out.2.1.cell 1
      have hsp := spoil_any W19 W14.heap.size A5 x c5 B5 y d5 ⟨⟨_, H19.out.2.2.1⟩, ⟨_, H19.out.2.2.2.1⟩⟩ H19.out.2.2.2.2.2 hx47 hy47
      unfold twoV at hsp
      go_wp2_with fail
      refine hsp.mono ?_
      clear hsp
      rintro e W20 ⟨rfl, b20⟩
      have hz14 : W3.heap.size ≤ W14.heap.size := H14.out.1.size
      have H20 := Lib.hid (And.intro (H19.out.1.trans (b20.mono hz14)) (ownsRow_upd (F := fun k => W14.heap.size ≤ k) H19.out.2.2.2.2.1 ⟨b20.os, b20.tape, b20.output, b20.size, fun k _ hn => b20.block k (Nat.lt_of_not_le hn)⟩ (fun g hg h => by have := (HAO.out g hg).2; omega)))
      clear b20 x0 x1 H19 H14 z12 z13 z14
      go_wp2_with fail
      go_loopw [18] (fun i wr => ∃ k : Nat, k ≤ q ∧ i = .int .i64 k ∧ Hid (Below W3.heap.size W3 wr ∧ ∃ xs, wr.ownsRow W10.heap.size 9 1 (.slice AO q cO) q xs)) (fun i _ => q - (intOf i).toNat)
      case atStart => exact ⟨0, Nat.zero_le _, rfl, Lib.hid ⟨H20.out.1, ⟨_, H20.out.2⟩⟩⟩
      case round =>
        obtain ⟨k, hk, rfl, HI⟩ := hrel
        by_cases hlt : k < q
        · have hltI : (k : Int) < (q : Int) := by omega
          have hkw : IntKind.i64.wrap ((k : Int) + 1) = (k : Int) + 1 := IntWalk.i64_in _ (by omega)
          obtain ⟨xs, ho⟩ := HI.out.2
          obtain ⟨g, rfl⟩ := own_addr ho (by omega)
          obtain ⟨u, x0⟩ := own_at ho (i := k) (by omega)
          have f0 := own_frozen ho k
          have o1 := own_setCell ho (i := k) (by omega) (.string ⟨#[53, 53]⟩)
          have hbg := (ho.lt g rfl).1
          have u1 : Upd (fun q => q = g) wr (wr.setCell ⟨g, k, none⟩ (.string ⟨#[53, 53]⟩)) := (Upd.refl (fun q => q = g) wr).setCell (p := ⟨g, k, none⟩) (.inl rfl) _
          have HN := Lib.hid (And.intro (HI.out.1.trans (u1.below (fun q _ e => by omega) HI.out.1.size)) (Exists.intro _ o1))
          clear o1 u1 ho HI
          go_wp2
          go_roundw
          case rel => exact ⟨k + 1, by omega, by go_num, HN⟩
          case measure => simp [intOf]; omega
        · obtain rfl : k = q := by omega
          obtain ⟨W21, hW21⟩ : ∃ W, W = wr := ⟨_, rfl⟩
          subst hW21
          obtain ⟨⟨q0, q1, -, -⟩, ⟨x0, x1, -, -⟩, -⟩ := KK.out W21 HI.out.1
          go_wp2_with fail
          refine (YA.out W21 X1 cx1 Y1 dy1 A c B d (KK.out W21 HI.out.1).2.2.1.1 (KK.out W21 HI.out.1).2.2.2.2.1.1).mono ?_
          rintro e W22 ⟨rfl, b22⟩
          have H22 := Lib.hid (HI.out.1.trans (b22.mono HI.out.1.size))
          clear b22 q0 q1 x0 x1
          obtain ⟨⟨-, -, q2, q3⟩, ⟨-, -, x2, x3⟩, -⟩ := KK.out W22 H22.out
          go_wp2_with fail
          refine (YB.out W22 X3 cx3 Y3 dy3 A' c' B' d' (KK.out W22 H22.out).2.2.1.2 (KK.out W22 H22.out).2.2.2.2.1.2).mono ?_
          rintro e W23 ⟨rfl, b23⟩
          have H23 := Lib.hid (H22.out.trans (b23.mono H22.out.size))
          clear b23 q2 q3 x2 x3
          go_wp2_with fail
          refine (awake_any W23).mono ?_
          rintro e W24 ⟨rfl, b24⟩
          have FIN := Lib.hid (KK.out W24 (H23.out.trans (b24.mono H23.out.size))).2.2.2.2.2
          clear b24
          go_wp2
          go_ret
          exact ⟨rfl, FIN.out⟩
end Go.Proofs.YthmkgnifcbnkpaaGreat
