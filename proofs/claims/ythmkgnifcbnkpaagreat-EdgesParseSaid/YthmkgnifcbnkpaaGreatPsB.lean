/- The document's answer of layer 16: Parse; the walk of the law EdgesParse. -/
import Derived.Test.YthmkgnifcbnkpaaGreatPsA
import Derived.Test.YthmkgnifcbnkpaaGreatBkG
namespace Go.Proofs.YthmkgnifcbnkpaaGreat
open Go.RowKit

theorem mk_row {w : World} {A : Option Addr} {L : List Mk} (h : RowR w A (mkCells L)) {k : Nat} {m : Mk} (hk : L[k]? = some m) : ∃ b o, A = some ⟨b, o, none⟩ ∧ w.cell? ⟨b, o + k * 3, none⟩ = some (.int .i64 m.kind) ∧ w.cell? ⟨b, o + k * 3 + 1, none⟩ = some (.int .i64 m.pl) ∧ w.cell? ⟨b, o + k * 3 + 2, none⟩ = some (.string (toTxt m.tx)) := by
  have g := fun j hj => flat_get Mk.cells 3 (fun _ => rfl) L k j m hk hj
  obtain ⟨b, o, e, x⟩ := h (k * 3 + 0) _ (g 0 (by decide))
  obtain ⟨b1, o1, e1, x1⟩ := h (k * 3 + 1) _ (g 1 (by decide))
  obtain ⟨b2, o2, e2, x2⟩ := h (k * 3 + 2) _ (g 2 (by decide))
  rw [e] at e1 e2
  injection e1 with e1
  injection e1 with e3 e4
  subst e3; subst e4
  injection e2 with e2
  injection e2 with e3 e4
  subst e3; subst e4
  exact ⟨b, o, e, x, by rw [Nat.add_assoc]; exact x1, by rw [Nat.add_assoc]; exact x2⟩
theorem mk_at {w : World} {b o : Nat} {L : List Mk} (h : RowR w (some ⟨b, o, none⟩) (mkCells L)) {k : Nat} {m : Mk} (hk : L[k]? = some m) : w.cell? ⟨b, o + k * 3, none⟩ = some (.int .i64 m.kind) ∧ w.cell? ⟨b, o + k * 3 + 1, none⟩ = some (.int .i64 m.pl) ∧ w.cell? ⟨b, o + k * 3 + 2, none⟩ = some (.string (toTxt m.tx)) := by
  obtain ⟨b', o', e, x⟩ := mk_row h hk
  injection e with e
  injection e with e1 e2
  subst e1; subst e2
  exact x
/-- Rows of texts and rows of edges lie in blocks of their own. -/
theorem own_apart {w : World} {b1 b2 n m : Nat} {v u : Value} {xs ys : List Value} (h : w.ownsRow b1 9 1 v n xs) (k : w.ownsRow b2 39 3 u m ys) : ∀ g, v.ownBlock = some g → u.ownBlock ≠ some g := fun g h1 h2 => by
  rcases h.2 with ⟨rfl, -⟩ | ⟨g1, cap1, cur1, rfl, -, hg1, -⟩
  · simp [Value.ownBlock] at h1
  rcases k.2 with ⟨rfl, -⟩ | ⟨g2, cap2, cur2, rfl, -, hg2, -⟩
  · simp [Value.ownBlock] at h2
  simp only [Value.ownBlock, Option.some.injEq] at h1 h2
  subst h1; subst h2
  rw [hg1] at hg2
  simp at hg2
/-- The marks of a statement that has begun. -/
def Part (L : List Mk) (e k i : Nat) : Prop := (1 ≤ k → wordK (hereM L e (i - k)) = true) ∧ (2 ≤ k → (hereM L e (i - k + 1)).kind = 2) ∧ (3 ≤ k → wordK (hereM L e (i - k + 2)) = true)
theorem read_step {L : List Mk} {e i k : Nat} {N : List Txt} {E : List Ed} {R : Rd} {m : Mk} (h : readI L e (i - k) N E = R) (hki : k ≤ i) (hp : Part L e k i) (hm : hereM L e i = m) (hi : i < L.length) (hk : k ≤ 3) : if goesB m k = false then R = .bad m.pl else True := by
  split
  · rename_i hg
    have hk4 : k = 0 ∨ k = 1 ∨ k = 2 ∨ k = 3 := by omega
    rw [readI, dif_neg (by omega)] at h
    rcases hk4 with rfl | rfl | rfl | rfl
    · rw [Nat.sub_zero, hm] at h
      simp [goesB] at hg
      rw [if_pos hg] at h
      exact h.symm
    · rw [if_neg (by rw [hp.1 (by omega)]; simp), show i - 1 + 1 = i by omega, hm] at h
      simp [goesB] at hg
      rw [if_neg hg.2, if_pos hg.1] at h
      exact h.symm
    · have h2 := hp.2.1 (by omega)
      rw [if_neg (by rw [hp.1 (by omega)]; simp), if_neg (by rw [h2]; decide), if_neg (by rw [h2]; simp), show i - 2 + 2 = i by omega, hm] at h
      simp [goesB] at hg
      rw [if_pos hg] at h
      exact h.symm
    · have h2 := hp.2.1 (by omega)
      rw [if_neg (by rw [hp.1 (by omega)]; simp), if_neg (by rw [h2]; decide), if_neg (by rw [h2]; simp), if_neg (by rw [hp.2.2 (by omega)]; simp), show i - 3 + 3 = i by omega, hm] at h
      simp [goesB] at hg
      rw [if_pos hg] at h
      exact h.symm
  · trivial
theorem read_short {L : List Mk} {e i k : Nat} {N : List Txt} {E : List Ed} {R : Rd} (h : readI L e (i - k) N E = R) (hki : k ≤ i) (hp : Part L e k i) (hi : L.length = i) (hk0 : 0 < k) (hk : k ≤ 3) : R = .bad e := by
  have hend : ∀ j, i ≤ j → hereM L e j = ⟨0, e, []⟩ := fun j hj => by rw [hereM, List.getElem?_eq_none (by omega)]; rfl
  have hk4 : k = 1 ∨ k = 2 ∨ k = 3 := by omega
  rw [readI, dif_neg (by omega)] at h
  rcases hk4 with rfl | rfl | rfl
  · rw [if_neg (by rw [hp.1 (by omega)]; simp), show i - 1 + 1 = i by omega, hend i (Nat.le_refl _), if_neg (by simp), if_pos (by simp)] at h
    exact h.symm
  · have h2 := hp.2.1 (by omega)
    rw [if_neg (by rw [hp.1 (by omega)]; simp), if_neg (by rw [h2]; decide), if_neg (by rw [h2]; simp), show i - 2 + 2 = i by omega, hend i (Nat.le_refl _), if_pos (by rfl)] at h
    exact h.symm
  · have h2 := hp.2.1 (by omega)
    rw [if_neg (by rw [hp.1 (by omega)]; simp), if_neg (by rw [h2]; decide), if_neg (by rw [h2]; simp), if_neg (by rw [hp.2.2 (by omega)]; simp), show i - 3 + 3 = i by omega, hend i (Nat.le_refl _), if_pos (by simp)] at h
    exact h.symm
theorem part_more {L : List Mk} {e i k q a : Nat} {t : List UInt8} (hp : Part L e k i) (hki : k ≤ i) (hm : hereM L e i = ⟨q, a, t⟩) (hg : goesB ⟨q, a, t⟩ k = true) (h5 : q ≠ 5) (hk : k ≤ 2) : Part L e (k + 1) (i + 1) := by
  have hk3 : k = 0 ∨ k = 1 ∨ k = 2 := by omega
  rcases hk3 with rfl | rfl | rfl
  · refine ⟨fun _ => ?_, fun h => by omega, fun h => by omega⟩
    rw [show i + 1 - (0 + 1) = i by omega, hm]
    simpa [goesB] using hg
  · refine ⟨fun _ => ?_, fun _ => ?_, fun h => by omega⟩
    · rw [show i + 1 - (1 + 1) = i - 1 by omega]
      exact hp.1 (by omega)
    · rw [show i + 1 - (1 + 1) + 1 = i by omega, hm]
      simp [goesB] at hg
      rcases hg with h | h
      · exact h
      · exact (h5 h).elim
  · refine ⟨fun _ => ?_, fun _ => ?_, fun _ => ?_⟩
    · rw [show i + 1 - (2 + 1) = i - 2 by omega]
      exact hp.1 (by omega)
    · rw [show i + 1 - (2 + 1) + 1 = i - 2 + 1 by omega]
      exact hp.2.1 (by omega)
    · rw [show i + 1 - (2 + 1) + 2 = i by omega, hm]
      simpa [goesB] using hg

set_option maxHeartbeats 4000000 in
set_option maxRecDepth 100000 in
theorem refParse_any (s : Txt) (w : World) (_h63 : s.size ≤ 9223372036854775807) : Calls Tryz.prog 10 #[.string s] w (ParseP w s) := by
  have k0 := Blk.new w 25 #[.slice none 0 0, .slice none 0 0]
  have u0 : Below w.heap.size w (w.alloc (.cells #[.slice none 0 0, .slice none 0 0] 25)) := (Below.refl _ _).alloc (Nat.le_refl _) _
  have H := Lib.hid (And.intro k0 u0)
  clear k0 u0
  go_enter Tryz.func10, Tryz.ntmps10
  go_upto_region 1 with (fail)
  generalize w.alloc (.cells #[.slice none 0 0, .slice none 0 0] 25) = W0 at H ⊢
  have hz0 : w.heap.size + 1 ≤ W0.heap.size := H.out.1.lt
  have fill : ∀ V : World, Blk V w.heap.size 25 #[.slice none 0 0, .slice none 0 0] → ∀ v0 v1 : Value, Blk ((V.setCell ⟨w.heap.size, 0, none⟩ v0).setCell ⟨w.heap.size, 1, none⟩ v1) w.heap.size 25 #[v0, v1] ∧ Upd (fun q => q = w.heap.size) V ((V.setCell ⟨w.heap.size, 0, none⟩ v0).setCell ⟨w.heap.size, 1, none⟩ v1) := fun V k v0 v1 =>
    ⟨(k.set 0 v0).set 1 v1, ((Upd.refl (fun q => q = w.heap.size) V).setCell (p := ⟨w.heap.size, 0, none⟩) (.inl rfl) v0).setCell (p := ⟨w.heap.size, 1, none⟩) (.inl rfl) v1⟩
  have FL := Lib.hid fill
  clear fill
  by_cases hs : 2048 < s.size
  · have hsI : (2048 : Int) < (s.size : Int) := by omega
    have bw := H.out.2.trans ((Below.refl _ _).mono H.out.2.size)
    have kR := H.out.1.upd (Upd.of_below (Below.refl _ _) (fun _ => False)) id
    have c0 : W0.cell? ⟨w.heap.size, 0, none⟩ = some (.slice none 0 0) := kR.cell 0
    have c1 : W0.cell? ⟨w.heap.size, 1, none⟩ = some (.slice none 0 0) := kR.cell 1
    have f0 := kR.frozen 0
    have f1 := kR.frozen 1
    obtain ⟨kF, uF⟩ := FL.out W0 kR (.slice none 0 0) (.slice none 0 0)
    have e0 := kF.cell 0
    have e1 := kF.cell 1
    simp only [List.getElem?_toArray, List.getElem?_cons_succ, List.getElem?_cons_zero] at e0 e1
    have ho : parseO s = ⟨[], [], 0, 3⟩ := by rw [parseO, if_pos hs]
    have FIN := Lib.hid (ParseP.bad (p := 0) (z := 3) (by rw [ho]) (by rw [ho]) (bw.trans (uF.below (fun q _ e => by omega) bw.size)) (by rw [ho]) (by rw [ho]))
    clear kF uF ho kR bw
    go_wp2
    refine bodyPost_ret (v := .tuple #[.agg #[.slice none 0 0, .slice none 0 0], .int .i64 0, .int .i64 3]) (by simp [results, Tryz.f10, go_sem, e0, e1]) rfl FIN.out
  · have hsI : ¬ ((2048 : Int) < (s.size : Int)) := by omega
    go_wp2_with fail
    refine (cut_any s W0 (by omega)).mono ?_
    rintro e W1 ⟨MA, mc, rfl, oM, b1⟩
    obtain ⟨L, hL⟩ : ∃ L, msOf s = L := ⟨_, rfl⟩
    obtain ⟨en, hen⟩ : ∃ n, enOf s = n := ⟨_, rfl⟩
    obtain ⟨mm, hmm⟩ : ∃ n, L.length = n := ⟨_, rfl⟩
    obtain ⟨R, hR0⟩ : ∃ R, readI L en 0 [] [] = R := ⟨_, rfl⟩
    rw [hL, hmm] at oM
    rw [hL, hen, hmm]
    have hmc := own_le oM
    have hmm8 : mm ≤ 2048 := by have := msOf_len s; rw [hL, hmm] at this; omega
    have hen8 : en ≤ 2048 := by have := enOf_le s; omega
    have HL := Lib.hid (And.intro hmm (And.intro (show ∀ m ∈ L, MkOk s.size m by rw [← hL]; exact msOf_ok s) (And.intro hs (And.intro (show s.size ≤ 2048 by omega) (And.intro hL hen)))))
    have HMB := Lib.hid (show ∀ b o s, MA = some ⟨b, o, s⟩ → W0.heap.size ≤ b from fun b o s e => (own_blk oM b o s e).1)
    have HC := Lib.hid (And.intro (RowR.of_own oM) (And.intro hmc (And.intro b1 hR0)))
    clear oM b1 hL hen hmm hR0 hmc
    go_wp2_with fail
    go_loopw [7, 8, 9, 10] (fun vn ve kv iv wr => ∃ (i k : Nat) (N : List Txt) (E : List Ed), k ≤ 3 ∧ k ≤ i ∧ i ≤ mm ∧ kv = .int .i64 k ∧ iv = .int .i64 i ∧ Hid (readI L en (i - k) N E = R) ∧ Hid (Part L en k i) ∧ N.length ≤ i ∧ E.length ≤ i ∧ Hid (Below W1.heap.size W1 wr) ∧ Hid (wr.ownsRow W1.heap.size 9 1 vn N.length (txtCells N)) ∧ Hid (wr.ownsRow W1.heap.size 39 3 ve E.length (edCells E))) (fun _ _ _ i _ => mm - (intOf i).toNat)
    case atStart => exact ⟨0, 0, [], [], by omega, by omega, by omega, rfl, rfl, Lib.hid HC.out.2.2.2, Lib.hid ⟨fun h => by omega, fun h => by omega, fun h => by omega⟩, by simp, by simp, Lib.hid (Below.refl _ _), Lib.hid (World.ownsRow_nil _ _ _ _), Lib.hid (World.ownsRow_nil _ _ _ _)⟩
    case round =>
      obtain ⟨i, k, N, E, hk3, hki, hile, rfl, rfl, hR, hpt, hNl, hEl, hbw, oN, oE⟩ := hrel
      have HBW := Lib.hid (HC.out.2.2.1.trans (hbw.out.mono HC.out.2.2.1.size))
      have hiw : IntKind.i64.wrap ((i : Int) + 1) = (i : Int) + 1 := IntWalk.i64_in _ (by omega)
      have hkw : IntKind.i64.wrap ((k : Int) + 1) = (k : Int) + 1 := IntWalk.i64_in _ (by omega)
      by_cases hlt : i < mm
      · have hltI : (i : Int) < (mm : Int) := by omega
        obtain ⟨m, hm⟩ : ∃ m, L[i]? = some m := ⟨L[i]'(by rw [HL.out.1]; exact hlt), List.getElem?_eq_getElem _⟩
        have hh : hereM L en i = m := by rw [hereM, hm]; rfl
        obtain ⟨mb, mo, hMa, x0, x1, x2⟩ := mk_row (HC.out.1.below hbw.out) hm
        subst hMa
        have hgo := fun V => goes_any2 m k V hk3
        obtain ⟨g, hg⟩ : ∃ g, goesB m k = g := ⟨_, rfl⟩
        rw [hg] at hgo
        have hkind : m.kind ≤ 12 := (HL.out.2.1 m (List.mem_of_getElem? hm)).hi
        obtain ⟨q, a, t⟩ := m
        dsimp only at x0 x1 x2 hkind
        unfold Mk.agg at hgo
        dsimp only at hgo
        have HG := Lib.hid (And.intro hg (And.intro hh hm))
        have HGO := Lib.hid hgo
        clear hg hh hm hgo
        go_wp2_with fail
        refine (HGO.out wr).mono ?_
        rintro e W5 ⟨rfl, b5⟩
        have B5 := Lib.hid (hbw.out.trans (b5.mono hbw.out.size))
        have oN5 := ownsRow_upd oN.out (Upd.of_below b5 (fun _ => False)) (fun _ _ h => h)
        have oE5 := ownsRow_upd oE.out (Upd.of_below b5 (fun _ => False)) (fun _ _ h => h)
        have HO5 := Lib.hid (And.intro oN5 oE5)
        clear b5 x0 x1 x2 oN5 oE5
        obtain ⟨y0, y1, y2⟩ := mk_at (HC.out.1.below B5.out) HG.out.2.2
        dsimp only at y0 y1 y2
        cases g with
        | false =>
          have hb0 : R = .bad a := by
            have h := read_step hR.out hki hpt.out HG.out.2.1 (by rw [HL.out.1]; exact hlt) hk3
            rw [HG.out.1] at h
            exact h
          have HB0 := Lib.hid hb0
          clear hb0 hR hpt oN oE
          go_upto_region 11 with (fail)
          have BD := Lib.hid (show Below W1.heap.size W1 W5.drew from B5.out.drew)
          have hz1 := (mk_at (HC.out.1.below BD.out) HG.out.2.2).2.1
          dsimp only at hz1
          refine wp_region_ord (fun V => V.cell? ⟨mb, mo + i * 3 + 1, none⟩ = some (.int .i64 a)) 9 [(0, true), (1, true), (2, true), (3, true), (4, true), (5, true), (6, false), (7, true), (8, true)] (by kernel_rfl) (by kernel_rfl) (fun _ _ d _ _ h => by cases d <;> exact h) hz1 ?_
          generalize W5.drew = W6 at BD hz1 ⊢
          have hmbl := HMB.out mb mo none rfl
          have bw := H.out.2.trans (((HC.out.2.2.1.trans (BD.out.mono HC.out.2.2.1.size))).mono H.out.2.size)
          have kR := H.out.1.upd (Upd.of_below ((HC.out.2.2.1.trans (BD.out.mono HC.out.2.2.1.size))) (fun _ => False)) id
          have c0 : W6.cell? ⟨w.heap.size, 0, none⟩ = some (.slice none 0 0) := kR.cell 0
          have c1 : W6.cell? ⟨w.heap.size, 1, none⟩ = some (.slice none 0 0) := kR.cell 1
          have f0 := kR.frozen 0
          have f1 := kR.frozen 1
          obtain ⟨kF, uF⟩ := FL.out W6 kR (.slice none 0 0) (.slice none 0 0)
          have e0 := kF.cell 0
          have e1 := kF.cell 1
          simp only [List.getElem?_toArray, List.getElem?_cons_succ, List.getElem?_cons_zero] at e0 e1
          have ho : parseO s = ⟨[], [], a, 172⟩ := by rw [parseO, if_neg HL.out.2.2.1, HL.out.2.2.2.2.1, HL.out.2.2.2.2.2, HC.out.2.2.2, HB0.out]
          have FIN := Lib.hid (ParseP.bad (p := a) (z := 172) (by rw [ho]) (by rw [ho]) (bw.trans (uF.below (fun q _ e => by omega) bw.size)) (by rw [ho]) (by rw [ho]))
          have hS2 := (uF.cell (p := ⟨mb, mo + i * 3 + 1, none⟩) (World.block_lt_of_cell? _ _ hz1) (by show ¬ mb = _; omega)).trans hz1
          clear kF uF ho kR bw
          iterate 6 (refine ord_take (v := ?_) rfl (by first | with_reducible rfl | kernel_rfl) ?_ ?_; rotate_left; (focus (intro wS hS; (try dsimp only at hS); go_split_ands; go_simp; (try with_reducible rfl); done)); (try simp only [Act.put, List.getElem_toArray, List.getElem_cons_succ, List.getElem_cons_zero, List.setIfInBounds_toArray, List.set_cons_zero, List.set_cons_succ]))
          refine ord_do rfl rfl (fun K hK => ?_)
          go_simp
          refine hK _ _ (fun _ => hS2) ?_
          clear hK K
          (try simp only [Act.put, List.getElem_toArray, List.getElem_cons_succ, List.getElem_cons_zero, List.setIfInBounds_toArray, List.set_cons_zero, List.set_cons_succ])
          (refine ord_take (v := ?_) rfl (by first | with_reducible rfl | kernel_rfl) ?_ ?_; rotate_left; (focus (intro wS hS; (try dsimp only at hS); go_split_ands; go_simp; (try with_reducible rfl); done)); (try simp only [Act.put, List.getElem_toArray, List.getElem_cons_succ, List.getElem_cons_zero, List.setIfInBounds_toArray, List.set_cons_zero, List.set_cons_succ]))
          (refine ord_take (v := ?_) rfl (by first | with_reducible rfl | kernel_rfl) ?_ ?_; rotate_left; (focus (intro wS hS; (try dsimp only at hS); go_split_ands; go_simp; (try with_reducible rfl); done)); (try simp only [Act.put, List.getElem_toArray, List.getElem_cons_succ, List.getElem_cons_zero, List.setIfInBounds_toArray, List.set_cons_zero, List.set_cons_succ]))
          refine ord_done ?_
          go_wp2
          refine bodyPost_ret (v := .tuple #[.agg #[.slice none 0 0, .slice none 0 0], .int .i64 a, .int .i64 172]) (by simp [results, Tryz.f10, go_sem, e0, e1]) rfl FIN.out
        | true =>
          by_cases hq5 : q = 5
          · subst hq5
            have hk13 : k = 1 ∨ k = 3 := by
              have h := HG.out.1
              unfold goesB wordK at h
              dsimp only at h
              by_cases h1 : k = 1
              · exact .inl h1
              by_cases h3 : k = 3
              · exact .inr h3
              rw [if_neg h1, if_neg h3] at h
              simp at h
            rcases hk13 with rfl | rfl
            · -- a node
              have hpt1 := (hpt.out).1 (Nat.le_refl 1)
              obtain ⟨m0, hm0⟩ : ∃ m, L[i - 1]? = some m := ⟨L[i - 1]'(by rw [HL.out.1]; omega), List.getElem?_eq_getElem _⟩
              have hh0 : hereM L en (i - 1) = m0 := by rw [hereM, hm0]; rfl
              obtain ⟨-, -, u2⟩ := mk_at (HC.out.1.below B5.out) hm0
              have hi1 : IntKind.i64.wrap ((i : Int) - 1) = ((i - 1 : Nat) : Int) := by rw [IntWalk.i64_in _ (by omega)]; omega
              have hi1b : ((i - 1 : Nat) : Int) < (mm : Int) := by omega
              obtain ⟨v6, w6, happ, own6, b6⟩ := push_txt W5 W1.heap.size _ N HO5.out.1 (toTxt m0.tx) (by omega) B5.out.size
              have hR2 : readI L en (i + 1 - 0) (N ++ [m0.txt]) E = R := by
                have h := hR.out
                rw [readI, dif_neg (by rw [HL.out.1]; omega), if_neg (by rw [hpt1]; simp), show i - 1 + 1 = i by omega, HG.out.2.1, if_pos rfl, hh0, show i - 1 + 2 = i + 1 by omega] at h
                exact h
              have HN := Lib.hid (And.intro (B5.out.trans (b6.1.below (fun g _ e => b6.2 g e) B5.out.size)) (And.intro own6 (And.intro hR2 (ownsRow_upd HO5.out.2 b6.1 (fun g hg e => own_apart HO5.out.1 HO5.out.2 g e hg)))))
              obtain ⟨j, hj⟩ : ∃ j, i - 1 = j := ⟨_, rfl⟩
              rw [hj] at u2 hi1 hi1b
              clear own6 b6 hR2 hR hpt hh0 hm0 hpt1 hj
              go_wp2_with (at_builtin; refine wpList_append_run rfl _ _ _ rfl rfl rfl happ ?_)
              go_roundw
              case rel => exact ⟨i + 1, 0, N ++ [m0.txt], E, by omega, by omega, by omega, rfl, by go_num, Lib.hid HN.out.2.2.1, Lib.hid ⟨fun h => by omega, fun h => by omega, fun h => by omega⟩, by simp; omega, by omega, Lib.hid HN.out.1, Lib.hid HN.out.2.1, Lib.hid HN.out.2.2.2⟩
              case measure => simp [intOf]; omega
            · -- an edge
              obtain ⟨p1, p2, p3⟩ := hpt.out
              have p1 := p1 (by omega)
              have p2 := p2 (by omega)
              have p3 := p3 (by omega)
              obtain ⟨m0, hm0⟩ : ∃ m, L[i - 3]? = some m := ⟨L[i - 3]'(by rw [HL.out.1]; omega), List.getElem?_eq_getElem _⟩
              obtain ⟨m1, hm1⟩ : ∃ m, L[i - 2]? = some m := ⟨L[i - 2]'(by rw [HL.out.1]; omega), List.getElem?_eq_getElem _⟩
              obtain ⟨m2, hm2⟩ : ∃ m, L[i - 1]? = some m := ⟨L[i - 1]'(by rw [HL.out.1]; omega), List.getElem?_eq_getElem _⟩
              have hh0 : hereM L en (i - 3) = m0 := by rw [hereM, hm0]; rfl
              have hh1 : hereM L en (i - 3 + 1) = m1 := by rw [show i - 3 + 1 = i - 2 by omega, hereM, hm1]; rfl
              have hh2 : hereM L en (i - 3 + 2) = m2 := by rw [show i - 3 + 2 = i - 1 by omega, hereM, hm2]; rfl
              have hi1 : IntKind.i64.wrap ((i : Int) - 1) = ((i - 1 : Nat) : Int) := by rw [IntWalk.i64_in _ (by omega)]; omega
              have hi2 : IntKind.i64.wrap ((i : Int) - 2) = ((i - 2 : Nat) : Int) := by rw [IntWalk.i64_in _ (by omega)]; omega
              have hi3 : IntKind.i64.wrap ((i : Int) - 3) = ((i - 3 : Nat) : Int) := by rw [IntWalk.i64_in _ (by omega)]; omega
              have hi1b : ((i - 1 : Nat) : Int) < (mm : Int) := by omega
              have hi2b : ((i - 2 : Nat) : Int) < (mm : Int) := by omega
              have hi3b : ((i - 3 : Nat) : Int) < (mm : Int) := by omega
              obtain ⟨v6, w6, happ, own6, u6, -⟩ := push_ed W5.drew W1.heap.size _ E HO5.out.2 ⟨toTxt m0.tx, toTxt m1.tx, toTxt m2.tx⟩ (by omega) B5.out.size
              dsimp only at happ
              have hR2 : readI L en (i + 1 - 0) N (E ++ [⟨m0.txt, m1.txt, m2.txt⟩]) = R := by
                have h := hR.out
                rw [readI, dif_neg (by rw [HL.out.1]; omega), if_neg (by rw [p1]; simp), if_neg (by rw [p2]; decide), if_neg (by rw [p2]; simp), if_neg (by rw [p3]; simp), show i - 3 + 3 = i by omega, HG.out.2.1, if_neg (by simp), hh0, hh1, hh2, show i - 3 + 4 = i + 1 by omega] at h
                exact h
              have b06 := B5.out.drew.trans (u6.below (fun g _ e => (HO5.out.2.lt g e).1) B5.out.size)
              have HN := Lib.hid (And.intro b06 (And.intro own6 (And.intro hR2 (ownsRow_upd (w := W5.drew) HO5.out.1 u6 (fun g hg e => own_apart HO5.out.1 HO5.out.2 g hg e)))))
              have HM := Lib.hid (And.intro hm0 (And.intro hm1 hm2))
              have SR := Lib.hid (show ∀ V, Below W1.heap.size W1 V → V.cell? ⟨mb, mo + (i - 3) * 3 + 2, none⟩ = some (.string (toTxt m0.tx)) ∧ V.cell? ⟨mb, mo + (i - 2) * 3 + 2, none⟩ = some (.string (toTxt m1.tx)) ∧ V.cell? ⟨mb, mo + (i - 1) * 3 + 2, none⟩ = some (.string (toTxt m2.tx)) from fun V hb => ⟨(mk_at (HC.out.1.below hb) HM.out.1).2.2, (mk_at (HC.out.1.below hb) HM.out.2.1).2.2, (mk_at (HC.out.1.below hb) HM.out.2.2).2.2⟩)
              obtain ⟨j1, hj1⟩ : ∃ j, i - 1 = j := ⟨_, rfl⟩
              obtain ⟨j2, hj2⟩ : ∃ j, i - 2 = j := ⟨_, rfl⟩
              obtain ⟨j3, hj3⟩ : ∃ j, i - 3 = j := ⟨_, rfl⟩
              rw [hj1, hj2, hj3] at SR
              rw [hj1] at hi1 hi1b
              rw [hj2] at hi2 hi2b
              rw [hj3] at hi3 hi3b
              clear own6 u6 hR2 hR hpt hh0 hh1 hh2 hm0 hm1 hm2 p1 p2 p3 hj1 hj2 hj3 b06
              have hS := SR.out _ B5.out.drew
              go_upto_region 16 with (fail)
              refine wp_region_ord (fun V => V.cell? ⟨mb, mo + j3 * 3 + 2, none⟩ = some (.string (toTxt m0.tx)) ∧ V.cell? ⟨mb, mo + j2 * 3 + 2, none⟩ = some (.string (toTxt m1.tx)) ∧ V.cell? ⟨mb, mo + j1 * 3 + 2, none⟩ = some (.string (toTxt m2.tx))) 23 [(0, true), (1, true), (2, true), (3, true), (4, true), (5, true), (6, true), (7, true), (8, true), (9, true), (10, true), (11, true), (12, true), (13, true), (14, true), (15, true), (16, true), (17, true), (18, true), (19, true), (20, false), (21, false), (22, true)] (by kernel_rfl) (by kernel_rfl) (fun _ _ d _ _ h => by cases d <;> exact h) hS ?_
              iterate 20 (refine ord_take (v := ?_) rfl (by first | with_reducible rfl | kernel_rfl) ?_ ?_; rotate_left; (focus (intro wS hS; (try dsimp only at hS); go_split_ands; go_simp; (try with_reducible rfl); done)); (try simp only [Act.put, List.getElem_toArray, List.getElem_cons_succ, List.getElem_cons_zero, List.setIfInBounds_toArray, List.set_cons_zero, List.set_cons_succ]))
              refine ord_do rfl rfl (fun K hK => ?_)
              go_simp
              refine hK _ _ (fun _ => SR.out _ (B5.out.drew.alloc B5.out.size _)) ?_
              clear hK K
              (try simp only [Act.put, List.getElem_toArray, List.getElem_cons_succ, List.getElem_cons_zero, List.setIfInBounds_toArray, List.set_cons_zero, List.set_cons_succ])
              refine ord_do rfl rfl (fun K hK => ?_)
              refine wp_append_run _ _ _ rfl rfl rfl happ ?_
              refine hK _ _ (fun _ => SR.out _ HN.out.1) ?_
              clear hK K happ
              (try simp only [Act.put, List.getElem_toArray, List.getElem_cons_succ, List.getElem_cons_zero, List.setIfInBounds_toArray, List.set_cons_zero, List.set_cons_succ])
              (refine ord_take (v := ?_) rfl (by first | with_reducible rfl | kernel_rfl) ?_ ?_; rotate_left; (focus (intro wS hS; (try dsimp only at hS); go_split_ands; go_simp; (try with_reducible rfl); done)); (try simp only [Act.put, List.getElem_toArray, List.getElem_cons_succ, List.getElem_cons_zero, List.setIfInBounds_toArray, List.set_cons_zero, List.set_cons_succ]))
              refine ord_done ?_
              clear hS
              go_wp2
              go_roundw
              case rel => exact ⟨i + 1, 0, N, E ++ [⟨m0.txt, m1.txt, m2.txt⟩], by omega, by omega, by omega, rfl, by go_num, Lib.hid HN.out.2.2.1, Lib.hid ⟨fun h => by omega, fun h => by omega, fun h => by omega⟩, by omega, by simp; omega, Lib.hid HN.out.1, Lib.hid HN.out.2.2.2, Lib.hid HN.out.2.1⟩
              case measure => simp [intOf]; omega
          · have hq5I : ((q : Int) == 5) = false := by simp; omega
            have hk2 : k ≤ 2 := by
              rcases Nat.lt_or_ge k 3 with h | h
              · omega
              · obtain rfl : k = 3 := by omega
                have h := HG.out.1
                simp [goesB] at h
                exact (hq5 h).elim
            have HP := Lib.hid (part_more hpt.out hki HG.out.2.1 HG.out.1 hq5 hk2)
            have HR2 := Lib.hid (show readI L en (i + 1 - (k + 1)) N E = R by rw [show i + 1 - (k + 1) = i - k by omega]; exact hR.out)
            clear hpt hR
            go_wp2
            go_roundw
            case rel => exact ⟨i + 1, k + 1, N, E, by omega, by omega, by omega, by go_num, by go_num, HR2, HP, by omega, by omega, B5, Lib.hid HO5.out.1, Lib.hid HO5.out.2⟩
            case measure => simp [intOf]; omega
      · obtain rfl : i = mm := by omega
        obtain ⟨W2, hW2⟩ : ∃ W, W = wr := ⟨_, rfl⟩
        subst hW2
        by_cases hk0 : 0 < k
        · have hkI : (0 : Int) < (k : Int) := by omega
          have hb0 : R = .bad en := read_short hR.out hki hpt.out HL.out.1 hk0 hk3
          have HB0 := Lib.hid hb0
          clear hb0 hR hpt oN oE
          have bw := H.out.2.trans ((HBW.out).mono H.out.2.size)
          have kR := H.out.1.upd (Upd.of_below (HBW.out) (fun _ => False)) id
          have c0 : W2.cell? ⟨w.heap.size, 0, none⟩ = some (.slice none 0 0) := kR.cell 0
          have c1 : W2.cell? ⟨w.heap.size, 1, none⟩ = some (.slice none 0 0) := kR.cell 1
          have f0 := kR.frozen 0
          have f1 := kR.frozen 1
          obtain ⟨kF, uF⟩ := FL.out W2 kR (.slice none 0 0) (.slice none 0 0)
          have e0 := kF.cell 0
          have e1 := kF.cell 1
          simp only [List.getElem?_toArray, List.getElem?_cons_succ, List.getElem?_cons_zero] at e0 e1
          have ho : parseO s = ⟨[], [], en, 172⟩ := by rw [parseO, if_neg HL.out.2.2.1, HL.out.2.2.2.2.1, HL.out.2.2.2.2.2, HC.out.2.2.2, HB0.out]
          have FIN := Lib.hid (ParseP.bad (p := en) (z := 172) (by rw [ho]) (by rw [ho]) (bw.trans (uF.below (fun q _ e => by omega) bw.size)) (by rw [ho]) (by rw [ho]))
          clear kF uF ho kR bw
          go_wp2
          refine bodyPost_ret (v := .tuple #[.agg #[.slice none 0 0, .slice none 0 0], .int .i64 en, .int .i64 172]) (by simp [results, Tryz.f10, go_sem, e0, e1]) rfl FIN.out
        · obtain rfl : k = 0 := by omega
          have hg0 : R = .good N E := by
            have h := hR.out
            rw [readI, dif_pos (by rw [HL.out.1]; omega)] at h
            exact h.symm
          by_cases hen : en < s.size
          · have henI : (en : Int) < (s.size : Int) := by omega
            have HB0 := Lib.hid hg0
            clear hg0 hR hpt oN oE
            have bw := H.out.2.trans ((HBW.out).mono H.out.2.size)
            have kR := H.out.1.upd (Upd.of_below (HBW.out) (fun _ => False)) id
            have c0 : W2.cell? ⟨w.heap.size, 0, none⟩ = some (.slice none 0 0) := kR.cell 0
            have c1 : W2.cell? ⟨w.heap.size, 1, none⟩ = some (.slice none 0 0) := kR.cell 1
            have f0 := kR.frozen 0
            have f1 := kR.frozen 1
            obtain ⟨kF, uF⟩ := FL.out W2 kR (.slice none 0 0) (.slice none 0 0)
            have e0 := kF.cell 0
            have e1 := kF.cell 1
            simp only [List.getElem?_toArray, List.getElem?_cons_succ, List.getElem?_cons_zero] at e0 e1
            have ho : parseO s = ⟨[], [], en, 172⟩ := by rw [parseO, if_neg HL.out.2.2.1, HL.out.2.2.2.2.1, HL.out.2.2.2.2.2, HC.out.2.2.2, HB0.out]; dsimp only; rw [if_pos hen]
            have FIN := Lib.hid (ParseP.bad (p := en) (z := 172) (by rw [ho]) (by rw [ho]) (bw.trans (uF.below (fun q _ e => by omega) bw.size)) (by rw [ho]) (by rw [ho]))
            clear kF uF ho kR bw
            go_wp2
            refine bodyPost_ret (v := .tuple #[.agg #[.slice none 0 0, .slice none 0 0], .int .i64 en, .int .i64 172]) (by simp [results, Tryz.f10, go_sem, e0, e1]) rfl FIN.out
          · have henI : ¬ ((en : Int) < (s.size : Int)) := by omega
            have HG0 := Lib.hid (show parseO s = ⟨ofN N E, ofE N E, 0, ofI N E⟩ by
              rw [parseO, if_neg HL.out.2.2.1, HL.out.2.2.2.2.1, HL.out.2.2.2.2.2, HC.out.2.2.2, hg0]
              dsimp only
              rw [if_neg hen]
              unfold ofN ofE
              split
              · rename_i h0; rw [h0]
              · rfl)
            have hfine := read_fine (s := s) (e := en) (N' := N) (E' := E) (by rw [HL.out.2.2.2.2.1, HC.out.2.2.2]; exact hg0)
            obtain ⟨A5, c5, rfl, hc5, r5⟩ := own_le3 oN.out
            obtain ⟨A6, c6, rfl, hc6, r6⟩ := own_le3 oE.out
            obtain ⟨n5, en5⟩ : ∃ n, N.length = n := ⟨_, rfl⟩
            obtain ⟨n6, en6⟩ : ∃ n, E.length = n := ⟨_, rfl⟩
            have hof := refOf_q W2 A5 c5 A6 c6 N E ⟨r5, r6, hc5, hc6, fit_fine hfine.1 (by have := HL.out.2.2.2.1; omega) hfine.2.1 hfine.2.2⟩ (by omega)
            obtain ⟨P, hP⟩ : ∃ P, ofN N E = P := ⟨_, rfl⟩
            obtain ⟨Q, hQ⟩ : ∃ P, ofE N E = P := ⟨_, rfl⟩
            obtain ⟨z, hz⟩ : ∃ P, ofI N E = P := ⟨_, rfl⟩
            obtain ⟨p, hp⟩ : ∃ p, P.length = p := ⟨_, rfl⟩
            obtain ⟨q, hq⟩ : ∃ p, Q.length = p := ⟨_, rfl⟩
            unfold OfQ twoV at hof
            rw [hP, hQ, hz, hp, hq, en5, en6] at hof
            have hpo := HG0.out
            rw [hP, hQ, hz] at hpo
            rw [en5, en6]
            have HF := Lib.hid (And.intro hof (And.intro hpo (And.intro hp hq)))
            clear hof hpo hp hq hP hQ hz HG0 hfine hg0 hR hpt oN oE r5 r6 hc5 hc6 en5 en6
            go_wp2_with fail
            refine HF.out.1.mono ?_
            rintro e W3 ⟨A7, c7, B7, d7, rfl, o1, o2, b3⟩
            have k4 := Blk.new W3 25 #[.slice A7 p c7, .slice B7 q d7]
            have b4 : Below W3.heap.size W3 (W3.alloc (.cells #[.slice A7 p c7, .slice B7 q d7] 25)) := (Below.refl _ _).alloc (Nat.le_refl _) _
            have bb := b3.trans (b4.mono b3.size)
            have b14 := HBW.out.trans (bb.mono HBW.out.size)
            have hz2 : W0.heap.size ≤ W2.heap.size := HBW.out.size
            have H4 := Lib.hid (And.intro k4 (And.intro (o1.alloc (.cells #[.slice A7 p c7, .slice B7 q d7] 25)) (And.intro (o2.alloc (.cells #[.slice A7 p c7, .slice B7 q d7] 25)) (And.intro (H.out.1.upd (Upd.of_below b14 (fun _ => False)) id) (H.out.2.trans (b14.mono H.out.2.size))))))
            have hlt3 : w.heap.size < W3.heap.size := Nat.lt_of_lt_of_le H.out.1.lt (Nat.le_trans hz2 b3.size)
            clear k4 b4 bb b14 o1 o2 b3
            go_upto_region 21 with (fail)
            generalize W3.alloc (.cells #[.slice A7 p c7, .slice B7 q d7] 25) = W4 at H4 ⊢
            have x0 : W4.cell? ⟨W3.heap.size, 0, none⟩ = some (.slice A7 p c7) := H4.out.1.cell 0
            have x1 : W4.cell? ⟨W3.heap.size, 1, none⟩ = some (.slice B7 q d7) := H4.out.1.cell 1
            have kR := H4.out.2.2.2.1
            have c0 : W4.cell? ⟨w.heap.size, 0, none⟩ = some (.slice none 0 0) := kR.cell 0
            have c1' : W4.cell? ⟨w.heap.size, 1, none⟩ = some (.slice none 0 0) := kR.cell 1
            have f0 := kR.frozen 0
            have f1 := kR.frozen 1
            obtain ⟨kF, uF⟩ := FL.out W4 kR (.slice A7 p c7) (.slice B7 q d7)
            have e0 := kF.cell 0
            have e1 := kF.cell 1
            simp only [List.getElem?_toArray, List.getElem?_cons_succ, List.getElem?_cons_zero] at e0 e1
            have hne : ∀ {v : Value} {xs : List Value} {e size n : Nat}, W4.ownsRow W2.heap.size e size v n xs → ∀ g, v.ownBlock = some g → ¬ g = w.heap.size := fun h g hg e => by have := (h.lt g hg).1; have := H.out.1.lt; omega
            have oA := ownsRow_upd H4.out.2.1 uF (hne H4.out.2.1)
            have oB := ownsRow_upd H4.out.2.2.1 uF (hne H4.out.2.2.1)
            have hw2 : w.heap.size ≤ W2.heap.size := by have := H.out.1.lt; omega
            have FIN := Lib.hid (show ParseP w s (.returned (.tuple #[.agg #[.slice A7 p c7, .slice B7 q d7], .int .i64 0, .int .i64 z])) ((W4.setCell ⟨w.heap.size, 0, none⟩ (.slice A7 p c7)).setCell ⟨w.heap.size, 1, none⟩ (.slice B7 q d7)) from by
              unfold ParseP
              rw [HF.out.2.1]
              dsimp only
              rw [HF.out.2.2.1, HF.out.2.2.2]
              exact ⟨A7, c7, B7, d7, rfl, ownsRow_base oA (fun g hg => by have := (oA.lt g hg).1; omega), ownsRow_base oB (fun g hg => by have := (oB.lt g hg).1; omega), H4.out.2.2.2.2.trans (uF.below (fun q _ e => by omega) H4.out.2.2.2.2.size)⟩)
            clear kF uF kR oA oB hne
            go_wp2
            refine bodyPost_ret (v := .tuple #[.agg #[.slice A7 p c7, .slice B7 q d7], .int .i64 0, .int .i64 z]) (by simp [results, Tryz.f10, go_sem, e0, e1]) rfl FIN.out

set_option maxHeartbeats 4000000 in
set_option maxRecDepth 100000 in
theorem eparse_any (s : Txt) (w : World) (h63 : s.size ≤ 9223372036854775807) : Calls Tryz.prog 3 #[.string s] w (Sam w (.bool true)) := by
  have hp := fun V => parse_any s V h63
  have hr := fun V => refParse_any s V h63
  unfold ParseP twoV at hp hr
  have hfit := parse_fit s
  obtain ⟨N, hN⟩ : ∃ n, (parseO s).N = n := ⟨_, rfl⟩
  obtain ⟨E, hE⟩ : ∃ n, (parseO s).E = n := ⟨_, rfl⟩
  obtain ⟨p, hpl⟩ : ∃ n, (parseO s).pl = n := ⟨_, rfl⟩
  obtain ⟨z, hz⟩ : ∃ n, (parseO s).err = n := ⟨_, rfl⟩
  obtain ⟨n, hn⟩ : ∃ n, N.length = n := ⟨_, rfl⟩
  obtain ⟨m, hm⟩ : ∃ n, E.length = n := ⟨_, rfl⟩
  simp only [hN, hE, hpl, hz, hn, hm] at hp hr
  rw [hN, hE] at hfit
  have hsm : ∀ V A c B d A' c' B' d', ForG V A c B d N E → ForG V A' c' B' d' N E → Calls Tryz.prog 11 #[.agg #[.slice A n c, .slice B m d], .agg #[.slice A' n c', .slice B' m d']] V (Sam V (.bool true)) := fun V A c B d A' c' B' d' g g' => by
    have := refSame_any V A c B d N E A' c' B' d' N E g g'
    unfold twoV at this
    rw [hn, hm, show sameB N E N E = true by simp [sameB]] at this
    exact this
  have HP := Lib.hid hp
  have HR := Lib.hid hr
  have HS := Lib.hid (And.intro hsm (And.intro hfit (And.intro hn hm)))
  clear hp hr hsm hfit hn hm hN hE hpl hz
  go_enter Tryz.func3, Tryz.ntmps3
  go_wp2_with fail
  refine (HP.out w).mono ?_
  rintro e W1 ⟨A1, c1, B1, d1, rfl, o1, o2, b1⟩
  have k2 := Blk.new W1 25 #[.slice A1 n c1, .slice B1 m d1]
  have b2 : Below W1.heap.size W1 (W1.alloc (.cells #[.slice A1 n c1, .slice B1 m d1] 25)) := (Below.refl _ _).alloc (Nat.le_refl _) _
  have H2 := Lib.hid (And.intro (b1.trans (b2.mono b1.size)) (And.intro k2 (show ForG (W1.alloc (.cells #[.slice A1 n c1, .slice B1 m d1] 25)) A1 c1 B1 d1 N E from ⟨(RowR.of_own o1).below b2, (RowR.of_own o2).below b2, by rw [HS.out.2.2.1]; exact own_le o1, by rw [HS.out.2.2.2]; exact own_le o2, HS.out.2.1⟩)))
  clear k2 b2 o1 o2 b1
  go_upto_region 2 with (fail)
  generalize W1.alloc (.cells #[.slice A1 n c1, .slice B1 m d1] 25) = W2 at H2 ⊢
  go_wp2_with fail
  refine (HR.out W2).mono ?_
  rintro e W3 ⟨A3, c3, B3, d3, rfl, o1, o2, b3⟩
  have k4 := Blk.new W3 25 #[.slice A3 n c3, .slice B3 m d3]
  have b4 : Below W3.heap.size W3 (W3.alloc (.cells #[.slice A3 n c3, .slice B3 m d3] 25)) := (Below.refl _ _).alloc (Nat.le_refl _) _
  have bb := b3.trans (b4.mono b3.size)
  have H4 := Lib.hid (And.intro (H2.out.1.trans (bb.mono H2.out.1.size)) (And.intro k4 (And.intro (show ForG (W3.alloc (.cells #[.slice A3 n c3, .slice B3 m d3] 25)) A3 c3 B3 d3 N E from ⟨(RowR.of_own o1).below b4, (RowR.of_own o2).below b4, by rw [HS.out.2.2.1]; exact own_le o1, by rw [HS.out.2.2.2]; exact own_le o2, HS.out.2.1⟩) (And.intro (H2.out.2.1.upd (Upd.of_below bb (fun _ => False)) id) (H2.out.2.2.below bb)))))
  clear k4 b4 bb o1 o2 b3
  go_upto_region 3 with (fail)
  generalize W3.alloc (.cells #[.slice A3 n c3, .slice B3 m d3] 25) = W4 at H4 ⊢
  have x0 : W4.cell? ⟨W1.heap.size, 0, none⟩ = some (.slice A1 n c1) := H4.out.2.2.2.1.cell 0
  have x1 : W4.cell? ⟨W1.heap.size, 1, none⟩ = some (.slice B1 m d1) := H4.out.2.2.2.1.cell 1
  have y0 : W4.cell? ⟨W3.heap.size, 0, none⟩ = some (.slice A3 n c3) := H4.out.2.1.cell 0
  have y1 : W4.cell? ⟨W3.heap.size, 1, none⟩ = some (.slice B3 m d3) := H4.out.2.1.cell 1
  go_wp2_with fail
  refine (HS.out.1 W4 A1 c1 B1 d1 A3 c3 B3 d3 H4.out.2.2.2.2 H4.out.2.2.1).mono ?_
  rintro e W5 ⟨rfl, b5⟩
  have H5 := Lib.hid (H4.out.1.trans (b5.mono H4.out.1.size))
  clear b5 x0 x1 y0 y1
  go_wp2_with fail
  refine (awake_any W5).mono ?_
  rintro e W6 ⟨rfl, b6⟩
  have FIN := Lib.hid (H5.out.trans (b6.mono H5.out.size))
  clear b6
  go_wp2
  go_ret
  exact ⟨rfl, FIN.out⟩
end Go.Proofs.YthmkgnifcbnkpaaGreat
