/- Edges: read. -/
import Derived.Test.YthmkgnifcbnkpaaGreatRdA
namespace Go.Proofs.YthmkgnifcbnkpaaGreat
open Go.RowKit

theorem Exit.jumps_goto (J : Nat → Act → World → Prop) (Q : Exit → Act → World → Prop) (l : Nat) (a : Act) (w : World) : Exit.jumps J Q (.goto l) a w = J l a w := rfl
theorem Exit.jumps_ret (J : Nat → Act → World → Prop) (Q : Exit → Act → World → Prop) (a : Act) (w : World) : Exit.jumps J Q .ret a w = Q .ret a w := rfl
theorem Exit.jumps_normal (J : Nat → Act → World → Prop) (Q : Exit → Act → World → Prop) (a : Act) (w : World) : Exit.jumps J Q .normal a w = Q .normal a w := rfl
attribute [local go_sem] Exit.jumps_goto Exit.jumps_ret Exit.jumps_normal
theorem mk_f0 (k p : Int) (t : Txt) (w : World) : (Instr.field 72 (.agg #[.int .i64 k, .int .i64 p, .string t]) 0).run Tryz.prog w = .ok (.int .i64 k) w := by kernel_rfl
theorem mk_f1 (k p : Int) (t : Txt) (w : World) : (Instr.field 72 (.agg #[.int .i64 k, .int .i64 p, .string t]) 1).run Tryz.prog w = .ok (.int .i64 p) w := by kernel_rfl
theorem mk_f2 (k p : Int) (t : Txt) (w : World) : (Instr.field 72 (.agg #[.int .i64 k, .int .i64 p, .string t]) 2).run Tryz.prog w = .ok (.string t) w := by kernel_rfl
/-- What read tells. -/
def ReadP (w : World) (e : Nat) (R : Rd) (en : Ending) (w' : World) : Prop :=
  match R with
  | .bad p => en = .returned (.tuple #[.agg #[.slice none 0 0, .slice none 0 0], .int .i64 p, .bool true]) ∧ Below w.heap.size w w'
  | .good N E => ∃ A c B d, en = .returned (.tuple #[.agg #[.slice A N.length c, .slice B E.length d], .int .i64 e, .bool false]) ∧ w'.ownsRow w.heap.size 9 1 (.slice A N.length c) N.length (txtCells N) ∧ w'.ownsRow w.heap.size 39 3 (.slice B E.length d) E.length (edCells E) ∧ Below w.heap.size w w'

def rdTmps (A : Option Addr) (ln c e n : Nat) : List Value :=
  [.slice A ln c, .int .i64 e, .pointer (some ⟨n, 0, none⟩), .pointer (some ⟨n + 1, 0, none⟩), .pointer (some ⟨n + 2, 0, none⟩), .int .i64 0, .bool false, .pointer (some ⟨n + 3, 0, none⟩), .pointer (some ⟨n + 4, 0, none⟩), .pointer (some ⟨n + 5, 0, none⟩),
    .func (.func 75) #[] #[.pointer (some ⟨n + 5, 0, none⟩), .pointer (some ⟨n, 0, none⟩), .pointer (some ⟨n + 1, 0, none⟩)], .func (.func 75) #[] #[.pointer (some ⟨n + 5, 0, none⟩), .pointer (some ⟨n, 0, none⟩), .pointer (some ⟨n + 1, 0, none⟩)]]
/-- What holds at each label. -/
def RdJ (w : World) (n : Nat) (A : Option Addr) (c : Nat) (L : List Mk) (e : Nat) (R : Rd) (l : Nat) (a : Act) (W : World) : Prop :=
  (∃ (i : Nat) (N : List Txt) (E : List Ed) (x1 x2 x3 : Txt) (vn ve : Value), RdS w W n A c L e i N E x1 x2 x3 vn ve ∧ N.length ≤ i ∧ E.length ≤ i ∧ ((l = 0 ∧ i ≤ L.length ∧ readI L e i N E = R) ∨ (l = 1 ∧ i ≤ L.length + 3 ∧ R = .bad (hereM L e i).pl))) ∧
  ∃ (u12 u13 u14 u15 u16 u17 u18 u19 u20 u21 u22 u23 u24 u25 u26 u27 u28 u29 u30 u31 u32 u33 u34 u35 u36 u37 u38 u39 u40 u41 u42 u43 u44 u45 u46 u47 u48 u49 u50 u51 u52 u53 u54 u55 u56 u57 u58 u59 u60 u61 u62 u63 u64 u65 u66 u67 u68 u69 u70 u71 u72 u73 u74 u75 u76 : Value), a = { tmps := #[.slice A L.length c, .int .i64 e, .pointer (some ⟨n, 0, none⟩), .pointer (some ⟨n + 1, 0, none⟩), .pointer (some ⟨n + 2, 0, none⟩), .int .i64 0, .bool false, .pointer (some ⟨n + 3, 0, none⟩), .pointer (some ⟨n + 4, 0, none⟩), .pointer (some ⟨n + 5, 0, none⟩), .func (.func 75) #[] #[.pointer (some ⟨n + 5, 0, none⟩), .pointer (some ⟨n, 0, none⟩), .pointer (some ⟨n + 1, 0, none⟩)], .func (.func 75) #[] #[.pointer (some ⟨n + 5, 0, none⟩), .pointer (some ⟨n, 0, none⟩), .pointer (some ⟨n + 1, 0, none⟩)], u12, u13, u14, u15, u16, u17, u18, u19, u20, u21, u22, u23, u24, u25, u26, u27, u28, u29, u30, u31, u32, u33, u34, u35, u36, u37, u38, u39, u40, u41, u42, u43, u44, u45, u46, u47, u48, u49, u50, u51, u52, u53, u54, u55, u56, u57, u58, u59, u60, u61, u62, u63, u64, u65, u66, u67, u68, u69, u70, u71, u72, u73, u74, u75, u76], defers := [] }
def rdM (n : Nat) (L : List Mk) (l : Nat) (W : World) : Nat := if l = 0 then L.length + 1 - (intOf ((W.cell? ⟨n + 5, 0, none⟩).getD undef)).toNat else 0
theorem rdM_at {w W : World} {n : Nat} {A : Option Addr} {c : Nat} {L : List Mk} {e i : Nat} {N : List Txt} {E : List Ed} {x1 x2 x3 : Txt} {vn ve : Value} (h : RdS w W n A c L e i N E x1 x2 x3 vn ve) : rdM n L 0 W = L.length + 1 - i := by
  have := h.ka.cell 0
  simp only [List.getElem?_toArray, List.getElem?_cons_zero] at this
  rw [rdM, if_pos rfl, this]
  simp [intOf]

set_option maxHeartbeats 8000000 in
set_option maxRecDepth 100000 in
theorem read_any (w : World) (A : Option Addr) (c : Nat) (L : List Mk) (e : Nat) (hr : RowR w A (mkCells L)) (hc : L.length ≤ c) (hL : L.length ≤ 3000) (_he : e ≤ 1000000) :
    Calls Tryz.prog 41 #[.slice A L.length c, .int .i64 e] w (ReadP w e (readI L e 0 [] [])) := by
  have key : ∀ R, readI L e 0 [] [] = R → Calls Tryz.prog 41 #[.slice A L.length c, .int .i64 e] w (ReadP w e R) := by
    intro R hR
    have HR := Lib.hid hR
    obtain ⟨n, hn⟩ : ∃ n, w.heap.size = n := ⟨_, rfl⟩
    have row : ∀ W, Below n w W → RowR W A (mkCells L) := fun W hb => hr.below (by rw [hn]; exact hb)
    have HROW := Lib.hid row
    clear hR hr row
    have hf0 := mk_f0
    have hf1 := mk_f1
    have hf2 := mk_f2
    go_enter Tryz.func41, Tryz.ntmps41
    go_wp2_with fail
    refine wp_scope_first (RdJ w n A c L e R) (fun l _ W => rdM n L l W) rfl ?_ ?_ ?_
    · intro hp
      go_wp2_with fail
      go_step3
      rename_i K hK
      refine hK _ _ ?_
      have hS := RdS.start w A c L e
      rw [hn] at hS
      exact hp _ _ ⟨⟨0, [], [], _, _, _, _, _, hS, by simp, by simp, .inl ⟨rfl, by omega, HR.out⟩⟩, _, _, _, _, _, _, _, _, _, _, _, _, _, _, _, _, _, _, _, _, _, _, _, _, _, _, _, _, _, _, _, _, _, _, _, _, _, _, _, _, _, _, _, _, _, _, _, _, _, _, _, _, _, _, _, _, _, _, _, _, _, _, _, _, _, rfl⟩
    · rintro a W ⟨⟨i, N, E, x1, x2, x3, vn, ve, hS, hNl, hEl, hJ⟩, u12, u13, u14, u15, u16, u17, u18, u19, u20, u21, u22, u23, u24, u25, u26, u27, u28, u29, u30, u31, u32, u33, u34, u35, u36, u37, u38, u39, u40, u41, u42, u43, u44, u45, u46, u47, u48, u49, u50, u51, u52, u53, u54, u55, u56, u57, u58, u59, u60, u61, u62, u63, u64, u65, u66, u67, u68, u69, u70, u71, u72, u73, u74, u75, u76, rfl⟩
      have hn5 : n + 5 < W.heap.size := hS.ka.lt
      have HS := Lib.hid hS
      clear hS
      rcases hJ with ⟨-, hi, hR⟩ | ⟨h, -, -⟩
      rotate_left
      · cases h
      · skip
        have HJ := Lib.hid (And.intro hi hR)
        have hcon : ∀ (j : Nat) (k p : Nat) (t : List UInt8), hereM L e j = ⟨k, p, t⟩ → j ≤ 10000 → ∀ {V : World} {N : List Txt} {E : List Ed} {x1 x2 x3 : Txt} {vn ve : Value}, RdS w V n A c L e j N E x1 x2 x3 vn ve →
            Calls Tryz.prog 75 #[.pointer (some ⟨n + 5, 0, none⟩), .pointer (some ⟨n, 0, none⟩), .pointer (some ⟨n + 1, 0, none⟩)] V fun en V' => en = .returned (.agg #[.int .i64 k, .int .i64 p, .string (toTxt t)]) ∧ RdS w V' n A c L e j N E x1 x2 x3 vn ve ∧ Below V.heap.size V V' := by
          intro j k p t hm hj V N E x1 x2 x3 vn ve h
          have h1 := here_any h (HROW.out _ h.b) hc (by omega) (by omega)
          rw [hm] at h1
          exact h1.mono (by rintro en V' ⟨rfl, hb⟩; exact ⟨rfl, h.below hb, hb⟩)
        clear hR
        have cl : W.cell? ⟨n, 0, none⟩ = some (.slice A L.length c) := HS.out.kl.cell 0
        have ca := HS.out.ka.cell 0
        simp only [List.getElem?_toArray, List.getElem?_cons_zero] at ca
        have fa := HS.out.ka.frozen 0
        by_cases hlt : i < L.length
        · skip
          have ha : ((i : Int) == (L.length : Int)) = false := by simp; omega
          obtain ⟨j1, hj1⟩ : ∃ j, j = i + 1 := ⟨_, rfl⟩
          obtain ⟨j2, hj2⟩ : ∃ j, j = i + 2 := ⟨_, rfl⟩
          obtain ⟨j3, hj3⟩ : ∃ j, j = i + 3 := ⟨_, rfl⟩
          obtain ⟨j4, hj4⟩ : ∃ j, j = i + 4 := ⟨_, rfl⟩
          obtain ⟨⟨k0, p0, t0⟩, hm0⟩ : ∃ m, hereM L e i = m := ⟨_, rfl⟩
          obtain ⟨⟨k1, p1, t1⟩, hm1⟩ : ∃ m, hereM L e j1 = m := ⟨_, rfl⟩
          obtain ⟨⟨k2, p2, t2⟩, hm2⟩ : ∃ m, hereM L e j2 = m := ⟨_, rfl⟩
          obtain ⟨⟨k3, p3, t3⟩, hm3⟩ : ∃ m, hereM L e j3 = m := ⟨_, rfl⟩
          have hRR := HJ.out.2
          rw [readI, dif_neg (by omega), ← hj1, ← hj2, ← hj3, ← hj4, hm0, hm1, hm2, hm3] at hRR
          dsimp only at hRR
          have hk1 : k1 = 5 → j1 < L.length := fun h => by
            rcases Nat.lt_or_ge j1 L.length with h1 | h1
            · exact h1
            · rw [hereM, List.getElem?_eq_none h1] at hm1
              injection hm1 with h2
              omega
          have hk3 : k3 = 5 → j3 < L.length := fun h => by
            rcases Nat.lt_or_ge j3 L.length with h1 | h1
            · exact h1
            · rw [hereM, List.getElem?_eq_none h1] at hm3
              injection hm3 with h2
              omega
          have C0 := fun {V : World} {N : List Txt} {E : List Ed} {x1 x2 x3 : Txt} {vn ve : Value} => @hcon i k0 p0 t0 hm0 (by omega) V N E x1 x2 x3 vn ve
          have C1 := fun {V : World} {N : List Txt} {E : List Ed} {x1 x2 x3 : Txt} {vn ve : Value} => @hcon j1 k1 p1 t1 hm1 (by omega) V N E x1 x2 x3 vn ve
          have C2 := fun {V : World} {N : List Txt} {E : List Ed} {x1 x2 x3 : Txt} {vn ve : Value} => @hcon j2 k2 p2 t2 hm2 (by omega) V N E x1 x2 x3 vn ve
          have C3 := fun {V : World} {N : List Txt} {E : List Ed} {x1 x2 x3 : Txt} {vn ve : Value} => @hcon j3 k3 p3 t3 hm3 (by omega) V N E x1 x2 x3 vn ve
          have HM := Lib.hid (And.intro hm0 (And.intro hm1 (And.intro hm2 (And.intro hm3 (And.intro hRR (And.intro hk1 hk3))))))
          have hi1a : j1 ≤ i + 1 := by omega
          have hi1b : i + 1 ≤ j1 := by omega
          have hi2a : j2 ≤ i + 2 := by omega
          have hi2b : i + 2 ≤ j2 := by omega
          have hi3a : j3 ≤ i + 3 := by omega
          have hi3b : i + 3 ≤ j3 := by omega
          have hi4a : j4 ≤ i + 4 := by omega
          have hi4b : i + 4 ≤ j4 := by omega
          clear hm0 hm1 hm2 hm3 hRR hk1 hk3 hcon hj1 hj2 hj3 hj4
          go_wp2_with fail
          refine (C0 HS.out).mono ?_
          rintro en W11 ⟨rfl, hS, -⟩
          have HS11 := Lib.hid hS
          clear hS
          clear ca cl fa
          go_wp2_with fail
          refine (word_any ⟨k0, p0, t0⟩ _).mono ?_
          rintro en W12 ⟨rfl, b2⟩
          have HS12 := Lib.hid (HS11.out.below b2)
          clear b2
          cases hw0 : wordK ⟨k0, p0, t0⟩
          · have HB := Lib.hid (show R = .bad (hereM L e i).pl by rw [HM.out.1, ← HM.out.2.2.2.2.1, if_pos hw0])
            go_wp2_with fail
            go_step3
            exact ⟨⟨⟨i, N, E, _, _, _, vn, ve, HS12.out, by omega, by omega, .inr ⟨rfl, by omega, HB.out⟩⟩, _, _, _, _, _, _, _, _, _, _, _, _, _, _, _, _, _, _, _, _, _, _, _, _, _, _, _, _, _, _, _, _, _, _, _, _, _, _, _, _, _, _, _, _, _, _, _, _, _, _, _, _, _, _, _, _, _, _, _, _, _, _, _, _, _, rfl⟩, by show rdM n L 1 _ < rdM n L 0 W; rw [rdM_at HS.out, rdM, if_neg (by decide)]; omega⟩
          have hb := HM.out.2.2.2.2.1
          rw [if_neg (by rw [hw0]; simp)] at hb
          have HB := Lib.hid hb
          clear hb
          go_wp2_with fail
          refine (C0 HS12.out).mono ?_
          rintro en W13 ⟨rfl, hS, -⟩
          have HS13 := Lib.hid hS
          clear hS
          have cx0 := HS13.out.kx.cell 0
          have cx1 := HS13.out.kx.cell 1
          have cx2 := HS13.out.kx.cell 2
          simp only [List.getElem?_toArray, List.getElem?_cons_succ, List.getElem?_cons_zero] at cx0 cx1 cx2
          have fx0 := HS13.out.kx.frozen 0
          have fx1 := HS13.out.kx.frozen 1
          have fx2 := HS13.out.kx.frozen 2
          obtain ⟨kF, uF⟩ := fill3 HS13.out.kx rfl (.string (toTxt t0)) (.string ⟨#[]⟩) (.string ⟨#[]⟩)
          have HS14 := Lib.hid (HS13.out.setX (toTxt t0) ⟨#[]⟩ ⟨#[]⟩ uF kF)
          clear kF uF
          go_upto_region 9 with (fail)
          generalize ((W13.setCell ⟨n + 4, 0, none⟩ (.string (toTxt t0))).setCell ⟨n + 4, 1, none⟩ (.string ⟨#[]⟩)).setCell ⟨n + 4, 2, none⟩ (.string ⟨#[]⟩) = W14 at HS14 ⊢
          clear cx0 cx1 cx2 fx0 fx1 fx2
          have ca := HS14.out.ka.cell 0
          simp only [List.getElem?_toArray, List.getElem?_cons_zero] at ca
          have fa := HS14.out.ka.frozen 0
          have hwr : IntKind.i64.wrap ((i : Int) + 1) = (i : Int) + 1 := IntWalk.i64_in _ (by omega)
          have HS15 := Lib.hid (HS14.out.setAt j1 ((i : Int) + 1) (by omega))
          go_upto_region 10 with (fail)
          generalize W14.setCell ⟨n + 5, 0, none⟩ (.int .i64 ((i : Int) + 1)) = W15 at HS15 ⊢
          clear ca fa hwr
          go_wp2_with fail
          refine (C1 HS15.out).mono ?_
          rintro en W16 ⟨rfl, hS, -⟩
          have HS16 := Lib.hid hS
          clear hS
          by_cases e1 : k1 = 5
          · have hj := HM.out.2.2.2.2.2.1 e1
            have e1I : ((k1 : Int) == 5) = true := by simp; omega
            have HR2 := Lib.hid (show readI L e j2 (N ++ [toTxt t0]) E = R by have hb := HB.out; rw [if_pos e1] at hb; exact hb)
            obtain ⟨A9, c9, W9, happ, k9, hS9⟩ := HS16.out.pushN (toTxt t0) (by omega)
            have ct0 : W16.cell? ⟨n + 3, 0, none⟩ = some vn := HS16.out.kt.cell 0
            have ct1 : W16.cell? ⟨n + 3, 1, none⟩ = some ve := HS16.out.kt.cell 1
            have cx0 := HS16.out.kx.cell 0
            have cx1 := HS16.out.kx.cell 1
            have cx2 := HS16.out.kx.cell 2
            simp only [List.getElem?_toArray, List.getElem?_cons_succ, List.getElem?_cons_zero] at cx0 cx1 cx2
            have fx0 := HS16.out.kx.frozen 0
            have fx1 := HS16.out.kx.frozen 1
            have fx2 := HS16.out.kx.frozen 2
            have d0 : W9.cell? ⟨n + 3, 0, none⟩ = some vn := k9.cell 0
            have g0 := k9.frozen 0
            have HS9 := Lib.hid hS9
            clear hS9 k9
            go_upto_region 12 with (at_builtin; refine wpList_append_run rfl _ _ _ rfl rfl rfl happ ?_)
            generalize W9.setCell ⟨n + 3, 0, none⟩ (.slice A9 (N.length + 1) c9) = W20 at HS9 ⊢
            clear ct0 ct1 cx0 cx1 cx2 fx0 fx1 fx2 happ d0 g0
            have ca := HS9.out.ka.cell 0
            simp only [List.getElem?_toArray, List.getElem?_cons_zero] at ca
            have fa := HS9.out.ka.frozen 0
            have hwr : IntKind.i64.wrap ((j1 : Int) + 1) = (j1 : Int) + 1 := IntWalk.i64_in _ (by omega)
            have HS17 := Lib.hid (HS9.out.setAt j2 ((j1 : Int) + 1) (by omega))
            go_wp2_with fail
            go_step3
            exact ⟨⟨⟨j2, (N ++ [toTxt t0]), E, _, _, _, _, ve, HS17.out, by first | omega | (simp; omega), by first | omega | (simp; omega), .inl ⟨rfl, by omega, HR2.out⟩⟩, _, _, _, _, _, _, _, _, _, _, _, _, _, _, _, _, _, _, _, _, _, _, _, _, _, _, _, _, _, _, _, _, _, _, _, _, _, _, _, _, _, _, _, _, _, _, _, _, _, _, _, _, _, _, _, _, _, _, _, _, _, _, _, _, _, rfl⟩, by show rdM n L 0 _ < rdM n L 0 W; rw [rdM_at HS.out, rdM_at HS17.out]; omega⟩
          have e1I : ((k1 : Int) == 5) = false := by simp; omega
          have hb := HB.out
          rw [if_neg e1] at hb
          have HB1 := Lib.hid hb
          clear hb HB
          go_wp2_with fail
          refine (C1 HS16.out).mono ?_
          rintro en W18 ⟨rfl, hS, -⟩
          have HS18 := Lib.hid hS
          clear hS
          by_cases e2 : k1 = 2
          rotate_left
          · have e2I : ((k1 : Int) == 2) = false := by simp; omega
            have HB := Lib.hid (show R = .bad (hereM L e j1).pl by rw [HM.out.2.1, ← HB1.out, if_pos e2])
            go_wp2_with fail
            go_step3
            exact ⟨⟨⟨j1, N, E, _, _, _, vn, ve, HS18.out, by omega, by omega, .inr ⟨rfl, by omega, HB.out⟩⟩, _, _, _, _, _, _, _, _, _, _, _, _, _, _, _, _, _, _, _, _, _, _, _, _, _, _, _, _, _, _, _, _, _, _, _, _, _, _, _, _, _, _, _, _, _, _, _, _, _, _, _, _, _, _, _, _, _, _, _, _, _, _, _, _, _, rfl⟩, by show rdM n L 1 _ < rdM n L 0 W; rw [rdM_at HS.out, rdM, if_neg (by decide)]; omega⟩
          have e2I : ((k1 : Int) == 2) = true := by simp; omega
          have hb := HB1.out
          rw [if_neg (by omega)] at hb
          have HB2 := Lib.hid hb
          clear hb HB1
          go_wp2_with fail
          refine (C1 HS18.out).mono ?_
          rintro en W19 ⟨rfl, hS, -⟩
          have HS19 := Lib.hid hS
          clear hS
          have cx0 := HS19.out.kx.cell 0
          have cx1 := HS19.out.kx.cell 1
          have cx2 := HS19.out.kx.cell 2
          simp only [List.getElem?_toArray, List.getElem?_cons_succ, List.getElem?_cons_zero] at cx0 cx1 cx2
          have fx0 := HS19.out.kx.frozen 0
          have fx1 := HS19.out.kx.frozen 1
          have fx2 := HS19.out.kx.frozen 2
          have kF := HS19.out.kx.set 1 (.string (toTxt t1))
          have uF : Upd (fun q => q = n + 4) W19 (W19.setCell ⟨n + 4, 1, none⟩ (.string (toTxt t1))) := (Upd.refl (fun q => q = n + 4) W19).setCell (p := ⟨n + 4, 1, none⟩) (.inl rfl) _
          have HS20 := Lib.hid (HS19.out.setX (toTxt t0) (toTxt t1) ⟨#[]⟩ uF kF)
          clear kF uF
          go_upto_region 15 with (fail)
          generalize W19.setCell ⟨n + 4, 1, none⟩ (.string (toTxt t1)) = W20 at HS20 ⊢
          clear cx0 cx1 cx2 fx0 fx1 fx2
          have ca := HS20.out.ka.cell 0
          simp only [List.getElem?_toArray, List.getElem?_cons_zero] at ca
          have fa := HS20.out.ka.frozen 0
          have hwr : IntKind.i64.wrap ((j1 : Int) + 1) = (j1 : Int) + 1 := IntWalk.i64_in _ (by omega)
          have HS21 := Lib.hid (HS20.out.setAt j2 ((j1 : Int) + 1) (by omega))
          go_upto_region 16 with (fail)
          generalize W20.setCell ⟨n + 5, 0, none⟩ (.int .i64 ((j1 : Int) + 1)) = W21 at HS21 ⊢
          clear ca fa hwr
          go_wp2_with fail
          refine (C2 HS21.out).mono ?_
          rintro en W22 ⟨rfl, hS, -⟩
          have HS22 := Lib.hid hS
          clear hS
          go_wp2_with fail
          refine (word_any ⟨k2, p2, t2⟩ _).mono ?_
          rintro en W23 ⟨rfl, b2⟩
          have HS23 := Lib.hid (HS22.out.below b2)
          clear b2
          cases hw2 : wordK ⟨k2, p2, t2⟩
          · have HB := Lib.hid (show R = .bad (hereM L e j2).pl by rw [HM.out.2.2.1, ← HB2.out, if_pos hw2])
            go_wp2_with fail
            go_step3
            exact ⟨⟨⟨j2, N, E, _, _, _, vn, ve, HS23.out, by omega, by omega, .inr ⟨rfl, by omega, HB.out⟩⟩, _, _, _, _, _, _, _, _, _, _, _, _, _, _, _, _, _, _, _, _, _, _, _, _, _, _, _, _, _, _, _, _, _, _, _, _, _, _, _, _, _, _, _, _, _, _, _, _, _, _, _, _, _, _, _, _, _, _, _, _, _, _, _, _, _, rfl⟩, by show rdM n L 1 _ < rdM n L 0 W; rw [rdM_at HS.out, rdM, if_neg (by decide)]; omega⟩
          have hb := HB2.out
          rw [if_neg (by rw [hw2]; simp)] at hb
          have HB3 := Lib.hid hb
          clear hb HB2
          go_wp2_with fail
          refine (C2 HS23.out).mono ?_
          rintro en W24 ⟨rfl, hS, -⟩
          have HS24 := Lib.hid hS
          clear hS
          have cx0 := HS24.out.kx.cell 0
          have cx1 := HS24.out.kx.cell 1
          have cx2 := HS24.out.kx.cell 2
          simp only [List.getElem?_toArray, List.getElem?_cons_succ, List.getElem?_cons_zero] at cx0 cx1 cx2
          have fx0 := HS24.out.kx.frozen 0
          have fx1 := HS24.out.kx.frozen 1
          have fx2 := HS24.out.kx.frozen 2
          have kF := HS24.out.kx.set 2 (.string (toTxt t2))
          have uF : Upd (fun q => q = n + 4) W24 (W24.setCell ⟨n + 4, 2, none⟩ (.string (toTxt t2))) := (Upd.refl (fun q => q = n + 4) W24).setCell (p := ⟨n + 4, 2, none⟩) (.inl rfl) _
          have HS25 := Lib.hid (HS24.out.setX (toTxt t0) (toTxt t1) (toTxt t2) uF kF)
          clear kF uF
          go_upto_region 18 with (fail)
          generalize W24.setCell ⟨n + 4, 2, none⟩ (.string (toTxt t2)) = W25 at HS25 ⊢
          clear cx0 cx1 cx2 fx0 fx1 fx2
          have ca := HS25.out.ka.cell 0
          simp only [List.getElem?_toArray, List.getElem?_cons_zero] at ca
          have fa := HS25.out.ka.frozen 0
          have hwr : IntKind.i64.wrap ((j2 : Int) + 1) = (j2 : Int) + 1 := IntWalk.i64_in _ (by omega)
          have HS26 := Lib.hid (HS25.out.setAt j3 ((j2 : Int) + 1) (by omega))
          go_upto_region 19 with (fail)
          generalize W25.setCell ⟨n + 5, 0, none⟩ (.int .i64 ((j2 : Int) + 1)) = W26 at HS26 ⊢
          clear ca fa hwr
          go_wp2_with fail
          refine (C3 HS26.out).mono ?_
          rintro en W27 ⟨rfl, hS, -⟩
          have HS27 := Lib.hid hS
          clear hS
          by_cases e3 : k3 = 5
          rotate_left
          · have e3I : ((k3 : Int) == 5) = false := by simp; omega
            have HB := Lib.hid (show R = .bad (hereM L e j3).pl by rw [HM.out.2.2.2.1, ← HB3.out, if_pos e3])
            go_wp2_with fail
            go_step3
            exact ⟨⟨⟨j3, N, E, _, _, _, vn, ve, HS27.out, by omega, by omega, .inr ⟨rfl, by omega, HB.out⟩⟩, _, _, _, _, _, _, _, _, _, _, _, _, _, _, _, _, _, _, _, _, _, _, _, _, _, _, _, _, _, _, _, _, _, _, _, _, _, _, _, _, _, _, _, _, _, _, _, _, _, _, _, _, _, _, _, _, _, _, _, _, _, _, _, _, _, rfl⟩, by show rdM n L 1 _ < rdM n L 0 W; rw [rdM_at HS.out, rdM, if_neg (by decide)]; omega⟩
          have e3I : ((k3 : Int) == 5) = true := by simp; omega
          have hj := HM.out.2.2.2.2.2.2 e3
          have HR2 := Lib.hid (show readI L e j4 N (E ++ [⟨toTxt t0, toTxt t1, toTxt t2⟩]) = R by have hb := HB3.out; rw [if_neg (by omega)] at hb; exact hb)
          obtain ⟨A9, c9, W9, happ, k9, hS9⟩ := HS27.out.pushE (by omega)
          have ct0 : W27.cell? ⟨n + 3, 0, none⟩ = some vn := HS27.out.kt.cell 0
          have ct1 : W27.cell? ⟨n + 3, 1, none⟩ = some ve := HS27.out.kt.cell 1
          have cx0 := HS27.out.kx.cell 0
          have cx1 := HS27.out.kx.cell 1
          have cx2 := HS27.out.kx.cell 2
          simp only [List.getElem?_toArray, List.getElem?_cons_succ, List.getElem?_cons_zero] at cx0 cx1 cx2
          have fx0 := HS27.out.kx.frozen 0
          have fx1 := HS27.out.kx.frozen 1
          have fx2 := HS27.out.kx.frozen 2
          have d0 : W9.cell? ⟨n + 3, 1, none⟩ = some ve := k9.cell 1
          have g0 := k9.frozen 1
          have HS9 := Lib.hid hS9
          clear hS9 k9
          go_upto_region 21 with (at_builtin; refine wpList_append_run rfl _ _ _ rfl rfl rfl happ ?_)
          generalize W9.setCell ⟨n + 3, 1, none⟩ (.slice A9 (E.length + 1) c9) = W40 at HS9 ⊢
          clear ct0 ct1 cx0 cx1 cx2 fx0 fx1 fx2 happ d0 g0
          have ca := HS9.out.ka.cell 0
          simp only [List.getElem?_toArray, List.getElem?_cons_zero] at ca
          have fa := HS9.out.ka.frozen 0
          have hwr : IntKind.i64.wrap ((j3 : Int) + 1) = (j3 : Int) + 1 := IntWalk.i64_in _ (by omega)
          have HS28 := Lib.hid (HS9.out.setAt j4 ((j3 : Int) + 1) (by omega))
          go_wp2_with fail
          go_step3
          exact ⟨⟨⟨j4, N, (E ++ [⟨toTxt t0, toTxt t1, toTxt t2⟩]), _, _, _, vn, _, HS28.out, by first | omega | (simp; omega), by first | omega | (simp; omega), .inl ⟨rfl, by omega, HR2.out⟩⟩, _, _, _, _, _, _, _, _, _, _, _, _, _, _, _, _, _, _, _, _, _, _, _, _, _, _, _, _, _, _, _, _, _, _, _, _, _, _, _, _, _, _, _, _, _, _, _, _, _, _, _, _, _, _, _, _, _, _, _, _, _, _, _, _, _, rfl⟩, by show rdM n L 0 _ < rdM n L 0 W; rw [rdM_at HS.out, rdM_at HS28.out]; omega⟩
        · have hge : i = L.length := by omega
          subst hge
          have hgd : R = .good N E := by rw [← HJ.out.2, readI, dif_pos (Nat.le_refl _)]
          subst hgd
          obtain ⟨A1, c1, hv1, -, -⟩ := own_form HS.out.on
          obtain ⟨A2, c2, hv2, -, -⟩ := own_form HS.out.oe
          subst hv1
          subst hv2
          go_upto_region 6 with (fail)
          have ct0 : W.cell? ⟨n + 3, 0, none⟩ = some (.slice A1 N.length c1) := HS.out.kt.cell 0
          have ct1 : W.cell? ⟨n + 3, 1, none⟩ = some (.slice A2 E.length c2) := HS.out.kt.cell 1
          have cr0 : W.cell? ⟨n + 2, 0, none⟩ = some (.slice none 0 0) := HS.out.kr.cell 0
          have cr1 : W.cell? ⟨n + 2, 1, none⟩ = some (.slice none 0 0) := HS.out.kr.cell 1
          have fr0 := HS.out.kr.frozen 0
          have fr1 := HS.out.kr.frozen 1
          have ce : W.cell? ⟨n + 1, 0, none⟩ = some (.int .i64 e) := HS.out.ke.cell 0
          refine wp_region_ord (fun w' => w'.cell? ⟨n + 3, 0, none⟩ = some (.slice A1 N.length c1) ∧ w'.cell? ⟨n + 3, 1, none⟩ = some (.slice A2 E.length c2) ∧ w'.cell? ⟨n + 1, 0, none⟩ = some (.int .i64 e)) 5 [(0, true), (1, true), (2, false), (3, true), (4, true)] (by kernel_rfl) (by kernel_rfl) (fun _ _ d _ _ h => by cases d <;> exact h) ⟨ct0, ct1, ce⟩ ?_
          iterate 2 (refine ord_take (v := ?_) rfl (by first | with_reducible rfl | kernel_rfl) ?_ ?_; rotate_left; (focus (intro wS hS; (try dsimp only at hS); go_split_ands; go_simp; (try with_reducible rfl); done)); (try simp only [Act.put, List.getElem_toArray, List.getElem_cons_succ, List.getElem_cons_zero, List.setIfInBounds_toArray, List.set_cons_zero, List.set_cons_succ]))
          refine ord_do rfl rfl (fun K hK => ?_)
          go_simp
          have uF : Upd (fun q => q = n + 2) W.drew ((W.drew.setCell ⟨n + 2, 0, none⟩ (.slice A1 N.length c1)).setCell ⟨n + 2, 1, none⟩ (.slice A2 E.length c2)) := ((Upd.refl (fun q => q = n + 2) W.drew).setCell (p := ⟨n + 2, 0, none⟩) (.inl rfl) _).setCell (p := ⟨n + 2, 1, none⟩) (.inl rfl) _
          have kF : Blk ((W.drew.setCell ⟨n + 2, 0, none⟩ (.slice A1 N.length c1)).setCell ⟨n + 2, 1, none⟩ (.slice A2 E.length c2)) (n + 2) 74 #[.slice A1 N.length c1, .slice A2 E.length c2] := (HS.out.kr.drew.set 0 _).set 1 _
          have e0 := ((HS.out.kr.set 0 (.slice A1 N.length c1)).set 1 (.slice A2 E.length c2)).cell 0
          have e1 := ((HS.out.kr.set 0 (.slice A1 N.length c1)).set 1 (.slice A2 E.length c2)).cell 1
          have e2 := (HS.out.kr.set 0 (.slice A1 N.length c1)).cell 0
          simp only [List.setIfInBounds_toArray, List.set_cons_zero, List.set_cons_succ, List.getElem?_toArray, List.getElem?_cons_succ, List.getElem?_cons_zero] at e0 e1 e2
          have kT := HS.out.kt.drew.upd uF (by omega)
          have kE := HS.out.ke.drew.upd uF (by omega)
          have o1 := ownsRow_upd (w := W.drew) HS.out.on uF (fun k hk e => by have := (HS.out.on.lt k hk).1; omega)
          have o2 := ownsRow_upd (w := W.drew) HS.out.oe uF (fun k hk e => by have := (HS.out.oe.lt k hk).1; omega)
          have bF := HS.out.b.drew.trans (uF.below (B := n) (fun q _ e => by omega) (by show n ≤ W.heap.size; omega))
          have FIN := Lib.hid (show ReadP w e (.good N E) (.returned (.tuple #[.agg #[.slice A1 N.length c1, .slice A2 E.length c2], .int .i64 e, .bool false])) _ from ⟨A1, c1, A2, c2, rfl, ownsRow_base o1 (fun k hk => by have := (o1.lt k hk).1; omega), ownsRow_base o2 (fun k hk => by have := (o2.lt k hk).1; omega), by rw [hn]; exact bF⟩)
          refine hK _ _ (fun _ => ⟨kT.cell 0, kT.cell 1, kE.cell 0⟩) ?_
          clear hK K kF uF kT kE o1 o2 bF
          (try simp only [Act.put, List.getElem_toArray, List.getElem_cons_succ, List.getElem_cons_zero, List.setIfInBounds_toArray, List.set_cons_zero, List.set_cons_succ])
          iterate 2 (refine ord_take (v := ?_) rfl (by first | with_reducible rfl | kernel_rfl) ?_ ?_; rotate_left; (focus (intro wS hS; (try dsimp only at hS); go_split_ands; go_simp; (try with_reducible rfl); done)); (try simp only [Act.put, List.getElem_toArray, List.getElem_cons_succ, List.getElem_cons_zero, List.setIfInBounds_toArray, List.set_cons_zero, List.set_cons_succ]))
          refine ord_done ?_
          go_wp2
          refine bodyPost_ret (v := .tuple #[.agg #[.slice A1 N.length c1, .slice A2 E.length c2], .int .i64 e, .bool false]) (by simp [results, Tryz.f41, go_sem, e0, e1]) rfl FIN.out
    · rintro l a W hl0 ⟨⟨i, N, E, x1, x2, x3, vn, ve, hS, hNl, hEl, hJ⟩, u12, u13, u14, u15, u16, u17, u18, u19, u20, u21, u22, u23, u24, u25, u26, u27, u28, u29, u30, u31, u32, u33, u34, u35, u36, u37, u38, u39, u40, u41, u42, u43, u44, u45, u46, u47, u48, u49, u50, u51, u52, u53, u54, u55, u56, u57, u58, u59, u60, u61, u62, u63, u64, u65, u66, u67, u68, u69, u70, u71, u72, u73, u74, u75, u76, rfl⟩
      have hn5 : n + 5 < W.heap.size := hS.ka.lt
      have HS := Lib.hid hS
      clear hS
      rcases hJ with ⟨rfl, -, -⟩ | ⟨rfl, hi, hR⟩
      · exact (hl0 rfl).elim
      · refine ⟨_, rfl, ?_⟩
        clear hl0
        obtain ⟨⟨k, p, t⟩, hm⟩ : ∃ m, hereM L e i = m := ⟨_, rfl⟩
        rw [hm] at hR
        subst hR
        have h1 := here_any HS.out (HROW.out _ HS.out.b) hc (by omega) (by omega)
        rw [hm] at h1
        go_wp2_with fail
        refine h1.mono ?_
        rintro en W2 ⟨rfl, b2⟩
        have HS2 := Lib.hid (HS.out.below b2)
        have cr0 : W2.cell? ⟨n + 2, 0, none⟩ = some (.slice none 0 0) := HS2.out.kr.cell 0
        have cr1 : W2.cell? ⟨n + 2, 1, none⟩ = some (.slice none 0 0) := HS2.out.kr.cell 1
        have fr0 := HS2.out.kr.frozen 0
        have fr1 := HS2.out.kr.frozen 1
        obtain ⟨kF, uF⟩ : Blk ((W2.setCell ⟨n + 2, 0, none⟩ (.slice none 0 0)).setCell ⟨n + 2, 1, none⟩ (.slice none 0 0)) (n + 2) 74 #[.slice none 0 0, .slice none 0 0] ∧ Upd (fun q => q = n + 2) W2 ((W2.setCell ⟨n + 2, 0, none⟩ (.slice none 0 0)).setCell ⟨n + 2, 1, none⟩ (.slice none 0 0)) :=
          ⟨(HS2.out.kr.set 0 _).set 1 _, ((Upd.refl (fun q => q = n + 2) W2).setCell (p := ⟨n + 2, 0, none⟩) (.inl rfl) _).setCell (p := ⟨n + 2, 1, none⟩) (.inl rfl) _⟩
        have e0 := kF.cell 0
        have e1 := kF.cell 1
        simp only [List.getElem?_toArray, List.getElem?_cons_succ, List.getElem?_cons_zero] at e0 e1
        have FIN := Lib.hid (show ReadP w e (.bad p) (.returned (.tuple #[.agg #[.slice none 0 0, .slice none 0 0], .int .i64 p, .bool true])) _ from ⟨rfl, by rw [hn]; exact HS2.out.b.trans (uF.below (fun q _ e => by omega) (by have := HS2.out.kl.lt; omega))⟩)
        clear kF uF b2 h1 hm
        dsimp only [Mk.agg]
        go_wp2
        refine bodyPost_ret (v := .tuple #[.agg #[.slice none 0 0, .slice none 0 0], .int .i64 p, .bool true]) (by simp [results, Tryz.f41, go_sem, e0, e1]) rfl FIN.out
  exact key _ rfl
end Go.Proofs.YthmkgnifcbnkpaaGreat
