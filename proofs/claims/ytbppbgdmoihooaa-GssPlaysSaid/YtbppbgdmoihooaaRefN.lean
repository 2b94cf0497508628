/- GssPlays: the walk. -/
import Derived.Test.YtbppbgdmoihooaaRefM
namespace Go.Proofs.Ytbppbgdmoihooaa
open Go.RowKit

structure OpD where
  d : Int
  n : Int
  a : Int
  b : Int

set_option maxHeartbeats 4000000 in
set_option maxRecDepth 20000 in
theorem plays_small (w : World) (A : Option Addr) (lb lo m c : Nat) (ops : List OpD) (hm : ops.length = m) (hm60 : m ≤ 300) (hmc : m ≤ c)
    (hA : 0 < m → A = some ⟨lb, lo, none⟩)
    (hev : ∀ (i : Nat) (e : OpD), ops[i]? = some e → w.cell? ⟨lb, lo + i * 4, none⟩ = some (.int .i64 e.d) ∧ w.cell? ⟨lb, lo + i * 4 + 1, none⟩ = some (.int .i64 e.n) ∧ w.cell? ⟨lb, lo + i * 4 + 2, none⟩ = some (.int .i64 e.a) ∧ w.cell? ⟨lb, lo + i * 4 + 3, none⟩ = some (.int .i64 e.b) ∧ Wf e.n ∧ Wf e.a ∧ Wf e.b) :
    Calls Try.prog 5 #[.slice A m c] w fun e w' => e = .returned (.bool true) ∧ Below w.heap.size w w' := by
  have H : Hid _ := Lib.hid (And.intro hm (And.intro hA hev))
  have hdec : decide ((300 : Int) < (m : Int)) = false := by simp; omega
  have hmc' : (m : Int) ≤ (c : Int) := by omega
  clear hm hA hev
  go_enter Try.func5, Try.ntmps5
  go_wp2_with fail
  refine (new_any _).mono ?_
  rintro e w1 hn
  obtain ⟨b, F1, rfl, M1⟩ := Mine.new hn
  have P1 : PI w b 0 (.slice none 0 0) w1 := ⟨F1, fun _ => False, [], ⟨M1.at_, RefAt.nil w1, fun _ _ h => h⟩, M1.below, fun q hq => hq.elim (M1.own q) False.elim, ⟨Nat.le_refl _, fun i x hx => by simp at hx⟩⟩
  have HP := Lib.hid P1
  clear hn M1 P1
  go_wp2
  go_loopw [4, 5] (fun v i wr => ∃ k : Nat, k ≤ m ∧ i = .int .i64 k ∧ PI w b k v wr) (fun _ i _ => m - (intOf i).toNat)
  case atStart => exact ⟨0, Nat.zero_le _, rfl, HP.out⟩
  case round =>
    obtain ⟨k, hk, rfl, P⟩ := hrel
    obtain ⟨Av, nv, cv, rfl, hcv, hnv⟩ := P.form
    by_cases hlt : k < m
    · obtain ⟨hm, hA, hev⟩ := H.out
      obtain rfl := hA (by omega)
      obtain ⟨⟨xd, xn, xa, xb⟩, he⟩ : ∃ e, ops[k]? = some e := ⟨ops[k]'(by omega), List.getElem?_eq_getElem _⟩
      obtain ⟨e0, e1, e2, e3, w1', w2', w3'⟩ := hev k _ he
      have up : ∀ j u, w.cell? ⟨lb, j, none⟩ = some u → wr.cell? ⟨lb, j, none⟩ = some u := fun j u hu =>
        (P.below.cell (p := ⟨lb, j, none⟩) (World.block_lt_of_cell? w _ hu)).trans hu
      have r0 := up _ _ e0
      have r1 := up _ _ e1
      have r2 := up _ _ e2
      have r3 := up _ _ e3
      have PA := P.keep (w2 := wr.alloc (.cells #[.int .i64 xd, .int .i64 xn, .int .i64 xa, .int .i64 xb] 56)) ((Below.refl _ _).alloc (Nat.le_refl _) _)
      have kx := Blk.new wr 56 #[.int .i64 xd, .int .i64 xn, .int .i64 xa, .int .i64 xb]
      have HW := Lib.hid (And.intro w1' (And.intro w2' (And.intro w3' (And.intro PA (And.intro P kx)))))
      have hk3 : k ≤ 300 := by omega
      clear hm hA hev he e0 e1 e2 e3 up w1' w2' w3' P PA kx
      by_cases d0 : xd = 0
      · subst d0
        obtain ⟨-, wfa, wfb, -, ⟨F, G, N, hB0, h1, h2, h3⟩, kx⟩ := HW.out
        obtain rfl := hB0.r.len
        have fx : ∀ q, F q → q ≠ wr.heap.size := fun q hq => by have := hB0.s.lt q hq; omega
        have bA : Below wr.heap.size wr (wr.alloc (.cells #[.int .i64 0, .int .i64 xn, .int .i64 xa, .int .i64 xb] 56)) := (Below.refl _ _).alloc (Nat.le_refl _) _
        have hB := hB0.below bA
        replace h1 := h1.trans (bA.mono h1.size)
        clear hB0 bA
        by_cases hex : ∃ i, AtNode N xa xb i
        · obtain ⟨i, hi⟩ := hex
          have HQ := Lib.hid (And.intro hB (And.intro h1 (And.intro h2 (And.intro h3 (And.intro hi (And.intro wfa (And.intro wfb kx)))))))
          clear hB h1 h2 h3 hi wfa wfb HW kx fx
          go_wp2_with fail
          obtain ⟨hB, h1, h2, h3, hi, wfa, wfb, kx⟩ := HQ.out
          refine (node_old _ F b N xa xb i wfa wfb hB.s hi).mono ?_
          rintro e w2 ⟨rfl, bel⟩
          have HR := Lib.hid (And.intro (hB.below bel) (And.intro (h1.trans (bel.mono h1.size)) (And.intro h2 (And.intro h3 hi))))
          have kx2 := kx.upd (Upd.of_below bel (fun _ => False)) id
          have x2 := kx2.cell 2
          have x3 := kx2.cell 3
          simp only [List.getElem?_toArray, List.getElem?_cons_succ, List.getElem?_cons_zero] at x2 x3
          clear hB h1 h2 h3 hi wfa wfb bel HQ kx kx2
          have hN3 : N.length ≤ 1000000 := by have := HR.out.2.2.2.1.1; omega
          go_wp2_with fail
          refine (find_any _ G _ N xa xb HR.out.1.r hN3).mono ?_
          rintro e w3 ⟨rfl, ⟨i', rfl, hi'⟩ | ⟨rfl, hno⟩⟩
          · obtain rfl := stk_inj HR.out.1.s HR.out.2.2.2.2 hi'
            clear hi'
            go_wp2
            go_roundw
            case rel => exact ⟨k + 1, by omega, by go_num, F, G, N, HR.out.1, HR.out.2.1, HR.out.2.2.1, HR.out.2.2.2.1.le (by omega)⟩
            case measure => simp [intOf]; omega
          · exact (hno i HR.out.2.2.2.2).elim
        · have hno : ∀ i, ¬ AtNode N xa xb i := fun i hi => hex ⟨i, hi⟩
          clear hex
          have HQ := Lib.hid (And.intro hB (And.intro h1 (And.intro h2 (And.intro h3 (And.intro hno (And.intro wfa (And.intro wfb (And.intro kx fx))))))))
          clear hB h1 h2 h3 hno wfa wfb HW kx fx
          go_wp2_with fail
          obtain ⟨hB, h1, h2, h3, hno, wfa, wfb, kx, fx⟩ := HQ.out
          refine (node_new _ F b N xa xb wfa wfb hB.s (by have := h3.1; omega) hno).mono ?_
          rintro e w2 ⟨rfl, F', S', U', hF'⟩
          have R2 := hB.r.upd U' (fun q hg hf => hB.d q hf hg)
          have d2 : ∀ q, F' q → ¬ G q := fun q hq hg => by
            rcases hF' q hq with h4 | h4
            · exact hB.d q h4 hg
            · have := hB.r.lt q hg
              omega
          have b2 : Below w.heap.size w w2 := h1.trans (U'.below (fun i _ hi => h2 i (.inl hi)) h1.size)
          have f2 : ∀ q, F' q → w.heap.size ≤ q := fun q hq => by
            rcases hF' q hq with h4 | h4
            · exact h2 q (.inl h4)
            · have := h1.size
              omega
          have g2 : ∀ q, G q → w.heap.size ≤ q := fun q hq => h2 q (.inr hq)
          have HR := Lib.hid (And.intro S' (And.intro R2 (And.intro d2 (And.intro b2 (And.intro f2 (And.intro g2 (And.intro h3 hno)))))))
          have kx2 := kx.upd U' (fun hf => fx _ hf rfl)
          have x2 := kx2.cell 2
          have x3 := kx2.cell 3
          simp only [List.getElem?_toArray, List.getElem?_cons_succ, List.getElem?_cons_zero] at x2 x3
          clear hB h1 h2 h3 hno wfa wfb HQ S' R2 d2 b2 f2 g2 U' hF' kx kx2 fx
          have hN3 : N.length ≤ 1000000 := by have := HR.out.2.2.2.2.2.2.1.1; omega
          go_wp2_with fail
          refine (find_any _ G _ N xa xb HR.out.2.1 hN3).mono ?_
          rintro e w3 ⟨rfl, ⟨i', rfl, hi'⟩ | ⟨rfl, -⟩⟩
          · exact (HR.out.2.2.2.2.2.2.2 i' hi').elim
          · obtain ⟨S', ⟨O, D, hs, rfl⟩, d2, b2, f2, g2, h3, -⟩ := HR.out
            clear HR
            obtain ⟨i0, hi0, hz0, hz1, hz2⟩ := info_parts info_rnode
            obtain ⟨v8, w8, happ, own8, gr8, -, pl8⟩ := run_append_own_at (P := Try.prog) (w2.alloc (.cells #[.int .i64 xa, .int .i64 xb, .slice none 0 0, .slice none 0 0] 59)) 0 54 54 59 i0 _ 4 64 Try.underlying54 hi0 hz0 hz1 hz2 rfl (by decide) _ N.length _ (hs.row.alloc _) ⟨w2.heap.size, 0, none⟩ 1 1
              [.int .i64 xa, .int .i64 xb, .slice none 0 0, .slice none 0 0] rfl (by
                intro j u hu
                match j, hu with
                | 0, hu => simp [Addr.add] at hu ⊢; exact hu
                | 1, hu => simp [Addr.add] at hu ⊢; exact hu
                | 2, hu => simp [Addr.add] at hu ⊢; exact hu
                | 3, hu => simp [Addr.add] at hu ⊢; exact hu
                | j + 4, hu => simp at hu) (by simp [Value.oneCell']) (by unfold maxLen; omega) (by omega) (Nat.zero_le _)
            obtain ⟨G', R8, U8, hG8⟩ := ref_node_at hs _ gr8 own8 pl8
            have fin : PI w b (k + 1) v8 w8 := by
              refine ⟨F', G', _, ⟨S'.upd U8 (fun q h4 h5 => d2 q h4 h5), R8, fun q h4 h5 => ?_⟩, b2.trans (U8.below (fun i _ hi => g2 i hi) b2.size), fun q hq => ?_, h3.node xa xb⟩
              · rcases hG8 q h5 with h6 | h6
                · exact d2 q h4 h6
                · have := S'.lt q h4
                  omega
              · rcases hq with hq | hq
                · exact f2 q hq
                · rcases hG8 q hq with h6 | h6
                  · exact g2 q h6
                  · exact Nat.le_trans b2.size h6
            have FIN := Lib.hid fin
            clear fin S' hs d2 b2 f2 g2 h3 hi0 hz0 hz1 hz2 own8 gr8 pl8 R8 U8 hG8
            go_wp2_with (at_builtin; refine wpList_append_run rfl _ _ _ rfl rfl rfl happ ?_)
            go_roundw
            case rel => exact ⟨k + 1, by omega, by go_num, FIN.out⟩
            case measure => simp [intOf]; omega
      by_cases d1 : xd = 1
      · subst d1
        clear d0
        go_wp2_with fail
        refine (push_pi w b k _ _ xn xa xb HW.out.2.2.1 hk3 HW.out.2.2.2.1).mono ?_
        rintro e w2 ⟨rfl, P2⟩
        have HP2 := Lib.hid P2
        clear P2
        go_wp2
        go_roundw
        case rel => exact ⟨k + 1, by omega, by go_num, HP2.out⟩
        case measure => simp [intOf]; omega
      by_cases d2 : xd = 2
      · subst d2
        clear d0 d1
        go_wp2_with fail
        refine (pop_pi w b k _ _ xn xa HW.out.2.1 hk3 HW.out.2.2.2.1).mono ?_
        rintro e w2 ⟨rfl, P2⟩
        have HP2 := Lib.hid P2
        clear P2
        go_wp2
        go_roundw
        case rel => exact ⟨k + 1, by omega, by go_num, HP2.out⟩
        case measure => simp [intOf]; omega
      by_cases d3 : xd = 3
      · subst d3
        clear d0 d1 d2
        go_wp2_with fail
        refine (look_pi w b k _ _ xn hk3 HW.out.2.2.2.1).mono ?_
        rintro e w2 ⟨rfl, P2⟩
        have HP2 := Lib.hid P2
        clear P2
        go_wp2
        go_roundw
        case rel => exact ⟨k + 1, by omega, by go_num, HP2.out⟩
        case measure => simp [intOf]; omega
      by_cases d4 : xd = 4
      · subst d4
        clear d0 d1 d2 d3
        go_wp2_with fail
        refine (all_pi w b k _ _ xa hk3 HW.out.2.2.2.1).mono ?_
        rintro e w2 ⟨rfl, P2⟩
        have HP2 := Lib.hid P2
        clear P2
        go_wp2
        go_roundw
        case rel => exact ⟨k + 1, by omega, by go_num, HP2.out⟩
        case measure => simp [intOf]; omega
      have q0 : (xd == 0) = false := by simpa using d0
      have q1 : (xd == 1) = false := by simpa using d1
      have q2 : (xd == 2) = false := by simpa using d2
      have q3 : (xd == 3) = false := by simpa using d3
      have q4 : (xd == 4) = false := by simpa using d4
      clear d0 d1 d2 d3 d4
      go_wp2
      go_roundw
      case rel => exact ⟨k + 1, by omega, by go_num, HW.out.2.2.2.1.mono (by omega)⟩
      case measure => simp [intOf]; omega
    · obtain rfl : k = m := by omega
      obtain ⟨F, G, N, hB, h1, h2, h3⟩ := P
      obtain rfl := hB.r.len
      obtain ⟨wo, rfl⟩ : ∃ wo : World, wo = wr := ⟨_, rfl⟩
      have HB := Lib.hid (And.intro hB (And.intro h1 (And.intro h2 (And.intro h3 hcv))))
      clear hB h1 h2 h3 hcv HP
      go_wp2
      go_loopw [14] (fun i wr => ∃ j : Nat, j ≤ N.length ∧ i = .int .i64 j ∧ Below wo.heap.size wo wr) (fun i _ => N.length - (intOf i).toNat)
      case atStart => exact ⟨0, Nat.zero_le _, rfl, Below.refl _ _⟩
      case round =>
        obtain ⟨j, hj, rfl, bel⟩ := hrel
        have HL := Lib.hid bel
        clear bel
        by_cases hltj : j < N.length
        · obtain ⟨x, hx⟩ : ∃ x, N[j]? = some x := ⟨N[j], List.getElem?_eq_getElem hltj⟩
          have hs := HB.out.2.2.2.1.2 j x hx
          have HX := Lib.hid (And.intro hx hs)
          clear hx hs
          go_wp2_with fail
          refine (rlook_yes wr F G b _ N j x (HB.out.1.below HL.out) HX.out.1 (by have := HX.out.2.2; omega) (by have := HX.out.2.1; omega)).mono ?_
          rintro e w3 ⟨rfl, b3⟩
          have H3 := Lib.hid (HL.out.trans (b3.mono HL.out.size))
          clear b3
          go_wp2
          go_roundw
          case rel => exact ⟨j + 1, by omega, by go_num, H3.out⟩
          case measure => simp [intOf]; omega
        · obtain rfl : j = N.length := by omega
          go_wp2_with fail
          refine (len_any _ F b N (HB.out.1.below HL.out).s).mono ?_
          rintro e w3 ⟨rfl, rfl⟩
          have hnn : ((N.length : Int) == (N.length : Int)) = true := by simp
          go_wp2_with fail
          refine (rall wr F G b _ N 0 (HB.out.1.below HL.out) (by have := HB.out.2.2.2.1.1; omega) (fun i x hx => by have := (HB.out.2.2.2.1.2 i x hx).1; omega)).mono ?_
          rintro e w4 ⟨rfl, b4⟩
          have H4 := Lib.hid (HL.out.trans (b4.mono HL.out.size))
          clear b4
          go_wp2_with fail
          refine (awake_any _).mono ?_
          rintro e w5 ⟨rfl, b5⟩
          have H5 := Lib.hid (H4.out.trans (b5.mono H4.out.size))
          clear b5
          go_wp2
          go_ret
          exact ⟨rfl, HB.out.2.1.trans (H5.out.mono HB.out.2.1.size)⟩

set_option maxRecDepth 20000 in
theorem plays_big (w : World) (A : Option Addr) (m c : Nat) (hm : 300 < m) :
    Calls Try.prog 5 #[.slice A m c] w fun e w' => e = .returned (.bool true) ∧ Below w.heap.size w w' := by
  have hdec : decide ((300 : Int) < (m : Int)) = true := by simp; omega
  go_enter Try.func5, Try.ntmps5
  go_wp2_with fail
  refine (awake_any _).mono ?_
  rintro e w5 ⟨rfl, b5⟩
  have H5 := Lib.hid b5
  clear b5
  go_wp2
  go_ret
  exact ⟨rfl, H5.out⟩
end Go.Proofs.Ytbppbgdmoihooaa
