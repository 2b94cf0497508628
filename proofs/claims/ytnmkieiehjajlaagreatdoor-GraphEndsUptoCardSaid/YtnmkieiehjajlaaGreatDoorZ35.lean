/- Matrices of bits: Get; Blocks of bits: Of, of one cell; Blocks of bits: two held against one another; Matrices of bits: their rows as they grow. -/
import Derived.Test.YtnmkieiehjajlaaGreatDoorZ34
import Derived.ChangeKeysEq
import Derived.Test.YtnmkieiehjajlaaGreatDoorZ14
set_option linter.unusedVariables false
set_option linter.unusedSimpArgs false
namespace Go.Proofs.YtnmkieiehjajlaaGreatDoor
open Go.RowKit

def bitO : Option (List Nat) → Nat → Nat → Bool
  | none, _, _ => false
  | some r, i, j => bitW r i j
set_option maxHeartbeats 2000000 in
set_option maxRecDepth 20000 in
theorem qget_any (w : World) (F : Nat → Prop) (p side : Nat) (b : Option (List Nat)) (h : QuS w F p side b) (i j : Nat) (hi : i < side) (hj : j < side) (hi6 : i < 64) (hj6 : j < 64) :
    Calls Tryz.prog 74 #[.pointer (some ⟨p, 0, none⟩), .int .i64 (i : Int), .int .i64 (j : Int)] w (Sam w (.tuple #[.bool (bitO b i j), .int .i64 0])) := by
  obtain ⟨O, dep, cnt, m, last, L, pv, lv, hq, ok, -⟩ := h
  have q0 : w.cell? ⟨p, 0, none⟩ = some (.int .i64 (side : Int)) := hq.blk.cell 0
  have d1 := ok.d1
  have d2 := ok.d2
  have s1 := ok.s1
  have qi : (i : Int).tdiv 64 = 0 := by rw [Int.tdiv_eq_ediv_of_nonneg (by omega)]; omega
  have qj : (j : Int).tdiv 64 = 0 := by rw [Int.tdiv_eq_ediv_of_nonneg (by omega)]; omega
  have ri : (i : Int).tmod 64 = i := by rw [Int.tmod_eq_emod_of_nonneg (by omega)]; omega
  have rj : (j : Int).tmod 64 = j := by rw [Int.tmod_eq_emod_of_nonneg (by omega)]; omega
  cases b with
  | none =>
    obtain ⟨rfl, rfl, rfl, rfl⟩ := ok.no rfl
    have hlf := leaf_any w O p side dep 0 0 0 [] pv lv hq (by omega) d2 (.inl ⟨rfl, rfl⟩)
    clear hq ok d1 d2
    go_enter Tryz.func74, Tryz.ntmps74
    go_wp2_with fail
    refine (qis_any w p side s1 q0).mono ?_
    rintro e w' ⟨rfl, hw⟩
    subst w'
    go_wp2_with fail
    refine (qin_any w p side i hi q0).mono ?_
    rintro e w' ⟨rfl, hw⟩
    subst w'
    go_wp2_with fail
    refine (qin_any w p side j hj q0).mono ?_
    rintro e w' ⟨rfl, hw⟩
    subst w'
    go_wp2_with fail
    refine hlf.mono ?_
    clear hlf
    rintro e W1 ⟨rfl, b1⟩
    have FIN := Lib.hid b1
    clear b1 q0
    go_wp2
    refine bodyPost_ret (v := .tuple #[.bool false, .int .i64 0]) (by simp [results, Tryz.f74, go_sem]) rfl ⟨rfl, FIN.out⟩
  | some r =>
    obtain ⟨hm, rfl, rfl, rfl, hr⟩ := ok.is r rfl
    have hlf := leaf_any w O p side dep (lenB r) m 1 [r] pv lv hq (by omega) d2 (.inr ⟨rfl, hm⟩)
    obtain ⟨lg, lc, e, -, -, -, -, -⟩ := own_cells hq.rl (by simp)
    subst e
    have SR := Lib.hid (show ∀ W, Below w.heap.size w W → W.cell? ⟨p, 4, none⟩ = some (.slice (some ⟨lg, 0, none⟩) 1 lc) ∧ W.rangeAt lg 0 (wdC r) from fun W hb => by
      have hi := hq.upd (Upd.of_below hb (fun _ => False)) (fun _ _ => id)
      refine ⟨hi.blk.cell 4, fun j u hu => ?_⟩
      obtain ⟨g', c', e', -, -, -, -, hc'⟩ := own_cells hi.rl (by simp)
      injection e' with e'
      injection e' with e'
      injection e' with e'
      subst e'
      rw [Nat.zero_add]
      exact (hc' j u (by simpa [lfC] using hu)).1)
    have HR := Lib.hid hr
    have hsz := info_wd hr
    clear hq ok d1 d2 hm hr
    go_enter Tryz.func74, Tryz.ntmps74
    go_wp2_with fail
    refine (qis_any w p side s1 q0).mono ?_
    rintro e w' ⟨rfl, hw⟩
    subst w'
    go_wp2_with fail
    refine (qin_any w p side i hi q0).mono ?_
    rintro e w' ⟨rfl, hw⟩
    subst w'
    go_wp2_with fail
    refine (qin_any w p side j hj q0).mono ?_
    rintro e w' ⟨rfl, hw⟩
    subst w'
    go_wp2_with fail
    refine hlf.mono ?_
    clear hlf
    rintro e W1 ⟨rfl, b1⟩
    have HB1 := Lib.hid b1
    obtain ⟨q4, hrg⟩ := SR.out W1 b1
    have hcon := bget_any W1 r HR.out i j hi6 hj6
    clear b1 q0
    unfold wdV at hcon
    go_upto_region 8 with (fail)
    go_wp2_with (first | (refine wpList_load_mid rfl 124 _ rfl lg 0 rfl (wdC r) (.array 64 122) hrg Tryz.underlying124 rfl hsz ?_) | fail)
    refine hcon.mono ?_
    clear hcon q4 hrg SR hsz
    rintro e W2 ⟨rfl, b2⟩
    have FIN := Lib.hid (HB1.out.trans (b2.mono HB1.out.size))
    clear b2
    go_wp2
    refine bodyPost_ret (v := .tuple #[.bool (bitW r i j), .int .i64 0]) (by simp [results, Tryz.f74, go_sem]) rfl ⟨rfl, FIN.out⟩
end Go.Proofs.YtnmkieiehjajlaaGreatDoor
namespace Go.Proofs.YtnmkieiehjajlaaGreatDoor
open Go.RowKit

def oneB (i j : Nat) : List Nat := zero64.set i (2 ^ j)
theorem zero64_len : zero64.length = 64 := by simp [zero64]
theorem zero64_wd : Wd zero64 := ⟨zero64_len, fun x hx => by
  unfold zero64 at hx
  rw [List.eq_of_mem_replicate hx]
  decide⟩
theorem zero64_at {i : Nat} (hi : i < 64) : zero64[i]? = some 0 := by unfold zero64; rw [List.getElem?_replicate, if_pos hi]
theorem pow_int (j : Nat) : (((2 : Nat) ^ j : Nat) : Int) = (2 : Int) ^ j := by push_cast; rfl
theorem pow_fit {j : Nat} (hj : j < 64) : 2 ^ j < 18446744073709551616 := Nat.pow_lt_pow_right (a := 2) (by decide) hj
theorem oneB_wd {i j : Nat} (hj : j < 64) : Wd (oneB i j) := ⟨by simp [oneB, zero64_len], fun x hx => by
  rcases List.mem_or_eq_of_mem_set hx with h | rfl
  · exact zero64_wd.fit x h
  · exact pow_fit hj⟩
set_option maxHeartbeats 4000000 in
set_option maxRecDepth 20000 in
theorem bof_any (w : World) (g0 i j : Nat) (hi : i < 64) (hj : j < 64) (hr : Blk w g0 121 #[.int .i64 (i : Int), .int .i64 (j : Int)]) : Calls Tryz.prog 84 #[.slice (some ⟨g0, 0, none⟩) 1 1] w (Sam w (.tuple #[wdV (oneB i j), .int .i64 0])) := by
  have k0 := (Blk.new w 124 #[Value.int .u64 0, Value.int .u64 0, Value.int .u64 0, Value.int .u64 0, Value.int .u64 0, Value.int .u64 0, Value.int .u64 0, Value.int .u64 0, Value.int .u64 0, Value.int .u64 0, Value.int .u64 0, Value.int .u64 0, Value.int .u64 0, Value.int .u64 0, Value.int .u64 0, Value.int .u64 0, Value.int .u64 0, Value.int .u64 0, Value.int .u64 0, Value.int .u64 0, Value.int .u64 0, Value.int .u64 0, Value.int .u64 0, Value.int .u64 0, Value.int .u64 0, Value.int .u64 0, Value.int .u64 0, Value.int .u64 0, Value.int .u64 0, Value.int .u64 0, Value.int .u64 0, Value.int .u64 0, Value.int .u64 0, Value.int .u64 0, Value.int .u64 0, Value.int .u64 0, Value.int .u64 0, Value.int .u64 0, Value.int .u64 0, Value.int .u64 0, Value.int .u64 0, Value.int .u64 0, Value.int .u64 0, Value.int .u64 0, Value.int .u64 0, Value.int .u64 0, Value.int .u64 0, Value.int .u64 0, Value.int .u64 0, Value.int .u64 0, Value.int .u64 0, Value.int .u64 0, Value.int .u64 0, Value.int .u64 0, Value.int .u64 0, Value.int .u64 0, Value.int .u64 0, Value.int .u64 0, Value.int .u64 0, Value.int .u64 0, Value.int .u64 0, Value.int .u64 0, Value.int .u64 0, Value.int .u64 0]).alloc (.cells #[Value.int .u64 0, Value.int .u64 0, Value.int .u64 0, Value.int .u64 0, Value.int .u64 0, Value.int .u64 0, Value.int .u64 0, Value.int .u64 0, Value.int .u64 0, Value.int .u64 0, Value.int .u64 0, Value.int .u64 0, Value.int .u64 0, Value.int .u64 0, Value.int .u64 0, Value.int .u64 0, Value.int .u64 0, Value.int .u64 0, Value.int .u64 0, Value.int .u64 0, Value.int .u64 0, Value.int .u64 0, Value.int .u64 0, Value.int .u64 0, Value.int .u64 0, Value.int .u64 0, Value.int .u64 0, Value.int .u64 0, Value.int .u64 0, Value.int .u64 0, Value.int .u64 0, Value.int .u64 0, Value.int .u64 0, Value.int .u64 0, Value.int .u64 0, Value.int .u64 0, Value.int .u64 0, Value.int .u64 0, Value.int .u64 0, Value.int .u64 0, Value.int .u64 0, Value.int .u64 0, Value.int .u64 0, Value.int .u64 0, Value.int .u64 0, Value.int .u64 0, Value.int .u64 0, Value.int .u64 0, Value.int .u64 0, Value.int .u64 0, Value.int .u64 0, Value.int .u64 0, Value.int .u64 0, Value.int .u64 0, Value.int .u64 0, Value.int .u64 0, Value.int .u64 0, Value.int .u64 0, Value.int .u64 0, Value.int .u64 0, Value.int .u64 0, Value.int .u64 0, Value.int .u64 0, Value.int .u64 0] 124)
  have k1 := Blk.new (w.alloc (.cells #[Value.int .u64 0, Value.int .u64 0, Value.int .u64 0, Value.int .u64 0, Value.int .u64 0, Value.int .u64 0, Value.int .u64 0, Value.int .u64 0, Value.int .u64 0, Value.int .u64 0, Value.int .u64 0, Value.int .u64 0, Value.int .u64 0, Value.int .u64 0, Value.int .u64 0, Value.int .u64 0, Value.int .u64 0, Value.int .u64 0, Value.int .u64 0, Value.int .u64 0, Value.int .u64 0, Value.int .u64 0, Value.int .u64 0, Value.int .u64 0, Value.int .u64 0, Value.int .u64 0, Value.int .u64 0, Value.int .u64 0, Value.int .u64 0, Value.int .u64 0, Value.int .u64 0, Value.int .u64 0, Value.int .u64 0, Value.int .u64 0, Value.int .u64 0, Value.int .u64 0, Value.int .u64 0, Value.int .u64 0, Value.int .u64 0, Value.int .u64 0, Value.int .u64 0, Value.int .u64 0, Value.int .u64 0, Value.int .u64 0, Value.int .u64 0, Value.int .u64 0, Value.int .u64 0, Value.int .u64 0, Value.int .u64 0, Value.int .u64 0, Value.int .u64 0, Value.int .u64 0, Value.int .u64 0, Value.int .u64 0, Value.int .u64 0, Value.int .u64 0, Value.int .u64 0, Value.int .u64 0, Value.int .u64 0, Value.int .u64 0, Value.int .u64 0, Value.int .u64 0, Value.int .u64 0, Value.int .u64 0] 124)) 124 #[Value.int .u64 0, Value.int .u64 0, Value.int .u64 0, Value.int .u64 0, Value.int .u64 0, Value.int .u64 0, Value.int .u64 0, Value.int .u64 0, Value.int .u64 0, Value.int .u64 0, Value.int .u64 0, Value.int .u64 0, Value.int .u64 0, Value.int .u64 0, Value.int .u64 0, Value.int .u64 0, Value.int .u64 0, Value.int .u64 0, Value.int .u64 0, Value.int .u64 0, Value.int .u64 0, Value.int .u64 0, Value.int .u64 0, Value.int .u64 0, Value.int .u64 0, Value.int .u64 0, Value.int .u64 0, Value.int .u64 0, Value.int .u64 0, Value.int .u64 0, Value.int .u64 0, Value.int .u64 0, Value.int .u64 0, Value.int .u64 0, Value.int .u64 0, Value.int .u64 0, Value.int .u64 0, Value.int .u64 0, Value.int .u64 0, Value.int .u64 0, Value.int .u64 0, Value.int .u64 0, Value.int .u64 0, Value.int .u64 0, Value.int .u64 0, Value.int .u64 0, Value.int .u64 0, Value.int .u64 0, Value.int .u64 0, Value.int .u64 0, Value.int .u64 0, Value.int .u64 0, Value.int .u64 0, Value.int .u64 0, Value.int .u64 0, Value.int .u64 0, Value.int .u64 0, Value.int .u64 0, Value.int .u64 0, Value.int .u64 0, Value.int .u64 0, Value.int .u64 0, Value.int .u64 0, Value.int .u64 0]
  simp only [World.size_alloc] at k1
  have u0 : Below w.heap.size w ((w.alloc (.cells #[Value.int .u64 0, Value.int .u64 0, Value.int .u64 0, Value.int .u64 0, Value.int .u64 0, Value.int .u64 0, Value.int .u64 0, Value.int .u64 0, Value.int .u64 0, Value.int .u64 0, Value.int .u64 0, Value.int .u64 0, Value.int .u64 0, Value.int .u64 0, Value.int .u64 0, Value.int .u64 0, Value.int .u64 0, Value.int .u64 0, Value.int .u64 0, Value.int .u64 0, Value.int .u64 0, Value.int .u64 0, Value.int .u64 0, Value.int .u64 0, Value.int .u64 0, Value.int .u64 0, Value.int .u64 0, Value.int .u64 0, Value.int .u64 0, Value.int .u64 0, Value.int .u64 0, Value.int .u64 0, Value.int .u64 0, Value.int .u64 0, Value.int .u64 0, Value.int .u64 0, Value.int .u64 0, Value.int .u64 0, Value.int .u64 0, Value.int .u64 0, Value.int .u64 0, Value.int .u64 0, Value.int .u64 0, Value.int .u64 0, Value.int .u64 0, Value.int .u64 0, Value.int .u64 0, Value.int .u64 0, Value.int .u64 0, Value.int .u64 0, Value.int .u64 0, Value.int .u64 0, Value.int .u64 0, Value.int .u64 0, Value.int .u64 0, Value.int .u64 0, Value.int .u64 0, Value.int .u64 0, Value.int .u64 0, Value.int .u64 0, Value.int .u64 0, Value.int .u64 0, Value.int .u64 0, Value.int .u64 0] 124)).alloc (.cells #[Value.int .u64 0, Value.int .u64 0, Value.int .u64 0, Value.int .u64 0, Value.int .u64 0, Value.int .u64 0, Value.int .u64 0, Value.int .u64 0, Value.int .u64 0, Value.int .u64 0, Value.int .u64 0, Value.int .u64 0, Value.int .u64 0, Value.int .u64 0, Value.int .u64 0, Value.int .u64 0, Value.int .u64 0, Value.int .u64 0, Value.int .u64 0, Value.int .u64 0, Value.int .u64 0, Value.int .u64 0, Value.int .u64 0, Value.int .u64 0, Value.int .u64 0, Value.int .u64 0, Value.int .u64 0, Value.int .u64 0, Value.int .u64 0, Value.int .u64 0, Value.int .u64 0, Value.int .u64 0, Value.int .u64 0, Value.int .u64 0, Value.int .u64 0, Value.int .u64 0, Value.int .u64 0, Value.int .u64 0, Value.int .u64 0, Value.int .u64 0, Value.int .u64 0, Value.int .u64 0, Value.int .u64 0, Value.int .u64 0, Value.int .u64 0, Value.int .u64 0, Value.int .u64 0, Value.int .u64 0, Value.int .u64 0, Value.int .u64 0, Value.int .u64 0, Value.int .u64 0, Value.int .u64 0, Value.int .u64 0, Value.int .u64 0, Value.int .u64 0, Value.int .u64 0, Value.int .u64 0, Value.int .u64 0, Value.int .u64 0, Value.int .u64 0, Value.int .u64 0, Value.int .u64 0, Value.int .u64 0] 124)) := by (repeat (first | exact Below.refl _ _ | apply Below.drew | refine Below.alloc ?_ (by first | exact Nat.le_refl _ | (simp; done) | (simp; omega)) _ | refine Below.setCell ?_ (by first | exact Nat.le_refl _ | (simp; done) | (simp; omega)) _))
  have H := Lib.hid (And.intro (hr.upd (Upd.of_below u0 (fun _ => False)) id) (And.intro (zero64_blk.mp k0) (And.intro (zero64_blk.mp k1) u0)))
  have hg0 := hr.lt
  clear k0 k1 u0 hr
  go_enter Tryz.func84, Tryz.ntmps84
  go_upto_region 2 with (fail)
  generalize (w.alloc (.cells #[Value.int .u64 0, Value.int .u64 0, Value.int .u64 0, Value.int .u64 0, Value.int .u64 0, Value.int .u64 0, Value.int .u64 0, Value.int .u64 0, Value.int .u64 0, Value.int .u64 0, Value.int .u64 0, Value.int .u64 0, Value.int .u64 0, Value.int .u64 0, Value.int .u64 0, Value.int .u64 0, Value.int .u64 0, Value.int .u64 0, Value.int .u64 0, Value.int .u64 0, Value.int .u64 0, Value.int .u64 0, Value.int .u64 0, Value.int .u64 0, Value.int .u64 0, Value.int .u64 0, Value.int .u64 0, Value.int .u64 0, Value.int .u64 0, Value.int .u64 0, Value.int .u64 0, Value.int .u64 0, Value.int .u64 0, Value.int .u64 0, Value.int .u64 0, Value.int .u64 0, Value.int .u64 0, Value.int .u64 0, Value.int .u64 0, Value.int .u64 0, Value.int .u64 0, Value.int .u64 0, Value.int .u64 0, Value.int .u64 0, Value.int .u64 0, Value.int .u64 0, Value.int .u64 0, Value.int .u64 0, Value.int .u64 0, Value.int .u64 0, Value.int .u64 0, Value.int .u64 0, Value.int .u64 0, Value.int .u64 0, Value.int .u64 0, Value.int .u64 0, Value.int .u64 0, Value.int .u64 0, Value.int .u64 0, Value.int .u64 0, Value.int .u64 0, Value.int .u64 0, Value.int .u64 0, Value.int .u64 0] 124)).alloc (.cells #[Value.int .u64 0, Value.int .u64 0, Value.int .u64 0, Value.int .u64 0, Value.int .u64 0, Value.int .u64 0, Value.int .u64 0, Value.int .u64 0, Value.int .u64 0, Value.int .u64 0, Value.int .u64 0, Value.int .u64 0, Value.int .u64 0, Value.int .u64 0, Value.int .u64 0, Value.int .u64 0, Value.int .u64 0, Value.int .u64 0, Value.int .u64 0, Value.int .u64 0, Value.int .u64 0, Value.int .u64 0, Value.int .u64 0, Value.int .u64 0, Value.int .u64 0, Value.int .u64 0, Value.int .u64 0, Value.int .u64 0, Value.int .u64 0, Value.int .u64 0, Value.int .u64 0, Value.int .u64 0, Value.int .u64 0, Value.int .u64 0, Value.int .u64 0, Value.int .u64 0, Value.int .u64 0, Value.int .u64 0, Value.int .u64 0, Value.int .u64 0, Value.int .u64 0, Value.int .u64 0, Value.int .u64 0, Value.int .u64 0, Value.int .u64 0, Value.int .u64 0, Value.int .u64 0, Value.int .u64 0, Value.int .u64 0, Value.int .u64 0, Value.int .u64 0, Value.int .u64 0, Value.int .u64 0, Value.int .u64 0, Value.int .u64 0, Value.int .u64 0, Value.int .u64 0, Value.int .u64 0, Value.int .u64 0, Value.int .u64 0, Value.int .u64 0, Value.int .u64 0, Value.int .u64 0, Value.int .u64 0] 124) = W0 at H ⊢
  go_wp2_with fail
  go_loopw [9] (fun t wr => ∃ k : Nat, k ≤ 1 ∧ t = .int .i64 k ∧ Hid (Blk wr g0 121 #[.int .i64 (i : Int), .int .i64 (j : Int)]) ∧ Hid (Blk wr w.heap.size 124 (wdC zero64).toArray) ∧ Hid (Blk wr (w.heap.size + 1) 124 (wdC (if k = 0 then zero64 else oneB i j)).toArray) ∧ Hid (Below w.heap.size w wr)) (fun t _ => 1 - (intOf t).toNat)
  case atStart => exact ⟨0, Nat.zero_le _, rfl, Lib.hid H.out.1, Lib.hid H.out.2.1, Lib.hid H.out.2.2.1, Lib.hid H.out.2.2.2⟩
  case round =>
    obtain ⟨k, hk, rfl, hC, hZ, hB, hbw⟩ := hrel
    by_cases hlt : k < 1
    · obtain rfl : k = 0 := by omega
      have q0 : wr.cell? ⟨g0, 0, none⟩ = some (.int .i64 (i : Int)) := hC.out.cell 0
      have q1 : wr.cell? ⟨g0, 1, none⟩ = some (.int .i64 (j : Int)) := hC.out.cell 1
      have k5 := Blk.new wr 121 #[.int .i64 (i : Int), .int .i64 (j : Int)]
      have b5 : Below wr.heap.size wr (wr.alloc (.cells #[.int .i64 (i : Int), .int .i64 (j : Int)] 121)) := (Below.refl _ _).alloc (Nat.le_refl _) _
      have H5 := Lib.hid (And.intro k5 (And.intro (hC.out.alloc (.cells #[.int .i64 (i : Int), .int .i64 (j : Int)] 121)) (And.intro (hZ.out.alloc (.cells #[.int .i64 (i : Int), .int .i64 (j : Int)] 121)) (And.intro (hB.out.alloc (.cells #[.int .i64 (i : Int), .int .i64 (j : Int)] 121)) (hbw.out.trans (b5.mono hbw.out.size))))))
      have hlw : w.heap.size + 1 < wr.heap.size := hB.out.lt
      clear k5 b5 hC hZ hB hbw
      go_upto_region 5 with (fail)
      generalize wr.alloc (.cells #[.int .i64 (i : Int), .int .i64 (j : Int)] 121) = W5 at H5 ⊢
      clear q0 q1
      have q0 : W5.cell? ⟨wr.heap.size, 0, none⟩ = some (.int .i64 (i : Int)) := H5.out.1.cell 0
      have q1 : W5.cell? ⟨wr.heap.size, 1, none⟩ = some (.int .i64 (j : Int)) := H5.out.1.cell 1
      go_wp2_with fail
      refine (blkin_any i hi W5).mono ?_
      rintro e w' ⟨rfl, hw⟩
      subst w'
      go_wp2_with fail
      refine (blkin_any j hj W5).mono ?_
      rintro e w' ⟨rfl, hw⟩
      subst w'
      go_upto_region 7 with (fail)
      have kB : Blk W5 (w.heap.size + 1) 124 (wdC zero64).toArray := H5.out.2.2.2.1
      have c3 : W5.drew.cell? ⟨w.heap.size + 1, i, none⟩ = some (.int .u64 0) := (kB.drew.cell i).trans (by simpa using wdC_at (zero64_at hi))
      have f3 : W5.drew.frozen? ⟨w.heap.size + 1, i, none⟩ = false := kB.drew.frozen i
      have hS : W5.drew.cell? ⟨wr.heap.size, 0, none⟩ = some (.int .i64 (i : Int)) ∧ W5.drew.cell? ⟨wr.heap.size, 1, none⟩ = some (.int .i64 (j : Int)) ∧ W5.drew.cell? ⟨w.heap.size + 1, i, none⟩ = some (.int .u64 0) := ⟨q0, q1, c3⟩
      have hiI : (i : Int) < (64 : Int) := by omega
      have hj0 : ¬ ((j : Int) < 0) := by omega
      have HK := Lib.hid kB
      clear q0 q1 kB
      obtain ⟨q, hq⟩ : ∃ q : Nat, 2 ^ j = q := ⟨_, rfl⟩
      have hq64 : q < 18446744073709551616 := by rw [← hq]; exact pow_fit hj
      have hqi : ((q : Nat) : Int) = (2 : Int) ^ j := by rw [← hq, Int.natCast_pow]; rfl
      have hwp : IntKind.u64.wrap ((2 : Int) ^ j) = (q : Int) := by
        rw [← hqi, IntKind.wrap_u64]
        omega
      have hor := bits_or_u64_nat 0 q (by decide) hq64
      rw [Nat.zero_or] at hor
      have hor : bits .or .u64 0 (q : Int) = (q : Int) := hor
      clear hqi hq64
      have HQ := Lib.hid hq
      clear hq
      refine wp_region_ord (fun W => W.cell? ⟨wr.heap.size, 0, none⟩ = some (.int .i64 (i : Int)) ∧ W.cell? ⟨wr.heap.size, 1, none⟩ = some (.int .i64 (j : Int)) ∧ W.cell? ⟨w.heap.size + 1, i, none⟩ = some (.int .u64 0)) 9 [(0, true), (1, true), (2, true), (3, true), (4, true), (5, true), (6, true), (7, true), (8, true), (9, false)] (by kernel_rfl) (by kernel_rfl) (fun _ _ d _ _ h => by cases d <;> exact h) hS ?_
      iterate 9 (refine ord_take (v := ?_) rfl (by first | with_reducible rfl | kernel_rfl) ?_ ?_; rotate_left; (focus (intro wS hS; (try dsimp only at hS); go_split_ands; go_simp; (try with_reducible rfl); done)); (try simp only [Act.put, List.getElem_toArray, List.getElem_cons_succ, List.getElem_cons_zero, List.setIfInBounds_toArray, List.set_cons_zero, List.set_cons_succ]))
      refine ord_do rfl rfl (fun K hK => ?_)
      obtain ⟨z0, z1, z2⟩ := hS
      go_simp
      refine hK _ _ (fun h => absurd rfl h) ?_
      clear hK K z0 z1 z2 f3 c3
      (try simp only [Act.put, List.getElem_toArray, List.getElem_cons_succ, List.getElem_cons_zero, List.setIfInBounds_toArray, List.set_cons_zero, List.set_cons_succ])
      refine ord_done ?_
      have us : Upd (fun k => k = w.heap.size + 1) W5 ((W5.setCell ⟨w.heap.size + 1, i, none⟩ (.int .u64 (q : Int))).drew) := ((Upd.refl (fun k => k = w.heap.size + 1) W5).setCell (p := ⟨w.heap.size + 1, i, none⟩) (.inl rfl) _).drew
      have HN := Lib.hid (show Blk ((W5.setCell ⟨w.heap.size + 1, i, none⟩ (.int .u64 (q : Int))).drew) g0 121 #[.int .i64 (i : Int), .int .i64 (j : Int)] ∧ Blk ((W5.setCell ⟨w.heap.size + 1, i, none⟩ (.int .u64 (q : Int))).drew) w.heap.size 124 (wdC zero64).toArray ∧ Blk ((W5.setCell ⟨w.heap.size + 1, i, none⟩ (.int .u64 (q : Int))).drew) (w.heap.size + 1) 124 (wdC (oneB i j)).toArray ∧ Below w.heap.size w ((W5.setCell ⟨w.heap.size + 1, i, none⟩ (.int .u64 (q : Int))).drew) from by
        refine ⟨H5.out.2.1.upd us (by omega), H5.out.2.2.1.upd us (by omega), ?_, H5.out.2.2.2.2.trans (us.below (fun k _ e => by omega) (by have := H5.out.2.2.2.2.size; exact this))⟩
        have := (HK.out.set i (.int .u64 (q : Int))).drew
        rw [wdC_set] at this
        unfold oneB
        rw [HQ.out]
        exact this)
      clear us H5 HK
      generalize (W5.setCell ⟨w.heap.size + 1, i, none⟩ (.int .u64 (q : Int))).drew = W6 at HN ⊢
      go_wp2
      go_roundw
      case rel => exact ⟨1, by decide, by go_num, Lib.hid HN.out.1, Lib.hid HN.out.2.1, Lib.hid HN.out.2.2.1, Lib.hid HN.out.2.2.2⟩
      case measure => simp [intOf]
    · obtain rfl : k = 1 := by omega
      have hB2 : Blk wr (w.heap.size + 1) 124 (wdC (oneB i j)).toArray := hB.out
      have hz := oneB_wd (i := i) hj
      obtain ⟨r, hrr⟩ : ∃ r, oneB i j = r := ⟨_, rfl⟩
      rw [hrr] at hB2 hz
      have HRR := Lib.hid hrr
      clear hrr
      have hrg := range_blk hB2
      have hsz := info_wd hz
      have hth : wr.there w.heap.size 0 (wdC r).toArray.size := there_blk hZ.out (by simp [wdC_len, hz.len, zero64])
      have hsz2 : (Tryz.prog.info? 124).map (·.size) = some (wdC r).toArray.size := by simpa using hsz
      have h1c : (wdC r).toArray.all (·.oneCell') = true := all_oneCell_toArray (one_wd _)
      have FIN := Lib.hid (show Below w.heap.size w (wr.setCells w.heap.size 0 (wdC r)) ∧ (wr.setCells w.heap.size 0 (wdC r)).rangeAt w.heap.size 0 (wdC r) from ⟨hbw.out.trans ((Upd.setCells (F := fun q => q = w.heap.size) (.inl rfl) _ _ (Upd.refl _ _)).below (fun q _ e => by omega) hbw.out.size), World.rangeAt_setCells_same _ _ _ _ (by simpa using hth)⟩)
      clear hC hZ hB hbw hB2
      unfold wdV
      go_upto_region 9 with (fail)
      go_wp2_with (first | (refine wpList_load_mid rfl 124 _ rfl (w.heap.size + 1) 0 rfl (wdC r) (.array 64 122) hrg Tryz.underlying124 rfl hsz ?_) | (refine wpList_store_mid rfl 124 _ _ rfl w.heap.size 0 (wdC r).toArray rfl rfl hth hsz2 h1c ?_))
      have hlv := run_loadVar_mid (P := Tryz.prog) _ w.heap.size 0 124 (wdC r) (.array 64 122) FIN.out.2 Tryz.underlying124 rfl hsz
      refine bodyPost_ret (v := .tuple #[.agg (wdC r).toArray, .int .i64 0]) (by simp [results, Tryz.f84, Act.put, asAddr, hlv, Result.andThen, Sem.run_bind]) rfl ⟨by rw [HRR.out]; rfl, FIN.out.1⟩
end Go.Proofs.YtnmkieiehjajlaaGreatDoor
namespace Go.Proofs.YtnmkieiehjajlaaGreatDoor
open Go.RowKit

theorem part_wd (W : World) {r : List Nat} {i x : Nat} (h : r[i]? = some x) : (part 122 (wdC r).toArray (i * 1)).run Tryz.prog W = .ok (.int .u64 (x : Int)) W := by
  have h2 := wdC_at h
  simp [part, isAgg, run_underlying Tryz.underlying122, h2]
theorem eqItems_wd (W : World) (d : Nat) {r s : List Nat} (hr : r.length = 64) (hs : s.length = 64) : ∀ (is : List Nat), (∀ i ∈ is, i < 64) → (Op.eqItems (d + 1) 122 1 (wdC r).toArray (wdC s).toArray is).run Tryz.prog W = .ok (decide (∀ i ∈ is, r[i]? = s[i]?)) W
  | [], _ => by simp [Op.eqItems]
  | i :: is, hi => by
    have hi0 := hi i (by simp)
    obtain ⟨x, hx⟩ : ∃ x, r[i]? = some x := ⟨r[i]'(by omega), List.getElem?_eq_getElem _⟩
    obtain ⟨y, hy⟩ : ∃ x, s[i]? = some x := ⟨s[i]'(by omega), List.getElem?_eq_getElem _⟩
    have h9 := run_equalIn_int (P := Tryz.prog) W d 122 .u64 .u64 (x : Int) (y : Int) Tryz.underlying122
    have ih := eqItems_wd W d hr hs is (fun j hj => hi j (by simp [hj]))
    simp only [Op.eqItems, Sem.run_bind, part_wd W hx, part_wd W hy, Result.andThen_ok, h9]
    by_cases hxy : x = y
    · subst hxy
      simp only [beq_self_eq_true, Bool.not_true, Bool.false_eq_true, if_false]
      rw [ih]
      simp [hx, hy]
    · have : ((x : Int) == (y : Int)) = false := beq_eq_false_iff_ne.2 (fun e => hxy (by omega))
      rw [this]
      simp [hx, hy, hxy]
theorem all_eq {r s : List Nat} (hr : r.length = 64) (hs : s.length = 64) : decide (∀ i ∈ List.range 64, r[i]? = s[i]?) = decide (r = s) := by
  rw [Bool.eq_iff_iff, decide_eq_true_iff, decide_eq_true_iff]
  constructor
  · intro h
    apply List.ext_getElem?
    intro i
    by_cases hi : i < 64
    · exact h i (List.mem_range.2 hi)
    · rw [List.getElem?_eq_none (by omega), List.getElem?_eq_none (by omega)]
  · rintro rfl i _
    rfl
theorem info_u64 : (Tryz.prog.info? 122).isSome = true := by kernel_rfl
theorem cells_u64 : Tryz.prog.cellsOf 122 = 1 := by kernel_rfl
theorem eql_blk (W : World) {r s : List Nat} (hr : Wd r) (hs : Wd s) : (binOp .eql 124 (.agg (wdC r).toArray) (.agg (wdC s).toArray)).run Tryz.prog W = .ok (.bool (decide (r = s))) W := by
  obtain ⟨i0, hi0⟩ := Option.isSome_iff_exists.1 info_u64
  have e : (Op.equal 124 (.agg (wdC r).toArray) (.agg (wdC s).toArray)).run Tryz.prog W = .ok (decide (r = s)) W := by
    show (Op.equalIn (9999 + 1) _ _ _).run _ _ = _
    rw [run_equalIn_array (P := Tryz.prog) W 9999 _ _ Tryz.underlying124 hi0, cells_u64]
    rw [eqItems_wd W 9998 hr.len hs.len _ (fun i hi => List.mem_range.1 hi), all_eq hr.len hs.len]
  simp only [binOp]
  simp [e]
end Go.Proofs.YtnmkieiehjajlaaGreatDoor
namespace Go.Proofs.YtnmkieiehjajlaaGreatDoor
open Go.RowKit

structure QuX (w : World) (O : Nat → Option QRo) (p side dep cnt np : Nat) (xs : List Value) (nl : Nat) (ls : List Value) (pv lv : Value) : Prop where
  blk : Blk w p 116 #[.int .i64 (side : Int), .int .i64 (dep : Int), .int .i64 (cnt : Int), pv, lv]
  rp : w.ownsRow 0 169 4 pv np xs
  rl : w.ownsRow 0 124 64 lv nl ls
  op : O p = some .p
  oa : ∀ k, pv.ownBlock = some k → O k = some .a
  ol : ∀ k, lv.ownBlock = some k → O k = some .l
  lt : ∀ k, O k ≠ none → k < w.heap.size
theorem QuI.x {w : World} {O : Nat → Option QRo} {p side dep cnt m : Nat} {last : Int} {L : List (List Nat)} {pv lv : Value} (h : QuI w O p side dep cnt m last L pv lv) : QuX w O p side dep cnt (m + 1) (qsC m last) L.length (lfC L) pv lv := ⟨h.blk, h.rp, h.rl, h.op, h.oa, h.ol, h.lt⟩
theorem QuX.i {w : World} {O : Nat → Option QRo} {p side dep cnt m : Nat} {last : Int} {L : List (List Nat)} {pv lv : Value} (h : QuX w O p side dep cnt (m + 1) (qsC m last) L.length (lfC L) pv lv) : QuI w O p side dep cnt m last L pv lv := ⟨h.blk, h.rp, h.rl, h.op, h.oa, h.ol, h.lt⟩
theorem QuX.upd {w w' : World} {O : Nat → Option QRo} {p side dep cnt np nl : Nat} {xs ls : List Value} {pv lv : Value} {G : Nat → Prop} (h : QuX w O p side dep cnt np xs nl ls pv lv) (hu : Upd G w w') (hd : ∀ k, O k ≠ none → ¬ G k) : QuX w' O p side dep cnt np xs nl ls pv lv := by
  have no : ∀ k t, O k = some t → ¬ G k := fun k t e => hd k (by simp [e])
  exact ⟨h.blk.upd hu (no _ _ h.op), ownsRow_upd h.rp hu fun k hk => no _ _ (h.oa k hk), ownsRow_upd h.rl hu fun k hk => no _ _ (h.ol k hk), h.op, h.oa, h.ol, fun k hk => Nat.lt_of_lt_of_le (h.lt k hk) hu.size⟩
theorem QuX.below {w w' : World} {O : Nat → Option QRo} {p side dep cnt np nl : Nat} {xs ls : List Value} {pv lv : Value} (h : QuX w O p side dep cnt np xs nl ls pv lv) (hb : Below w.heap.size w w') : QuX w' O p side dep cnt np xs nl ls pv lv := h.upd (Upd.of_below hb (fun _ => False)) (fun _ _ => id)
theorem qsC_len (m : Nat) (last : Int) : (qsC m last).length = (m + 1) * 4 := by
  unfold qsC
  rw [List.length_append, flat_len _ 4 (fun _ => rfl), List.length_range]
  show m * 4 + 4 = _
  omega
theorem qsC_step (m : Nat) : (qsC m 0 ++ four 0).set (m * 4) (.int .i64 ((m : Int) + 2)) = qsC (m + 1) 0 := by
  have hl : ((List.range m).flatMap fun (i : Nat) => four ((i : Int) + 2)).length = m * 4 := by rw [flat_len _ 4 (fun _ => rfl), List.length_range]
  unfold qsC
  rw [List.append_assoc, List.set_append_right _ _ (by omega), hl, Nat.sub_self, List.range_succ, List.flatMap_append, List.flatMap_cons, List.flatMap_nil, List.append_nil, List.append_assoc]
  rfl
theorem qsC_end (m : Nat) : (qsC m 0).set (m * 4) (.int .i64 1) = qsC m 1 := by
  have hl : ((List.range m).flatMap fun (i : Nat) => four ((i : Int) + 2)).length = m * 4 := by rw [flat_len _ 4 (fun _ => rfl), List.length_range]
  unfold qsC
  rw [List.set_append_right _ _ (by omega), hl, Nat.sub_self]
  rfl
theorem QuX.pushP {w w1 : World} {O : Nat → Option QRo} {p side dep cnt np nl : Nat} {xs ls : List Value} {pv lv : Value} (h : QuX w O p side dep cnt np xs nl ls pv lv) {nv : Value} {n' : Nat} {ys : List Value} (own : w1.ownsRow 0 169 4 nv n' ys) (u : Upd (fun k => pv.ownBlock = some k) w w1)
    (pl : ∀ k, nv.ownBlock = some k → pv.ownBlock = some k ∨ w.heap.size ≤ k) : ∃ O', QuX (w1.setCell ⟨p, 3, none⟩ nv) O' p side dep cnt n' ys nl ls nv lv ∧ (∀ k, O' k ≠ none → O k ≠ none ∨ w.heap.size ≤ k) ∧ Upd (fun k => O k ≠ none) w (w1.setCell ⟨p, 3, none⟩ nv) := by
  have us := (Upd.refl (fun k => k = p) w1).setCell (p := ⟨p, 3, none⟩) (.inl rfl) nv
  have fresh : ∀ k, w.heap.size ≤ k → O k = none := fun k hk => by
    cases e : O k with
    | none => rfl
    | some t => have := h.lt k (by simp [e]); omega
  have hn : ∀ k, nv.ownBlock = some k → O k = some .a ∨ O k = none := fun k hk => by
    rcases pl k hk with h1 | h1
    · exact .inl (h.oa k h1)
    · exact .inr (fresh k h1)
  have keep : ∀ k t, O k = some t → (t = QRo.a → False) → (if nv.ownBlock = some k then some QRo.a else O k) = some t := fun k t e ht => by
    rw [if_neg, e]
    intro hk
    rcases hn k hk with h1 | h1
    · rw [h1] at e; injection e with e; exact ht e.symm
    · rw [h1] at e; cases e
  have bp : ¬ pv.ownBlock = some p := fun e => by have := h.oa _ e; rw [h.op] at this; cases this
  have np' : ∀ k, nv.ownBlock = some k → ¬ k = p := fun k hk e => by
    subst e
    rcases hn k hk with h1 | h1
    · rw [h.op] at h1; cases h1
    · rw [h.op] at h1; cases h1
  refine ⟨fun k => if nv.ownBlock = some k then some QRo.a else O k, ?_, fun k hk => ?_, ?_⟩
  · constructor
    case blk => exact (h.blk.upd u bp).set 3 nv
    case rp => exact ownsRow_upd own us np'
    case rl => exact ownsRow_upd (ownsRow_upd h.rl u fun k hk e => (by have := h.ol k hk; rw [h.oa k e] at this; cases this)) us fun k hk e => (by have := h.ol k hk; rw [e, h.op] at this; cases this)
    case op => exact keep _ _ h.op nofun
    case oa => exact fun k hk => if_pos hk
    case ol => exact fun k hk => keep _ _ (h.ol k hk) nofun
    case lt =>
      intro k hk
      (try dsimp only at hk)
      by_cases h1 : nv.ownBlock = some k
      · exact Nat.lt_of_lt_of_le (own.lt k h1).2 us.size
      · rw [if_neg h1] at hk
        exact Nat.lt_of_lt_of_le (h.lt k hk) (Nat.le_trans u.size us.size)
  · (try dsimp only at hk)
    by_cases h1 : nv.ownBlock = some k
    · rcases pl k h1 with h2 | h2
      · exact .inl (by rw [h.oa k h2]; nofun)
      · exact .inr h2
    · rw [if_neg h1] at hk
      exact .inl hk
  · exact (u.mono (fun k _ hk => by rw [h.oa k hk]; nofun)).trans us (fun k hk => .inl (by rw [hk, h.op]; nofun))
theorem QuX.pushL {w w1 : World} {O : Nat → Option QRo} {p side dep cnt np nl : Nat} {xs ls : List Value} {pv lv : Value} (h : QuX w O p side dep cnt np xs nl ls pv lv) {nv : Value} {n' : Nat} {ys : List Value} (own : w1.ownsRow 0 124 64 nv n' ys) (u : Upd (fun k => lv.ownBlock = some k) w w1)
    (pl : ∀ k, nv.ownBlock = some k → lv.ownBlock = some k ∨ w.heap.size ≤ k) : ∃ O', QuX (w1.setCell ⟨p, 4, none⟩ nv) O' p side dep cnt np xs n' ys pv nv ∧ (∀ k, O' k ≠ none → O k ≠ none ∨ w.heap.size ≤ k) ∧ Upd (fun k => O k ≠ none) w (w1.setCell ⟨p, 4, none⟩ nv) := by
  have us := (Upd.refl (fun k => k = p) w1).setCell (p := ⟨p, 4, none⟩) (.inl rfl) nv
  have fresh : ∀ k, w.heap.size ≤ k → O k = none := fun k hk => by
    cases e : O k with
    | none => rfl
    | some t => have := h.lt k (by simp [e]); omega
  have hn : ∀ k, nv.ownBlock = some k → O k = some .l ∨ O k = none := fun k hk => by
    rcases pl k hk with h1 | h1
    · exact .inl (h.ol k h1)
    · exact .inr (fresh k h1)
  have keep : ∀ k t, O k = some t → (t = QRo.l → False) → (if nv.ownBlock = some k then some QRo.l else O k) = some t := fun k t e ht => by
    rw [if_neg, e]
    intro hk
    rcases hn k hk with h1 | h1
    · rw [h1] at e; injection e with e; exact ht e.symm
    · rw [h1] at e; cases e
  have bp : ¬ lv.ownBlock = some p := fun e => by have := h.ol _ e; rw [h.op] at this; cases this
  have np' : ∀ k, nv.ownBlock = some k → ¬ k = p := fun k hk e => by
    subst e
    rcases hn k hk with h1 | h1
    · rw [h.op] at h1; cases h1
    · rw [h.op] at h1; cases h1
  refine ⟨fun k => if nv.ownBlock = some k then some QRo.l else O k, ?_, fun k hk => ?_, ?_⟩
  · constructor
    case blk => exact (h.blk.upd u bp).set 4 nv
    case rl => exact ownsRow_upd own us np'
    case rp => exact ownsRow_upd (ownsRow_upd h.rp u fun k hk e => (by have := h.oa k hk; rw [h.ol k e] at this; cases this)) us fun k hk e => (by have := h.oa k hk; rw [e, h.op] at this; cases this)
    case op => exact keep _ _ h.op nofun
    case ol => exact fun k hk => if_pos hk
    case oa => exact fun k hk => keep _ _ (h.oa k hk) nofun
    case lt =>
      intro k hk
      (try dsimp only at hk)
      by_cases h1 : nv.ownBlock = some k
      · exact Nat.lt_of_lt_of_le (own.lt k h1).2 us.size
      · rw [if_neg h1] at hk
        exact Nat.lt_of_lt_of_le (h.lt k hk) (Nat.le_trans u.size us.size)
  · (try dsimp only at hk)
    by_cases h1 : nv.ownBlock = some k
    · rcases pl k h1 with h2 | h2
      · exact .inl (by rw [h.ol k h2]; nofun)
      · exact .inr h2
    · rw [if_neg h1] at hk
      exact .inl hk
  · exact (u.mono (fun k _ hk => by rw [h.ol k hk]; nofun)).trans us (fun k hk => .inl (by rw [hk, h.op]; nofun))
theorem QuX.setP {w : World} {O : Nat → Option QRo} {p side dep cnt np nl g cap : Nat} {xs ls : List Value} {lv : Value} (h : QuX w O p side dep cnt np xs nl ls (.slice (some ⟨g, 0, none⟩) np cap) lv) {i : Nat} (hi : i < np * 4) (u : Value) :
    QuX (w.setCell ⟨g, i, none⟩ u) O p side dep cnt np (xs.set i u) nl ls (.slice (some ⟨g, 0, none⟩) np cap) lv ∧ Upd (fun k => O k ≠ none) w (w.setCell ⟨g, i, none⟩ u) := by
  have us := (Upd.refl (fun k => k = g) w).setCell (p := ⟨g, i, none⟩) (.inl rfl) u
  have hg : O g = some .a := h.oa g rfl
  refine ⟨?_, us.mono (fun k _ e => by rw [e, hg]; nofun)⟩
  constructor
  case blk => exact h.blk.upd us (fun e => by have := hg; rw [← e, h.op] at this; cases this)
  case rp => exact own_setCell h.rp hi u
  case rl => exact ownsRow_upd h.rl us fun k hk e => (by have := h.ol k hk; rw [e, hg] at this; cases this)
  case op => exact h.op
  case oa => exact h.oa
  case ol => exact h.ol
  case lt => exact fun k hk => Nat.lt_of_lt_of_le (h.lt k hk) us.size
theorem QuX.setL {w : World} {O : Nat → Option QRo} {p side dep cnt np nl g cap : Nat} {xs ls : List Value} {pv : Value} (h : QuX w O p side dep cnt np xs nl ls pv (.slice (some ⟨g, 0, none⟩) nl cap)) {i : Nat} (hi : i < nl * 64) (u : Value) :
    QuX (w.setCell ⟨g, i, none⟩ u) O p side dep cnt np xs nl (ls.set i u) pv (.slice (some ⟨g, 0, none⟩) nl cap) ∧ Upd (fun k => O k ≠ none) w (w.setCell ⟨g, i, none⟩ u) := by
  have us := (Upd.refl (fun k => k = g) w).setCell (p := ⟨g, i, none⟩) (.inl rfl) u
  have hg : O g = some .l := h.ol g rfl
  refine ⟨?_, us.mono (fun k _ e => by rw [e, hg]; nofun)⟩
  constructor
  case blk => exact h.blk.upd us (fun e => by have := hg; rw [← e, h.op] at this; cases this)
  case rl => exact own_setCell h.rl hi u
  case rp => exact ownsRow_upd h.rp us fun k hk e => (by have := h.oa k hk; rw [e, hg] at this; cases this)
  case op => exact h.op
  case oa => exact h.oa
  case ol => exact h.ol
  case lt => exact fun k hk => Nat.lt_of_lt_of_le (h.lt k hk) us.size
end Go.Proofs.YtnmkieiehjajlaaGreatDoor
