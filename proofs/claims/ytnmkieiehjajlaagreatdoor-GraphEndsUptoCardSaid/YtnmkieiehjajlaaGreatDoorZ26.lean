/- Blocks of bits: counting a word's bits; Blocks of bits: how many cells. -/
import Derived.Test.YtnmkieiehjajlaaGreatDoorZ11
import Derived.Test.YtnmkieiehjajlaaGreatDoorZ08
import Derived.Laws.Bits64b
import Derived.Lib.Hide
import Derived.Deep.MidRow
set_option linter.unusedVariables false
set_option linter.unusedSimpArgs false
namespace Go.Proofs.YtnmkieiehjajlaaGreatDoor
open Go.RowKit

theorem msk_le (c : Nat) (hc : c < 256) : ∀ n, msk c n < 256 ^ n
  | 0 => by simp [msk]
  | n + 1 => by
    have := msk_le c hc n
    rw [Nat.pow_succ]
    unfold msk
    omega
theorem pcs_le : ∀ n x, pcs n x ≤ msk 8 n
  | 0, _ => Nat.le_refl _
  | n + 1, x => by
    have := pcs_le n (x / 256)
    have := pcN_le 8 x
    unfold pcs msk
    omega
theorem and_wrap (x y c d : Nat) (hx : x < 18446744073709551616) (hy : y < 18446744073709551616) (hc : c < 18446744073709551616) (h : (x &&& c) + (y &&& c) = d) (hd : d < 18446744073709551616) :
    IntKind.u64.wrap (bits .and .u64 (x : Int) (c : Int) + bits .and .u64 (y : Int) (c : Int)) = (d : Int) := by
  rw [bits_and_u64_nat x c hx hc, bits_and_u64_nat y c hy hc, IntKind.wrap_u64]
  omega
theorem add_wrap (x y d : Nat) (h : x + y = d) (hd : d < 18446744073709551616) : IntKind.u64.wrap ((x : Int) + (y : Int)) = (d : Int) := by
  rw [IntKind.wrap_u64]
  omega
theorem i64_and127 (n : Int) : bits .and .i64 n 127 = n % 128 := by
  have h127 : (BitVec.ofInt 64 127).toNat = 2 ^ 7 - 1 := by decide
  have key : (BitVec.ofInt 64 n &&& BitVec.ofInt 64 127).toNat = (n % ((2 ^ 64 : Nat) : Int)).toNat % 2 ^ 7 := by
    rw [BitVec.toNat_and, BitVec.toNat_ofInt, h127, Nat.and_two_pow_sub_one_eq_mod]
  show IntKind.i64.wrap ((BitVec.ofInt 64 n &&& BitVec.ofInt 64 127).toNat : Nat) = n % 128
  rw [key, IntKind.wrap_i64]
  omega
set_option maxHeartbeats 1000000 in
set_option maxRecDepth 20000 in
theorem ones_any (x : Nat) (hx : x < 18446744073709551616) (w : World) : Calls Tryz.prog 160 #[.int .u64 (x : Int)] w (fun e w' => e = .returned (.int .i64 (pcN 64 x : Nat)) ∧ w' = w) := by
  have k5 := msk_le 85 (by decide) 8
  have k3 := msk_le 51 (by decide) 8
  have k1 := msk_le 15 (by decide) 8
  have e8 : (256 : Nat) ^ 8 = 18446744073709551616 := by decide
  rw [e8] at k5 k3 k1
  have m5 : msk 85 8 = 6148914691236517205 := by decide
  have m3 : msk 51 8 = 3689348814741910323 := by decide
  have m1 : msk 15 8 = 1085102592571150095 := by decide
  have m8 : msk 8 8 = 578721382704613384 := by decide
  have st := steps_pc 8 x (by rw [e8]; exact hx)
  have sm := pcs_sum x
  have sl := pcs_le 8 x
  have h1 := and_wrap (x / 2) x (msk 85 8) (s1 8 x) (by omega) hx k5 rfl (by
    have a := Nat.and_le_right (n := x / 2) (m := msk 85 8)
    have b := Nat.and_le_right (n := x) (m := msk 85 8)
    unfold s1
    omega)
  have l1 : s1 8 x < 18446744073709551616 := by
    have a := Nat.and_le_right (n := x / 2) (m := msk 85 8)
    have b := Nat.and_le_right (n := x) (m := msk 85 8)
    unfold s1
    omega
  generalize s1 8 x = y1 at h1 l1 st
  have l2 : s2 8 y1 < 18446744073709551616 := by
    have a := Nat.and_le_right (n := y1 / 4) (m := msk 51 8)
    have b := Nat.and_le_right (n := y1) (m := msk 51 8)
    unfold s2
    omega
  have h2 := and_wrap (y1 / 4) y1 (msk 51 8) (s2 8 y1) (by omega) l1 k3 rfl l2
  have l2b : s2 8 y1 ≤ 2 * 3689348814741910323 := by
    have a := Nat.and_le_right (n := y1 / 4) (m := msk 51 8)
    have b := Nat.and_le_right (n := y1) (m := msk 51 8)
    unfold s2
    omega
  generalize s2 8 y1 = y2 at h2 l2 l2b st
  have h3a := add_wrap (y2 / 16) y2 (y2 / 16 + y2) rfl (by omega)
  have h3 := bits_and_u64_nat (y2 / 16 + y2) (msk 15 8) (by omega) k1
  have e3 : (y2 / 16 + y2) &&& msk 15 8 = pcs 8 x := st
  rw [e3] at h3
  generalize pcs 8 x = y3 at h3 sl sm
  rw [m8] at sl
  have h4 := add_wrap y3 (y3 / 256) (y3 + y3 / 256) rfl (by omega)
  obtain ⟨y4, hy4⟩ : ∃ y, y3 + y3 / 256 = y := ⟨_, rfl⟩
  have l4 : y4 ≤ 581000000000000000 := by omega
  rw [hy4] at h4 sm
  have h5 := add_wrap y4 (y4 / 65536) (y4 + y4 / 65536) rfl (by omega)
  obtain ⟨y5, hy5⟩ : ∃ y, y4 + y4 / 65536 = y := ⟨_, rfl⟩
  have l5 : y5 ≤ 582000000000000000 := by omega
  rw [hy5] at h5 sm
  have h6 := add_wrap y5 (y5 / 4294967296) (y5 + y5 / 4294967296) rfl (by omega)
  obtain ⟨y6, hy6⟩ : ∃ y, y5 + y5 / 4294967296 = y := ⟨_, rfl⟩
  have l6 : y6 ≤ 583000000000000000 := by omega
  rw [hy6] at h6 sm
  rw [m5] at h1
  rw [m3] at h2
  rw [m1] at h3
  have g1 : ∀ (a b : Nat) (c : Int), c = ((b : Nat) : Int) → ((a / b : Nat) : Int) = (a : Int) / c := fun a b c h => by rw [h]; rfl
  have n1 : ((6148914691236517205 : Nat) : Int) = 6148914691236517205 := rfl
  have n2 : ((3689348814741910323 : Nat) : Int) = 3689348814741910323 := rfl
  have n3 : ((1085102592571150095 : Nat) : Int) = 1085102592571150095 := rfl
  rw [n1, g1 x 2 2 rfl] at h1
  rw [n2, g1 y1 4 4 rfl] at h2
  rw [Int.natCast_add, g1 y2 16 16 rfl] at h3a h3
  rw [n3] at h3
  rw [g1 y3 256 256 rfl] at h4
  rw [g1 y4 65536 65536 rfl] at h5
  rw [g1 y5 4294967296 4294967296 rfl] at h6
  clear g1 n1 n2 n3
  have h7 : bits .and .i64 (y6 : Int) 127 = ((pcN 64 x : Nat) : Int) := by rw [i64_and127, ← sm]; rfl
  clear e3 st sl hy4 hy5 hy6 k5 k3 k1 e8 m5 m3 m1 m8
  go_enter Tryz.func160, Tryz.ntmps160
  go_wp2
  go_ret
  exact ⟨by rw [← h7]; rfl, rfl⟩
end Go.Proofs.YtnmkieiehjajlaaGreatDoor
namespace Go.Proofs.YtnmkieiehjajlaaGreatDoor
open Go.RowKit

/-- A block's 64 words. -/
structure Wd (r : List Nat) : Prop where
  len : r.length = 64
  fit : ∀ x ∈ r, x < 18446744073709551616
def wdC (r : List Nat) : List Value := r.map fun (x : Nat) => Value.int .u64 (x : Int)
theorem wdC_len (r : List Nat) : (wdC r).length = r.length := by simp [wdC]
theorem wdC_at {r : List Nat} {k x : Nat} (h : r[k]? = some x) : (wdC r)[k]? = some (.int .u64 (x : Int)) := by simp [wdC, h]
def wdV (r : List Nat) : Value := .agg (wdC r).toArray
theorem range_blk {w : World} {b : Nat} {t : TypeId} {cs : List Value} (h : Blk w b t cs.toArray) : w.rangeAt b 0 cs := fun j v hv => by
  rw [Nat.zero_add, h.cell j]
  simpa using hv
theorem load_blk {w : World} {b o : Nat} {r : List Nat} (hr : Wd r) (h : w.rangeAt b o (wdC r)) : (Instr.loadAt 124 (.pointer (some ⟨b, o, none⟩))).run Tryz.prog w = .ok (wdV r) w :=
  run_loadAt_mid w b o 124 (wdC r) (.array 64 122) h Tryz.underlying124 rfl (by rw [wdC_len, hr.len]; kernel_rfl)
theorem info_wd {r : List Nat} (hr : Wd r) : (Tryz.prog.info? 124).map (·.size) = some (wdC r).length := by rw [wdC_len, hr.len]; kernel_rfl
theorem index_wd {w : World} {r : List Nat} (hr : Wd r) {k x : Nat} (h : r[k]? = some x) : (Instr.index 124 (wdV r) (.int .i64 (k : Int))).run Tryz.prog w = .ok (.int .u64 (x : Int)) w := by
  have hk := (List.getElem?_eq_some_iff.1 h).1
  rw [hr.len] at hk
  have h2 := wdC_at h
  have h3 : (wdC r).toArray[k]? = some (.int .u64 (x : Int)) := by simpa using h2
  have hi : 0 ≤ (k : Int) ∧ (k : Int) < ((64 : Nat) : Int) := by omega
  unfold wdV
  simp [Instr.index, run_underlying Tryz.underlying124, asIntOf, hi, go_sem, Result.andThen]
  rw [if_pos hk, h2]
  rfl
def lenB (r : List Nat) : Nat := (r.map (pcN 64)).sum
theorem lenB_succ {r : List Nat} {k x : Nat} (h : r[k]? = some x) : lenB (r.take (k + 1)) = lenB (r.take k) + pcN 64 x := by
  unfold lenB
  rw [List.take_add_one, h, List.map_append, List.sum_append]
  simp
theorem lenB_le : ∀ (r : List Nat), lenB r ≤ r.length * 64
  | [] => Nat.le_refl _
  | x :: r => by
    have := lenB_le r
    have := pcN_le 64 x
    unfold lenB at *
    rw [List.map_cons, List.sum_cons, List.length_cons]
    omega
set_option maxHeartbeats 1000000 in
set_option maxRecDepth 20000 in
theorem blen_any (w : World) (r : List Nat) (hr : Wd r) : Calls Tryz.prog 125 #[wdV r] w (Sam w (.int .i64 (lenB r : Nat))) := by
  have k0 := Blk.new w 124 (wdC r).toArray
  have u0 : Below w.heap.size w (w.alloc (.cells (wdC r).toArray 124)) := (Below.refl _ _).alloc (Nat.le_refl _) _
  have hrg := range_blk k0
  have hsz := info_wd hr
  have H := Lib.hid (And.intro hr u0)
  clear k0 u0 hr
  unfold wdV
  go_enter Tryz.func125, Tryz.ntmps125
  go_upto_region 2 with (fail)
  generalize w.alloc (.cells (wdC r).toArray 124) = W0 at H hrg ⊢
  have HX := Lib.hid (show ∀ (W : World) (k x : Nat), r[k]? = some x → (Instr.index 124 (.agg (wdC r).toArray) (.int .i64 (k : Int))).run Tryz.prog W = .ok (.int .u64 (x : Int)) W from fun W k x h => index_wd H.out.1 h)
  go_wp2_with (refine wpList_load_mid rfl 124 _ rfl w.heap.size 0 rfl (wdC r) (.array 64 122) hrg Tryz.underlying124 rfl hsz ?_)
  clear hrg hsz
  go_loopw [3, 7] (fun s i wr => ∃ k : Nat, k ≤ 64 ∧ i = .int .i64 k ∧ s = .int .i64 ((lenB (r.take k) : Nat) : Int) ∧ wr = W0) (fun _ i _ => 64 - (intOf i).toNat)
  case atStart => exact ⟨0, Nat.zero_le _, rfl, rfl, rfl⟩
  case round =>
    obtain ⟨k, hk, rfl, rfl, hwr⟩ := hrel
    subst hwr
    by_cases hlt : k < 64
    · have hltI : (k : Int) < (64 : Int) := by omega
      have hkw : IntKind.i64.wrap ((k : Int) + 1) = (k : Int) + 1 := IntWalk.i64_in _ (by omega)
      obtain ⟨x, hx⟩ : ∃ x, r[k]? = some x := ⟨r[k]'(by rw [H.out.1.len]; exact hlt), List.getElem?_eq_getElem _⟩
      have hix := HX.out wr k x hx
      have hx64 := H.out.1.fit x (List.mem_of_getElem? hx)
      have hst : lenB (r.take (k + 1)) = lenB (r.take k) + pcN 64 x := lenB_succ hx
      have hle := lenB_le (r.take k)
      rw [List.length_take] at hle
      have hp := pcN_le 64 x
      have hsw : IntKind.i64.wrap (((lenB (r.take k) : Nat) : Int) + ((pcN 64 x : Nat) : Int)) = ((lenB (r.take (k + 1)) : Nat) : Int) := by rw [hst, IntKind.wrap_i64]; omega
      have hcon := ones_any x hx64 wr
      clear hle hst hx
      generalize lenB (r.take k) = q0 at hsw ⊢
      generalize hq1 : lenB (r.take (k + 1)) = q1 at hsw
      have HQ := Lib.hid hq1
      clear hq1
      generalize pcN 64 x = q2 at hsw hp hcon
      go_wp2_with fail
      refine hcon.mono ?_
      clear hcon
      rintro e w' ⟨rfl, hw⟩
      subst w'
      go_wp2
      go_roundw
      case rel => exact ⟨k + 1, by omega, by go_num, by rw [HQ.out], by first | rfl | trivial⟩
      case measure => simp [intOf]; omega
    · obtain rfl : k = 64 := by omega
      have e1 : r.take 64 = r := by rw [← H.out.1.len, List.take_length]
      rw [e1]
      go_wp2
      go_ret
      exact ⟨rfl, H.out.2⟩
end Go.Proofs.YtnmkieiehjajlaaGreatDoor
