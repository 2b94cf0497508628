/- Matrices of bits: Set, at the corner; Sorting at most one block; The lowest bit of a word; Going down a matrix: nothing, where it is empty. -/
import Derived.Test.YtnmkieiehjajlaaGreatDoorZ36
import Derived.Shelf.Spec.TrailingZeros
set_option linter.unusedVariables false
set_option linter.unusedSimpArgs false
namespace Go.Proofs.YtnmkieiehjajlaaGreatDoor
open Go.RowKit

theorem pcN_pos : ∀ (k x j : Nat), j < k → x.testBit j = true → 0 < pcN k x
  | 0, _, _, h, _ => absurd h (Nat.not_lt_zero _)
  | k + 1, x, 0, _, hb => by
    have := low_bit x
    rw [hb] at this
    unfold pcN
    have h1 : x % 2 = 1 := this
    omega
  | k + 1, x, j + 1, h, hb => by
    rw [Nat.testBit_succ] at hb
    have := pcN_pos k (x / 2) j (by omega) hb
    unfold pcN
    omega
theorem lenB_mem : ∀ {L : List Nat} {x : Nat}, x ∈ L → pcN 64 x ≤ lenB L
  | y :: L, x, h => by
    unfold lenB
    rw [List.map_cons, List.sum_cons]
    rcases List.mem_cons.1 h with rfl | h
    · omega
    · have := lenB_mem h
      unfold lenB at this
      omega
theorem oneB_at {i j : Nat} (hi : i < 64) : (oneB i j)[i]? = some (2 ^ j) := by
  unfold oneB
  rw [List.getElem?_set, if_pos rfl, if_pos (by rw [zero64_len]; exact hi)]
theorem oneB_ne {i j : Nat} (hi : i < 64) : oneB i j ≠ zero64 := fun e => by
  have h := oneB_at (i := i) (j := j) hi
  rw [e, zero64_at hi] at h
  injection h with h
  have := Nat.two_pow_pos j
  omega
theorem less_one {o : List Nat} (ho : Wd o) {i j : Nat} (hi : i < 64) (hj : j < 64) (hb : bitW o i j = false) : 0 < lenB (List.zipWith lessN (oneB i j) o) := by
  obtain ⟨x, hx⟩ : ∃ x, o[i]? = some x := ⟨o[i]'(by rw [ho.len]; exact hi), List.getElem?_eq_getElem _⟩
  have hz : (List.zipWith lessN (oneB i j) o)[i]? = some (lessN (2 ^ j) x) := by rw [List.getElem?_zipWith, oneB_at hi, hx]
  have hxf := ho.fit x (List.mem_of_getElem? hx)
  have hbx : x.testBit j = false := by unfold bitW at hb; rw [hx] at hb; exact hb
  have hp := pcN_pos 64 (lessN (2 ^ j) x) j hj (by
    unfold lessN
    have h := Nat.testBit_two_pow_sub_succ (x := x) (n := 64) hxf j
    have e : 2 ^ 64 - (x + 1) = 18446744073709551615 - x := by omega
    rw [e] at h
    rw [Nat.testBit_and, h, hbx, Nat.testBit_two_pow_self]
    simp [hj])
  exact Nat.lt_of_lt_of_le hp (lenB_mem (List.mem_of_getElem? hz))
def setO (b : Option (List Nat)) (i j : Nat) : Option (List Nat) := if bitO b i j = true then b else some (List.zipWith orN (oldW b) (oneB i j))
theorem bit_old {b : Option (List Nat)} {i j : Nat} (hi : i < 64) (h : bitO b i j = false) : bitW (oldW b) i j = false := by
  cases b with
  | none =>
    unfold bitW oldW
    rw [Option.getD_none, zero64_at hi]
    simp
  | some r => exact h
theorem QTo.after {w w1 w' : World} {F : Nat → Prop} {p side : Nat} {b : Option (List Nat)} (hb : Below w.heap.size w w1) (h : QTo w1 F p side b w') : QTo w F p side b w' := by
  obtain ⟨F', g, u, n⟩ := h
  exact ⟨F', g, (Upd.of_below hb F).trans u (fun _ h => .inl h), fun k hk => (n k hk).imp id fun h => Nat.le_trans hb.size h⟩
set_option maxHeartbeats 4000000 in
set_option maxRecDepth 20000 in
theorem qset_any (w : World) (F : Nat → Prop) (p side : Nat) (b : Option (List Nat)) (h : QuS w F p side b) (i j : Nat) (hi : i < side) (hj : j < side) (hi6 : i < 64) (hj6 : j < 64) :
    Calls Tryz.prog 47 #[.pointer (some ⟨p, 0, none⟩), .int .i64 (i : Int), .int .i64 (j : Int)] w (fun e w' => e = .returned (.tuple #[.bool (!bitO b i j), .int .i64 0]) ∧ QTo w F p side (setO b i j) w') := by
  have hget := qget_any w F p side b h i j hi hj hi6 hj6
  have ri : (i : Int).tmod 64 = i := by rw [Int.tmod_eq_emod_of_nonneg (by omega)]; omega
  have rj : (j : Int).tmod 64 = j := by rw [Int.tmod_eq_emod_of_nonneg (by omega)]; omega
  have qi : (i : Int).tdiv 64 = 0 := by rw [Int.tdiv_eq_ediv_of_nonneg (by omega)]; omega
  have qj : (j : Int).tdiv 64 = 0 := by rw [Int.tdiv_eq_ediv_of_nonneg (by omega)]; omega
  have HH := Lib.hid h
  have hold : ∃ O dep cnt m last L pv lv, QuI w O p side dep cnt m last L pv lv ∧ QuOk side dep cnt m last L b := by
    obtain ⟨O, dep, cnt, m, last, L, pv, lv, hq, ok, -⟩ := h
    exact ⟨O, dep, cnt, m, last, L, pv, lv, hq, ok⟩
  obtain ⟨_, _, _, _, _, _, _, _, -, ok⟩ := hold
  have hwo := oldW_wd ok
  clear h ok
  cases hb : bitO b i j with
  | true =>
    rw [hb] at hget
    have e1 : setO b i j = b := by unfold setO; rw [if_pos hb]
    rw [e1]
    clear e1 hb hwo ri rj qi qj
    go_enter Tryz.func47, Tryz.ntmps47
    go_wp2_with fail
    refine hget.mono ?_
    clear hget
    rintro e W1 ⟨rfl, b1⟩
    have FIN := Lib.hid (show QTo w F p side b W1 from ⟨F, HH.out.below b1, Upd.of_below b1 F, fun _ h => .inl h⟩)
    clear b1
    go_wp2
    refine bodyPost_ret (v := .tuple #[.bool false, .int .i64 0]) (by simp [results, Tryz.f47, go_sem]) rfl ⟨rfl, FIN.out⟩
  | false =>
    rw [hb] at hget
    have e1 : setO b i j = some (List.zipWith orN (oldW b) (oneB i j)) := by unfold setO; rw [hb]; rfl
    rw [e1]
    have hpos := less_one hwo hi6 hj6 (bit_old hi6 hb)
    have HP := Lib.hid (decide_eq_true hpos)
    clear e1 hb hwo hpos
    go_enter Tryz.func47, Tryz.ntmps47
    go_wp2_with fail
    refine hget.mono ?_
    clear hget
    rintro e W1 ⟨rfl, b1⟩
    have k2 := Blk.new W1 121 #[.int .i64 (i : Int), .int .i64 (j : Int)]
    have u2 : Below W1.heap.size W1 (W1.alloc (.cells #[.int .i64 (i : Int), .int .i64 (j : Int)] 121)) := (Below.refl _ _).alloc (Nat.le_refl _) _
    have hof := bof_any _ W1.heap.size i j hi6 hj6 k2
    have HB2 := Lib.hid (b1.trans (u2.mono b1.size))
    unfold wdV at hof
    clear k2 u2 b1
    go_wp2_with fail
    refine hof.mono ?_
    clear hof
    rintro e V2 ⟨rfl, b2⟩
    have HB3 := Lib.hid (HB2.out.trans (b2.mono HB2.out.size))
    clear b2
    have hone := oneB_wd (i := i) hj6
    have k4 := Blk.new V2 124 #[Value.int .u64 0, Value.int .u64 0, Value.int .u64 0, Value.int .u64 0, Value.int .u64 0, Value.int .u64 0, Value.int .u64 0, Value.int .u64 0, Value.int .u64 0, Value.int .u64 0, Value.int .u64 0, Value.int .u64 0, Value.int .u64 0, Value.int .u64 0, Value.int .u64 0, Value.int .u64 0, Value.int .u64 0, Value.int .u64 0, Value.int .u64 0, Value.int .u64 0, Value.int .u64 0, Value.int .u64 0, Value.int .u64 0, Value.int .u64 0, Value.int .u64 0, Value.int .u64 0, Value.int .u64 0, Value.int .u64 0, Value.int .u64 0, Value.int .u64 0, Value.int .u64 0, Value.int .u64 0, Value.int .u64 0, Value.int .u64 0, Value.int .u64 0, Value.int .u64 0, Value.int .u64 0, Value.int .u64 0, Value.int .u64 0, Value.int .u64 0, Value.int .u64 0, Value.int .u64 0, Value.int .u64 0, Value.int .u64 0, Value.int .u64 0, Value.int .u64 0, Value.int .u64 0, Value.int .u64 0, Value.int .u64 0, Value.int .u64 0, Value.int .u64 0, Value.int .u64 0, Value.int .u64 0, Value.int .u64 0, Value.int .u64 0, Value.int .u64 0, Value.int .u64 0, Value.int .u64 0, Value.int .u64 0, Value.int .u64 0, Value.int .u64 0, Value.int .u64 0, Value.int .u64 0, Value.int .u64 0]
    have hth : (V2.alloc (.cells #[Value.int .u64 0, Value.int .u64 0, Value.int .u64 0, Value.int .u64 0, Value.int .u64 0, Value.int .u64 0, Value.int .u64 0, Value.int .u64 0, Value.int .u64 0, Value.int .u64 0, Value.int .u64 0, Value.int .u64 0, Value.int .u64 0, Value.int .u64 0, Value.int .u64 0, Value.int .u64 0, Value.int .u64 0, Value.int .u64 0, Value.int .u64 0, Value.int .u64 0, Value.int .u64 0, Value.int .u64 0, Value.int .u64 0, Value.int .u64 0, Value.int .u64 0, Value.int .u64 0, Value.int .u64 0, Value.int .u64 0, Value.int .u64 0, Value.int .u64 0, Value.int .u64 0, Value.int .u64 0, Value.int .u64 0, Value.int .u64 0, Value.int .u64 0, Value.int .u64 0, Value.int .u64 0, Value.int .u64 0, Value.int .u64 0, Value.int .u64 0, Value.int .u64 0, Value.int .u64 0, Value.int .u64 0, Value.int .u64 0, Value.int .u64 0, Value.int .u64 0, Value.int .u64 0, Value.int .u64 0, Value.int .u64 0, Value.int .u64 0, Value.int .u64 0, Value.int .u64 0, Value.int .u64 0, Value.int .u64 0, Value.int .u64 0, Value.int .u64 0, Value.int .u64 0, Value.int .u64 0, Value.int .u64 0, Value.int .u64 0, Value.int .u64 0, Value.int .u64 0, Value.int .u64 0, Value.int .u64 0] 124)).there V2.heap.size 0 (wdC (oneB i j)).toArray.size := there_blk (zero64_blk.mp k4) (by simp [wdC_len, hone.len, zero64_len])
    have hsz := info_wd hone
    have hsz2 : (Tryz.prog.info? 124).map (·.size) = some (wdC (oneB i j)).toArray.size := by simpa using hsz
    have h1c : (wdC (oneB i j)).toArray.all (·.oneCell') = true := all_oneCell_toArray (one_wd _)
    have hrg := World.rangeAt_setCells_same (V2.alloc (.cells #[Value.int .u64 0, Value.int .u64 0, Value.int .u64 0, Value.int .u64 0, Value.int .u64 0, Value.int .u64 0, Value.int .u64 0, Value.int .u64 0, Value.int .u64 0, Value.int .u64 0, Value.int .u64 0, Value.int .u64 0, Value.int .u64 0, Value.int .u64 0, Value.int .u64 0, Value.int .u64 0, Value.int .u64 0, Value.int .u64 0, Value.int .u64 0, Value.int .u64 0, Value.int .u64 0, Value.int .u64 0, Value.int .u64 0, Value.int .u64 0, Value.int .u64 0, Value.int .u64 0, Value.int .u64 0, Value.int .u64 0, Value.int .u64 0, Value.int .u64 0, Value.int .u64 0, Value.int .u64 0, Value.int .u64 0, Value.int .u64 0, Value.int .u64 0, Value.int .u64 0, Value.int .u64 0, Value.int .u64 0, Value.int .u64 0, Value.int .u64 0, Value.int .u64 0, Value.int .u64 0, Value.int .u64 0, Value.int .u64 0, Value.int .u64 0, Value.int .u64 0, Value.int .u64 0, Value.int .u64 0, Value.int .u64 0, Value.int .u64 0, Value.int .u64 0, Value.int .u64 0, Value.int .u64 0, Value.int .u64 0, Value.int .u64 0, Value.int .u64 0, Value.int .u64 0, Value.int .u64 0, Value.int .u64 0, Value.int .u64 0, Value.int .u64 0, Value.int .u64 0, Value.int .u64 0, Value.int .u64 0] 124)) V2.heap.size 0 (wdC (oneB i j)) (by simpa using hth)
    have u4 : Below V2.heap.size V2 ((V2.alloc (.cells #[Value.int .u64 0, Value.int .u64 0, Value.int .u64 0, Value.int .u64 0, Value.int .u64 0, Value.int .u64 0, Value.int .u64 0, Value.int .u64 0, Value.int .u64 0, Value.int .u64 0, Value.int .u64 0, Value.int .u64 0, Value.int .u64 0, Value.int .u64 0, Value.int .u64 0, Value.int .u64 0, Value.int .u64 0, Value.int .u64 0, Value.int .u64 0, Value.int .u64 0, Value.int .u64 0, Value.int .u64 0, Value.int .u64 0, Value.int .u64 0, Value.int .u64 0, Value.int .u64 0, Value.int .u64 0, Value.int .u64 0, Value.int .u64 0, Value.int .u64 0, Value.int .u64 0, Value.int .u64 0, Value.int .u64 0, Value.int .u64 0, Value.int .u64 0, Value.int .u64 0, Value.int .u64 0, Value.int .u64 0, Value.int .u64 0, Value.int .u64 0, Value.int .u64 0, Value.int .u64 0, Value.int .u64 0, Value.int .u64 0, Value.int .u64 0, Value.int .u64 0, Value.int .u64 0, Value.int .u64 0, Value.int .u64 0, Value.int .u64 0, Value.int .u64 0, Value.int .u64 0, Value.int .u64 0, Value.int .u64 0, Value.int .u64 0, Value.int .u64 0, Value.int .u64 0, Value.int .u64 0, Value.int .u64 0, Value.int .u64 0, Value.int .u64 0, Value.int .u64 0, Value.int .u64 0, Value.int .u64 0] 124)).setCells V2.heap.size 0 (wdC (oneB i j))) := by
      have ua : Below V2.heap.size V2 (V2.alloc (.cells #[Value.int .u64 0, Value.int .u64 0, Value.int .u64 0, Value.int .u64 0, Value.int .u64 0, Value.int .u64 0, Value.int .u64 0, Value.int .u64 0, Value.int .u64 0, Value.int .u64 0, Value.int .u64 0, Value.int .u64 0, Value.int .u64 0, Value.int .u64 0, Value.int .u64 0, Value.int .u64 0, Value.int .u64 0, Value.int .u64 0, Value.int .u64 0, Value.int .u64 0, Value.int .u64 0, Value.int .u64 0, Value.int .u64 0, Value.int .u64 0, Value.int .u64 0, Value.int .u64 0, Value.int .u64 0, Value.int .u64 0, Value.int .u64 0, Value.int .u64 0, Value.int .u64 0, Value.int .u64 0, Value.int .u64 0, Value.int .u64 0, Value.int .u64 0, Value.int .u64 0, Value.int .u64 0, Value.int .u64 0, Value.int .u64 0, Value.int .u64 0, Value.int .u64 0, Value.int .u64 0, Value.int .u64 0, Value.int .u64 0, Value.int .u64 0, Value.int .u64 0, Value.int .u64 0, Value.int .u64 0, Value.int .u64 0, Value.int .u64 0, Value.int .u64 0, Value.int .u64 0, Value.int .u64 0, Value.int .u64 0, Value.int .u64 0, Value.int .u64 0, Value.int .u64 0, Value.int .u64 0, Value.int .u64 0, Value.int .u64 0, Value.int .u64 0, Value.int .u64 0, Value.int .u64 0, Value.int .u64 0] 124)) := (Below.refl _ _).alloc (Nat.le_refl _) _
      exact ua.trans ((Upd.setCells (F := fun k => k = V2.heap.size) (a := V2.alloc (.cells #[Value.int .u64 0, Value.int .u64 0, Value.int .u64 0, Value.int .u64 0, Value.int .u64 0, Value.int .u64 0, Value.int .u64 0, Value.int .u64 0, Value.int .u64 0, Value.int .u64 0, Value.int .u64 0, Value.int .u64 0, Value.int .u64 0, Value.int .u64 0, Value.int .u64 0, Value.int .u64 0, Value.int .u64 0, Value.int .u64 0, Value.int .u64 0, Value.int .u64 0, Value.int .u64 0, Value.int .u64 0, Value.int .u64 0, Value.int .u64 0, Value.int .u64 0, Value.int .u64 0, Value.int .u64 0, Value.int .u64 0, Value.int .u64 0, Value.int .u64 0, Value.int .u64 0, Value.int .u64 0, Value.int .u64 0, Value.int .u64 0, Value.int .u64 0, Value.int .u64 0, Value.int .u64 0, Value.int .u64 0, Value.int .u64 0, Value.int .u64 0, Value.int .u64 0, Value.int .u64 0, Value.int .u64 0, Value.int .u64 0, Value.int .u64 0, Value.int .u64 0, Value.int .u64 0, Value.int .u64 0, Value.int .u64 0, Value.int .u64 0, Value.int .u64 0, Value.int .u64 0, Value.int .u64 0, Value.int .u64 0, Value.int .u64 0, Value.int .u64 0, Value.int .u64 0, Value.int .u64 0, Value.int .u64 0, Value.int .u64 0, Value.int .u64 0, Value.int .u64 0, Value.int .u64 0, Value.int .u64 0] 124)) (.inl rfl) _ _ (Upd.refl _ _)).below (fun k _ e => Nat.le_of_eq e.symm) ua.size)
    have HB4 := Lib.hid (HB3.out.trans (u4.mono HB3.out.size))
    have hone2 := Lib.hid hone
    clear k4 u4 hone
    go_upto_region 5 with (first | (refine wpList_store_mid rfl 124 _ _ rfl V2.heap.size 0 (wdC (oneB i j)).toArray rfl rfl hth hsz2 h1c ?_) | fail)
    generalize (V2.alloc (.cells #[Value.int .u64 0, Value.int .u64 0, Value.int .u64 0, Value.int .u64 0, Value.int .u64 0, Value.int .u64 0, Value.int .u64 0, Value.int .u64 0, Value.int .u64 0, Value.int .u64 0, Value.int .u64 0, Value.int .u64 0, Value.int .u64 0, Value.int .u64 0, Value.int .u64 0, Value.int .u64 0, Value.int .u64 0, Value.int .u64 0, Value.int .u64 0, Value.int .u64 0, Value.int .u64 0, Value.int .u64 0, Value.int .u64 0, Value.int .u64 0, Value.int .u64 0, Value.int .u64 0, Value.int .u64 0, Value.int .u64 0, Value.int .u64 0, Value.int .u64 0, Value.int .u64 0, Value.int .u64 0, Value.int .u64 0, Value.int .u64 0, Value.int .u64 0, Value.int .u64 0, Value.int .u64 0, Value.int .u64 0, Value.int .u64 0, Value.int .u64 0, Value.int .u64 0, Value.int .u64 0, Value.int .u64 0, Value.int .u64 0, Value.int .u64 0, Value.int .u64 0, Value.int .u64 0, Value.int .u64 0, Value.int .u64 0, Value.int .u64 0, Value.int .u64 0, Value.int .u64 0, Value.int .u64 0, Value.int .u64 0, Value.int .u64 0, Value.int .u64 0, Value.int .u64 0, Value.int .u64 0, Value.int .u64 0, Value.int .u64 0, Value.int .u64 0, Value.int .u64 0, Value.int .u64 0, Value.int .u64 0] 124)).setCells V2.heap.size 0 (wdC (oneB i j)) = W5 at hrg HB4 ⊢
    clear hth hsz2 h1c
    have hor := qor_any W5 F p side b (HH.out.below HB4.out) (oneB i j) hone2.out (oneB_ne hi6)
    rw [HP.out] at hor
    unfold wdV at hor
    go_wp2_with (first | (refine wpList_load_mid rfl 124 _ rfl V2.heap.size 0 rfl (wdC (oneB i j)) (.array 64 122) hrg Tryz.underlying124 rfl hsz ?_) | fail)
    refine hor.mono ?_
    clear hor hrg hsz
    rintro e W6 ⟨rfl, hto⟩
    have FIN := Lib.hid (QTo.after HB4.out hto)
    clear hto
    go_wp2
    refine bodyPost_ret (v := .tuple #[.bool true, .int .i64 0]) (by simp [results, Tryz.f47, go_sem]) rfl ⟨rfl, FIN.out⟩
end Go.Proofs.YtnmkieiehjajlaaGreatDoor
namespace Go.Proofs.YtnmkieiehjajlaaGreatDoor
open Go.RowKit

set_option maxHeartbeats 1000000 in
set_option maxRecDepth 20000 in
theorem len64_01 (n : Nat) (hn : n = 0 ∨ n = 1) (w : World) : Calls Tryz.prog 170 #[.int .u64 (n : Int)] w (fun e w' => (∃ v : Int, e = .returned (.int .i64 v)) ∧ w' = w) := by
  rcases hn with rfl | rfl
  · go_enter Tryz.func170, Tryz.ntmps170
    go_wp2
    go_ret
    exact ⟨⟨_, rfl⟩, rfl⟩
  · go_enter Tryz.func170, Tryz.ntmps170
    go_wp2
    go_ret
    exact ⟨⟨_, rfl⟩, rfl⟩
set_option maxHeartbeats 1000000 in
set_option maxRecDepth 20000 in
theorem len_01 (n : Nat) (hn : n = 0 ∨ n = 1) (w : World) : Calls Tryz.prog 129 #[.int .u64 (n : Int)] w (fun e w' => (∃ v : Int, e = .returned (.int .i64 v)) ∧ w' = w) := by
  have hcon := len64_01 n hn w
  go_enter Tryz.func129, Tryz.ntmps129
  go_wp2_with fail
  refine hcon.mono ?_
  rintro e w' ⟨⟨v, rfl⟩, hw⟩
  subst w'
  go_wp2
  go_ret
  exact ⟨⟨v, rfl⟩, rfl⟩
set_option maxHeartbeats 1000000 in
set_option maxRecDepth 20000 in
theorem ins_01 (n : Nat) (hn : n ≤ 1) (A : Option Addr) (l c : Nat) (f : Value) (w : World) : Calls Tryz.prog 161 #[.slice A l c, .int .i64 0, .int .i64 (n : Int), f] w (fun e w' => (∃ v, e = .returned v) ∧ w' = w) := by
  have h1 : ¬ ((1 : Int) < (n : Int)) := by omega
  have h2 : ¬ (1 < n) := by omega
  go_enter Tryz.func161, Tryz.ntmps161
  go_wp2_with fail
  go_loopw [8] (fun i wr => i = .int .i64 1 ∧ wr = w) (fun _ _ => 0)
  case atStart => exact ⟨rfl, rfl⟩
  case round =>
    obtain ⟨rfl, hw⟩ := hrel
    subst hw
    go_wp2
    (try simp only [Exit.inBlock, Exit.then]); first | exact bodyPost_ret (results_none rfl _ _ _) rfl ⟨⟨_, rfl⟩, rfl⟩ | exact bodyPost_end (results_none rfl _ _ _) rfl ⟨⟨_, rfl⟩, rfl⟩
set_option maxHeartbeats 1000000 in
set_option maxRecDepth 20000 in
theorem pdq_01 (n : Nat) (hn : n ≤ 1) (A : Option Addr) (l c : Nat) (f : Value) (lim : Int) (w : World) : Calls Tryz.prog 128 #[.slice A l c, .int .i64 0, .int .i64 (n : Int), .int .i64 lim, f] w (fun e w' => (∃ v, e = .returned v) ∧ w' = w) := by
  have hw0 : IntKind.i64.wrap (n : Int) = (n : Int) := IntWalk.i64_in _ (by omega)
  have h1 : (n : Int) ≤ 12 := by omega
  have h2 : n ≤ 12 := by omega
  have hcon := ins_01 n hn A l c f
  go_enter Tryz.func128, Tryz.ntmps128
  go_wp2_with fail
  go_loopw [1, 2] (fun a b wr => a = .int .i64 0 ∧ b = .int .i64 (n : Int) ∧ wr = w) (fun _ _ _ => 0)
  case atStart => exact ⟨rfl, rfl, rfl⟩
  case round =>
    obtain ⟨rfl, rfl, hw⟩ := hrel
    subst hw
    go_wp2_with fail
    refine (hcon _).mono ?_
    rintro e w' ⟨⟨v, rfl⟩, hw⟩
    subst w'
    go_wp2
    (try simp only [Exit.inBlock, Exit.then]); first | exact bodyPost_ret (results_none rfl _ _ _) rfl ⟨⟨_, rfl⟩, rfl⟩ | exact bodyPost_end (results_none rfl _ _ _) rfl ⟨⟨_, rfl⟩, rfl⟩
set_option maxHeartbeats 1000000 in
set_option maxRecDepth 20000 in
theorem sort_01 (n : Nat) (hn : n ≤ 1) (A : Option Addr) (c : Nat) (f : Value) (w : World) : Calls Tryz.prog 87 #[.slice A n c, f] w (fun e w' => (∃ v, e = .returned v) ∧ w' = w) := by
  have hl := len_01 n (by omega) w
  have hw0 : IntKind.u64.wrap (n : Int) = (n : Int) := by rw [IntKind.wrap_u64]; omega
  have hcon := fun lim => pdq_01 n hn A n c f lim w
  go_enter Tryz.func87, Tryz.ntmps87
  go_wp2_with fail
  refine hl.mono ?_
  rintro e w' ⟨⟨v, rfl⟩, hw⟩
  subst w'
  go_wp2_with fail
  refine (hcon v).mono ?_
  rintro e w' ⟨⟨v, rfl⟩, hw⟩
  subst w'
  go_wp2
  (try simp only [Exit.inBlock, Exit.then]); first | exact bodyPost_ret (results_none rfl _ _ _) rfl ⟨⟨_, rfl⟩, rfl⟩ | exact bodyPost_end (results_none rfl _ _ _) rfl ⟨⟨_, rfl⟩, rfl⟩
end Go.Proofs.YtnmkieiehjajlaaGreatDoor
namespace Go.Proofs.YtnmkieiehjajlaaGreatDoor
open Go.RowKit

set_option maxHeartbeats 1000000 in
set_option maxRecDepth 20000 in
theorem tz_core (x k idx : Nat) (w : World) (hx0 : ((x : Int) == 0) = false)
    (key : IntKind.u64.wrap (bits BinOp.and IntKind.u64 (x : Int) (IntKind.u64.wrap (-(x : Int))) * 285870213051353865) / 288230376151711744 = (idx : Int))
    (hi : idx < 64) (hk : k < 64) (hcell : w.cell? ⟨1, idx, none⟩ = some (.int .u8 k)) :
    Calls Tryz.prog 131 #[.int .u64 (x : Int)] w (fun e w' => e = .returned (.int .i64 k) ∧ w' = w) := by
  go_enter Tryz.func131, Tryz.ntmps131
  go_wp2_with (simp only [key])
  go_ret
  exact ⟨rfl, rfl⟩
/-- The table of the library, where the program has it. -/
def TabW (w : World) : Prop := TabAt 1 Lib.deBruijn64tab w
theorem TabW.upd {w w' : World} {G : Nat → Prop} (h : TabW w) (hu : Upd G w w') (hl : 1 < w.heap.size) (hg : ¬ G 1) : TabW w' := fun j hj => by
  rw [hu.cell hl hg]
  exact h j hj
theorem tz_any (x : Nat) (hx : x < 18446744073709551616) (hx0 : x ≠ 0) (w : World) (hT : TabW w) :
    Calls Tryz.prog 131 #[.int .u64 (x : Int)] w (fun e w' => e = .returned (.int .i64 (Lib.ctz 64 x : Nat)) ∧ w' = w) := by
  obtain ⟨hlow, hk⟩ := Lib.lowest_bit 64 x hx0 hx
  obtain ⟨hi, htab⟩ := Lib.deBruijn64_at _ hk
  have hcell := hT _ hi
  rw [htab] at hcell
  exact tz_core x _ _ w (by simp; omega) (tz64_key x _ hx hx0 hlow) hi hk hcell
end Go.Proofs.YtnmkieiehjajlaaGreatDoor
namespace Go.Proofs.YtnmkieiehjajlaaGreatDoor
open Go.RowKit

theorem range_four {w : World} {O : Nat → Option QRo} {p side dep cnt m : Nat} {last : Int} {L : List (List Nat)} {lv : Value} {pg pc : Nat} (h : QuI w O p side dep cnt m last L (.slice (some ⟨pg, 0, none⟩) (m + 1) pc) lv) {k : Nat} {x : Int} (hx : ∀ j u, (four x)[j]? = some u → (qsC m last)[k * 4 + j]? = some u) : w.rangeAt pg (k * 4) (four x) := fun j u hu => by
  obtain ⟨g', c', e', -, -, -, -, hc'⟩ := own_cells h.rp (by omega)
  injection e' with e'
  injection e' with e'
  injection e' with e'
  subst e'
  exact (hc' _ _ (hx j u hu)).1
theorem idx_four (x : Int) (W : World) (j : Nat) (hj : j < 4) : (Instr.index 169 (.agg (four x).toArray) (.int .i64 (j : Int))).run Tryz.prog W = .ok (.int .i64 (if j = 0 then x else 0)) W := by
  obtain rfl | rfl | rfl | rfl : j = 0 ∨ j = 1 ∨ j = 2 ∨ j = 3 := by omega
  · kernel_rfl
  · kernel_rfl
  · kernel_rfl
  · kernel_rfl
theorem idx_four0 (W : World) (j : Nat) (hj : j < 4) : (Instr.index 169 (.agg (four 0).toArray) (.int .i64 (j : Int))).run Tryz.prog W = .ok (.int .i64 0) W := by
  rw [idx_four 0 W j hj, ite_self]
set_option maxHeartbeats 2000000 in
set_option maxRecDepth 20000 in
theorem down_none (w : World) (O : Nat → Option QRo) (p side dep cnt : Nat) (pv lv : Value) (h : QuI w O p side dep cnt 0 0 [] pv lv) (l : Int) (g1 g3 g4 : Nat) (c1 : w.cell? ⟨g1, 0, none⟩ = some (.pointer (some ⟨p, 0, none⟩))) :
    Calls Tryz.prog 86 #[.int .i64 0, .int .i64 l, .int .i64 0, .int .i64 0, .pointer (some ⟨g1, 0, none⟩), .pointer (some ⟨g3, 0, none⟩), .pointer (some ⟨g4, 0, none⟩)] w (fun e w' => e = .returned (.tuple #[]) ∧ w' = w) := by
  obtain ⟨pg, pc, e, -, -, -, -, -⟩ := own_cells h.rp (by omega)
  subst e
  have q3 : w.cell? ⟨p, 3, none⟩ = some (.slice (some ⟨pg, 0, none⟩) 1 pc) := h.blk.cell 3
  have hrg : w.rangeAt pg 0 (four 0) := range_four (k := 0) h (fun j u hu => by rw [Nat.zero_mul, Nat.zero_add]; exact hu)
  have hsz : (Tryz.prog.info? 169).map (·.size) = some (four 0).length := by kernel_rfl
  clear h
  go_enter Tryz.func86, Tryz.ntmps86
  go_wp2_with (first | (refine wpList_load_mid rfl 169 _ rfl pg 0 rfl (four 0) (.array 4 3) hrg Tryz.underlying169 rfl hsz ?_) | fail)
  clear c1 q3 hrg hsz
  have HX := Lib.hid (idx_four0)
  generalize (four 0).toArray = arr at HX ⊢
  go_loopw [22] (fun a wr => ∃ j : Nat, j ≤ 4 ∧ a = .int .i64 (j : Int) ∧ wr = w) (fun a _ => (4 - intOf a).toNat)
  case atStart => exact ⟨0, by omega, rfl, rfl⟩
  case round =>
    obtain ⟨j, hj, rfl, hw⟩ := hrel
    subst hw
    by_cases hlt : j < 4
    · have hltI : (j : Int) < (4 : Int) := by omega
      have hkw : IntKind.i64.wrap ((j : Int) + 1) = (j : Int) + 1 := IntWalk.i64_in _ (by omega)
      have hge : (0 : Int) ≤ (j : Int) := by omega
      have hix := HX.out wr j hlt
      go_wp2
      go_roundw
      case rel => exact ⟨j + 1, by omega, by go_num, by first | rfl | trivial⟩
      case measure => simp [intOf] <;> omega
    · obtain rfl : j = 4 := by omega
      go_wp2
      (try simp only [Exit.inBlock, Exit.then])
      exact bodyPost_end (results_none rfl _ _ _) rfl (by first | exact ⟨rfl, rfl⟩ | exact ⟨rfl, trivial⟩)
end Go.Proofs.YtnmkieiehjajlaaGreatDoor
