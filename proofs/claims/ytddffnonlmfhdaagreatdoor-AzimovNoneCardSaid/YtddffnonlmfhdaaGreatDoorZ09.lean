/- Blocks of bits: the diagonal, a square corner. (Written by mkAzA.py.); Blocks of bits: a square corner. (Written by mkAzB.py.); Blocks of bits: the product. (Written by mkAzC.py.); Matrices of bits: or of any block, Put. (Written by mkAzD.py.). -/
import Derived.Test.YtddffnonlmfhdaaGreatDoorZ08
import Derived.Test.YtddffnonlmfhdaaGreatDoorZ05
set_option linter.unusedVariables false
set_option linter.unusedSimpArgs false
namespace Go.Proofs.YtddffnonlmfhdaaGreatDoor
open Go.RowKit
/-- 64 words by a function. -/
def wf (f : Nat → Nat) : List Nat := (List.range 64).map f
theorem wf_len (f : Nat → Nat) : (wf f).length = 64 := by simp [wf]
theorem wf_at (f : Nat → Nat) {k : Nat} (h : k < 64) : (wf f)[k]? = some (f k) := by simp [wf, h]
theorem wf_congr {f g : Nat → Nat} (h : ∀ i, i < 64 → f i = g i) : wf f = wf g := List.map_congr_left (fun i hi => h i (List.mem_range.1 hi))
theorem wf_set (f : Nat → Nat) {k : Nat} (_h : k < 64) (v : Nat) : (wf f).set k v = wf (fun i => if i = k then v else f i) := by
  apply List.ext_getElem?
  intro i
  by_cases hi : i < 64
  · rw [wf_at _ hi, List.getElem?_set]
    by_cases e : k = i
    · subst e; simp [wf, hi]
    · rw [if_neg e, wf_at f hi, if_neg (fun h => e h.symm)]
  · rw [List.getElem?_eq_none (by simp [wf]; omega), List.getElem?_eq_none (by simp [wf]; omega)]
theorem wf_wd {f : Nat → Nat} (h : ∀ i, i < 64 → f i < 18446744073709551616) : Wd (wf f) := ⟨wf_len f, fun x hx => by
  obtain ⟨i, hi, rfl⟩ := List.mem_map.1 hx
  exact h i (List.mem_range.1 hi)⟩
theorem wd_wf {r : List Nat} (h : Wd r) : r = wf (fun i => r.getD i 0) := by
  apply List.ext_getElem?
  intro i
  by_cases hi : i < 64
  · rw [wf_at _ hi, List.getElem?_eq_getElem (by rw [h.len]; exact hi)]
    simp [h.len, hi]
  · rw [List.getElem?_eq_none (by rw [h.len]; omega), List.getElem?_eq_none (by simp [wf]; omega)]
theorem zero_wf : zero64 = wf (fun _ => 0) := by decide +kernel
theorem wf_step {f g : Nat → Nat} {k : Nat} (h : k < 64) : (wf (fun i => if i < k then f i else g i)).set k (f k) = wf (fun i => if i < k + 1 then f i else g i) := by
  rw [wf_set _ h]
  apply wf_congr
  intro i _
  by_cases e : i = k
  · subst e; rw [if_pos rfl, if_pos (by omega)]
  · rw [if_neg e]
    by_cases e2 : i < k
    · rw [if_pos e2, if_pos (by omega)]
    · rw [if_neg e2, if_neg (by omega)]
theorem wf_done (f g : Nat → Nat) : wf (fun i => if i < 64 then f i else g i) = wf f := wf_congr (fun i hi => if_pos hi)
theorem wf_none (f g : Nat → Nat) : wf (fun i => if i < 0 then f i else g i) = wf g := wf_congr (fun i _ => if_neg (by omega))
theorem there_blk2 {w : World} {b : Nat} {t : TypeId} {cs : Array Value} (h : Blk w b t cs) : w.there b 0 cs.size := fun j hj => ⟨by rw [Nat.zero_add, h.cell j, Array.getElem?_eq_getElem hj]; rfl, h.frozen _⟩

/-- The cells whose row is their column. -/
def diag : List Nat := wf (fun i => 2 ^ i)
theorem diag_wd : Wd diag := wf_wd (fun _ hi => pow_fit hi)
theorem shl_one {j : Nat} (hj : j < 64) : IntKind.u64.wrap ((2 : Int) ^ j) = ((2 ^ j : Nat) : Int) := by
  have h := pow_fit hj
  rw [← pow_int]
  generalize 2 ^ j = q at h ⊢
  rw [IntKind.wrap_u64]
  omega

set_option maxHeartbeats 4000000 in
set_option maxRecDepth 20000 in
theorem bone_any (w : World) : Calls Tryz.prog 179 #[] w (Sam w (wdV diag)) := by
  have k0 := (Blk.new w 168 #[Value.int .u64 0, .int .u64 0, .int .u64 0, .int .u64 0, .int .u64 0, .int .u64 0, .int .u64 0, .int .u64 0, .int .u64 0, .int .u64 0, .int .u64 0, .int .u64 0, .int .u64 0, .int .u64 0, .int .u64 0, .int .u64 0, .int .u64 0, .int .u64 0, .int .u64 0, .int .u64 0, .int .u64 0, .int .u64 0, .int .u64 0, .int .u64 0, .int .u64 0, .int .u64 0, .int .u64 0, .int .u64 0, .int .u64 0, .int .u64 0, .int .u64 0, .int .u64 0, .int .u64 0, .int .u64 0, .int .u64 0, .int .u64 0, .int .u64 0, .int .u64 0, .int .u64 0, .int .u64 0, .int .u64 0, .int .u64 0, .int .u64 0, .int .u64 0, .int .u64 0, .int .u64 0, .int .u64 0, .int .u64 0, .int .u64 0, .int .u64 0, .int .u64 0, .int .u64 0, .int .u64 0, .int .u64 0, .int .u64 0, .int .u64 0, .int .u64 0, .int .u64 0, .int .u64 0, .int .u64 0, .int .u64 0, .int .u64 0, .int .u64 0, .int .u64 0]).alloc (.cells #[Value.int .u64 0, .int .u64 0, .int .u64 0, .int .u64 0, .int .u64 0, .int .u64 0, .int .u64 0, .int .u64 0, .int .u64 0, .int .u64 0, .int .u64 0, .int .u64 0, .int .u64 0, .int .u64 0, .int .u64 0, .int .u64 0, .int .u64 0, .int .u64 0, .int .u64 0, .int .u64 0, .int .u64 0, .int .u64 0, .int .u64 0, .int .u64 0, .int .u64 0, .int .u64 0, .int .u64 0, .int .u64 0, .int .u64 0, .int .u64 0, .int .u64 0, .int .u64 0, .int .u64 0, .int .u64 0, .int .u64 0, .int .u64 0, .int .u64 0, .int .u64 0, .int .u64 0, .int .u64 0, .int .u64 0, .int .u64 0, .int .u64 0, .int .u64 0, .int .u64 0, .int .u64 0, .int .u64 0, .int .u64 0, .int .u64 0, .int .u64 0, .int .u64 0, .int .u64 0, .int .u64 0, .int .u64 0, .int .u64 0, .int .u64 0, .int .u64 0, .int .u64 0, .int .u64 0, .int .u64 0, .int .u64 0, .int .u64 0, .int .u64 0, .int .u64 0] 168)
  have k1 := Blk.new (w.alloc (.cells #[Value.int .u64 0, .int .u64 0, .int .u64 0, .int .u64 0, .int .u64 0, .int .u64 0, .int .u64 0, .int .u64 0, .int .u64 0, .int .u64 0, .int .u64 0, .int .u64 0, .int .u64 0, .int .u64 0, .int .u64 0, .int .u64 0, .int .u64 0, .int .u64 0, .int .u64 0, .int .u64 0, .int .u64 0, .int .u64 0, .int .u64 0, .int .u64 0, .int .u64 0, .int .u64 0, .int .u64 0, .int .u64 0, .int .u64 0, .int .u64 0, .int .u64 0, .int .u64 0, .int .u64 0, .int .u64 0, .int .u64 0, .int .u64 0, .int .u64 0, .int .u64 0, .int .u64 0, .int .u64 0, .int .u64 0, .int .u64 0, .int .u64 0, .int .u64 0, .int .u64 0, .int .u64 0, .int .u64 0, .int .u64 0, .int .u64 0, .int .u64 0, .int .u64 0, .int .u64 0, .int .u64 0, .int .u64 0, .int .u64 0, .int .u64 0, .int .u64 0, .int .u64 0, .int .u64 0, .int .u64 0, .int .u64 0, .int .u64 0, .int .u64 0, .int .u64 0] 168)) 168 #[Value.int .u64 0, .int .u64 0, .int .u64 0, .int .u64 0, .int .u64 0, .int .u64 0, .int .u64 0, .int .u64 0, .int .u64 0, .int .u64 0, .int .u64 0, .int .u64 0, .int .u64 0, .int .u64 0, .int .u64 0, .int .u64 0, .int .u64 0, .int .u64 0, .int .u64 0, .int .u64 0, .int .u64 0, .int .u64 0, .int .u64 0, .int .u64 0, .int .u64 0, .int .u64 0, .int .u64 0, .int .u64 0, .int .u64 0, .int .u64 0, .int .u64 0, .int .u64 0, .int .u64 0, .int .u64 0, .int .u64 0, .int .u64 0, .int .u64 0, .int .u64 0, .int .u64 0, .int .u64 0, .int .u64 0, .int .u64 0, .int .u64 0, .int .u64 0, .int .u64 0, .int .u64 0, .int .u64 0, .int .u64 0, .int .u64 0, .int .u64 0, .int .u64 0, .int .u64 0, .int .u64 0, .int .u64 0, .int .u64 0, .int .u64 0, .int .u64 0, .int .u64 0, .int .u64 0, .int .u64 0, .int .u64 0, .int .u64 0, .int .u64 0, .int .u64 0]
  simp only [World.size_alloc] at k1
  have u0 : Below w.heap.size w ((w.alloc (.cells #[Value.int .u64 0, .int .u64 0, .int .u64 0, .int .u64 0, .int .u64 0, .int .u64 0, .int .u64 0, .int .u64 0, .int .u64 0, .int .u64 0, .int .u64 0, .int .u64 0, .int .u64 0, .int .u64 0, .int .u64 0, .int .u64 0, .int .u64 0, .int .u64 0, .int .u64 0, .int .u64 0, .int .u64 0, .int .u64 0, .int .u64 0, .int .u64 0, .int .u64 0, .int .u64 0, .int .u64 0, .int .u64 0, .int .u64 0, .int .u64 0, .int .u64 0, .int .u64 0, .int .u64 0, .int .u64 0, .int .u64 0, .int .u64 0, .int .u64 0, .int .u64 0, .int .u64 0, .int .u64 0, .int .u64 0, .int .u64 0, .int .u64 0, .int .u64 0, .int .u64 0, .int .u64 0, .int .u64 0, .int .u64 0, .int .u64 0, .int .u64 0, .int .u64 0, .int .u64 0, .int .u64 0, .int .u64 0, .int .u64 0, .int .u64 0, .int .u64 0, .int .u64 0, .int .u64 0, .int .u64 0, .int .u64 0, .int .u64 0, .int .u64 0, .int .u64 0] 168)).alloc (.cells #[Value.int .u64 0, .int .u64 0, .int .u64 0, .int .u64 0, .int .u64 0, .int .u64 0, .int .u64 0, .int .u64 0, .int .u64 0, .int .u64 0, .int .u64 0, .int .u64 0, .int .u64 0, .int .u64 0, .int .u64 0, .int .u64 0, .int .u64 0, .int .u64 0, .int .u64 0, .int .u64 0, .int .u64 0, .int .u64 0, .int .u64 0, .int .u64 0, .int .u64 0, .int .u64 0, .int .u64 0, .int .u64 0, .int .u64 0, .int .u64 0, .int .u64 0, .int .u64 0, .int .u64 0, .int .u64 0, .int .u64 0, .int .u64 0, .int .u64 0, .int .u64 0, .int .u64 0, .int .u64 0, .int .u64 0, .int .u64 0, .int .u64 0, .int .u64 0, .int .u64 0, .int .u64 0, .int .u64 0, .int .u64 0, .int .u64 0, .int .u64 0, .int .u64 0, .int .u64 0, .int .u64 0, .int .u64 0, .int .u64 0, .int .u64 0, .int .u64 0, .int .u64 0, .int .u64 0, .int .u64 0, .int .u64 0, .int .u64 0, .int .u64 0, .int .u64 0] 168)) := by (repeat (first | exact Below.refl _ _ | apply Below.drew | refine Below.alloc ?_ (by first | exact Nat.le_refl _ | (simp; done) | (simp; omega)) _ | refine Below.setCell ?_ (by first | exact Nat.le_refl _ | (simp; done) | (simp; omega)) _))
  have H := Lib.hid (And.intro (zero64_blk.mp k0) (And.intro (zero64_blk.mp k1) u0))
  clear k0 k1 u0
  go_enter Tryz.func179, Tryz.ntmps179
  go_upto_region 2 with (fail)
  generalize (w.alloc (.cells #[Value.int .u64 0, .int .u64 0, .int .u64 0, .int .u64 0, .int .u64 0, .int .u64 0, .int .u64 0, .int .u64 0, .int .u64 0, .int .u64 0, .int .u64 0, .int .u64 0, .int .u64 0, .int .u64 0, .int .u64 0, .int .u64 0, .int .u64 0, .int .u64 0, .int .u64 0, .int .u64 0, .int .u64 0, .int .u64 0, .int .u64 0, .int .u64 0, .int .u64 0, .int .u64 0, .int .u64 0, .int .u64 0, .int .u64 0, .int .u64 0, .int .u64 0, .int .u64 0, .int .u64 0, .int .u64 0, .int .u64 0, .int .u64 0, .int .u64 0, .int .u64 0, .int .u64 0, .int .u64 0, .int .u64 0, .int .u64 0, .int .u64 0, .int .u64 0, .int .u64 0, .int .u64 0, .int .u64 0, .int .u64 0, .int .u64 0, .int .u64 0, .int .u64 0, .int .u64 0, .int .u64 0, .int .u64 0, .int .u64 0, .int .u64 0, .int .u64 0, .int .u64 0, .int .u64 0, .int .u64 0, .int .u64 0, .int .u64 0, .int .u64 0, .int .u64 0] 168)).alloc (.cells #[Value.int .u64 0, .int .u64 0, .int .u64 0, .int .u64 0, .int .u64 0, .int .u64 0, .int .u64 0, .int .u64 0, .int .u64 0, .int .u64 0, .int .u64 0, .int .u64 0, .int .u64 0, .int .u64 0, .int .u64 0, .int .u64 0, .int .u64 0, .int .u64 0, .int .u64 0, .int .u64 0, .int .u64 0, .int .u64 0, .int .u64 0, .int .u64 0, .int .u64 0, .int .u64 0, .int .u64 0, .int .u64 0, .int .u64 0, .int .u64 0, .int .u64 0, .int .u64 0, .int .u64 0, .int .u64 0, .int .u64 0, .int .u64 0, .int .u64 0, .int .u64 0, .int .u64 0, .int .u64 0, .int .u64 0, .int .u64 0, .int .u64 0, .int .u64 0, .int .u64 0, .int .u64 0, .int .u64 0, .int .u64 0, .int .u64 0, .int .u64 0, .int .u64 0, .int .u64 0, .int .u64 0, .int .u64 0, .int .u64 0, .int .u64 0, .int .u64 0, .int .u64 0, .int .u64 0, .int .u64 0, .int .u64 0, .int .u64 0, .int .u64 0, .int .u64 0] 168) = W0 at H ⊢
  go_wp2_with fail
  go_loopw [3] (fun i wr => ∃ k : Nat, k ≤ 64 ∧ i = .int .i64 k ∧ Hid (Blk wr w.heap.size 168 (wdC zero64).toArray ∧ Blk wr (w.heap.size + 1) 168 (wdC (wf (fun i => if i < k then 2 ^ i else 0))).toArray ∧ Below w.heap.size w wr)) (fun i _ => 64 - (intOf i).toNat)
  case atStart => exact ⟨0, Nat.zero_le _, rfl, Lib.hid ⟨H.out.1, by rw [wf_none (fun i => 2 ^ i) (fun _ => 0), ← zero_wf]; exact H.out.2.1, H.out.2.2⟩⟩
  case round =>
    obtain ⟨k, hk, rfl, hI⟩ := hrel
    by_cases hlt : k < 64
    · have hltI : (k : Int) < (64 : Int) := by omega
      have hkw : IntKind.i64.wrap ((k : Int) + 1) = (k : Int) + 1 := IntWalk.i64_in _ (by omega)
      have hk0 : ¬ ((k : Int) < 0) := by omega
      have hsh := shl_one hlt
      have kB := hI.out.2.1
      have c1 : wr.cell? ⟨w.heap.size + 1, k, none⟩ = some (.int .u64 0) := (kB.cell k).trans (by have := wdC_at (wf_at (fun i => if i < k then 2 ^ i else 0) hlt); simpa using this)
      have f1 := kB.frozen k
      have us := (Upd.refl (fun q => q = w.heap.size + 1) wr).setCell (p := ⟨w.heap.size + 1, k, none⟩) (.inl rfl) (.int .u64 ((2 ^ k : Nat) : Int))
      have HN := Lib.hid (show Blk (wr.setCell ⟨w.heap.size + 1, k, none⟩ (.int .u64 ((2 ^ k : Nat) : Int))) w.heap.size 168 (wdC zero64).toArray ∧ Blk (wr.setCell ⟨w.heap.size + 1, k, none⟩ (.int .u64 ((2 ^ k : Nat) : Int))) (w.heap.size + 1) 168 (wdC (wf (fun i => if i < k + 1 then 2 ^ i else 0))).toArray ∧ Below w.heap.size w (wr.setCell ⟨w.heap.size + 1, k, none⟩ (.int .u64 ((2 ^ k : Nat) : Int))) from by
        refine ⟨hI.out.1.upd us (by omega), ?_, hI.out.2.2.trans (us.below (fun q _ e => by omega) hI.out.2.2.size)⟩
        have := kB.set k (.int .u64 ((2 ^ k : Nat) : Int))
        rw [wdC_set, wf_step (f := fun i => 2 ^ i) hlt] at this
        exact this)
      clear kB us
      obtain ⟨q, hq⟩ : ∃ q : Nat, 2 ^ k = q := ⟨_, rfl⟩
      rw [hq] at hsh HN
      clear hq
      go_wp2
      go_roundw
      case rel => exact ⟨k + 1, by omega, by go_num, HN⟩
      case measure => simp [intOf]; omega
    · obtain rfl : k = 64 := by omega
      have kA := hI.out.2.1
      rw [wf_done (fun i => 2 ^ i) (fun _ => 0)] at kA
      have hrg := range_blk kA
      have hsz := info_wd diag_wd
      have hth : wr.there w.heap.size 0 (wdC diag).toArray.size := by have := there_blk2 hI.out.1; simpa [wdC_len, zero64_len, diag_wd.len] using this
      have hsz2 : (Tryz.prog.info? 168).map (·.size) = some (wdC diag).toArray.size := by simpa using hsz
      have h1c : (wdC diag).toArray.all (·.oneCell') = true := all_oneCell_toArray (one_wd _)
      have FIN := Lib.hid (show Below w.heap.size w (wr.setCells w.heap.size 0 (wdC diag)) ∧ (wr.setCells w.heap.size 0 (wdC diag)).rangeAt w.heap.size 0 (wdC diag) from
        ⟨hI.out.2.2.trans ((Upd.setCells (F := fun q => q = w.heap.size) (.inl rfl) (wdC diag) 0 (Upd.refl _ wr)).below (fun q _ e => Nat.le_of_eq e.symm) hI.out.2.2.size), World.rangeAt_setCells_same _ _ _ _ (by simpa using hth)⟩)
      change wr.rangeAt (w.heap.size + 1) 0 (wdC diag) at hrg
      clear kA hI
      go_upto_region 7 with (fail)
      go_wp2_with (first | (refine wpList_load_mid rfl 168 _ rfl (w.heap.size + 1) 0 rfl (wdC diag) (.array 64 166) hrg Tryz.underlying168 rfl hsz ?_) | (refine wpList_store_mid rfl 168 _ _ rfl w.heap.size 0 (wdC diag).toArray rfl rfl hth hsz2 h1c ?_) | fail)
      have hlv := run_loadVar_mid (P := Tryz.prog) _ w.heap.size 0 168 (wdC diag) (.array 64 166) FIN.out.2 Tryz.underlying168 rfl hsz
      refine bodyPost_ret (v := .agg (wdC diag).toArray) (by simp [results, Tryz.f179, Act.put, asAddr, hlv, Result.andThen, Sem.run_bind]) rfl ⟨rfl, FIN.out.1⟩

/-- The lowest n bits. -/
theorem bfirst_any (w : World) (n : Nat) (hn : n ≤ 64) : Calls Tryz.prog 196 #[.int .i64 (n : Int)] w (Only w (.int .u64 ((2 ^ n - 1 : Nat) : Int))) := by
  by_cases h : n = 64
  · subst h
    go_enter Tryz.func196, Tryz.ntmps196
    go_wp2
    go_ret
    exact ⟨rfl, rfl⟩
  · have h1 : ¬ ((64 : Int) ≤ (n : Int)) := by omega
    have h0 : ¬ ((n : Int) < 0) := by omega
    have hlt : n < 64 := by omega
    have hsh := shl_one hlt
    have hp := pow_fit hlt
    have hp1 : 1 ≤ 2 ^ n := Nat.one_le_two_pow
    obtain ⟨q, hq⟩ : ∃ q : Nat, 2 ^ n = q := ⟨_, rfl⟩
    rw [hq] at hsh hp hp1 ⊢
    have hw : IntKind.u64.wrap ((q : Int) - 1) = ((q - 1 : Nat) : Int) := by rw [IntKind.wrap_u64]; omega
    clear hq
    go_enter Tryz.func196, Tryz.ntmps196
    go_wp2
    go_ret
    exact ⟨rfl, rfl⟩
end Go.Proofs.YtddffnonlmfhdaaGreatDoor
namespace Go.Proofs.YtddffnonlmfhdaaGreatDoor
open Go.RowKit
def cornW (r : List Nat) (n : Nat) : List Nat := wf (fun i => if i < n then r.getD i 0 &&& (2 ^ n - 1) else 0)
theorem getD_fit {r : List Nat} (h : Wd r) (i : Nat) : r.getD i 0 < 18446744073709551616 := by
  by_cases hi : i < r.length
  · rw [List.getD_eq_getElem?_getD, List.getElem?_eq_getElem hi]
    exact h.fit _ (List.getElem_mem hi)
  · rw [List.getD_eq_getElem?_getD, List.getElem?_eq_none (by omega)]
    decide
theorem cornW_wd {r : List Nat} (h : Wd r) (n : Nat) : Wd (cornW r n) := wf_wd (fun i _ => by
  split
  · exact Nat.lt_of_le_of_lt Nat.and_le_left (getD_fit h i)
  · decide)
set_option maxHeartbeats 4000000 in
set_option maxRecDepth 20000 in
theorem bcorner_any (w : World) (r : List Nat) (hr : Wd r) (n : Nat) (hn : n ≤ 64) : Calls Tryz.prog 178 #[wdV r, .int .i64 (n : Int), .int .i64 (n : Int)] w (Sam w (.tuple #[wdV (cornW r n), .int .i64 0])) := by
  have k0 := (Blk.new w 168 (wdC r).toArray).alloc (.cells #[Value.int .u64 0, .int .u64 0, .int .u64 0, .int .u64 0, .int .u64 0, .int .u64 0, .int .u64 0, .int .u64 0, .int .u64 0, .int .u64 0, .int .u64 0, .int .u64 0, .int .u64 0, .int .u64 0, .int .u64 0, .int .u64 0, .int .u64 0, .int .u64 0, .int .u64 0, .int .u64 0, .int .u64 0, .int .u64 0, .int .u64 0, .int .u64 0, .int .u64 0, .int .u64 0, .int .u64 0, .int .u64 0, .int .u64 0, .int .u64 0, .int .u64 0, .int .u64 0, .int .u64 0, .int .u64 0, .int .u64 0, .int .u64 0, .int .u64 0, .int .u64 0, .int .u64 0, .int .u64 0, .int .u64 0, .int .u64 0, .int .u64 0, .int .u64 0, .int .u64 0, .int .u64 0, .int .u64 0, .int .u64 0, .int .u64 0, .int .u64 0, .int .u64 0, .int .u64 0, .int .u64 0, .int .u64 0, .int .u64 0, .int .u64 0, .int .u64 0, .int .u64 0, .int .u64 0, .int .u64 0, .int .u64 0, .int .u64 0, .int .u64 0, .int .u64 0] 168)
  have k1 := Blk.new (w.alloc (.cells (wdC r).toArray 168)) 168 #[Value.int .u64 0, .int .u64 0, .int .u64 0, .int .u64 0, .int .u64 0, .int .u64 0, .int .u64 0, .int .u64 0, .int .u64 0, .int .u64 0, .int .u64 0, .int .u64 0, .int .u64 0, .int .u64 0, .int .u64 0, .int .u64 0, .int .u64 0, .int .u64 0, .int .u64 0, .int .u64 0, .int .u64 0, .int .u64 0, .int .u64 0, .int .u64 0, .int .u64 0, .int .u64 0, .int .u64 0, .int .u64 0, .int .u64 0, .int .u64 0, .int .u64 0, .int .u64 0, .int .u64 0, .int .u64 0, .int .u64 0, .int .u64 0, .int .u64 0, .int .u64 0, .int .u64 0, .int .u64 0, .int .u64 0, .int .u64 0, .int .u64 0, .int .u64 0, .int .u64 0, .int .u64 0, .int .u64 0, .int .u64 0, .int .u64 0, .int .u64 0, .int .u64 0, .int .u64 0, .int .u64 0, .int .u64 0, .int .u64 0, .int .u64 0, .int .u64 0, .int .u64 0, .int .u64 0, .int .u64 0, .int .u64 0, .int .u64 0, .int .u64 0, .int .u64 0]
  simp only [World.size_alloc] at k1
  have u0 : Below w.heap.size w ((w.alloc (.cells (wdC r).toArray 168)).alloc (.cells #[Value.int .u64 0, .int .u64 0, .int .u64 0, .int .u64 0, .int .u64 0, .int .u64 0, .int .u64 0, .int .u64 0, .int .u64 0, .int .u64 0, .int .u64 0, .int .u64 0, .int .u64 0, .int .u64 0, .int .u64 0, .int .u64 0, .int .u64 0, .int .u64 0, .int .u64 0, .int .u64 0, .int .u64 0, .int .u64 0, .int .u64 0, .int .u64 0, .int .u64 0, .int .u64 0, .int .u64 0, .int .u64 0, .int .u64 0, .int .u64 0, .int .u64 0, .int .u64 0, .int .u64 0, .int .u64 0, .int .u64 0, .int .u64 0, .int .u64 0, .int .u64 0, .int .u64 0, .int .u64 0, .int .u64 0, .int .u64 0, .int .u64 0, .int .u64 0, .int .u64 0, .int .u64 0, .int .u64 0, .int .u64 0, .int .u64 0, .int .u64 0, .int .u64 0, .int .u64 0, .int .u64 0, .int .u64 0, .int .u64 0, .int .u64 0, .int .u64 0, .int .u64 0, .int .u64 0, .int .u64 0, .int .u64 0, .int .u64 0, .int .u64 0, .int .u64 0] 168)) := by (repeat (first | exact Below.refl _ _ | apply Below.drew | refine Below.alloc ?_ (by first | exact Nat.le_refl _ | (simp; done) | (simp; omega)) _ | refine Below.setCell ?_ (by first | exact Nat.le_refl _ | (simp; done) | (simp; omega)) _))
  have H := Lib.hid (And.intro k0 (And.intro (zero64_blk.mp k1) (And.intro u0 hr)))
  clear k0 k1 u0
  unfold wdV
  have hn0 : ¬ ((n : Int) < 0) := by omega
  have hn6 : ¬ ((64 : Int) < (n : Int)) := by omega
  go_enter Tryz.func178, Tryz.ntmps178
  go_upto_region 1 with (fail)
  generalize (w.alloc (.cells (wdC r).toArray 168)).alloc (.cells #[Value.int .u64 0, .int .u64 0, .int .u64 0, .int .u64 0, .int .u64 0, .int .u64 0, .int .u64 0, .int .u64 0, .int .u64 0, .int .u64 0, .int .u64 0, .int .u64 0, .int .u64 0, .int .u64 0, .int .u64 0, .int .u64 0, .int .u64 0, .int .u64 0, .int .u64 0, .int .u64 0, .int .u64 0, .int .u64 0, .int .u64 0, .int .u64 0, .int .u64 0, .int .u64 0, .int .u64 0, .int .u64 0, .int .u64 0, .int .u64 0, .int .u64 0, .int .u64 0, .int .u64 0, .int .u64 0, .int .u64 0, .int .u64 0, .int .u64 0, .int .u64 0, .int .u64 0, .int .u64 0, .int .u64 0, .int .u64 0, .int .u64 0, .int .u64 0, .int .u64 0, .int .u64 0, .int .u64 0, .int .u64 0, .int .u64 0, .int .u64 0, .int .u64 0, .int .u64 0, .int .u64 0, .int .u64 0, .int .u64 0, .int .u64 0, .int .u64 0, .int .u64 0, .int .u64 0, .int .u64 0, .int .u64 0, .int .u64 0, .int .u64 0, .int .u64 0] 168) = W0 at H ⊢
  go_wp2_with fail
  go_loopw [24] (fun i wr => ∃ k : Nat, k ≤ 64 ∧ i = .int .i64 k ∧ Hid (Blk wr w.heap.size 168 (wdC (wf (fun i => if i < k then (if i < n then r.getD i 0 &&& (2 ^ n - 1) else 0) else r.getD i 0))).toArray ∧ Blk wr (w.heap.size + 1) 168 (wdC zero64).toArray ∧ Below w.heap.size w wr)) (fun i _ => 64 - (intOf i).toNat)
  case atStart => exact ⟨0, Nat.zero_le _, rfl, Lib.hid ⟨by rw [wf_none (fun i => if i < n then r.getD i 0 &&& (2 ^ n - 1) else 0) (fun i => r.getD i 0), ← wd_wf hr]; exact H.out.1, H.out.2.1, H.out.2.2.1⟩⟩
  case round =>
    obtain ⟨k, hk, rfl, hI⟩ := hrel
    by_cases hlt : k < 64
    · have hltI : (k : Int) < (64 : Int) := by omega
      have hkw : IntKind.i64.wrap ((k : Int) + 1) = (k : Int) + 1 := IntWalk.i64_in _ (by omega)
      obtain ⟨x, hx⟩ : ∃ x, r.getD k 0 = x := ⟨_, rfl⟩
      have hx64 : x < 18446744073709551616 := by rw [← hx]; exact getD_fit hr k
      have kA := hI.out.1
      have c1 : wr.cell? ⟨w.heap.size, k, none⟩ = some (.int .u64 (x : Int)) := (kA.cell k).trans (by have := wdC_at (wf_at (fun i => if i < k then (if i < n then r.getD i 0 &&& (2 ^ n - 1) else 0) else r.getD i 0) hlt); rw [if_neg (Nat.lt_irrefl k), hx] at this; simpa using this)
      have f1 := kA.frozen k
      have ST := Lib.hid (show ∀ (W : World) (v : Nat), v = (if k < n then r.getD k 0 &&& (2 ^ n - 1) else 0) → Below wr.heap.size wr W → Blk (W.setCell ⟨w.heap.size, k, none⟩ (.int .u64 (v : Int))) w.heap.size 168 (wdC (wf (fun i => if i < k + 1 then (if i < n then r.getD i 0 &&& (2 ^ n - 1) else 0) else r.getD i 0))).toArray ∧ Blk (W.setCell ⟨w.heap.size, k, none⟩ (.int .u64 (v : Int))) (w.heap.size + 1) 168 (wdC zero64).toArray ∧ Below w.heap.size w (W.setCell ⟨w.heap.size, k, none⟩ (.int .u64 (v : Int))) from fun W v hv hb => by
        have us := (Upd.refl (fun q => q = w.heap.size) W).setCell (p := ⟨w.heap.size, k, none⟩) (.inl rfl) (.int .u64 (v : Int))
        have ub := Upd.of_below hb (fun _ => False)
        have bw := hI.out.2.2.trans (hb.mono hI.out.2.2.size)
        refine ⟨?_, (hI.out.2.1.upd ub id).upd us (by omega), bw.trans (us.below (fun q _ e => by omega) bw.size)⟩
        have := (kA.upd ub id).set k (.int .u64 (v : Int))
        rw [wdC_set, hv, wf_step (f := fun i => if i < n then r.getD i 0 &&& (2 ^ n - 1) else 0) hlt] at this
        rw [hv]
        exact this)
      by_cases hkn : k < n
      · have hknI : (k : Int) < (n : Int) := by omega
        have hcon := fun W => bfirst_any W n hn
        have hq64 : 2 ^ n - 1 < 18446744073709551616 := by
          have : 2 ^ n ≤ 2 ^ 64 := Nat.pow_le_pow_right (by decide) hn
          omega
        have hand := bits_and_u64_nat x (2 ^ n - 1) hx64 hq64
        obtain ⟨q, hq⟩ : ∃ q : Nat, 2 ^ n - 1 = q := ⟨_, rfl⟩
        rw [hq] at hand hcon
        obtain ⟨z, hz⟩ : ∃ z : Nat, x &&& q = z := ⟨_, rfl⟩
        rw [hz] at hand
        have S1 := Lib.hid (ST.out wr.drew z (by rw [if_pos hkn, hx, hq, hz]) (Below.refl _ _).drew)
        clear hq hz hx hq64 kA ST
        go_upto_region 7 with (fail)
        have hS : wr.drew.cell? ⟨w.heap.size, k, none⟩ = some (.int .u64 (x : Int)) := c1
        have f2 : wr.drew.frozen? ⟨w.heap.size, k, none⟩ = false := f1
        refine wp_region_ord (fun W => W.cell? ⟨w.heap.size, k, none⟩ = some (.int .u64 (x : Int))) 7 [(0, true), (1, true), (2, true), (3, true), (4, false), (5, true), (6, true), (7, false)] (by kernel_rfl) (by kernel_rfl) (fun _ _ d _ _ h => by cases d <;> exact h) hS ?_
        generalize wr.drew = V0 at hS f2 S1 ⊢
        clear c1 f1
        iterate 4 (refine ord_takeA rfl ?_; (try simp only [Act.put, List.getElem_toArray, List.getElem_cons_succ, List.getElem_cons_zero, List.setIfInBounds_toArray, List.set_cons_zero, List.set_cons_succ]))
        refine ord_do rfl rfl (fun K hK => ?_)
        go_simp
        refine (hcon V0).mono ?_
        clear hcon
        rintro e V1 ⟨rfl, hw1⟩
        subst V1
        refine hK _ _ (fun _ => hS) ?_
        clear hK K
        (try simp only [Act.put, List.getElem_toArray, List.getElem_cons_succ, List.getElem_cons_zero, List.setIfInBounds_toArray, List.set_cons_zero, List.set_cons_succ])
        iterate 2 (refine ord_takeA rfl ?_; (try simp only [Act.put, List.getElem_toArray, List.getElem_cons_succ, List.getElem_cons_zero, List.setIfInBounds_toArray, List.set_cons_zero, List.set_cons_succ]))
        refine ord_do rfl rfl (fun K hK => ?_)
        go_simp
        refine hK _ _ (fun h => absurd rfl h) ?_
        clear hK K hS f2 hand
        (try simp only [Act.put, List.getElem_toArray, List.getElem_cons_succ, List.getElem_cons_zero, List.setIfInBounds_toArray, List.set_cons_zero, List.set_cons_succ])
        refine ord_done ?_
        generalize V0.setCell ⟨w.heap.size, k, none⟩ (.int .u64 (z : Int)) = V1 at S1 ⊢
        go_wp2
        go_roundw
        case rel => exact ⟨k + 1, by omega, by go_num, S1⟩
        case measure => simp [intOf]; omega
      · have hknI : ¬ ((k : Int) < (n : Int)) := by omega
        have S1 := Lib.hid (ST.out wr 0 (by rw [if_neg hkn]) (Below.refl _ _))
        clear hx kA ST
        go_wp2
        go_roundw
        case rel => exact ⟨k + 1, by omega, by go_num, S1⟩
        case measure => simp [intOf]; omega
    · obtain rfl : k = 64 := by omega
      have kA := hI.out.1
      rw [wf_done (fun i => if i < n then r.getD i 0 &&& (2 ^ n - 1) else 0) (fun i => r.getD i 0)] at kA
      have hwd := cornW_wd hr n
      have hrg := range_blk kA
      have hsz := info_wd hwd
      have hth : wr.there (w.heap.size + 1) 0 (wdC (cornW r n)).toArray.size := by have := there_blk2 hI.out.2.1; simpa [wdC_len, zero64_len, hwd.len] using this
      have hsz2 : (Tryz.prog.info? 168).map (·.size) = some (wdC (cornW r n)).toArray.size := by simpa using hsz
      have h1c : (wdC (cornW r n)).toArray.all (·.oneCell') = true := all_oneCell_toArray (one_wd _)
      have FIN := Lib.hid (show Below w.heap.size w (wr.setCells (w.heap.size + 1) 0 (wdC (cornW r n))) ∧ (wr.setCells (w.heap.size + 1) 0 (wdC (cornW r n))).rangeAt (w.heap.size + 1) 0 (wdC (cornW r n)) from
        ⟨hI.out.2.2.trans ((Upd.setCells (F := fun q => q = w.heap.size + 1) (.inl rfl) (wdC (cornW r n)) 0 (Upd.refl _ wr)).below (fun q _ e => by omega) hI.out.2.2.size), World.rangeAt_setCells_same _ _ _ _ (by simpa using hth)⟩)
      change wr.rangeAt w.heap.size 0 (wdC (cornW r n)) at hrg
      clear kA hI
      go_upto_region 10 with (fail)
      go_wp2_with (first | (refine wpList_load_mid rfl 168 _ rfl w.heap.size 0 rfl (wdC (cornW r n)) (.array 64 166) hrg Tryz.underlying168 rfl hsz ?_) | (refine wpList_store_mid rfl 168 _ _ rfl (w.heap.size + 1) 0 (wdC (cornW r n)).toArray rfl rfl hth hsz2 h1c ?_) | fail)
      have hlv := run_loadVar_mid (P := Tryz.prog) _ (w.heap.size + 1) 0 168 (wdC (cornW r n)) (.array 64 166) FIN.out.2 Tryz.underlying168 rfl hsz
      refine bodyPost_ret (v := .tuple #[.agg (wdC (cornW r n)).toArray, .int .i64 0]) (by simp [results, Tryz.f178, Act.put, asAddr, hlv, Result.andThen, Sem.run_bind]) rfl ⟨rfl, FIN.out.1⟩
end Go.Proofs.YtddffnonlmfhdaaGreatDoor
namespace Go.Proofs.YtddffnonlmfhdaaGreatDoor
open Go.RowKit
/-- The rows of b that a list of bits names, all together. -/
def orL (b : List Nat) : List Nat → Nat → Nat
  | [], v => v
  | c :: l, v => orL b l (v ||| b.getD c 0)
def mulW (a b : List Nat) : List Nat := wf (fun i => orL b (bitsL 64 0 (a.getD i 0)) 0)
theorem orL_fit {b : List Nat} (h : Wd b) : ∀ (l : List Nat) (v : Nat), v < 18446744073709551616 → orL b l v < 18446744073709551616
  | [], _, hv => hv
  | c :: l, v, hv => orL_fit h l _ (Nat.or_lt_two_pow (n := 64) hv (getD_fit h c))
theorem mulW_wd (a : List Nat) {b : List Nat} (h : Wd b) : Wd (mulW a b) := wf_wd (fun _ _ => orL_fit h _ _ (by decide))
theorem orL_bit (b : List Nat) (j : Nat) : ∀ (l : List Nat) (v : Nat), (orL b l v).testBit j = true ↔ v.testBit j = true ∨ ∃ c ∈ l, (b.getD c 0).testBit j = true
  | [], v => by simp [orL]
  | c :: l, v => by
    rw [orL, orL_bit b j l, Nat.testBit_or, Bool.or_eq_true]
    constructor
    · rintro ((h | h) | ⟨d, hd, h⟩)
      · exact .inl h
      · exact .inr ⟨c, List.mem_cons_self, h⟩
      · exact .inr ⟨d, List.mem_cons_of_mem _ hd, h⟩
    · rintro (h | ⟨d, hd, h⟩)
      · exact .inl (.inl h)
      · rcases List.mem_cons.1 hd with rfl | hd
        · exact .inl (.inr h)
        · exact .inr ⟨d, hd, h⟩
/-- The product has a cell where a row and a column meet. -/
theorem mul_bit {a b : List Nat} (_ha : Wd a) (_hb : Wd b) {i j : Nat} (hi : i < 64) : bitW (mulW a b) i j = true ↔ ∃ k, k < 64 ∧ bitW a i k = true ∧ bitW b k j = true := by
  unfold bitW mulW
  rw [wf_at _ hi, Option.getD_some, orL_bit]
  constructor
  · rintro (h | ⟨c, hc, h⟩)
    · simp at h
    · obtain ⟨t, ht, rfl, hb⟩ := (bitsL_mem _ _ _ _).1 hc
      rw [Nat.zero_add] at h
      exact ⟨t, ht, hb, h⟩
  · rintro ⟨k, hk, h1, h2⟩
    exact .inr ⟨k, (bitsL_mem _ _ _ _).2 ⟨k, hk, (Nat.zero_add k).symm, h1⟩, h2⟩
theorem wf_mid {f g : Nat → Nat} {k : Nat} (h : k < 64) (v u : Nat) : (wf (fun i => if i < k then f i else if i = k then v else g i)).set k u = wf (fun i => if i < k then f i else if i = k then u else g i) := by
  rw [wf_set _ h]
  apply wf_congr
  intro i _
  by_cases e : i = k
  · subst e; rw [if_pos rfl, if_neg (Nat.lt_irrefl i), if_pos rfl]
  · rw [if_neg e]
    by_cases e2 : i < k
    · rw [if_pos e2, if_pos e2]
    · rw [if_neg e2, if_neg e2, if_neg e, if_neg e]
theorem wf_in {f : Nat → Nat} {k : Nat} : wf (fun i => if i < k then f i else 0) = wf (fun i => if i < k then f i else if i = k then 0 else 0) := wf_congr (fun i _ => by
  by_cases e : i < k
  · rw [if_pos e, if_pos e]
  · rw [if_neg e, if_neg e]; split <;> rfl)
theorem wf_out {f : Nat → Nat} {k : Nat} : wf (fun i => if i < k then f i else if i = k then f k else 0) = wf (fun i => if i < k + 1 then f i else 0) := wf_congr (fun i _ => by
  by_cases e : i < k
  · rw [if_pos e, if_pos (by omega)]
  · rw [if_neg e]
    by_cases e2 : i = k
    · subst e2; rw [if_pos rfl, if_pos (by omega)]
    · rw [if_neg e2, if_neg (by omega)])
set_option maxHeartbeats 8000000 in
set_option maxRecDepth 20000 in
theorem bmul_any (w : World) (a b : List Nat) (ha : Wd a) (hb : Wd b) (hT : TabW w) : Calls Tryz.prog 200 #[wdV a, wdV b] w (Sam w (wdV (mulW a b))) := by
  have k0 := (((Blk.new w 168 (wdC a).toArray).alloc (.cells (wdC b).toArray 168)).alloc (.cells #[Value.int .u64 0, .int .u64 0, .int .u64 0, .int .u64 0, .int .u64 0, .int .u64 0, .int .u64 0, .int .u64 0, .int .u64 0, .int .u64 0, .int .u64 0, .int .u64 0, .int .u64 0, .int .u64 0, .int .u64 0, .int .u64 0, .int .u64 0, .int .u64 0, .int .u64 0, .int .u64 0, .int .u64 0, .int .u64 0, .int .u64 0, .int .u64 0, .int .u64 0, .int .u64 0, .int .u64 0, .int .u64 0, .int .u64 0, .int .u64 0, .int .u64 0, .int .u64 0, .int .u64 0, .int .u64 0, .int .u64 0, .int .u64 0, .int .u64 0, .int .u64 0, .int .u64 0, .int .u64 0, .int .u64 0, .int .u64 0, .int .u64 0, .int .u64 0, .int .u64 0, .int .u64 0, .int .u64 0, .int .u64 0, .int .u64 0, .int .u64 0, .int .u64 0, .int .u64 0, .int .u64 0, .int .u64 0, .int .u64 0, .int .u64 0, .int .u64 0, .int .u64 0, .int .u64 0, .int .u64 0, .int .u64 0, .int .u64 0, .int .u64 0, .int .u64 0] 168)).alloc (.cells #[Value.int .u64 0, .int .u64 0, .int .u64 0, .int .u64 0, .int .u64 0, .int .u64 0, .int .u64 0, .int .u64 0, .int .u64 0, .int .u64 0, .int .u64 0, .int .u64 0, .int .u64 0, .int .u64 0, .int .u64 0, .int .u64 0, .int .u64 0, .int .u64 0, .int .u64 0, .int .u64 0, .int .u64 0, .int .u64 0, .int .u64 0, .int .u64 0, .int .u64 0, .int .u64 0, .int .u64 0, .int .u64 0, .int .u64 0, .int .u64 0, .int .u64 0, .int .u64 0, .int .u64 0, .int .u64 0, .int .u64 0, .int .u64 0, .int .u64 0, .int .u64 0, .int .u64 0, .int .u64 0, .int .u64 0, .int .u64 0, .int .u64 0, .int .u64 0, .int .u64 0, .int .u64 0, .int .u64 0, .int .u64 0, .int .u64 0, .int .u64 0, .int .u64 0, .int .u64 0, .int .u64 0, .int .u64 0, .int .u64 0, .int .u64 0, .int .u64 0, .int .u64 0, .int .u64 0, .int .u64 0, .int .u64 0, .int .u64 0, .int .u64 0, .int .u64 0] 168)
  have k1 := ((Blk.new (w.alloc (.cells (wdC a).toArray 168)) 168 (wdC b).toArray).alloc (.cells #[Value.int .u64 0, .int .u64 0, .int .u64 0, .int .u64 0, .int .u64 0, .int .u64 0, .int .u64 0, .int .u64 0, .int .u64 0, .int .u64 0, .int .u64 0, .int .u64 0, .int .u64 0, .int .u64 0, .int .u64 0, .int .u64 0, .int .u64 0, .int .u64 0, .int .u64 0, .int .u64 0, .int .u64 0, .int .u64 0, .int .u64 0, .int .u64 0, .int .u64 0, .int .u64 0, .int .u64 0, .int .u64 0, .int .u64 0, .int .u64 0, .int .u64 0, .int .u64 0, .int .u64 0, .int .u64 0, .int .u64 0, .int .u64 0, .int .u64 0, .int .u64 0, .int .u64 0, .int .u64 0, .int .u64 0, .int .u64 0, .int .u64 0, .int .u64 0, .int .u64 0, .int .u64 0, .int .u64 0, .int .u64 0, .int .u64 0, .int .u64 0, .int .u64 0, .int .u64 0, .int .u64 0, .int .u64 0, .int .u64 0, .int .u64 0, .int .u64 0, .int .u64 0, .int .u64 0, .int .u64 0, .int .u64 0, .int .u64 0, .int .u64 0, .int .u64 0] 168)).alloc (.cells #[Value.int .u64 0, .int .u64 0, .int .u64 0, .int .u64 0, .int .u64 0, .int .u64 0, .int .u64 0, .int .u64 0, .int .u64 0, .int .u64 0, .int .u64 0, .int .u64 0, .int .u64 0, .int .u64 0, .int .u64 0, .int .u64 0, .int .u64 0, .int .u64 0, .int .u64 0, .int .u64 0, .int .u64 0, .int .u64 0, .int .u64 0, .int .u64 0, .int .u64 0, .int .u64 0, .int .u64 0, .int .u64 0, .int .u64 0, .int .u64 0, .int .u64 0, .int .u64 0, .int .u64 0, .int .u64 0, .int .u64 0, .int .u64 0, .int .u64 0, .int .u64 0, .int .u64 0, .int .u64 0, .int .u64 0, .int .u64 0, .int .u64 0, .int .u64 0, .int .u64 0, .int .u64 0, .int .u64 0, .int .u64 0, .int .u64 0, .int .u64 0, .int .u64 0, .int .u64 0, .int .u64 0, .int .u64 0, .int .u64 0, .int .u64 0, .int .u64 0, .int .u64 0, .int .u64 0, .int .u64 0, .int .u64 0, .int .u64 0, .int .u64 0, .int .u64 0] 168)
  have k2 := (Blk.new ((w.alloc (.cells (wdC a).toArray 168)).alloc (.cells (wdC b).toArray 168)) 168 #[Value.int .u64 0, .int .u64 0, .int .u64 0, .int .u64 0, .int .u64 0, .int .u64 0, .int .u64 0, .int .u64 0, .int .u64 0, .int .u64 0, .int .u64 0, .int .u64 0, .int .u64 0, .int .u64 0, .int .u64 0, .int .u64 0, .int .u64 0, .int .u64 0, .int .u64 0, .int .u64 0, .int .u64 0, .int .u64 0, .int .u64 0, .int .u64 0, .int .u64 0, .int .u64 0, .int .u64 0, .int .u64 0, .int .u64 0, .int .u64 0, .int .u64 0, .int .u64 0, .int .u64 0, .int .u64 0, .int .u64 0, .int .u64 0, .int .u64 0, .int .u64 0, .int .u64 0, .int .u64 0, .int .u64 0, .int .u64 0, .int .u64 0, .int .u64 0, .int .u64 0, .int .u64 0, .int .u64 0, .int .u64 0, .int .u64 0, .int .u64 0, .int .u64 0, .int .u64 0, .int .u64 0, .int .u64 0, .int .u64 0, .int .u64 0, .int .u64 0, .int .u64 0, .int .u64 0, .int .u64 0, .int .u64 0, .int .u64 0, .int .u64 0, .int .u64 0]).alloc (.cells #[Value.int .u64 0, .int .u64 0, .int .u64 0, .int .u64 0, .int .u64 0, .int .u64 0, .int .u64 0, .int .u64 0, .int .u64 0, .int .u64 0, .int .u64 0, .int .u64 0, .int .u64 0, .int .u64 0, .int .u64 0, .int .u64 0, .int .u64 0, .int .u64 0, .int .u64 0, .int .u64 0, .int .u64 0, .int .u64 0, .int .u64 0, .int .u64 0, .int .u64 0, .int .u64 0, .int .u64 0, .int .u64 0, .int .u64 0, .int .u64 0, .int .u64 0, .int .u64 0, .int .u64 0, .int .u64 0, .int .u64 0, .int .u64 0, .int .u64 0, .int .u64 0, .int .u64 0, .int .u64 0, .int .u64 0, .int .u64 0, .int .u64 0, .int .u64 0, .int .u64 0, .int .u64 0, .int .u64 0, .int .u64 0, .int .u64 0, .int .u64 0, .int .u64 0, .int .u64 0, .int .u64 0, .int .u64 0, .int .u64 0, .int .u64 0, .int .u64 0, .int .u64 0, .int .u64 0, .int .u64 0, .int .u64 0, .int .u64 0, .int .u64 0, .int .u64 0] 168)
  have k3 := Blk.new (((w.alloc (.cells (wdC a).toArray 168)).alloc (.cells (wdC b).toArray 168)).alloc (.cells #[Value.int .u64 0, .int .u64 0, .int .u64 0, .int .u64 0, .int .u64 0, .int .u64 0, .int .u64 0, .int .u64 0, .int .u64 0, .int .u64 0, .int .u64 0, .int .u64 0, .int .u64 0, .int .u64 0, .int .u64 0, .int .u64 0, .int .u64 0, .int .u64 0, .int .u64 0, .int .u64 0, .int .u64 0, .int .u64 0, .int .u64 0, .int .u64 0, .int .u64 0, .int .u64 0, .int .u64 0, .int .u64 0, .int .u64 0, .int .u64 0, .int .u64 0, .int .u64 0, .int .u64 0, .int .u64 0, .int .u64 0, .int .u64 0, .int .u64 0, .int .u64 0, .int .u64 0, .int .u64 0, .int .u64 0, .int .u64 0, .int .u64 0, .int .u64 0, .int .u64 0, .int .u64 0, .int .u64 0, .int .u64 0, .int .u64 0, .int .u64 0, .int .u64 0, .int .u64 0, .int .u64 0, .int .u64 0, .int .u64 0, .int .u64 0, .int .u64 0, .int .u64 0, .int .u64 0, .int .u64 0, .int .u64 0, .int .u64 0, .int .u64 0, .int .u64 0] 168)) 168 #[Value.int .u64 0, .int .u64 0, .int .u64 0, .int .u64 0, .int .u64 0, .int .u64 0, .int .u64 0, .int .u64 0, .int .u64 0, .int .u64 0, .int .u64 0, .int .u64 0, .int .u64 0, .int .u64 0, .int .u64 0, .int .u64 0, .int .u64 0, .int .u64 0, .int .u64 0, .int .u64 0, .int .u64 0, .int .u64 0, .int .u64 0, .int .u64 0, .int .u64 0, .int .u64 0, .int .u64 0, .int .u64 0, .int .u64 0, .int .u64 0, .int .u64 0, .int .u64 0, .int .u64 0, .int .u64 0, .int .u64 0, .int .u64 0, .int .u64 0, .int .u64 0, .int .u64 0, .int .u64 0, .int .u64 0, .int .u64 0, .int .u64 0, .int .u64 0, .int .u64 0, .int .u64 0, .int .u64 0, .int .u64 0, .int .u64 0, .int .u64 0, .int .u64 0, .int .u64 0, .int .u64 0, .int .u64 0, .int .u64 0, .int .u64 0, .int .u64 0, .int .u64 0, .int .u64 0, .int .u64 0, .int .u64 0, .int .u64 0, .int .u64 0, .int .u64 0]
  simp only [World.size_alloc] at k1 k2 k3
  have u0 : Below w.heap.size w ((((w.alloc (.cells (wdC a).toArray 168)).alloc (.cells (wdC b).toArray 168)).alloc (.cells #[Value.int .u64 0, .int .u64 0, .int .u64 0, .int .u64 0, .int .u64 0, .int .u64 0, .int .u64 0, .int .u64 0, .int .u64 0, .int .u64 0, .int .u64 0, .int .u64 0, .int .u64 0, .int .u64 0, .int .u64 0, .int .u64 0, .int .u64 0, .int .u64 0, .int .u64 0, .int .u64 0, .int .u64 0, .int .u64 0, .int .u64 0, .int .u64 0, .int .u64 0, .int .u64 0, .int .u64 0, .int .u64 0, .int .u64 0, .int .u64 0, .int .u64 0, .int .u64 0, .int .u64 0, .int .u64 0, .int .u64 0, .int .u64 0, .int .u64 0, .int .u64 0, .int .u64 0, .int .u64 0, .int .u64 0, .int .u64 0, .int .u64 0, .int .u64 0, .int .u64 0, .int .u64 0, .int .u64 0, .int .u64 0, .int .u64 0, .int .u64 0, .int .u64 0, .int .u64 0, .int .u64 0, .int .u64 0, .int .u64 0, .int .u64 0, .int .u64 0, .int .u64 0, .int .u64 0, .int .u64 0, .int .u64 0, .int .u64 0, .int .u64 0, .int .u64 0] 168)).alloc (.cells #[Value.int .u64 0, .int .u64 0, .int .u64 0, .int .u64 0, .int .u64 0, .int .u64 0, .int .u64 0, .int .u64 0, .int .u64 0, .int .u64 0, .int .u64 0, .int .u64 0, .int .u64 0, .int .u64 0, .int .u64 0, .int .u64 0, .int .u64 0, .int .u64 0, .int .u64 0, .int .u64 0, .int .u64 0, .int .u64 0, .int .u64 0, .int .u64 0, .int .u64 0, .int .u64 0, .int .u64 0, .int .u64 0, .int .u64 0, .int .u64 0, .int .u64 0, .int .u64 0, .int .u64 0, .int .u64 0, .int .u64 0, .int .u64 0, .int .u64 0, .int .u64 0, .int .u64 0, .int .u64 0, .int .u64 0, .int .u64 0, .int .u64 0, .int .u64 0, .int .u64 0, .int .u64 0, .int .u64 0, .int .u64 0, .int .u64 0, .int .u64 0, .int .u64 0, .int .u64 0, .int .u64 0, .int .u64 0, .int .u64 0, .int .u64 0, .int .u64 0, .int .u64 0, .int .u64 0, .int .u64 0, .int .u64 0, .int .u64 0, .int .u64 0, .int .u64 0] 168)) := by (repeat (first | exact Below.refl _ _ | apply Below.drew | refine Below.alloc ?_ (by first | exact Nat.le_refl _ | (simp; done) | (simp; omega)) _ | refine Below.setCell ?_ (by first | exact Nat.le_refl _ | (simp; done) | (simp; omega)) _))
  have H := Lib.hid (And.intro k0 (And.intro k1 (And.intro (zero64_blk.mp k2) (And.intro (zero64_blk.mp k3) (And.intro u0 (And.intro ha (And.intro hb (And.intro (hT.upd (Upd.of_below u0 (fun _ => False)) hT.lt id) hT.lt))))))))
  have HIx := Lib.hid (show ∀ (W : World) (k x : Nat), a[k]? = some x → (Instr.index 168 (.agg (wdC a).toArray) (.int .i64 (k : Int))).run Tryz.prog W = .ok (.int .u64 (x : Int)) W from fun W k x h => index_wd ha h)
  clear k0 k1 k2 k3 u0
  unfold wdV
  go_enter Tryz.func200, Tryz.ntmps200
  go_upto_region 2 with (fail)
  generalize (((w.alloc (.cells (wdC a).toArray 168)).alloc (.cells (wdC b).toArray 168)).alloc (.cells #[Value.int .u64 0, .int .u64 0, .int .u64 0, .int .u64 0, .int .u64 0, .int .u64 0, .int .u64 0, .int .u64 0, .int .u64 0, .int .u64 0, .int .u64 0, .int .u64 0, .int .u64 0, .int .u64 0, .int .u64 0, .int .u64 0, .int .u64 0, .int .u64 0, .int .u64 0, .int .u64 0, .int .u64 0, .int .u64 0, .int .u64 0, .int .u64 0, .int .u64 0, .int .u64 0, .int .u64 0, .int .u64 0, .int .u64 0, .int .u64 0, .int .u64 0, .int .u64 0, .int .u64 0, .int .u64 0, .int .u64 0, .int .u64 0, .int .u64 0, .int .u64 0, .int .u64 0, .int .u64 0, .int .u64 0, .int .u64 0, .int .u64 0, .int .u64 0, .int .u64 0, .int .u64 0, .int .u64 0, .int .u64 0, .int .u64 0, .int .u64 0, .int .u64 0, .int .u64 0, .int .u64 0, .int .u64 0, .int .u64 0, .int .u64 0, .int .u64 0, .int .u64 0, .int .u64 0, .int .u64 0, .int .u64 0, .int .u64 0, .int .u64 0, .int .u64 0] 168)).alloc (.cells #[Value.int .u64 0, .int .u64 0, .int .u64 0, .int .u64 0, .int .u64 0, .int .u64 0, .int .u64 0, .int .u64 0, .int .u64 0, .int .u64 0, .int .u64 0, .int .u64 0, .int .u64 0, .int .u64 0, .int .u64 0, .int .u64 0, .int .u64 0, .int .u64 0, .int .u64 0, .int .u64 0, .int .u64 0, .int .u64 0, .int .u64 0, .int .u64 0, .int .u64 0, .int .u64 0, .int .u64 0, .int .u64 0, .int .u64 0, .int .u64 0, .int .u64 0, .int .u64 0, .int .u64 0, .int .u64 0, .int .u64 0, .int .u64 0, .int .u64 0, .int .u64 0, .int .u64 0, .int .u64 0, .int .u64 0, .int .u64 0, .int .u64 0, .int .u64 0, .int .u64 0, .int .u64 0, .int .u64 0, .int .u64 0, .int .u64 0, .int .u64 0, .int .u64 0, .int .u64 0, .int .u64 0, .int .u64 0, .int .u64 0, .int .u64 0, .int .u64 0, .int .u64 0, .int .u64 0, .int .u64 0, .int .u64 0, .int .u64 0, .int .u64 0, .int .u64 0] 168) = W0 at H ⊢
  have hrg := range_blk H.out.1
  have hsz := info_wd ha
  go_wp2_with (refine wpList_load_mid rfl 168 _ rfl w.heap.size 0 rfl (wdC a) (.array 64 166) hrg Tryz.underlying168 rfl hsz ?_)
  clear hrg hsz
  go_loopw [9] (fun i wr => ∃ k : Nat, k ≤ 64 ∧ i = .int .i64 k ∧ Hid (Upd (fun q => q = w.heap.size + 1 + 1 + 1) W0 wr ∧ Blk wr (w.heap.size + 1 + 1 + 1) 168 (wdC (wf (fun i => if i < k then orL b (bitsL 64 0 (a.getD i 0)) 0 else 0))).toArray)) (fun i _ => 64 - (intOf i).toNat)
  case atStart => exact ⟨0, Nat.zero_le _, rfl, Lib.hid ⟨Upd.refl _ _, by rw [wf_none (fun i => orL b (bitsL 64 0 (a.getD i 0)) 0) (fun _ => 0), ← zero_wf]; exact H.out.2.2.2.1⟩⟩
  case round =>
    obtain ⟨k, hk, rfl, hI⟩ := hrel
    by_cases hlt : k < 64
    · have hltI : (k : Int) < (64 : Int) := by omega
      have hkw : IntKind.i64.wrap ((k : Int) + 1) = (k : Int) + 1 := IntWalk.i64_in _ (by omega)
      obtain ⟨x, hx⟩ : ∃ x, a[k]? = some x := ⟨a[k]'(by rw [ha.len]; exact hlt), List.getElem?_eq_getElem _⟩
      have hxd : a.getD k 0 = x := by rw [List.getD_eq_getElem?_getD, hx]; rfl
      have hix := HIx.out wr k x hx
      have hx64 := ha.fit x (List.mem_of_getElem? hx)
      have HX := Lib.hid (And.intro hxd hx64)
      clear hx hxd hx64
      go_wp2
      clear hix
      go_loopw [7] (fun t wr => ∃ y v : Nat, t = .int .u64 (y : Int) ∧ Hid (y < 18446744073709551616 ∧ v < 18446744073709551616 ∧ orL b (bitsL 64 0 y) v = orL b (bitsL 64 0 x) 0 ∧ Upd (fun q => q = w.heap.size + 1 + 1 + 1) W0 wr ∧ Blk wr (w.heap.size + 1 + 1 + 1) 168 (wdC (wf (fun i => if i < k then orL b (bitsL 64 0 (a.getD i 0)) 0 else if i = k then v else 0))).toArray)) (fun t _ => (intOf t).toNat)
      case atStart => exact ⟨x, 0, rfl, Lib.hid ⟨HX.out.2, by decide, rfl, hI.out.1, by rw [← wf_in]; exact hI.out.2⟩⟩
      case round =>
        obtain ⟨y, v, rfl, hJ⟩ := hrel
        by_cases h0 : y = 0
        · subst h0
          have HE := Lib.hid (show Upd (fun q => q = w.heap.size + 1 + 1 + 1) W0 wr ∧ Blk wr (w.heap.size + 1 + 1 + 1) 168 (wdC (wf (fun i => if i < k + 1 then orL b (bitsL 64 0 (a.getD i 0)) 0 else 0))).toArray from by
            obtain ⟨-, -, h3, h4, h5⟩ := hJ.out
            rw [bitsL_zero, orL] at h3
            refine ⟨h4, ?_⟩
            rw [← wf_out (f := fun i => orL b (bitsL 64 0 (a.getD i 0)) 0), HX.out.1, ← h3]
            exact h5)
          go_wp2
          go_roundw
          case rel => exact ⟨k + 1, by omega, by go_num, HE⟩
          case measure => simp [intOf]; omega
        · have e1 : ((y : Int) == 0) = false := by simp; omega
          obtain ⟨hy, hv, hor, hu, kp⟩ := hJ.out
          obtain ⟨c, hc⟩ : ∃ c, Lib.ctz 64 y = c := ⟨_, rfl⟩
          have hc64 : c < 64 := by rw [← hc]; exact (Lib.lowest_bit 64 y h0 hy).2
          have hT2 := H.out.2.2.2.2.2.2.2.1.upd hu (by have := H.out.2.2.2.2.1.size; have := H.out.2.2.2.2.2.2.2.2; omega) (by have := H.out.2.2.2.2.2.2.2.2; omega)
          have hcon := tz_any y hy h0 wr.drew hT2
          rw [hc] at hcon
          have kb := H.out.2.1.upd hu (by omega)
          obtain ⟨z, hz⟩ : ∃ z, b.getD c 0 = z := ⟨_, rfl⟩
          have hz64 : z < 18446744073709551616 := by rw [← hz]; exact getD_fit hb c
          have cb : wr.drew.cell? ⟨w.heap.size + 1, c, none⟩ = some (.int .u64 (z : Int)) := (kb.drew.cell c).trans (by
            have hbl : c < b.length := by rw [hb.len]; exact hc64
            have := wdC_at (r := b) (k := c) (x := z) (by rw [← hz, List.getD_eq_getElem?_getD, List.getElem?_eq_getElem hbl]; rfl)
            simpa using this)
          have cp : wr.drew.cell? ⟨w.heap.size + 1 + 1 + 1, k, none⟩ = some (.int .u64 (v : Int)) := (kp.drew.cell k).trans (by
            have := wdC_at (wf_at (fun i => if i < k then orL b (bitsL 64 0 (a.getD i 0)) 0 else if i = k then v else 0) hlt)
            rw [if_neg (Nat.lt_irrefl k), if_pos rfl] at this
            simpa using this)
          have fp := kp.drew.frozen k
          have hbo := bits_or_u64_nat v z hv hz64
          have hb1 : IntKind.u64.wrap ((y : Int) - 1) = ((y - 1 : Nat) : Int) := by rw [IntKind.wrap_u64]; omega
          have hb2 : bits .and .u64 (y : Int) ((y - 1 : Nat) : Int) = ((y &&& (y - 1) : Nat) : Int) := bits_and_u64_nat y (y - 1) hy (by omega)
          obtain ⟨u, hu2⟩ : ∃ u, v ||| z = u := ⟨_, rfl⟩
          rw [hu2] at hbo
          have HN := Lib.hid (show y &&& (y - 1) < 18446744073709551616 ∧ u < 18446744073709551616 ∧ orL b (bitsL 64 0 (y &&& (y - 1))) u = orL b (bitsL 64 0 x) 0 ∧ Upd (fun q => q = w.heap.size + 1 + 1 + 1) W0 (wr.drew.setCell ⟨w.heap.size + 1 + 1 + 1, k, none⟩ (.int .u64 (u : Int))) ∧ Blk (wr.drew.setCell ⟨w.heap.size + 1 + 1 + 1, k, none⟩ (.int .u64 (u : Int))) (w.heap.size + 1 + 1 + 1) 168 (wdC (wf (fun i => if i < k then orL b (bitsL 64 0 (a.getD i 0)) 0 else if i = k then u else 0))).toArray from by
            refine ⟨Nat.lt_of_lt_of_le (and_pred_le h0) (Nat.le_of_lt hy), by rw [← hu2]; exact Nat.or_lt_two_pow (n := 64) hv hz64, ?_, hu.drew.setCell (p := ⟨w.heap.size + 1 + 1 + 1, k, none⟩) (.inl rfl) _, ?_⟩
            · rw [← hor, bitsL_step 64 0 y h0 (by simpa using hy), Nat.zero_add, orL, hc, hz, hu2]
            · have := kp.drew.set k (.int .u64 (u : Int))
              rw [wdC_set, wf_mid hlt v u] at this
              exact this)
          have HM := Lib.hid (and_pred_le h0)
          clear hy hv hor hu kp hc hz hu2 kb hT2 hz64
          go_upto_region 7 with (fail)
          have hcI : (c : Int) < (64 : Int) := by omega
          have hS : wr.drew.cell? ⟨w.heap.size + 1 + 1 + 1, k, none⟩ = some (.int .u64 (v : Int)) ∧ wr.drew.cell? ⟨w.heap.size + 1, c, none⟩ = some (.int .u64 (z : Int)) := ⟨cp, cb⟩
          refine wp_region_ord (fun W => W.cell? ⟨w.heap.size + 1 + 1 + 1, k, none⟩ = some (.int .u64 (v : Int)) ∧ W.cell? ⟨w.heap.size + 1, c, none⟩ = some (.int .u64 (z : Int))) 9 [(0, true), (1, true), (2, true), (3, true), (4, false), (5, true), (6, true), (7, true), (8, true), (9, false)] (by kernel_rfl) (by kernel_rfl) (fun _ _ d _ _ h => by cases d <;> exact h) hS ?_
          generalize wr.drew = V0 at hS fp HN hcon ⊢
          clear cp cb
          iterate 4 (refine ord_takeA rfl ?_; (try simp only [Act.put, List.getElem_toArray, List.getElem_cons_succ, List.getElem_cons_zero, List.setIfInBounds_toArray, List.set_cons_zero, List.set_cons_succ]))
          refine ord_do rfl rfl (fun K hK => ?_)
          go_simp
          refine hcon.mono ?_
          clear hcon
          rintro e V1 ⟨rfl, hw1⟩
          subst V1
          refine hK _ _ (fun _ => hS) ?_
          clear hK K
          (try simp only [Act.put, List.getElem_toArray, List.getElem_cons_succ, List.getElem_cons_zero, List.setIfInBounds_toArray, List.set_cons_zero, List.set_cons_succ])
          iterate 4 (refine ord_takeA rfl ?_; (try simp only [Act.put, List.getElem_toArray, List.getElem_cons_succ, List.getElem_cons_zero, List.setIfInBounds_toArray, List.set_cons_zero, List.set_cons_succ]))
          refine ord_do rfl rfl (fun K hK => ?_)
          go_simp
          refine hK _ _ (fun h => absurd rfl h) ?_
          clear hK K hS fp hbo
          (try simp only [Act.put, List.getElem_toArray, List.getElem_cons_succ, List.getElem_cons_zero, List.setIfInBounds_toArray, List.set_cons_zero, List.set_cons_succ])
          refine ord_done ?_
          generalize V0.setCell ⟨w.heap.size + 1 + 1 + 1, k, none⟩ (.int .u64 (u : Int)) = V1 at HN ⊢
          go_wp2
          go_roundw
          case rel => exact ⟨y &&& (y - 1), u, rfl, HN⟩
          case measure => have := HM.out; simp only [intOf]; omega
    · obtain rfl : k = 64 := by omega
      have kP := hI.out.2
      rw [wf_done (fun i => orL b (bitsL 64 0 (a.getD i 0)) 0) (fun _ => 0)] at kP
      have hwd := mulW_wd a hb
      have hrg := range_blk kP
      have hsz := info_wd hwd
      have hth : wr.there (w.heap.size + 1 + 1) 0 (wdC (mulW a b)).toArray.size := by have := there_blk2 (H.out.2.2.1.upd hI.out.1 (by omega)); simpa [wdC_len, zero64_len, hwd.len] using this
      have hsz2 : (Tryz.prog.info? 168).map (·.size) = some (wdC (mulW a b)).toArray.size := by simpa using hsz
      have h1c : (wdC (mulW a b)).toArray.all (·.oneCell') = true := all_oneCell_toArray (one_wd _)
      have bw := H.out.2.2.2.2.1.trans (hI.out.1.below (fun q _ e => by omega) H.out.2.2.2.2.1.size)
      have FIN := Lib.hid (show Below w.heap.size w (wr.setCells (w.heap.size + 1 + 1) 0 (wdC (mulW a b))) ∧ (wr.setCells (w.heap.size + 1 + 1) 0 (wdC (mulW a b))).rangeAt (w.heap.size + 1 + 1) 0 (wdC (mulW a b)) from
        ⟨bw.trans ((Upd.setCells (F := fun q => q = w.heap.size + 1 + 1) (.inl rfl) (wdC (mulW a b)) 0 (Upd.refl _ wr)).below (fun q _ e => by omega) bw.size), World.rangeAt_setCells_same _ _ _ _ (by simpa using hth)⟩)
      change wr.rangeAt (w.heap.size + 1 + 1 + 1) 0 (wdC (mulW a b)) at hrg
      clear kP hI bw
      go_upto_region 9 with (fail)
      go_wp2_with (first | (refine wpList_load_mid rfl 168 _ rfl (w.heap.size + 1 + 1 + 1) 0 rfl (wdC (mulW a b)) (.array 64 166) hrg Tryz.underlying168 rfl hsz ?_) | (refine wpList_store_mid rfl 168 _ _ rfl (w.heap.size + 1 + 1) 0 (wdC (mulW a b)).toArray rfl rfl hth hsz2 h1c ?_) | fail)
      have hlv := run_loadVar_mid (P := Tryz.prog) _ (w.heap.size + 1 + 1) 0 168 (wdC (mulW a b)) (.array 64 166) FIN.out.2 Tryz.underlying168 rfl hsz
      refine bodyPost_ret (v := .agg (wdC (mulW a b)).toArray) (by simp [results, Tryz.f200, Act.put, asAddr, hlv, Result.andThen, Sem.run_bind]) rfl ⟨rfl, FIN.out.1⟩
end Go.Proofs.YtddffnonlmfhdaaGreatDoor
namespace Go.Proofs.YtddffnonlmfhdaaGreatDoor
open Go.RowKit
section
variable {P : Program} {ops : Array Oper} {Q : Exit → Act → World → Prop} {md : Region.Mode} {S : World → Prop} {n : Nat}
/-- A whole array that is read is taken as it comes up. -/
theorem any_load {i f : Nat} {listed : Array Bool} {a : Act} {w : World} {oi : Oper} (hi : ops[i]? = some oi) (hB : (Region.noSelect ops && Region.free md ops listed i && (Region.ready md ops listed).contains i) = true)
    (hd : Down md ops listed) (hn : ops.size ≤ n) (hQ : ∀ c a d v w, Q (.panic c) (Act.put a d v) w → Q (.panic c) a w) (hS : S w)
    (hw : Region.wanted oi (yielded ops a.tmps) = true) (ty : TypeId) (x : Operand) (ho : oi.op = .load ty x) (b o : Nat) (hx : a.eval x = .pointer (some ⟨b, o, none⟩)) (cs : List Value) (d : TypeDesc) (hc : ∀ w, S w → w.rangeAt b o cs)
    (hu : P.underlying ty = some d) (hdr : d.isRow = true) (hinf : (P.info? ty).map (·.size) = some cs.length)
    (h : Down md ops (listed.setIfInBounds i true) → wpAnyC P md ops Q S n f (listed.setIfInBounds i true) (a.put oi.dst (.agg cs.toArray)) w) : wpAnyC P md ops Q S n (f + 1) listed a w :=
  any_take hi hB hd hn hQ hS hw (fun w hw => by
    unfold execOp
    simp only [ho, hx, run_loadAt_mid w b o ty cs d (hc w hw) hu hdr hinf, Sem.run_bind, Result.andThen_ok]
    rfl) h
end
/-- A block's cells more. -/
def joinO (b : Option (List Nat)) (x : List Nat) : Option (List Nat) := if x = zero64 then b else some (List.zipWith orN (oldW b) x)
theorem less_zero {o : List Nat} : lenB (List.zipWith lessN zero64 o) = 0 := by
  have h : ∀ (n : Nat) (o : List Nat), lenB (List.zipWith lessN (List.replicate n 0) o) = 0 := fun n => by
    induction n with
    | zero => intro o; rfl
    | succ n ih =>
      intro o
      cases o with
      | nil => rfl
      | cons y o =>
        rw [List.replicate_succ, List.zipWith_cons_cons]
        have e : lessN 0 y = 0 := by simp [lessN]
        have := ih o
        unfold lenB at this ⊢
        rw [List.map_cons, List.sum_cons, this, e]
        decide
  exact h 64 o
set_option maxHeartbeats 2000000 in
set_option maxRecDepth 20000 in
theorem qor_zero (w : World) (p : Nat) : Calls Tryz.prog 106 #[.pointer (some ⟨p, 0, none⟩), .int .i64 0, .int .i64 0, wdV zero64] w (Sam w (.bool false)) := by
  have k0 := Blk.new w 168 (wdC zero64).toArray
  have u0 : Below w.heap.size w (w.alloc (.cells (wdC zero64).toArray 168)) := (Below.refl _ _).alloc (Nat.le_refl _) _
  have hrg := range_blk k0
  have hsz := info_wd zero64_wd
  have heq : ∀ W, (binOp .eql 168 (.agg (wdC zero64).toArray) (.agg #[Value.int .u64 0, .int .u64 0, .int .u64 0, .int .u64 0, .int .u64 0, .int .u64 0, .int .u64 0, .int .u64 0, .int .u64 0, .int .u64 0, .int .u64 0, .int .u64 0, .int .u64 0, .int .u64 0, .int .u64 0, .int .u64 0, .int .u64 0, .int .u64 0, .int .u64 0, .int .u64 0, .int .u64 0, .int .u64 0, .int .u64 0, .int .u64 0, .int .u64 0, .int .u64 0, .int .u64 0, .int .u64 0, .int .u64 0, .int .u64 0, .int .u64 0, .int .u64 0, .int .u64 0, .int .u64 0, .int .u64 0, .int .u64 0, .int .u64 0, .int .u64 0, .int .u64 0, .int .u64 0, .int .u64 0, .int .u64 0, .int .u64 0, .int .u64 0, .int .u64 0, .int .u64 0, .int .u64 0, .int .u64 0, .int .u64 0, .int .u64 0, .int .u64 0, .int .u64 0, .int .u64 0, .int .u64 0, .int .u64 0, .int .u64 0, .int .u64 0, .int .u64 0, .int .u64 0, .int .u64 0, .int .u64 0, .int .u64 0, .int .u64 0, .int .u64 0])).run Tryz.prog W = .ok (.bool true) W := fun W => by
    have h2 := eql_blk W zero64_wd zero64_wd
    rw [decide_eq_true rfl] at h2
    rw [zl_eq]
    exact h2
  have H := Lib.hid u0
  clear k0 u0
  unfold wdV
  go_enter Tryz.func106, Tryz.ntmps106
  go_upto_region 1 with (fail)
  generalize w.alloc (.cells (wdC zero64).toArray 168) = W0 at H hrg ⊢
  go_wp2_with (first | (refine wpList_load_mid rfl 168 _ rfl w.heap.size 0 rfl (wdC zero64) (.array 64 166) hrg Tryz.underlying168 rfl hsz ?_) | fail)
  go_ret
  exact ⟨rfl, H.out⟩
theorem qor_all (w : World) (F : Nat → Prop) (p side : Nat) (b : Option (List Nat)) (h : QuS w F p side b) (x : List Nat) (hx : Wd x) :
    Calls Tryz.prog 106 #[.pointer (some ⟨p, 0, none⟩), .int .i64 0, .int .i64 0, wdV x] w (fun e w' => e = .returned (.bool (decide (0 < lenB (List.zipWith lessN x (oldW b))))) ∧ QTo w F p side (joinO b x) w') := by
  by_cases hz : x = zero64
  · subst hz
    refine (qor_zero w p).mono ?_
    rintro e w' ⟨rfl, hb⟩
    refine ⟨by rw [less_zero]; rfl, ?_⟩
    unfold joinO
    rw [if_pos rfl]
    exact ⟨F, h.below hb, Upd.of_below hb F, fun k hk => .inl hk⟩
  · unfold joinO
    rw [if_neg hz]
    exact qor_any w F p side b h x hx hz
set_option maxHeartbeats 1000000 in
set_option maxRecDepth 20000 in
theorem qhas_any (w : World) (p side : Nat) (hs : 1 ≤ side) (hs2 : side ≤ 1024) (q0 : w.cell? ⟨p, 0, none⟩ = some (.int .i64 (side : Int))) : Calls Tryz.prog 197 #[.pointer (some ⟨p, 0, none⟩), .int .i64 0, .int .i64 0] w (Only w (.bool true)) := by
  have hw : IntKind.i64.wrap ((side : Int) - 1) = ((side - 1 : Nat) : Int) := by rw [IntKind.wrap_i64]; omega
  have hd : (((side - 1 : Nat) : Int)).tdiv 64 = (((side - 1) / 64 : Nat) : Int) := by rw [Int.tdiv_eq_ediv_of_nonneg (by omega)]; omega
  have hw2 : IntKind.i64.wrap ((((side - 1) / 64 : Nat) : Int)) = (((side - 1) / 64 : Nat) : Int) := IntWalk.i64_in _ (by omega)
  have h0 : (0 : Int) ≤ (((side - 1) / 64 : Nat) : Int) := by omega
  generalize (((side - 1) / 64 : Nat) : Int) = q at hd hw2 h0
  generalize (((side - 1 : Nat) : Int)) = s1 at hw hd
  go_enter Tryz.func197, Tryz.ntmps197
  go_wp2
  go_ret
  exact ⟨rfl, rfl⟩
end Go.Proofs.YtddffnonlmfhdaaGreatDoor
