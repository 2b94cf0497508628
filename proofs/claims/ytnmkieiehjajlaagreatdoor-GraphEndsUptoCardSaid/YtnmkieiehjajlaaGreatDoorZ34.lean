/- Blocks of bits: two blocks, word by word; Blocks of bits: Get; quad: the ways of a corner; Matrices of bits in memory, whose cells lie in the first block; New; Matrices of bits: is, in, Side, Len, leaf, Get. -/
import Derived.Test.YtnmkieiehjajlaaGreatDoorZ26
import Derived.Test.YtnmkieiehjajlaaGreatDoorZ28
import Derived.Laws.BitsAllLaws
set_option linter.unusedVariables false
set_option linter.unusedSimpArgs false
namespace Go.Proofs.YtnmkieiehjajlaaGreatDoor
open Go.RowKit

def zero64 : List Nat := List.replicate 64 0
def lessN (x y : Nat) : Nat := x &&& (18446744073709551615 - y)
def orN (x y : Nat) : Nat := x ||| y
/-- The first k words are told. -/
def mixW (f : Nat → Nat → Nat) (a b : List Nat) (k : Nat) : List Nat := (List.zipWith f a b).take k ++ a.drop k
theorem mixW_zero (f : Nat → Nat → Nat) (a b : List Nat) : mixW f a b 0 = a := by simp [mixW]
theorem mixW_all {f : Nat → Nat → Nat} {a b : List Nat} (ha : a.length = 64) (hb : b.length = 64) : mixW f a b 64 = List.zipWith f a b := by
  unfold mixW
  rw [List.take_of_length_le (by rw [List.length_zipWith, ha, hb]; decide), List.drop_of_length_le (by omega), List.append_nil]
theorem mixW_at {f : Nat → Nat → Nat} {a b : List Nat} {k x : Nat} (hab : a.length = b.length) (h : a[k]? = some x) : (mixW f a b k)[k]? = some x := by
  have hk := (List.getElem?_eq_some_iff.1 h).1
  unfold mixW
  have hl : ((List.zipWith f a b).take k).length = k := by rw [List.length_take, List.length_zipWith]; omega
  rw [List.getElem?_append_right (by omega), hl, Nat.sub_self, List.getElem?_drop, Nat.add_zero, h]
theorem mixW_set {f : Nat → Nat → Nat} {a b : List Nat} {k x y : Nat} (hab : a.length = b.length) (hx : a[k]? = some x) (hy : b[k]? = some y) : (mixW f a b k).set k (f x y) = mixW f a b (k + 1) := by
  obtain ⟨hk, hxe⟩ := List.getElem?_eq_some_iff.1 hx
  have hz : (List.zipWith f a b)[k]? = some (f x y) := by rw [List.getElem?_zipWith, hx, hy]
  have hl : ((List.zipWith f a b).take k).length = k := by rw [List.length_take, List.length_zipWith]; omega
  unfold mixW
  rw [List.set_append_right _ _ (by omega), hl, Nat.sub_self, List.drop_eq_getElem_cons hk, List.set_cons_zero, List.take_add_one, hz, Option.toList_some, List.append_assoc, List.singleton_append]
theorem zero64_blk {W : World} {g : Nat} {t : TypeId} : Blk W g t #[Value.int .u64 0, Value.int .u64 0, Value.int .u64 0, Value.int .u64 0, Value.int .u64 0, Value.int .u64 0, Value.int .u64 0, Value.int .u64 0, Value.int .u64 0, Value.int .u64 0, Value.int .u64 0, Value.int .u64 0, Value.int .u64 0, Value.int .u64 0, Value.int .u64 0, Value.int .u64 0, Value.int .u64 0, Value.int .u64 0, Value.int .u64 0, Value.int .u64 0, Value.int .u64 0, Value.int .u64 0, Value.int .u64 0, Value.int .u64 0, Value.int .u64 0, Value.int .u64 0, Value.int .u64 0, Value.int .u64 0, Value.int .u64 0, Value.int .u64 0, Value.int .u64 0, Value.int .u64 0, Value.int .u64 0, Value.int .u64 0, Value.int .u64 0, Value.int .u64 0, Value.int .u64 0, Value.int .u64 0, Value.int .u64 0, Value.int .u64 0, Value.int .u64 0, Value.int .u64 0, Value.int .u64 0, Value.int .u64 0, Value.int .u64 0, Value.int .u64 0, Value.int .u64 0, Value.int .u64 0, Value.int .u64 0, Value.int .u64 0, Value.int .u64 0, Value.int .u64 0, Value.int .u64 0, Value.int .u64 0, Value.int .u64 0, Value.int .u64 0, Value.int .u64 0, Value.int .u64 0, Value.int .u64 0, Value.int .u64 0, Value.int .u64 0, Value.int .u64 0, Value.int .u64 0, Value.int .u64 0] ↔ Blk W g t (wdC zero64).toArray := by
  have e : #[Value.int .u64 0, Value.int .u64 0, Value.int .u64 0, Value.int .u64 0, Value.int .u64 0, Value.int .u64 0, Value.int .u64 0, Value.int .u64 0, Value.int .u64 0, Value.int .u64 0, Value.int .u64 0, Value.int .u64 0, Value.int .u64 0, Value.int .u64 0, Value.int .u64 0, Value.int .u64 0, Value.int .u64 0, Value.int .u64 0, Value.int .u64 0, Value.int .u64 0, Value.int .u64 0, Value.int .u64 0, Value.int .u64 0, Value.int .u64 0, Value.int .u64 0, Value.int .u64 0, Value.int .u64 0, Value.int .u64 0, Value.int .u64 0, Value.int .u64 0, Value.int .u64 0, Value.int .u64 0, Value.int .u64 0, Value.int .u64 0, Value.int .u64 0, Value.int .u64 0, Value.int .u64 0, Value.int .u64 0, Value.int .u64 0, Value.int .u64 0, Value.int .u64 0, Value.int .u64 0, Value.int .u64 0, Value.int .u64 0, Value.int .u64 0, Value.int .u64 0, Value.int .u64 0, Value.int .u64 0, Value.int .u64 0, Value.int .u64 0, Value.int .u64 0, Value.int .u64 0, Value.int .u64 0, Value.int .u64 0, Value.int .u64 0, Value.int .u64 0, Value.int .u64 0, Value.int .u64 0, Value.int .u64 0, Value.int .u64 0, Value.int .u64 0, Value.int .u64 0, Value.int .u64 0, Value.int .u64 0] = (wdC zero64).toArray := by kernel_rfl
  rw [e]
theorem there_blk {W : World} {g n : Nat} {t : TypeId} {cs : Array Value} (h : Blk W g t cs) (hn : n ≤ cs.size) : W.there g 0 n := fun i hi => by
  have hlt : i < cs.size := by omega
  rw [Nat.zero_add]
  exact ⟨by rw [h.cell i, Array.getElem?_eq_getElem hlt]; rfl, h.frozen i⟩
theorem one_wd (r : List Nat) : ∀ v ∈ wdC r, v.oneCell' = true := fun v hv => by
  obtain ⟨x, _, rfl⟩ := List.mem_map.1 hv
  rfl
theorem u64_lessN (x y : Nat) (hx : x < 18446744073709551616) (hy : y < 18446744073709551616) : bits .andNot .u64 (x : Int) (y : Int) = ((lessN x y : Nat) : Int) := u64_andNot_nat x y hx hy
theorem mem_zip {f : Nat → Nat → Nat} : ∀ {a b : List Nat} {z : Nat}, z ∈ List.zipWith f a b → ∃ x ∈ a, ∃ y ∈ b, z = f x y
  | [], _, _, h => by simp at h
  | _ :: _, [], _, h => by simp at h
  | x :: a, y :: b, z, h => by
    rw [List.zipWith_cons_cons, List.mem_cons] at h
    rcases h with rfl | h
    · exact ⟨x, by simp, y, by simp, rfl⟩
    · obtain ⟨x', hx, y', hy, e⟩ := mem_zip h
      exact ⟨x', by simp [hx], y', by simp [hy], e⟩
theorem less_wd {a b : List Nat} (ha : Wd a) (hb : Wd b) : Wd (List.zipWith lessN a b) := ⟨by rw [List.length_zipWith, ha.len, hb.len]; decide, fun z hz => by
  obtain ⟨x, hx, y, _, rfl⟩ := mem_zip hz
  exact Nat.lt_of_le_of_lt Nat.and_le_left (ha.fit x hx)⟩
theorem u64_orN (x y : Nat) (hx : x < 18446744073709551616) (hy : y < 18446744073709551616) : bits .or .u64 (x : Int) (y : Int) = ((orN x y : Nat) : Int) := bits_or_u64_nat x y hx hy
theorem or_wd {a b : List Nat} (ha : Wd a) (hb : Wd b) : Wd (List.zipWith orN a b) := ⟨by rw [List.length_zipWith, ha.len, hb.len]; decide, fun z hz => by
  obtain ⟨x, hx, y, hy, rfl⟩ := mem_zip hz
  exact Nat.or_lt_two_pow (n := 64) (ha.fit x hx) (hb.fit y hy)⟩
theorem wdC_set (r : List Nat) (k x : Nat) : (wdC r).toArray.setIfInBounds k (.int .u64 (x : Int)) = (wdC (r.set k x)).toArray := by
  simp [wdC, List.map_set]
set_option maxHeartbeats 4000000 in
set_option maxRecDepth 20000 in
theorem bless_any (w : World) (a b : List Nat) (ha : Wd a) (hb : Wd b) : Calls Tryz.prog 126 #[wdV a, wdV b] w (Sam w (wdV (List.zipWith lessN a b))) := by
  have k0 := ((Blk.new w 124 (wdC a).toArray).alloc (.cells (wdC b).toArray 124)).alloc (.cells #[Value.int .u64 0, Value.int .u64 0, Value.int .u64 0, Value.int .u64 0, Value.int .u64 0, Value.int .u64 0, Value.int .u64 0, Value.int .u64 0, Value.int .u64 0, Value.int .u64 0, Value.int .u64 0, Value.int .u64 0, Value.int .u64 0, Value.int .u64 0, Value.int .u64 0, Value.int .u64 0, Value.int .u64 0, Value.int .u64 0, Value.int .u64 0, Value.int .u64 0, Value.int .u64 0, Value.int .u64 0, Value.int .u64 0, Value.int .u64 0, Value.int .u64 0, Value.int .u64 0, Value.int .u64 0, Value.int .u64 0, Value.int .u64 0, Value.int .u64 0, Value.int .u64 0, Value.int .u64 0, Value.int .u64 0, Value.int .u64 0, Value.int .u64 0, Value.int .u64 0, Value.int .u64 0, Value.int .u64 0, Value.int .u64 0, Value.int .u64 0, Value.int .u64 0, Value.int .u64 0, Value.int .u64 0, Value.int .u64 0, Value.int .u64 0, Value.int .u64 0, Value.int .u64 0, Value.int .u64 0, Value.int .u64 0, Value.int .u64 0, Value.int .u64 0, Value.int .u64 0, Value.int .u64 0, Value.int .u64 0, Value.int .u64 0, Value.int .u64 0, Value.int .u64 0, Value.int .u64 0, Value.int .u64 0, Value.int .u64 0, Value.int .u64 0, Value.int .u64 0, Value.int .u64 0, Value.int .u64 0] 124)
  have k1 := (Blk.new (w.alloc (.cells (wdC a).toArray 124)) 124 (wdC b).toArray).alloc (.cells #[Value.int .u64 0, Value.int .u64 0, Value.int .u64 0, Value.int .u64 0, Value.int .u64 0, Value.int .u64 0, Value.int .u64 0, Value.int .u64 0, Value.int .u64 0, Value.int .u64 0, Value.int .u64 0, Value.int .u64 0, Value.int .u64 0, Value.int .u64 0, Value.int .u64 0, Value.int .u64 0, Value.int .u64 0, Value.int .u64 0, Value.int .u64 0, Value.int .u64 0, Value.int .u64 0, Value.int .u64 0, Value.int .u64 0, Value.int .u64 0, Value.int .u64 0, Value.int .u64 0, Value.int .u64 0, Value.int .u64 0, Value.int .u64 0, Value.int .u64 0, Value.int .u64 0, Value.int .u64 0, Value.int .u64 0, Value.int .u64 0, Value.int .u64 0, Value.int .u64 0, Value.int .u64 0, Value.int .u64 0, Value.int .u64 0, Value.int .u64 0, Value.int .u64 0, Value.int .u64 0, Value.int .u64 0, Value.int .u64 0, Value.int .u64 0, Value.int .u64 0, Value.int .u64 0, Value.int .u64 0, Value.int .u64 0, Value.int .u64 0, Value.int .u64 0, Value.int .u64 0, Value.int .u64 0, Value.int .u64 0, Value.int .u64 0, Value.int .u64 0, Value.int .u64 0, Value.int .u64 0, Value.int .u64 0, Value.int .u64 0, Value.int .u64 0, Value.int .u64 0, Value.int .u64 0, Value.int .u64 0] 124)
  have k2 := Blk.new ((w.alloc (.cells (wdC a).toArray 124)).alloc (.cells (wdC b).toArray 124)) 124 #[Value.int .u64 0, Value.int .u64 0, Value.int .u64 0, Value.int .u64 0, Value.int .u64 0, Value.int .u64 0, Value.int .u64 0, Value.int .u64 0, Value.int .u64 0, Value.int .u64 0, Value.int .u64 0, Value.int .u64 0, Value.int .u64 0, Value.int .u64 0, Value.int .u64 0, Value.int .u64 0, Value.int .u64 0, Value.int .u64 0, Value.int .u64 0, Value.int .u64 0, Value.int .u64 0, Value.int .u64 0, Value.int .u64 0, Value.int .u64 0, Value.int .u64 0, Value.int .u64 0, Value.int .u64 0, Value.int .u64 0, Value.int .u64 0, Value.int .u64 0, Value.int .u64 0, Value.int .u64 0, Value.int .u64 0, Value.int .u64 0, Value.int .u64 0, Value.int .u64 0, Value.int .u64 0, Value.int .u64 0, Value.int .u64 0, Value.int .u64 0, Value.int .u64 0, Value.int .u64 0, Value.int .u64 0, Value.int .u64 0, Value.int .u64 0, Value.int .u64 0, Value.int .u64 0, Value.int .u64 0, Value.int .u64 0, Value.int .u64 0, Value.int .u64 0, Value.int .u64 0, Value.int .u64 0, Value.int .u64 0, Value.int .u64 0, Value.int .u64 0, Value.int .u64 0, Value.int .u64 0, Value.int .u64 0, Value.int .u64 0, Value.int .u64 0, Value.int .u64 0, Value.int .u64 0, Value.int .u64 0]
  simp only [World.size_alloc] at k1 k2
  have u0 : Below w.heap.size w (((w.alloc (.cells (wdC a).toArray 124)).alloc (.cells (wdC b).toArray 124)).alloc (.cells #[Value.int .u64 0, Value.int .u64 0, Value.int .u64 0, Value.int .u64 0, Value.int .u64 0, Value.int .u64 0, Value.int .u64 0, Value.int .u64 0, Value.int .u64 0, Value.int .u64 0, Value.int .u64 0, Value.int .u64 0, Value.int .u64 0, Value.int .u64 0, Value.int .u64 0, Value.int .u64 0, Value.int .u64 0, Value.int .u64 0, Value.int .u64 0, Value.int .u64 0, Value.int .u64 0, Value.int .u64 0, Value.int .u64 0, Value.int .u64 0, Value.int .u64 0, Value.int .u64 0, Value.int .u64 0, Value.int .u64 0, Value.int .u64 0, Value.int .u64 0, Value.int .u64 0, Value.int .u64 0, Value.int .u64 0, Value.int .u64 0, Value.int .u64 0, Value.int .u64 0, Value.int .u64 0, Value.int .u64 0, Value.int .u64 0, Value.int .u64 0, Value.int .u64 0, Value.int .u64 0, Value.int .u64 0, Value.int .u64 0, Value.int .u64 0, Value.int .u64 0, Value.int .u64 0, Value.int .u64 0, Value.int .u64 0, Value.int .u64 0, Value.int .u64 0, Value.int .u64 0, Value.int .u64 0, Value.int .u64 0, Value.int .u64 0, Value.int .u64 0, Value.int .u64 0, Value.int .u64 0, Value.int .u64 0, Value.int .u64 0, Value.int .u64 0, Value.int .u64 0, Value.int .u64 0, Value.int .u64 0] 124)) := by (repeat (first | exact Below.refl _ _ | apply Below.drew | refine Below.alloc ?_ (by first | exact Nat.le_refl _ | (simp; done) | (simp; omega)) _ | refine Below.setCell ?_ (by first | exact Nat.le_refl _ | (simp; done) | (simp; omega)) _))
  have H := Lib.hid (And.intro ha (And.intro hb (And.intro k0 (And.intro k1 (And.intro (zero64_blk.mp k2) u0)))))
  clear k0 k1 k2 u0 ha hb
  unfold wdV
  go_enter Tryz.func126, Tryz.ntmps126
  go_upto_region 1 with (fail)
  generalize ((w.alloc (.cells (wdC a).toArray 124)).alloc (.cells (wdC b).toArray 124)).alloc (.cells #[Value.int .u64 0, Value.int .u64 0, Value.int .u64 0, Value.int .u64 0, Value.int .u64 0, Value.int .u64 0, Value.int .u64 0, Value.int .u64 0, Value.int .u64 0, Value.int .u64 0, Value.int .u64 0, Value.int .u64 0, Value.int .u64 0, Value.int .u64 0, Value.int .u64 0, Value.int .u64 0, Value.int .u64 0, Value.int .u64 0, Value.int .u64 0, Value.int .u64 0, Value.int .u64 0, Value.int .u64 0, Value.int .u64 0, Value.int .u64 0, Value.int .u64 0, Value.int .u64 0, Value.int .u64 0, Value.int .u64 0, Value.int .u64 0, Value.int .u64 0, Value.int .u64 0, Value.int .u64 0, Value.int .u64 0, Value.int .u64 0, Value.int .u64 0, Value.int .u64 0, Value.int .u64 0, Value.int .u64 0, Value.int .u64 0, Value.int .u64 0, Value.int .u64 0, Value.int .u64 0, Value.int .u64 0, Value.int .u64 0, Value.int .u64 0, Value.int .u64 0, Value.int .u64 0, Value.int .u64 0, Value.int .u64 0, Value.int .u64 0, Value.int .u64 0, Value.int .u64 0, Value.int .u64 0, Value.int .u64 0, Value.int .u64 0, Value.int .u64 0, Value.int .u64 0, Value.int .u64 0, Value.int .u64 0, Value.int .u64 0, Value.int .u64 0, Value.int .u64 0, Value.int .u64 0, Value.int .u64 0] 124) = W0 at H ⊢
  go_wp2_with fail
  go_loopw [6] (fun i wr => ∃ k : Nat, k ≤ 64 ∧ i = .int .i64 k ∧ Hid (Blk wr w.heap.size 124 (wdC (mixW lessN a b k)).toArray) ∧ Hid (Blk wr (w.heap.size + 1) 124 (wdC b).toArray) ∧ Hid (Blk wr (w.heap.size + 1 + 1) 124 (wdC zero64).toArray) ∧ Hid (Below w.heap.size w wr)) (fun i _ => 64 - (intOf i).toNat)
  case atStart => exact ⟨0, Nat.zero_le _, rfl, Lib.hid (by rw [mixW_zero]; exact H.out.2.2.1), Lib.hid H.out.2.2.2.1, Lib.hid H.out.2.2.2.2.1, Lib.hid H.out.2.2.2.2.2⟩
  case round =>
    obtain ⟨k, hk, rfl, hA, hB, hC, hbw⟩ := hrel
    have hab : a.length = b.length := by rw [H.out.1.len, H.out.2.1.len]
    by_cases hlt : k < 64
    · have hltI : (k : Int) < (64 : Int) := by omega
      have hkw : IntKind.i64.wrap ((k : Int) + 1) = (k : Int) + 1 := IntWalk.i64_in _ (by omega)
      obtain ⟨x, hx⟩ : ∃ x, a[k]? = some x := ⟨a[k]'(by rw [H.out.1.len]; exact hlt), List.getElem?_eq_getElem _⟩
      obtain ⟨y, hy⟩ : ∃ x, b[k]? = some x := ⟨b[k]'(by rw [H.out.2.1.len]; exact hlt), List.getElem?_eq_getElem _⟩
      have hop := u64_lessN x y (H.out.1.fit x (List.mem_of_getElem? hx)) (H.out.2.1.fit y (List.mem_of_getElem? hy))
      have c0 : wr.drew.cell? ⟨w.heap.size, k, none⟩ = some (.int .u64 (x : Int)) := (hA.out.drew.cell k).trans (by simpa using wdC_at (mixW_at (f := lessN) hab hx))
      have c1 : wr.drew.cell? ⟨w.heap.size + 1, k, none⟩ = some (.int .u64 (y : Int)) := (hB.out.drew.cell k).trans (by simpa using wdC_at hy)
      have f0 : wr.drew.frozen? ⟨w.heap.size, k, none⟩ = false := hA.out.drew.frozen k
      have hS : wr.drew.cell? ⟨w.heap.size, k, none⟩ = some (.int .u64 (x : Int)) ∧ wr.drew.cell? ⟨w.heap.size + 1, k, none⟩ = some (.int .u64 (y : Int)) := ⟨c0, c1⟩
      have hb2 : Upd (fun q => q = w.heap.size) wr.drew (wr.drew.setCell ⟨w.heap.size, k, none⟩ (.int .u64 ((lessN x y : Nat) : Int))) := (Upd.refl (fun q => q = w.heap.size) wr.drew).setCell (p := ⟨w.heap.size, k, none⟩) (.inl rfl) _
      have HN := Lib.hid (show Blk (wr.drew.setCell ⟨w.heap.size, k, none⟩ (.int .u64 ((lessN x y : Nat) : Int))) w.heap.size 124 (wdC (mixW lessN a b (k + 1))).toArray ∧ Blk (wr.drew.setCell ⟨w.heap.size, k, none⟩ (.int .u64 ((lessN x y : Nat) : Int))) (w.heap.size + 1) 124 (wdC b).toArray ∧ Blk (wr.drew.setCell ⟨w.heap.size, k, none⟩ (.int .u64 ((lessN x y : Nat) : Int))) (w.heap.size + 1 + 1) 124 (wdC zero64).toArray ∧ Below w.heap.size w (wr.drew.setCell ⟨w.heap.size, k, none⟩ (.int .u64 ((lessN x y : Nat) : Int))) from by
        refine ⟨?_, hB.out.drew.upd hb2 (by omega), hC.out.drew.upd hb2 (by omega), hbw.out.drew.trans (hb2.below (fun q _ e => Nat.le_of_eq e.symm) hbw.out.size)⟩
        have := hA.out.drew.set k (.int .u64 ((lessN x y : Nat) : Int))
        rw [wdC_set, mixW_set hab hx hy] at this
        exact this)
      clear hA hB hC hbw hb2 hx hy c1
      generalize hq : (lessN x y : Nat) = q at hop HN
      clear hq
      go_upto_region 4 with (fail)
      refine wp_region_ord (fun W => W.cell? ⟨w.heap.size, k, none⟩ = some (.int .u64 (x : Int)) ∧ W.cell? ⟨w.heap.size + 1, k, none⟩ = some (.int .u64 (y : Int))) 8 [(0, true), (1, true), (2, true), (3, true), (4, true), (5, true), (6, true), (7, true), (8, false)] (by kernel_rfl) (by kernel_rfl) (fun _ _ d _ _ h => by cases d <;> exact h) hS ?_
      generalize wr.drew = V0 at hS c0 f0 HN ⊢
      iterate 8 (refine ord_take (v := ?_) rfl (by first | with_reducible rfl | kernel_rfl) ?_ ?_; rotate_left; (focus (intro wS hS; (try dsimp only at hS); go_split_ands; go_simp; (try with_reducible rfl); done)); (try simp only [Act.put, List.getElem_toArray, List.getElem_cons_succ, List.getElem_cons_zero, List.setIfInBounds_toArray, List.set_cons_zero, List.set_cons_succ]))
      refine ord_do rfl rfl (fun K hK => ?_)
      go_simp
      refine hK _ _ (fun h => absurd rfl h) ?_
      clear hK K hS c0 f0 hop
      (try simp only [Act.put, List.getElem_toArray, List.getElem_cons_succ, List.getElem_cons_zero, List.setIfInBounds_toArray, List.set_cons_zero, List.set_cons_succ])
      refine ord_done ?_
      generalize V0.setCell ⟨w.heap.size, k, none⟩ (.int .u64 (q : Int)) = W1 at HN ⊢
      go_wp2
      go_roundw
      case rel => exact ⟨k + 1, by omega, by go_num, Lib.hid HN.out.1, Lib.hid HN.out.2.1, Lib.hid HN.out.2.2.1, Lib.hid HN.out.2.2.2⟩
      case measure => simp [intOf]; omega
    · obtain rfl : k = 64 := by omega
      have hA2 := hA.out
      rw [mixW_all H.out.1.len H.out.2.1.len] at hA2
      have hz : Wd (List.zipWith lessN a b) := less_wd H.out.1 H.out.2.1
      have hrg := range_blk hA2
      have hsz := info_wd hz
      have hth : wr.there (w.heap.size + 1 + 1) 0 (wdC (List.zipWith lessN a b)).toArray.size := there_blk hC.out (by simp [wdC_len, hz.len, zero64])
      have hsz2 : (Tryz.prog.info? 124).map (·.size) = some (wdC (List.zipWith lessN a b)).toArray.size := by simpa using hsz
      have h1c : (wdC (List.zipWith lessN a b)).toArray.all (·.oneCell') = true := all_oneCell_toArray (one_wd _)
      have FIN := Lib.hid (show Below w.heap.size w (wr.setCells (w.heap.size + 1 + 1) 0 (wdC (List.zipWith lessN a b))) ∧ (wr.setCells (w.heap.size + 1 + 1) 0 (wdC (List.zipWith lessN a b))).rangeAt (w.heap.size + 1 + 1) 0 (wdC (List.zipWith lessN a b)) from ⟨hbw.out.trans ((Upd.setCells (F := fun q => q = w.heap.size + 1 + 1) (.inl rfl) _ _ (Upd.refl _ _)).below (fun q _ e => by omega) hbw.out.size), World.rangeAt_setCells_same _ _ _ _ (by simpa using hth)⟩)
      clear hA hB hC hbw hA2
      go_upto_region 6 with (fail)
      go_wp2_with (first | (refine wpList_load_mid rfl 124 _ rfl w.heap.size 0 rfl (wdC (List.zipWith lessN a b)) (.array 64 122) hrg Tryz.underlying124 rfl hsz ?_) | (refine wpList_store_mid rfl 124 _ _ rfl (w.heap.size + 1 + 1) 0 (wdC (List.zipWith lessN a b)).toArray rfl rfl hth hsz2 h1c ?_))
      have hlv := run_loadVar_mid (P := Tryz.prog) _ (w.heap.size + 1 + 1) 0 124 (wdC (List.zipWith lessN a b)) (.array 64 122) FIN.out.2 Tryz.underlying124 rfl hsz
      refine bodyPost_ret (v := .agg (wdC (List.zipWith lessN a b)).toArray) (by simp [results, Tryz.f126, Act.put, asAddr, hlv, Result.andThen, Sem.run_bind]) rfl ⟨rfl, FIN.out.1⟩
set_option maxHeartbeats 4000000 in
set_option maxRecDepth 20000 in
theorem bor_any (w : World) (a b : List Nat) (ha : Wd a) (hb : Wd b) : Calls Tryz.prog 127 #[wdV a, wdV b] w (Sam w (wdV (List.zipWith orN a b))) := by
  have k0 := ((Blk.new w 124 (wdC a).toArray).alloc (.cells (wdC b).toArray 124)).alloc (.cells #[Value.int .u64 0, Value.int .u64 0, Value.int .u64 0, Value.int .u64 0, Value.int .u64 0, Value.int .u64 0, Value.int .u64 0, Value.int .u64 0, Value.int .u64 0, Value.int .u64 0, Value.int .u64 0, Value.int .u64 0, Value.int .u64 0, Value.int .u64 0, Value.int .u64 0, Value.int .u64 0, Value.int .u64 0, Value.int .u64 0, Value.int .u64 0, Value.int .u64 0, Value.int .u64 0, Value.int .u64 0, Value.int .u64 0, Value.int .u64 0, Value.int .u64 0, Value.int .u64 0, Value.int .u64 0, Value.int .u64 0, Value.int .u64 0, Value.int .u64 0, Value.int .u64 0, Value.int .u64 0, Value.int .u64 0, Value.int .u64 0, Value.int .u64 0, Value.int .u64 0, Value.int .u64 0, Value.int .u64 0, Value.int .u64 0, Value.int .u64 0, Value.int .u64 0, Value.int .u64 0, Value.int .u64 0, Value.int .u64 0, Value.int .u64 0, Value.int .u64 0, Value.int .u64 0, Value.int .u64 0, Value.int .u64 0, Value.int .u64 0, Value.int .u64 0, Value.int .u64 0, Value.int .u64 0, Value.int .u64 0, Value.int .u64 0, Value.int .u64 0, Value.int .u64 0, Value.int .u64 0, Value.int .u64 0, Value.int .u64 0, Value.int .u64 0, Value.int .u64 0, Value.int .u64 0, Value.int .u64 0] 124)
  have k1 := (Blk.new (w.alloc (.cells (wdC a).toArray 124)) 124 (wdC b).toArray).alloc (.cells #[Value.int .u64 0, Value.int .u64 0, Value.int .u64 0, Value.int .u64 0, Value.int .u64 0, Value.int .u64 0, Value.int .u64 0, Value.int .u64 0, Value.int .u64 0, Value.int .u64 0, Value.int .u64 0, Value.int .u64 0, Value.int .u64 0, Value.int .u64 0, Value.int .u64 0, Value.int .u64 0, Value.int .u64 0, Value.int .u64 0, Value.int .u64 0, Value.int .u64 0, Value.int .u64 0, Value.int .u64 0, Value.int .u64 0, Value.int .u64 0, Value.int .u64 0, Value.int .u64 0, Value.int .u64 0, Value.int .u64 0, Value.int .u64 0, Value.int .u64 0, Value.int .u64 0, Value.int .u64 0, Value.int .u64 0, Value.int .u64 0, Value.int .u64 0, Value.int .u64 0, Value.int .u64 0, Value.int .u64 0, Value.int .u64 0, Value.int .u64 0, Value.int .u64 0, Value.int .u64 0, Value.int .u64 0, Value.int .u64 0, Value.int .u64 0, Value.int .u64 0, Value.int .u64 0, Value.int .u64 0, Value.int .u64 0, Value.int .u64 0, Value.int .u64 0, Value.int .u64 0, Value.int .u64 0, Value.int .u64 0, Value.int .u64 0, Value.int .u64 0, Value.int .u64 0, Value.int .u64 0, Value.int .u64 0, Value.int .u64 0, Value.int .u64 0, Value.int .u64 0, Value.int .u64 0, Value.int .u64 0] 124)
  have k2 := Blk.new ((w.alloc (.cells (wdC a).toArray 124)).alloc (.cells (wdC b).toArray 124)) 124 #[Value.int .u64 0, Value.int .u64 0, Value.int .u64 0, Value.int .u64 0, Value.int .u64 0, Value.int .u64 0, Value.int .u64 0, Value.int .u64 0, Value.int .u64 0, Value.int .u64 0, Value.int .u64 0, Value.int .u64 0, Value.int .u64 0, Value.int .u64 0, Value.int .u64 0, Value.int .u64 0, Value.int .u64 0, Value.int .u64 0, Value.int .u64 0, Value.int .u64 0, Value.int .u64 0, Value.int .u64 0, Value.int .u64 0, Value.int .u64 0, Value.int .u64 0, Value.int .u64 0, Value.int .u64 0, Value.int .u64 0, Value.int .u64 0, Value.int .u64 0, Value.int .u64 0, Value.int .u64 0, Value.int .u64 0, Value.int .u64 0, Value.int .u64 0, Value.int .u64 0, Value.int .u64 0, Value.int .u64 0, Value.int .u64 0, Value.int .u64 0, Value.int .u64 0, Value.int .u64 0, Value.int .u64 0, Value.int .u64 0, Value.int .u64 0, Value.int .u64 0, Value.int .u64 0, Value.int .u64 0, Value.int .u64 0, Value.int .u64 0, Value.int .u64 0, Value.int .u64 0, Value.int .u64 0, Value.int .u64 0, Value.int .u64 0, Value.int .u64 0, Value.int .u64 0, Value.int .u64 0, Value.int .u64 0, Value.int .u64 0, Value.int .u64 0, Value.int .u64 0, Value.int .u64 0, Value.int .u64 0]
  simp only [World.size_alloc] at k1 k2
  have u0 : Below w.heap.size w (((w.alloc (.cells (wdC a).toArray 124)).alloc (.cells (wdC b).toArray 124)).alloc (.cells #[Value.int .u64 0, Value.int .u64 0, Value.int .u64 0, Value.int .u64 0, Value.int .u64 0, Value.int .u64 0, Value.int .u64 0, Value.int .u64 0, Value.int .u64 0, Value.int .u64 0, Value.int .u64 0, Value.int .u64 0, Value.int .u64 0, Value.int .u64 0, Value.int .u64 0, Value.int .u64 0, Value.int .u64 0, Value.int .u64 0, Value.int .u64 0, Value.int .u64 0, Value.int .u64 0, Value.int .u64 0, Value.int .u64 0, Value.int .u64 0, Value.int .u64 0, Value.int .u64 0, Value.int .u64 0, Value.int .u64 0, Value.int .u64 0, Value.int .u64 0, Value.int .u64 0, Value.int .u64 0, Value.int .u64 0, Value.int .u64 0, Value.int .u64 0, Value.int .u64 0, Value.int .u64 0, Value.int .u64 0, Value.int .u64 0, Value.int .u64 0, Value.int .u64 0, Value.int .u64 0, Value.int .u64 0, Value.int .u64 0, Value.int .u64 0, Value.int .u64 0, Value.int .u64 0, Value.int .u64 0, Value.int .u64 0, Value.int .u64 0, Value.int .u64 0, Value.int .u64 0, Value.int .u64 0, Value.int .u64 0, Value.int .u64 0, Value.int .u64 0, Value.int .u64 0, Value.int .u64 0, Value.int .u64 0, Value.int .u64 0, Value.int .u64 0, Value.int .u64 0, Value.int .u64 0, Value.int .u64 0] 124)) := by (repeat (first | exact Below.refl _ _ | apply Below.drew | refine Below.alloc ?_ (by first | exact Nat.le_refl _ | (simp; done) | (simp; omega)) _ | refine Below.setCell ?_ (by first | exact Nat.le_refl _ | (simp; done) | (simp; omega)) _))
  have H := Lib.hid (And.intro ha (And.intro hb (And.intro k0 (And.intro k1 (And.intro (zero64_blk.mp k2) u0)))))
  clear k0 k1 k2 u0 ha hb
  unfold wdV
  go_enter Tryz.func127, Tryz.ntmps127
  go_upto_region 1 with (fail)
  generalize ((w.alloc (.cells (wdC a).toArray 124)).alloc (.cells (wdC b).toArray 124)).alloc (.cells #[Value.int .u64 0, Value.int .u64 0, Value.int .u64 0, Value.int .u64 0, Value.int .u64 0, Value.int .u64 0, Value.int .u64 0, Value.int .u64 0, Value.int .u64 0, Value.int .u64 0, Value.int .u64 0, Value.int .u64 0, Value.int .u64 0, Value.int .u64 0, Value.int .u64 0, Value.int .u64 0, Value.int .u64 0, Value.int .u64 0, Value.int .u64 0, Value.int .u64 0, Value.int .u64 0, Value.int .u64 0, Value.int .u64 0, Value.int .u64 0, Value.int .u64 0, Value.int .u64 0, Value.int .u64 0, Value.int .u64 0, Value.int .u64 0, Value.int .u64 0, Value.int .u64 0, Value.int .u64 0, Value.int .u64 0, Value.int .u64 0, Value.int .u64 0, Value.int .u64 0, Value.int .u64 0, Value.int .u64 0, Value.int .u64 0, Value.int .u64 0, Value.int .u64 0, Value.int .u64 0, Value.int .u64 0, Value.int .u64 0, Value.int .u64 0, Value.int .u64 0, Value.int .u64 0, Value.int .u64 0, Value.int .u64 0, Value.int .u64 0, Value.int .u64 0, Value.int .u64 0, Value.int .u64 0, Value.int .u64 0, Value.int .u64 0, Value.int .u64 0, Value.int .u64 0, Value.int .u64 0, Value.int .u64 0, Value.int .u64 0, Value.int .u64 0, Value.int .u64 0, Value.int .u64 0, Value.int .u64 0] 124) = W0 at H ⊢
  go_wp2_with fail
  go_loopw [6] (fun i wr => ∃ k : Nat, k ≤ 64 ∧ i = .int .i64 k ∧ Hid (Blk wr w.heap.size 124 (wdC (mixW orN a b k)).toArray) ∧ Hid (Blk wr (w.heap.size + 1) 124 (wdC b).toArray) ∧ Hid (Blk wr (w.heap.size + 1 + 1) 124 (wdC zero64).toArray) ∧ Hid (Below w.heap.size w wr)) (fun i _ => 64 - (intOf i).toNat)
  case atStart => exact ⟨0, Nat.zero_le _, rfl, Lib.hid (by rw [mixW_zero]; exact H.out.2.2.1), Lib.hid H.out.2.2.2.1, Lib.hid H.out.2.2.2.2.1, Lib.hid H.out.2.2.2.2.2⟩
  case round =>
    obtain ⟨k, hk, rfl, hA, hB, hC, hbw⟩ := hrel
    have hab : a.length = b.length := by rw [H.out.1.len, H.out.2.1.len]
    by_cases hlt : k < 64
    · have hltI : (k : Int) < (64 : Int) := by omega
      have hkw : IntKind.i64.wrap ((k : Int) + 1) = (k : Int) + 1 := IntWalk.i64_in _ (by omega)
      obtain ⟨x, hx⟩ : ∃ x, a[k]? = some x := ⟨a[k]'(by rw [H.out.1.len]; exact hlt), List.getElem?_eq_getElem _⟩
      obtain ⟨y, hy⟩ : ∃ x, b[k]? = some x := ⟨b[k]'(by rw [H.out.2.1.len]; exact hlt), List.getElem?_eq_getElem _⟩
      have hop := u64_orN x y (H.out.1.fit x (List.mem_of_getElem? hx)) (H.out.2.1.fit y (List.mem_of_getElem? hy))
      have c0 : wr.drew.cell? ⟨w.heap.size, k, none⟩ = some (.int .u64 (x : Int)) := (hA.out.drew.cell k).trans (by simpa using wdC_at (mixW_at (f := orN) hab hx))
      have c1 : wr.drew.cell? ⟨w.heap.size + 1, k, none⟩ = some (.int .u64 (y : Int)) := (hB.out.drew.cell k).trans (by simpa using wdC_at hy)
      have f0 : wr.drew.frozen? ⟨w.heap.size, k, none⟩ = false := hA.out.drew.frozen k
      have hS : wr.drew.cell? ⟨w.heap.size, k, none⟩ = some (.int .u64 (x : Int)) ∧ wr.drew.cell? ⟨w.heap.size + 1, k, none⟩ = some (.int .u64 (y : Int)) := ⟨c0, c1⟩
      have hb2 : Upd (fun q => q = w.heap.size) wr.drew (wr.drew.setCell ⟨w.heap.size, k, none⟩ (.int .u64 ((orN x y : Nat) : Int))) := (Upd.refl (fun q => q = w.heap.size) wr.drew).setCell (p := ⟨w.heap.size, k, none⟩) (.inl rfl) _
      have HN := Lib.hid (show Blk (wr.drew.setCell ⟨w.heap.size, k, none⟩ (.int .u64 ((orN x y : Nat) : Int))) w.heap.size 124 (wdC (mixW orN a b (k + 1))).toArray ∧ Blk (wr.drew.setCell ⟨w.heap.size, k, none⟩ (.int .u64 ((orN x y : Nat) : Int))) (w.heap.size + 1) 124 (wdC b).toArray ∧ Blk (wr.drew.setCell ⟨w.heap.size, k, none⟩ (.int .u64 ((orN x y : Nat) : Int))) (w.heap.size + 1 + 1) 124 (wdC zero64).toArray ∧ Below w.heap.size w (wr.drew.setCell ⟨w.heap.size, k, none⟩ (.int .u64 ((orN x y : Nat) : Int))) from by
        refine ⟨?_, hB.out.drew.upd hb2 (by omega), hC.out.drew.upd hb2 (by omega), hbw.out.drew.trans (hb2.below (fun q _ e => Nat.le_of_eq e.symm) hbw.out.size)⟩
        have := hA.out.drew.set k (.int .u64 ((orN x y : Nat) : Int))
        rw [wdC_set, mixW_set hab hx hy] at this
        exact this)
      clear hA hB hC hbw hb2 hx hy c1
      generalize hq : (orN x y : Nat) = q at hop HN
      clear hq
      go_upto_region 4 with (fail)
      refine wp_region_ord (fun W => W.cell? ⟨w.heap.size, k, none⟩ = some (.int .u64 (x : Int)) ∧ W.cell? ⟨w.heap.size + 1, k, none⟩ = some (.int .u64 (y : Int))) 8 [(0, true), (1, true), (2, true), (3, true), (4, true), (5, true), (6, true), (7, true), (8, false)] (by kernel_rfl) (by kernel_rfl) (fun _ _ d _ _ h => by cases d <;> exact h) hS ?_
      generalize wr.drew = V0 at hS c0 f0 HN ⊢
      iterate 8 (refine ord_take (v := ?_) rfl (by first | with_reducible rfl | kernel_rfl) ?_ ?_; rotate_left; (focus (intro wS hS; (try dsimp only at hS); go_split_ands; go_simp; (try with_reducible rfl); done)); (try simp only [Act.put, List.getElem_toArray, List.getElem_cons_succ, List.getElem_cons_zero, List.setIfInBounds_toArray, List.set_cons_zero, List.set_cons_succ]))
      refine ord_do rfl rfl (fun K hK => ?_)
      go_simp
      refine hK _ _ (fun h => absurd rfl h) ?_
      clear hK K hS c0 f0 hop
      (try simp only [Act.put, List.getElem_toArray, List.getElem_cons_succ, List.getElem_cons_zero, List.setIfInBounds_toArray, List.set_cons_zero, List.set_cons_succ])
      refine ord_done ?_
      generalize V0.setCell ⟨w.heap.size, k, none⟩ (.int .u64 (q : Int)) = W1 at HN ⊢
      go_wp2
      go_roundw
      case rel => exact ⟨k + 1, by omega, by go_num, Lib.hid HN.out.1, Lib.hid HN.out.2.1, Lib.hid HN.out.2.2.1, Lib.hid HN.out.2.2.2⟩
      case measure => simp [intOf]; omega
    · obtain rfl : k = 64 := by omega
      have hA2 := hA.out
      rw [mixW_all H.out.1.len H.out.2.1.len] at hA2
      have hz : Wd (List.zipWith orN a b) := or_wd H.out.1 H.out.2.1
      have hrg := range_blk hA2
      have hsz := info_wd hz
      have hth : wr.there (w.heap.size + 1 + 1) 0 (wdC (List.zipWith orN a b)).toArray.size := there_blk hC.out (by simp [wdC_len, hz.len, zero64])
      have hsz2 : (Tryz.prog.info? 124).map (·.size) = some (wdC (List.zipWith orN a b)).toArray.size := by simpa using hsz
      have h1c : (wdC (List.zipWith orN a b)).toArray.all (·.oneCell') = true := all_oneCell_toArray (one_wd _)
      have FIN := Lib.hid (show Below w.heap.size w (wr.setCells (w.heap.size + 1 + 1) 0 (wdC (List.zipWith orN a b))) ∧ (wr.setCells (w.heap.size + 1 + 1) 0 (wdC (List.zipWith orN a b))).rangeAt (w.heap.size + 1 + 1) 0 (wdC (List.zipWith orN a b)) from ⟨hbw.out.trans ((Upd.setCells (F := fun q => q = w.heap.size + 1 + 1) (.inl rfl) _ _ (Upd.refl _ _)).below (fun q _ e => by omega) hbw.out.size), World.rangeAt_setCells_same _ _ _ _ (by simpa using hth)⟩)
      clear hA hB hC hbw hA2
      go_upto_region 6 with (fail)
      go_wp2_with (first | (refine wpList_load_mid rfl 124 _ rfl w.heap.size 0 rfl (wdC (List.zipWith orN a b)) (.array 64 122) hrg Tryz.underlying124 rfl hsz ?_) | (refine wpList_store_mid rfl 124 _ _ rfl (w.heap.size + 1 + 1) 0 (wdC (List.zipWith orN a b)).toArray rfl rfl hth hsz2 h1c ?_))
      have hlv := run_loadVar_mid (P := Tryz.prog) _ (w.heap.size + 1 + 1) 0 124 (wdC (List.zipWith orN a b)) (.array 64 122) FIN.out.2 Tryz.underlying124 rfl hsz
      refine bodyPost_ret (v := .agg (wdC (List.zipWith orN a b)).toArray) (by simp [results, Tryz.f127, Act.put, asAddr, hlv, Result.andThen, Sem.run_bind]) rfl ⟨rfl, FIN.out.1⟩
end Go.Proofs.YtnmkieiehjajlaaGreatDoor
namespace Go.Proofs.YtnmkieiehjajlaaGreatDoor
open Go.RowKit

set_option maxHeartbeats 1000000 in
set_option maxRecDepth 20000 in
theorem blkin_any (n : Nat) (hn : n < 64) (w : World) : Calls Tryz.prog 123 #[.int .i64 (n : Int)] w (fun e w' => e = .returned (.bool true) ∧ w' = w) := by
  have h0 : (0 : Int) ≤ (n : Int) := by omega
  have h1 : (n : Int) < 64 := by omega
  go_enter Tryz.func123, Tryz.ntmps123
  go_wp2
  go_ret
  exact ⟨rfl, rfl⟩
def bitW (r : List Nat) (i j : Nat) : Bool := (r[i]?.getD 0).testBit j
theorem and_one (x : Nat) (hx : x < 18446744073709551616) (j : Nat) : (bits .and .u64 ((x : Int) / 2 ^ j) 1 == 1) = x.testBit j := by
  rw [show ((x : Int) / 2 ^ j) = ((x / 2 ^ j : Nat) : Int) by push_cast; rfl]
  have hlt : x / 2 ^ j < 18446744073709551616 := Nat.lt_of_le_of_lt (Nat.div_le_self _ _) hx
  have h := bits_and_u64_nat (x / 2 ^ j) 1 hlt (by decide)
  have e : ((1 : Nat) : Int) = 1 := rfl
  rw [e] at h
  rw [h, Nat.and_one_is_mod, Nat.testBit_eq_decide_div_mod_eq]
  by_cases hq : x / 2 ^ j % 2 = 1
  · simp [hq]
  · have : x / 2 ^ j % 2 = 0 := by omega
    simp [this]
set_option maxHeartbeats 1000000 in
set_option maxRecDepth 20000 in
theorem bget_any (w : World) (r : List Nat) (hr : Wd r) (i j : Nat) (hi : i < 64) (hj : j < 64) : Calls Tryz.prog 114 #[wdV r, .int .i64 (i : Int), .int .i64 (j : Int)] w (Sam w (.tuple #[.bool (bitW r i j), .int .i64 0])) := by
  have k0 := Blk.new w 124 (wdC r).toArray
  have u0 : Below w.heap.size w (w.alloc (.cells (wdC r).toArray 124)) := (Below.refl _ _).alloc (Nat.le_refl _) _
  obtain ⟨x, hx⟩ : ∃ x, r[i]? = some x := ⟨r[i]'(by rw [hr.len]; exact hi), List.getElem?_eq_getElem _⟩
  have c0 : (w.alloc (.cells (wdC r).toArray 124)).cell? ⟨w.heap.size, i, none⟩ = some (.int .u64 (x : Int)) := (k0.cell i).trans (by simpa using wdC_at hx)
  have hb : bitW r i j = x.testBit j := by unfold bitW; rw [hx]; rfl
  have ha := and_one x (hr.fit x (List.mem_of_getElem? hx)) j
  rw [hb, ← ha]
  have H := Lib.hid u0
  have hiI : (i : Int) < (64 : Int) := by omega
  have hj0 : ¬ ((j : Int) < 0) := by omega
  clear k0 u0 hx hr hb ha
  unfold wdV
  go_enter Tryz.func114, Tryz.ntmps114
  go_upto_region 1 with (fail)
  generalize w.alloc (.cells (wdC r).toArray 124) = W0 at H c0 ⊢
  go_wp2_with fail
  refine (blkin_any i hi W0).mono ?_
  rintro e w' ⟨rfl, hw⟩
  subst w'
  go_wp2_with fail
  refine (blkin_any j hj W0).mono ?_
  rintro e w' ⟨rfl, hw⟩
  subst w'
  go_wp2
  refine bodyPost_ret (v := .tuple #[.bool (bits .and .u64 ((x : Int) / 2 ^ j) 1 == 1), .int .i64 0]) (by simp [results, Tryz.f114, go_sem]) rfl ⟨rfl, H.out⟩
set_option maxHeartbeats 1000000 in
set_option maxRecDepth 20000 in
theorem way_any (l : Nat) (hl : l ≤ 10) (w : World) : Calls Tryz.prog 153 #[.int .i64 0, .int .i64 0, .int .i64 (l : Int)] w (Sam w (.int .i64 0)) := by
  have h0 : ¬ ((l : Int) < 0) := by omega
  have h1 : bits .and .i64 0 1 = 0 := by decide +kernel
  have h2 : wrap64 0 = 0 := by decide +kernel
  have h3 : bits .or .i64 0 0 = 0 := by decide +kernel
  go_enter Tryz.func153, Tryz.ntmps153
  go_upto_region 1 with (fail)
  go_quiet (fail)
  go_wp2
  go_ret
  exact ⟨rfl, (Upd.refl (fun _ => False) w).drewN _ |>.below (fun _ _ h => h.elim) (Nat.le_refl _)⟩
end Go.Proofs.YtnmkieiehjajlaaGreatDoor
namespace Go.Proofs.YtnmkieiehjajlaaGreatDoor
open Go.RowKit

def four (x : Int) : List Value := [.int .i64 x, .int .i64 0, .int .i64 0, .int .i64 0]
/-- The inner nodes: the way down to the first block, m steps deep. -/
def qsC (m : Nat) (last : Int) : List Value := ((List.range m).flatMap fun (i : Nat) => four ((i : Int) + 2)) ++ four last
def lfC (L : List (List Nat)) : List Value := L.flatMap wdC
inductive QRo
  | p | a | l
structure QuI (w : World) (O : Nat → Option QRo) (p : Nat) (side dep cnt : Nat) (m : Nat) (last : Int) (L : List (List Nat)) (pv lv : Value) : Prop where
  blk : Blk w p 116 #[.int .i64 (side : Int), .int .i64 (dep : Int), .int .i64 (cnt : Int), pv, lv]
  rp : w.ownsRow 0 169 4 pv (m + 1) (qsC m last)
  rl : w.ownsRow 0 124 64 lv L.length (lfC L)
  op : O p = some .p
  oa : ∀ k, pv.ownBlock = some k → O k = some .a
  ol : ∀ k, lv.ownBlock = some k → O k = some .l
  lt : ∀ k, O k ≠ none → k < w.heap.size
/-- The block's words, if it has a leaf. -/
structure QuOk (side dep cnt m : Nat) (last : Int) (L : List (List Nat)) (b : Option (List Nat)) : Prop where
  s1 : 1 ≤ side
  s2 : side ≤ 1024
  d1 : 1 ≤ dep
  d2 : dep ≤ 4
  no : b = none → m = 0 ∧ last = 0 ∧ L = [] ∧ cnt = 0
  is : ∀ r, b = some r → m + 1 = dep ∧ last = 1 ∧ L = [r] ∧ cnt = lenB r ∧ Wd r
def QuS (w : World) (F : Nat → Prop) (p side : Nat) (b : Option (List Nat)) : Prop := ∃ O dep cnt m last L pv lv, QuI w O p side dep cnt m last L pv lv ∧ QuOk side dep cnt m last L b ∧ F = fun k => O k ≠ none
theorem QuI.upd {w w' : World} {O : Nat → Option QRo} {p side dep cnt m : Nat} {last : Int} {L : List (List Nat)} {pv lv : Value} {G : Nat → Prop} (h : QuI w O p side dep cnt m last L pv lv) (hu : Upd G w w') (hd : ∀ k, O k ≠ none → ¬ G k) : QuI w' O p side dep cnt m last L pv lv := by
  have no : ∀ k t, O k = some t → ¬ G k := fun k t e => hd k (by simp [e])
  exact ⟨h.blk.upd hu (no _ _ h.op), ownsRow_upd h.rp hu fun k hk => no _ _ (h.oa k hk), ownsRow_upd h.rl hu fun k hk => no _ _ (h.ol k hk), h.op, h.oa, h.ol, fun k hk => Nat.lt_of_lt_of_le (h.lt k hk) hu.size⟩
theorem QuS.upd {w w' : World} {F G : Nat → Prop} {p side : Nat} {b : Option (List Nat)} (h : QuS w F p side b) (hu : Upd G w w') (hd : ∀ k, F k → ¬ G k) : QuS w' F p side b := by
  obtain ⟨O, dep, cnt, m, last, L, pv, lv, hs, ok, rfl⟩ := h
  exact ⟨O, dep, cnt, m, last, L, pv, lv, hs.upd hu hd, ok, rfl⟩
theorem QuS.below {w w' : World} {F : Nat → Prop} {p side : Nat} {b : Option (List Nat)} (h : QuS w F p side b) (hb : Below w.heap.size w w') : QuS w' F p side b := h.upd (Upd.of_below hb (fun _ => False)) (fun _ _ => id)
theorem QuS.lt {w : World} {F : Nat → Prop} {p side : Nat} {b : Option (List Nat)} (h : QuS w F p side b) : ∀ k, F k → k < w.heap.size := by
  obtain ⟨O, dep, cnt, m, last, L, pv, lv, hs, ok, rfl⟩ := h
  exact hs.lt
theorem QuI.no {w : World} {O : Nat → Option QRo} {p side dep cnt m : Nat} {last : Int} {L : List (List Nat)} {pv lv : Value} (h : QuI w O p side dep cnt m last L pv lv) : (∀ k, pv.ownBlock = some k → ¬ k = p) ∧ (∀ k, lv.ownBlock = some k → ¬ k = p) ∧ ∀ k, pv.ownBlock = some k → ¬ lv.ownBlock = some k :=
  ⟨fun k hk e => (by have := h.oa k hk; rw [e, h.op] at this; cases this), fun k hk e => (by have := h.ol k hk; rw [e, h.op] at this; cases this), fun k hk e => by have := h.oa k hk; rw [h.ol k e] at this; cases this⟩
theorem QuI.setD {w : World} {O : Nat → Option QRo} {p side dep cnt m : Nat} {last : Int} {L : List (List Nat)} {pv lv : Value} (h : QuI w O p side dep cnt m last L pv lv) (d' : Nat) : QuI (w.setCell ⟨p, 1, none⟩ (.int .i64 (d' : Int))) O p side d' cnt m last L pv lv := by
  have us := (Upd.refl (fun k => k = p) w).setCell (p := ⟨p, 1, none⟩) (.inl rfl) (.int .i64 (d' : Int))
  exact ⟨h.blk.set 1 _, ownsRow_upd h.rp us h.no.1, ownsRow_upd h.rl us h.no.2.1, h.op, h.oa, h.ol, fun k hk => Nat.lt_of_lt_of_le (h.lt k hk) us.size⟩
theorem QuI.setC {w : World} {O : Nat → Option QRo} {p side dep cnt m : Nat} {last : Int} {L : List (List Nat)} {pv lv : Value} (h : QuI w O p side dep cnt m last L pv lv) (c' : Nat) : QuI (w.setCell ⟨p, 2, none⟩ (.int .i64 (c' : Int))) O p side dep c' m last L pv lv := by
  have us := (Upd.refl (fun k => k = p) w).setCell (p := ⟨p, 2, none⟩) (.inl rfl) (.int .i64 (c' : Int))
  exact ⟨h.blk.set 2 _, ownsRow_upd h.rp us h.no.1, ownsRow_upd h.rl us h.no.2.1, h.op, h.oa, h.ol, fun k hk => Nat.lt_of_lt_of_le (h.lt k hk) us.size⟩
def QFresh (B p side : Nat) (b : Option (List Nat)) (w' : World) : Prop := ∃ F, QuS w' F p side b ∧ ∀ k, F k → B ≤ k
theorem qnew_fin (w : World) (side : Nat) : QuI ((w.alloc (.cells #[.int .i64 0, .int .i64 0, .int .i64 0, .int .i64 0] 169)).alloc (.cells #[.int .i64 (side : Int), .int .i64 1, .int .i64 0, .slice (some ⟨w.heap.size, 0, none⟩) 1 1, .slice none 0 0] 116)) (fun k => if k = w.heap.size + 1 then some QRo.p else if k = w.heap.size then some QRo.a else none) (w.heap.size + 1) side 1 0 0 0 [] (.slice (some ⟨w.heap.size, 0, none⟩) 1 1) (.slice none 0 0) := by
  have k1 := Blk.new (w.alloc (.cells #[.int .i64 0, .int .i64 0, .int .i64 0, .int .i64 0] 169)) 116 #[.int .i64 (side : Int), .int .i64 1, .int .i64 0, .slice (some ⟨w.heap.size, 0, none⟩) 1 1, .slice none 0 0]
  have hz : (w.alloc (.cells #[.int .i64 0, .int .i64 0, .int .i64 0, .int .i64 0] 169)).heap.size = w.heap.size + 1 := by simp
  rw [hz] at k1
  refine ⟨k1, ?_, World.ownsRow_nil _ _ _ _, if_pos rfl, ?_, ?_, ?_⟩
  · have own : (w.alloc (.cells #[.int .i64 0, .int .i64 0, .int .i64 0, .int .i64 0] 169)).ownsRow 0 169 4 (.slice (some ⟨w.heap.size, 0, none⟩) 1 1) (0 + 1) (qsC 0 0) := ⟨rfl, .inr ⟨w.heap.size, 1, #[.int .i64 0, .int .i64 0, .int .i64 0, .int .i64 0], rfl, Nat.zero_le _, heap_alloc_new w _, Nat.le_refl _, by decide, rfl, rfl⟩⟩
    exact own.alloc _
  · intro k hk
    simp [Value.ownBlock] at hk
    subst hk
    rw [if_neg (by omega), if_pos rfl]
  · intro k hk; simp [Value.ownBlock] at hk
  · intro k hk
    simp only [World.size_alloc] at *
    split at hk
    · omega
    split at hk
    · omega
    · exact absurd rfl hk
theorem info_four : (Tryz.prog.info? 169).map (fun i => (i.zero, i.size, i.bytes)) = some (some (.agg #[.int .i64 0, .int .i64 0, .int .i64 0, .int .i64 0]), 4, 32) := by kernel_rfl
theorem mk_parts (w : World) : (Instr.makeSlice 113 (.int .i64 1) (.int .i64 1)).run Tryz.prog w = .ok (.slice (some ⟨w.heap.size, 0, none⟩) 1 1) (w.alloc (.cells #[.int .i64 0, .int .i64 0, .int .i64 0, .int .i64 0] 169)) := by
  obtain ⟨i0, hi0, hz0, hz1, hz2⟩ := info_parts info_four
  have hr := run_make (P := Tryz.prog) w 113 169 i0 _ Tryz.underlying113 hi0 hz0 .i64 .i64 1 1 (by omega) (Int.le_refl _) (by rw [hz2]; omega) (by omega)
  rw [hz1] at hr
  have e : madeCells (Value.agg #[.int .i64 0, .int .i64 0, .int .i64 0, .int .i64 0]).cells (Int.toNat 1 * 4) = #[.int .i64 0, .int .i64 0, .int .i64 0, .int .i64 0] := by kernel_rfl
  rw [e] at hr
  exact hr
def QMade (w : World) (side : Nat) (e : Ending) (w' : World) : Prop := ∃ p, e = .returned (.tuple #[.pointer (some ⟨p, 0, none⟩), .int .i64 0]) ∧ QFresh w.heap.size p side none w' ∧ Below w.heap.size w w'
set_option maxHeartbeats 1000000 in
set_option maxRecDepth 20000 in
theorem qnew_any (w : World) (side : Nat) (h1 : 1 ≤ side) (h2 : side ≤ 1024) : Calls Tryz.prog 46 #[.int .i64 (side : Int)] w (QMade w side) := by
  have hz : ((w.alloc (.cells #[.int .i64 0, .int .i64 0, .int .i64 0, .int .i64 0] 169)).alloc (.cells #[.int .i64 (side : Int), .int .i64 1, .int .i64 0, .slice (some ⟨w.heap.size, 0, none⟩) 1 1, .slice none 0 0] 116)).heap.size = w.heap.size + 1 + 1 := by simp
  have u0 : Below w.heap.size w ((w.alloc (.cells #[.int .i64 0, .int .i64 0, .int .i64 0, .int .i64 0] 169)).alloc (.cells #[.int .i64 (side : Int), .int .i64 1, .int .i64 0, .slice (some ⟨w.heap.size, 0, none⟩) 1 1, .slice none 0 0] 116)) := by (repeat (first | exact Below.refl _ _ | apply Below.drew | refine Below.alloc ?_ (by first | exact Nat.le_refl _ | (simp; done) | (simp; omega)) _ | refine Below.setCell ?_ (by first | exact Nat.le_refl _ | (simp; done) | (simp; omega)) _))
  have H := Lib.hid (And.intro (qnew_fin w side) u0)
  have t1 : ¬ ((side : Int) < 1) := by omega
  have t2 : ¬ ((1024 : Int) < (side : Int)) := by omega
  clear u0 hz
  go_enter Tryz.func46, Tryz.ntmps46
  have hmk := mk_parts w
  go_upto_region 4 with (fail)
  generalize (w.alloc (.cells #[.int .i64 0, .int .i64 0, .int .i64 0, .int .i64 0] 169)).alloc (.cells #[.int .i64 (side : Int), .int .i64 1, .int .i64 0, .slice (some ⟨w.heap.size, 0, none⟩) 1 1, .slice none 0 0] 116) = W0 at H ⊢
  clear hmk
  go_loopw [] (fun wr => ∃ d : Nat, 1 ≤ d ∧ d ≤ 4 ∧ Hid (QuI wr (fun k => if k = w.heap.size + 1 then some QRo.p else if k = w.heap.size then some QRo.a else none) (w.heap.size + 1) side d 0 0 0 [] (.slice (some ⟨w.heap.size, 0, none⟩) 1 1) (.slice none 0 0)) ∧ Hid (Below w.heap.size w wr)) (fun wr => 4 - (match wr.cell? ⟨w.heap.size + 1, 1, none⟩ with | some v => (intOf v).toNat | none => 0))
  case atStart => exact ⟨1, Nat.le_refl _, by decide, Lib.hid H.out.1, Lib.hid H.out.2⟩
  case round =>
    obtain ⟨d, hd1, hd4, hq, hbw⟩ := hrel
    have hlo : ∀ k, (if k = w.heap.size + 1 then some QRo.p else if k = w.heap.size then some QRo.a else none) ≠ none → w.heap.size ≤ k := fun k hk => by
      split at hk
      · omega
      split at hk
      · omega
      · exact absurd rfl hk
    have hd : d = 1 ∨ d = 2 ∨ d = 3 ∨ d = 4 := by omega
    rcases hd with rfl | rfl | rfl | rfl
    · have q1 : wr.cell? ⟨w.heap.size + 1, 1, none⟩ = some (.int .i64 1) := hq.out.blk.cell 1
      have f1 := hq.out.blk.frozen 1
      have HN := Lib.hid (hq.out.setD 2)
      have HB := Lib.hid (hbw.out.trans (((Upd.refl (fun k => k = w.heap.size + 1) wr).setCell (p := ⟨w.heap.size + 1, 1, none⟩) (.inl rfl) (.int .i64 ((2 : Nat) : Int))).below (fun k _ e => by omega) hbw.out.size))
      by_cases hlt : (128 : Int) < (side : Int)
      · go_wp2
        go_roundw
        case rel => exact ⟨2, by decide, by decide, HN, HB⟩
        case measure =>
          have := show (wr.setCell ⟨w.heap.size + 1, 1, none⟩ (.int .i64 2)).cell? ⟨w.heap.size + 1, 1, none⟩ = some (.int .i64 2) from HN.out.blk.cell 1
          simp [q1, intOf, this]
      · have FIN := Lib.hid (show QMade w side (.returned (.tuple #[.pointer (some ⟨w.heap.size + 1, 0, none⟩), .int .i64 0])) wr from ⟨_, rfl, ⟨_, ⟨_, _, _, _, _, _, _, _, hq.out, ⟨h1, h2, by decide, by decide, fun _ => ⟨rfl, rfl, rfl, rfl⟩, fun _ e => by cases e⟩, rfl⟩, hlo⟩, hbw.out⟩)
        clear HN HB hq hbw
        go_wp2
        refine bodyPost_ret (v := .tuple #[.pointer (some ⟨w.heap.size + 1, 0, none⟩), .int .i64 0]) (by simp [results, Tryz.f46, go_sem]) rfl FIN.out
    · have q1 : wr.cell? ⟨w.heap.size + 1, 1, none⟩ = some (.int .i64 2) := hq.out.blk.cell 1
      have f1 := hq.out.blk.frozen 1
      have HN := Lib.hid (hq.out.setD 3)
      have HB := Lib.hid (hbw.out.trans (((Upd.refl (fun k => k = w.heap.size + 1) wr).setCell (p := ⟨w.heap.size + 1, 1, none⟩) (.inl rfl) (.int .i64 ((3 : Nat) : Int))).below (fun k _ e => by omega) hbw.out.size))
      by_cases hlt : (256 : Int) < (side : Int)
      · go_wp2
        go_roundw
        case rel => exact ⟨3, by decide, by decide, HN, HB⟩
        case measure =>
          have := show (wr.setCell ⟨w.heap.size + 1, 1, none⟩ (.int .i64 3)).cell? ⟨w.heap.size + 1, 1, none⟩ = some (.int .i64 3) from HN.out.blk.cell 1
          simp [q1, intOf, this]
      · have FIN := Lib.hid (show QMade w side (.returned (.tuple #[.pointer (some ⟨w.heap.size + 1, 0, none⟩), .int .i64 0])) wr from ⟨_, rfl, ⟨_, ⟨_, _, _, _, _, _, _, _, hq.out, ⟨h1, h2, by decide, by decide, fun _ => ⟨rfl, rfl, rfl, rfl⟩, fun _ e => by cases e⟩, rfl⟩, hlo⟩, hbw.out⟩)
        clear HN HB hq hbw
        go_wp2
        refine bodyPost_ret (v := .tuple #[.pointer (some ⟨w.heap.size + 1, 0, none⟩), .int .i64 0]) (by simp [results, Tryz.f46, go_sem]) rfl FIN.out
    · have q1 : wr.cell? ⟨w.heap.size + 1, 1, none⟩ = some (.int .i64 3) := hq.out.blk.cell 1
      have f1 := hq.out.blk.frozen 1
      have HN := Lib.hid (hq.out.setD 4)
      have HB := Lib.hid (hbw.out.trans (((Upd.refl (fun k => k = w.heap.size + 1) wr).setCell (p := ⟨w.heap.size + 1, 1, none⟩) (.inl rfl) (.int .i64 ((4 : Nat) : Int))).below (fun k _ e => by omega) hbw.out.size))
      by_cases hlt : (512 : Int) < (side : Int)
      · go_wp2
        go_roundw
        case rel => exact ⟨4, by decide, by decide, HN, HB⟩
        case measure =>
          have := show (wr.setCell ⟨w.heap.size + 1, 1, none⟩ (.int .i64 4)).cell? ⟨w.heap.size + 1, 1, none⟩ = some (.int .i64 4) from HN.out.blk.cell 1
          simp [q1, intOf, this]
      · have FIN := Lib.hid (show QMade w side (.returned (.tuple #[.pointer (some ⟨w.heap.size + 1, 0, none⟩), .int .i64 0])) wr from ⟨_, rfl, ⟨_, ⟨_, _, _, _, _, _, _, _, hq.out, ⟨h1, h2, by decide, by decide, fun _ => ⟨rfl, rfl, rfl, rfl⟩, fun _ e => by cases e⟩, rfl⟩, hlo⟩, hbw.out⟩)
        clear HN HB hq hbw
        go_wp2
        refine bodyPost_ret (v := .tuple #[.pointer (some ⟨w.heap.size + 1, 0, none⟩), .int .i64 0]) (by simp [results, Tryz.f46, go_sem]) rfl FIN.out
    · have q1 : wr.cell? ⟨w.heap.size + 1, 1, none⟩ = some (.int .i64 4) := hq.out.blk.cell 1
      have FIN := Lib.hid (show QMade w side (.returned (.tuple #[.pointer (some ⟨w.heap.size + 1, 0, none⟩), .int .i64 0])) wr from ⟨_, rfl, ⟨_, ⟨_, _, _, _, _, _, _, _, hq.out, ⟨h1, h2, by decide, by decide, fun _ => ⟨rfl, rfl, rfl, rfl⟩, fun _ e => by cases e⟩, rfl⟩, hlo⟩, hbw.out⟩)
      clear hq hbw
      go_wp2
      refine bodyPost_ret (v := .tuple #[.pointer (some ⟨w.heap.size + 1, 0, none⟩), .int .i64 0]) (by simp [results, Tryz.f46, go_sem]) rfl FIN.out
end Go.Proofs.YtnmkieiehjajlaaGreatDoor
namespace Go.Proofs.YtnmkieiehjajlaaGreatDoor
open Go.RowKit

theorem qsC_in {m k : Nat} {last : Int} (h : k < m) : (qsC m last)[k * 4]? = some (.int .i64 ((k : Int) + 2)) := by
  have hl : ((List.range m).flatMap fun (i : Nat) => four ((i : Int) + 2)).length = m * 4 := by rw [flat_len _ 4 (fun _ => rfl), List.length_range]
  unfold qsC
  rw [List.getElem?_append_left (by omega)]
  have := flat_get (fun (i : Nat) => four ((i : Int) + 2)) 4 (fun _ => rfl) (List.range m) k 0 k (by simp [h]) (by decide)
  rw [Nat.add_zero] at this
  rw [this]
  rfl
theorem qsC_last {m : Nat} {last : Int} : (qsC m last)[m * 4]? = some (.int .i64 last) := by
  have hl : ((List.range m).flatMap fun (i : Nat) => four ((i : Int) + 2)).length = m * 4 := by rw [flat_len _ 4 (fun _ => rfl), List.length_range]
  unfold qsC
  rw [List.getElem?_append_right (by omega), hl, Nat.sub_self]
  rfl
set_option maxHeartbeats 1000000 in
set_option maxRecDepth 20000 in
theorem qis_any (w : World) (p side : Nat) (hs : 1 ≤ side) (q0 : w.cell? ⟨p, 0, none⟩ = some (.int .i64 (side : Int))) : Calls Tryz.prog 48 #[.pointer (some ⟨p, 0, none⟩)] w (Only w (.bool true)) := by
  have h0 : 0 < side := by omega
  go_enter Tryz.func48, Tryz.ntmps48
  go_wp2
  go_ret
  exact ⟨rfl, rfl⟩
set_option maxHeartbeats 1000000 in
set_option maxRecDepth 20000 in
theorem qin_any (w : World) (p side i : Nat) (hs : i < side) (q0 : w.cell? ⟨p, 0, none⟩ = some (.int .i64 (side : Int))) : Calls Tryz.prog 112 #[.pointer (some ⟨p, 0, none⟩), .int .i64 (i : Int)] w (Only w (.bool true)) := by
  have h0 : (0 : Int) ≤ (i : Int) := by omega
  have h1 : (i : Int) < (side : Int) := by omega
  go_enter Tryz.func112, Tryz.ntmps112
  go_wp2
  go_ret
  exact ⟨rfl, rfl⟩
set_option maxHeartbeats 1000000 in
set_option maxRecDepth 20000 in
theorem qside_any (w : World) (p side : Nat) (hs : 1 ≤ side) (q0 : w.cell? ⟨p, 0, none⟩ = some (.int .i64 (side : Int))) : Calls Tryz.prog 104 #[.pointer (some ⟨p, 0, none⟩)] w (Only w (.int .i64 (side : Int))) := by
  go_enter Tryz.func104, Tryz.ntmps104
  go_wp2_with fail
  refine (qis_any w p side hs q0).mono ?_
  rintro e w' ⟨rfl, hw⟩
  subst w'
  go_wp2
  go_ret
  exact ⟨rfl, rfl⟩
set_option maxHeartbeats 1000000 in
set_option maxRecDepth 20000 in
theorem qlen_any (w : World) (p side cnt : Nat) (hs : 1 ≤ side) (q0 : w.cell? ⟨p, 0, none⟩ = some (.int .i64 (side : Int))) (q2 : w.cell? ⟨p, 2, none⟩ = some (.int .i64 (cnt : Int))) : Calls Tryz.prog 17 #[.pointer (some ⟨p, 0, none⟩)] w (Only w (.int .i64 (cnt : Int))) := by
  go_enter Tryz.func17, Tryz.ntmps17
  go_wp2_with fail
  refine (qis_any w p side hs q0).mono ?_
  rintro e w' ⟨rfl, hw⟩
  subst w'
  go_wp2
  go_ret
  exact ⟨rfl, rfl⟩
set_option maxHeartbeats 2000000 in
set_option maxRecDepth 20000 in
theorem leaf_any (w : World) (O : Nat → Option QRo) (p side dep cnt m : Nat) (last : Int) (L : List (List Nat)) (pv lv : Value) (h : QuI w O p side dep cnt m last L pv lv) (hd : m < dep) (hd4 : dep ≤ 4) (hl : last = 0 ∧ m = 0 ∨ last = 1 ∧ m + 1 = dep) :
    Calls Tryz.prog 113 #[.pointer (some ⟨p, 0, none⟩), .int .i64 0, .int .i64 0] w (Sam w (.int .i64 last)) := by
  have q1 : w.cell? ⟨p, 1, none⟩ = some (.int .i64 (dep : Int)) := h.blk.cell 1
  obtain ⟨pg, pc, e, -, -, -, -, hc⟩ := own_cells h.rp (by omega)
  subst e
  have SR := Lib.hid (show ∀ W, Below w.heap.size w W → ∀ k, k ≤ m → W.cell? ⟨p, 3, none⟩ = some (.slice (some ⟨pg, 0, none⟩) (m + 1) pc) ∧ W.cell? ⟨pg, k * 4, none⟩ = some (.int .i64 (if k < m then (k : Int) + 2 else last)) from fun W hb k hk => by
    have hi := h.upd (Upd.of_below hb (fun _ => False)) (fun _ _ => id)
    refine ⟨hi.blk.cell 3, ?_⟩
    have hcc := (own_cells hi.rp (by omega))
    obtain ⟨g', c', e', -, -, -, -, hc'⟩ := hcc
    injection e' with e'
    injection e' with e'
    injection e' with e'
    subst e'
    by_cases hkm : k < m
    · rw [if_pos hkm]
      exact (hc' _ _ (qsC_in hkm)).1
    · obtain rfl : k = m := by omega
      rw [if_neg hkm]
      exact (hc' _ _ qsC_last).1)
  obtain ⟨n, hn⟩ : ∃ n, m + 1 = n := ⟨_, rfl⟩
  rw [hn] at SR
  have hw1 : IntKind.i64.wrap ((dep : Int) - 1) = (dep : Int) - 1 := by rw [IntKind.wrap_i64]; omega
  clear h hc
  go_enter Tryz.func113, Tryz.ntmps113
  go_wp2_with fail
  clear q1
  go_loopw [7, 8] (fun a l wr => ∃ k : Nat, k ≤ m ∧ a = .int .i64 k ∧ l = .int .i64 ((dep : Int) - 1 - k) ∧ Hid (Below w.heap.size w wr)) (fun _ l _ => (intOf l + 1).toNat)
  case atStart => exact ⟨0, Nat.zero_le _, rfl, by simp, Lib.hid (Below.refl _ _)⟩
  case round =>
    obtain ⟨k, hk, rfl, rfl, hb⟩ := hrel
    obtain ⟨l, hl0⟩ : ∃ l : Nat, (dep : Int) - 1 - (k : Int) = (l : Int) := ⟨dep - 1 - k, by omega⟩
    rw [hl0]
    have hl10 : l ≤ 10 := by omega
    have hge : (0 : Int) ≤ (l : Int) := by omega
    have hkn : (k : Int) < (n : Int) := by omega
    have hS := SR.out wr.drew hb.out.drew k hk
    have hwy := way_any l hl10 wr.drew
    have HB := Lib.hid hb.out.drew
    clear hb
    go_upto_region 5 with (fail)
    refine wp_region_ord (fun W => W.cell? ⟨p, 3, none⟩ = some (.slice (some ⟨pg, 0, none⟩) n pc) ∧ W.cell? ⟨pg, k * 4, none⟩ = some (.int .i64 (if k < m then (k : Int) + 2 else last))) 13 [(0, true), (1, true), (2, true), (3, true), (4, true), (5, true), (6, true), (7, true), (9, true), (8, false), (10, true), (11, true), (12, true)] (by kernel_rfl) (by kernel_rfl) (fun _ _ d _ _ h => by cases d <;> exact h) hS ?_
    generalize wr.drew = V0 at hS hwy HB ⊢
    iterate 9 (refine ord_take (v := ?_) rfl (by first | with_reducible rfl | kernel_rfl) ?_ ?_; rotate_left; (focus (intro wS hS; (try dsimp only at hS); go_split_ands; go_simp; (try with_reducible rfl); done)); (try simp only [Act.put, List.getElem_toArray, List.getElem_cons_succ, List.getElem_cons_zero, List.setIfInBounds_toArray, List.set_cons_zero, List.set_cons_succ]))
    refine ord_do rfl rfl (fun K hK => ?_)
    go_simp
    refine hwy.mono ?_
    clear hwy
    rintro e V1 ⟨rfl, b1⟩
    have HB1 := Lib.hid (HB.out.trans (b1.mono HB.out.size))
    have hS := SR.out V1 HB1.out k hk
    refine hK _ _ (fun _ => hS) ?_
    clear hK K b1
    (try simp only [Act.put, List.getElem_toArray, List.getElem_cons_succ, List.getElem_cons_zero, List.setIfInBounds_toArray, List.set_cons_zero, List.set_cons_succ])
    iterate 3 (refine ord_take (v := ?_) rfl (by first | with_reducible rfl | kernel_rfl) ?_ ?_; rotate_left; (focus (intro wS hS; (try dsimp only at hS); go_split_ands; go_simp; (try with_reducible rfl); done)); (try simp only [Act.put, List.getElem_toArray, List.getElem_cons_succ, List.getElem_cons_zero, List.setIfInBounds_toArray, List.set_cons_zero, List.set_cons_succ]))
    refine ord_done ?_
    clear hS
    by_cases hkm : k < m
    · rw [if_pos hkm]
      have z0 : ((k : Int) + 2 == 0) = false := by simp; omega
      have z1 : ((l : Int) == 0) = false := by
        have : l ≠ 0 := by omega
        simpa using this
      have w0 : IntKind.i64.wrap ((k : Int) + 1) = (k : Int) + 1 := IntWalk.i64_in _ (by omega)
      have w1 : IntKind.i64.wrap ((l : Int) - 1) = (l : Int) - 1 := by rw [IntKind.wrap_i64]; omega
      go_wp2
      go_roundw
      case rel => exact ⟨k + 1, by omega, by go_num, by congr 1; omega, HB1⟩
      case measure => simp [intOf] <;> omega
    · rw [if_neg hkm]
      rcases hl with ⟨rfl, hm⟩ | ⟨rfl, hm⟩
      · go_wp2
        go_ret
        exact ⟨rfl, HB1.out⟩
      · obtain rfl : l = 0 := by omega
        go_wp2
        go_ret
        exact ⟨rfl, HB1.out⟩
end Go.Proofs.YtnmkieiehjajlaaGreatDoor
