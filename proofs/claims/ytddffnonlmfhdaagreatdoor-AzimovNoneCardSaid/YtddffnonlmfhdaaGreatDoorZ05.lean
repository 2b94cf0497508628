/- Blocks of bits: two blocks, word by word; Blocks of bits: Get; quad: the ways of a corner; Graphs: a hop put in its place; Edges: Of; two graphs that are the same; Edges: cut to what this seat wants; Graphs that grow: the plain law (no program in sight); A region that draws its order: some stable operations are taken first; of the rest every order is walked, stable ones taken as they come up. Nothing here names the program; A region that draws its order: every order is walked, stable operations taken as they come up; behind the late ones (for which all that is taken waits not) nothing stable need hold. Nothing here names the program; Graphs: a graph that grows, in memory. -/
import Derived.Laws.BitsAllLaws
import Derived.Test.YtddffnonlmfhdaaGreatDoorZ01
import Derived.Test.YtddffnonlmfhdaaGreatDoorZ04
set_option linter.unusedVariables false
set_option linter.unusedSimpArgs false
namespace Go.Proofs.YtddffnonlmfhdaaGreatDoor
open Go.RowKit
def zero64 : List Nat := List.replicate 64 0
def lessN (x y : Nat) : Nat := x &&& (18446744073709551615 - y)
def orN (x y : Nat) : Nat := x ||| y
/-- The first k words are told. -/
def mixW (f : Nat → Nat → Nat) (a b : List Nat) (k : Nat) : List Nat := (List.zipWith f a b).take k ++ a.drop k
theorem mixW_zero (f : Nat → Nat → Nat) (a b : List Nat) : mixW f a b 0 = a := by simp [mixW]
theorem mixW_all {f : Nat → Nat → Nat} {a b : List Nat} (ha : a.length = 64) (hb : b.length = 64) : mixW f a b 64 = List.zipWith f a b := by
  unfold mixW
  rw [List.take_of_length_le (by rw [List.length_zipWith, ha, hb]; decide), List.drop_of_length_le (by omega), List.append_nil]
theorem mixW_at {f : Nat → Nat → Nat} {a b : List Nat} {k x : Nat} (hab : a.length = b.length) (h : a[k]? = some x) : (mixW f a b k)[k]? = some x := by
  have hk := (List.getElem?_eq_some_iff.1 h).1
  unfold mixW
  have hl : ((List.zipWith f a b).take k).length = k := by rw [List.length_take, List.length_zipWith]; omega
  rw [List.getElem?_append_right (by omega), hl, Nat.sub_self, List.getElem?_drop, Nat.add_zero, h]
theorem mixW_set {f : Nat → Nat → Nat} {a b : List Nat} {k x y : Nat} (hab : a.length = b.length) (hx : a[k]? = some x) (hy : b[k]? = some y) : (mixW f a b k).set k (f x y) = mixW f a b (k + 1) := by
  obtain ⟨hk, hxe⟩ := List.getElem?_eq_some_iff.1 hx
  have hz : (List.zipWith f a b)[k]? = some (f x y) := by rw [List.getElem?_zipWith, hx, hy]
  have hl : ((List.zipWith f a b).take k).length = k := by rw [List.length_take, List.length_zipWith]; omega
  unfold mixW
  rw [List.set_append_right _ _ (by omega), hl, Nat.sub_self, List.drop_eq_getElem_cons hk, List.set_cons_zero, List.take_add_one, hz, Option.toList_some, List.append_assoc, List.singleton_append]
theorem zero64_blk {W : World} {g : Nat} {t : TypeId} : Blk W g t #[Value.int .u64 0, .int .u64 0, .int .u64 0, .int .u64 0, .int .u64 0, .int .u64 0, .int .u64 0, .int .u64 0, .int .u64 0, .int .u64 0, .int .u64 0, .int .u64 0, .int .u64 0, .int .u64 0, .int .u64 0, .int .u64 0, .int .u64 0, .int .u64 0, .int .u64 0, .int .u64 0, .int .u64 0, .int .u64 0, .int .u64 0, .int .u64 0, .int .u64 0, .int .u64 0, .int .u64 0, .int .u64 0, .int .u64 0, .int .u64 0, .int .u64 0, .int .u64 0, .int .u64 0, .int .u64 0, .int .u64 0, .int .u64 0, .int .u64 0, .int .u64 0, .int .u64 0, .int .u64 0, .int .u64 0, .int .u64 0, .int .u64 0, .int .u64 0, .int .u64 0, .int .u64 0, .int .u64 0, .int .u64 0, .int .u64 0, .int .u64 0, .int .u64 0, .int .u64 0, .int .u64 0, .int .u64 0, .int .u64 0, .int .u64 0, .int .u64 0, .int .u64 0, .int .u64 0, .int .u64 0, .int .u64 0, .int .u64 0, .int .u64 0, .int .u64 0] ↔ Blk W g t (wdC zero64).toArray := by
  have e : #[Value.int .u64 0, .int .u64 0, .int .u64 0, .int .u64 0, .int .u64 0, .int .u64 0, .int .u64 0, .int .u64 0, .int .u64 0, .int .u64 0, .int .u64 0, .int .u64 0, .int .u64 0, .int .u64 0, .int .u64 0, .int .u64 0, .int .u64 0, .int .u64 0, .int .u64 0, .int .u64 0, .int .u64 0, .int .u64 0, .int .u64 0, .int .u64 0, .int .u64 0, .int .u64 0, .int .u64 0, .int .u64 0, .int .u64 0, .int .u64 0, .int .u64 0, .int .u64 0, .int .u64 0, .int .u64 0, .int .u64 0, .int .u64 0, .int .u64 0, .int .u64 0, .int .u64 0, .int .u64 0, .int .u64 0, .int .u64 0, .int .u64 0, .int .u64 0, .int .u64 0, .int .u64 0, .int .u64 0, .int .u64 0, .int .u64 0, .int .u64 0, .int .u64 0, .int .u64 0, .int .u64 0, .int .u64 0, .int .u64 0, .int .u64 0, .int .u64 0, .int .u64 0, .int .u64 0, .int .u64 0, .int .u64 0, .int .u64 0, .int .u64 0, .int .u64 0] = (wdC zero64).toArray := by kernel_rfl
  rw [e]
theorem there_blk {W : World} {g n : Nat} {t : TypeId} {cs : Array Value} (h : Blk W g t cs) (hn : n ≤ cs.size) : W.there g 0 n := fun i hi => by
  have hlt : i < cs.size := by omega
  rw [Nat.zero_add]
  exact ⟨by rw [h.cell i, Array.getElem?_eq_getElem hlt]; rfl, h.frozen i⟩
theorem one_wd (r : List Nat) : ∀ v ∈ wdC r, v.oneCell' = true := fun v hv => by
  obtain ⟨x, _, rfl⟩ := List.mem_map.1 hv
  rfl
theorem u64_lessN (x y : Nat) (hx : x < 18446744073709551616) (hy : y < 18446744073709551616) : bits .andNot .u64 (x : Int) (y : Int) = ((lessN x y : Nat) : Int) := u64_andNot_nat x y hx hy
theorem mem_zip {f : Nat → Nat → Nat} : ∀ {a b : List Nat} {z : Nat}, z ∈ List.zipWith f a b → ∃ x ∈ a, ∃ y ∈ b, z = f x y
  | [], _, _, h => by simp at h
  | _ :: _, [], _, h => by simp at h
  | x :: a, y :: b, z, h => by
    rw [List.zipWith_cons_cons, List.mem_cons] at h
    rcases h with rfl | h
    · exact ⟨x, by simp, y, by simp, rfl⟩
    · obtain ⟨x', hx, y', hy, e⟩ := mem_zip h
      exact ⟨x', by simp [hx], y', by simp [hy], e⟩
theorem less_wd {a b : List Nat} (ha : Wd a) (hb : Wd b) : Wd (List.zipWith lessN a b) := ⟨by rw [List.length_zipWith, ha.len, hb.len]; decide, fun z hz => by
  obtain ⟨x, hx, y, _, rfl⟩ := mem_zip hz
  exact Nat.lt_of_le_of_lt Nat.and_le_left (ha.fit x hx)⟩
theorem u64_orN (x y : Nat) (hx : x < 18446744073709551616) (hy : y < 18446744073709551616) : bits .or .u64 (x : Int) (y : Int) = ((orN x y : Nat) : Int) := bits_or_u64_nat x y hx hy
theorem or_wd {a b : List Nat} (ha : Wd a) (hb : Wd b) : Wd (List.zipWith orN a b) := ⟨by rw [List.length_zipWith, ha.len, hb.len]; decide, fun z hz => by
  obtain ⟨x, hx, y, hy, rfl⟩ := mem_zip hz
  exact Nat.or_lt_two_pow (n := 64) (ha.fit x hx) (hb.fit y hy)⟩
theorem wdC_set (r : List Nat) (k x : Nat) : (wdC r).toArray.setIfInBounds k (.int .u64 (x : Int)) = (wdC (r.set k x)).toArray := by
  simp [wdC, List.map_set]
set_option maxHeartbeats 4000000 in
set_option maxRecDepth 20000 in
theorem bless_any (w : World) (a b : List Nat) (ha : Wd a) (hb : Wd b) : Calls Tryz.prog 146 #[wdV a, wdV b] w (Sam w (wdV (List.zipWith lessN a b))) := by
  have k0 := ((Blk.new w 168 (wdC a).toArray).alloc (.cells (wdC b).toArray 168)).alloc (.cells #[Value.int .u64 0, .int .u64 0, .int .u64 0, .int .u64 0, .int .u64 0, .int .u64 0, .int .u64 0, .int .u64 0, .int .u64 0, .int .u64 0, .int .u64 0, .int .u64 0, .int .u64 0, .int .u64 0, .int .u64 0, .int .u64 0, .int .u64 0, .int .u64 0, .int .u64 0, .int .u64 0, .int .u64 0, .int .u64 0, .int .u64 0, .int .u64 0, .int .u64 0, .int .u64 0, .int .u64 0, .int .u64 0, .int .u64 0, .int .u64 0, .int .u64 0, .int .u64 0, .int .u64 0, .int .u64 0, .int .u64 0, .int .u64 0, .int .u64 0, .int .u64 0, .int .u64 0, .int .u64 0, .int .u64 0, .int .u64 0, .int .u64 0, .int .u64 0, .int .u64 0, .int .u64 0, .int .u64 0, .int .u64 0, .int .u64 0, .int .u64 0, .int .u64 0, .int .u64 0, .int .u64 0, .int .u64 0, .int .u64 0, .int .u64 0, .int .u64 0, .int .u64 0, .int .u64 0, .int .u64 0, .int .u64 0, .int .u64 0, .int .u64 0, .int .u64 0] 168)
  have k1 := (Blk.new (w.alloc (.cells (wdC a).toArray 168)) 168 (wdC b).toArray).alloc (.cells #[Value.int .u64 0, .int .u64 0, .int .u64 0, .int .u64 0, .int .u64 0, .int .u64 0, .int .u64 0, .int .u64 0, .int .u64 0, .int .u64 0, .int .u64 0, .int .u64 0, .int .u64 0, .int .u64 0, .int .u64 0, .int .u64 0, .int .u64 0, .int .u64 0, .int .u64 0, .int .u64 0, .int .u64 0, .int .u64 0, .int .u64 0, .int .u64 0, .int .u64 0, .int .u64 0, .int .u64 0, .int .u64 0, .int .u64 0, .int .u64 0, .int .u64 0, .int .u64 0, .int .u64 0, .int .u64 0, .int .u64 0, .int .u64 0, .int .u64 0, .int .u64 0, .int .u64 0, .int .u64 0, .int .u64 0, .int .u64 0, .int .u64 0, .int .u64 0, .int .u64 0, .int .u64 0, .int .u64 0, .int .u64 0, .int .u64 0, .int .u64 0, .int .u64 0, .int .u64 0, .int .u64 0, .int .u64 0, .int .u64 0, .int .u64 0, .int .u64 0, .int .u64 0, .int .u64 0, .int .u64 0, .int .u64 0, .int .u64 0, .int .u64 0, .int .u64 0] 168)
  have k2 := Blk.new ((w.alloc (.cells (wdC a).toArray 168)).alloc (.cells (wdC b).toArray 168)) 168 #[Value.int .u64 0, .int .u64 0, .int .u64 0, .int .u64 0, .int .u64 0, .int .u64 0, .int .u64 0, .int .u64 0, .int .u64 0, .int .u64 0, .int .u64 0, .int .u64 0, .int .u64 0, .int .u64 0, .int .u64 0, .int .u64 0, .int .u64 0, .int .u64 0, .int .u64 0, .int .u64 0, .int .u64 0, .int .u64 0, .int .u64 0, .int .u64 0, .int .u64 0, .int .u64 0, .int .u64 0, .int .u64 0, .int .u64 0, .int .u64 0, .int .u64 0, .int .u64 0, .int .u64 0, .int .u64 0, .int .u64 0, .int .u64 0, .int .u64 0, .int .u64 0, .int .u64 0, .int .u64 0, .int .u64 0, .int .u64 0, .int .u64 0, .int .u64 0, .int .u64 0, .int .u64 0, .int .u64 0, .int .u64 0, .int .u64 0, .int .u64 0, .int .u64 0, .int .u64 0, .int .u64 0, .int .u64 0, .int .u64 0, .int .u64 0, .int .u64 0, .int .u64 0, .int .u64 0, .int .u64 0, .int .u64 0, .int .u64 0, .int .u64 0, .int .u64 0]
  simp only [World.size_alloc] at k1 k2
  have u0 : Below w.heap.size w (((w.alloc (.cells (wdC a).toArray 168)).alloc (.cells (wdC b).toArray 168)).alloc (.cells #[Value.int .u64 0, .int .u64 0, .int .u64 0, .int .u64 0, .int .u64 0, .int .u64 0, .int .u64 0, .int .u64 0, .int .u64 0, .int .u64 0, .int .u64 0, .int .u64 0, .int .u64 0, .int .u64 0, .int .u64 0, .int .u64 0, .int .u64 0, .int .u64 0, .int .u64 0, .int .u64 0, .int .u64 0, .int .u64 0, .int .u64 0, .int .u64 0, .int .u64 0, .int .u64 0, .int .u64 0, .int .u64 0, .int .u64 0, .int .u64 0, .int .u64 0, .int .u64 0, .int .u64 0, .int .u64 0, .int .u64 0, .int .u64 0, .int .u64 0, .int .u64 0, .int .u64 0, .int .u64 0, .int .u64 0, .int .u64 0, .int .u64 0, .int .u64 0, .int .u64 0, .int .u64 0, .int .u64 0, .int .u64 0, .int .u64 0, .int .u64 0, .int .u64 0, .int .u64 0, .int .u64 0, .int .u64 0, .int .u64 0, .int .u64 0, .int .u64 0, .int .u64 0, .int .u64 0, .int .u64 0, .int .u64 0, .int .u64 0, .int .u64 0, .int .u64 0] 168)) := by (repeat (first | exact Below.refl _ _ | apply Below.drew | refine Below.alloc ?_ (by first | exact Nat.le_refl _ | (simp; done) | (simp; omega)) _ | refine Below.setCell ?_ (by first | exact Nat.le_refl _ | (simp; done) | (simp; omega)) _))
  have H := Lib.hid (And.intro ha (And.intro hb (And.intro k0 (And.intro k1 (And.intro (zero64_blk.mp k2) u0)))))
  clear k0 k1 k2 u0 ha hb
  unfold wdV
  go_enter Tryz.func146, Tryz.ntmps146
  go_upto_region 1 with (fail)
  generalize ((w.alloc (.cells (wdC a).toArray 168)).alloc (.cells (wdC b).toArray 168)).alloc (.cells #[Value.int .u64 0, .int .u64 0, .int .u64 0, .int .u64 0, .int .u64 0, .int .u64 0, .int .u64 0, .int .u64 0, .int .u64 0, .int .u64 0, .int .u64 0, .int .u64 0, .int .u64 0, .int .u64 0, .int .u64 0, .int .u64 0, .int .u64 0, .int .u64 0, .int .u64 0, .int .u64 0, .int .u64 0, .int .u64 0, .int .u64 0, .int .u64 0, .int .u64 0, .int .u64 0, .int .u64 0, .int .u64 0, .int .u64 0, .int .u64 0, .int .u64 0, .int .u64 0, .int .u64 0, .int .u64 0, .int .u64 0, .int .u64 0, .int .u64 0, .int .u64 0, .int .u64 0, .int .u64 0, .int .u64 0, .int .u64 0, .int .u64 0, .int .u64 0, .int .u64 0, .int .u64 0, .int .u64 0, .int .u64 0, .int .u64 0, .int .u64 0, .int .u64 0, .int .u64 0, .int .u64 0, .int .u64 0, .int .u64 0, .int .u64 0, .int .u64 0, .int .u64 0, .int .u64 0, .int .u64 0, .int .u64 0, .int .u64 0, .int .u64 0, .int .u64 0] 168) = W0 at H ⊢
  go_wp2_with fail
  go_loopw [6] (fun i wr => ∃ k : Nat, k ≤ 64 ∧ i = .int .i64 k ∧ Hid (Blk wr w.heap.size 168 (wdC (mixW lessN a b k)).toArray) ∧ Hid (Blk wr (w.heap.size + 1) 168 (wdC b).toArray) ∧ Hid (Blk wr (w.heap.size + 1 + 1) 168 (wdC zero64).toArray) ∧ Hid (Below w.heap.size w wr)) (fun i _ => 64 - (intOf i).toNat)
  case atStart => exact ⟨0, Nat.zero_le _, rfl, Lib.hid (by rw [mixW_zero]; exact H.out.2.2.1), Lib.hid H.out.2.2.2.1, Lib.hid H.out.2.2.2.2.1, Lib.hid H.out.2.2.2.2.2⟩
  case round =>
    obtain ⟨k, hk, rfl, hA, hB, hC, hbw⟩ := hrel
    have hab : a.length = b.length := by rw [H.out.1.len, H.out.2.1.len]
    by_cases hlt : k < 64
    · have hltI : (k : Int) < (64 : Int) := by omega
      have hkw : IntKind.i64.wrap ((k : Int) + 1) = (k : Int) + 1 := IntWalk.i64_in _ (by omega)
      obtain ⟨x, hx⟩ : ∃ x, a[k]? = some x := ⟨a[k]'(by rw [H.out.1.len]; exact hlt), List.getElem?_eq_getElem _⟩
      obtain ⟨y, hy⟩ : ∃ x, b[k]? = some x := ⟨b[k]'(by rw [H.out.2.1.len]; exact hlt), List.getElem?_eq_getElem _⟩
      have hop := u64_lessN x y (H.out.1.fit x (List.mem_of_getElem? hx)) (H.out.2.1.fit y (List.mem_of_getElem? hy))
      have c0 : wr.drew.cell? ⟨w.heap.size, k, none⟩ = some (.int .u64 (x : Int)) := (hA.out.drew.cell k).trans (by simpa using wdC_at (mixW_at (f := lessN) hab hx))
      have c1 : wr.drew.cell? ⟨w.heap.size + 1, k, none⟩ = some (.int .u64 (y : Int)) := (hB.out.drew.cell k).trans (by simpa using wdC_at hy)
      have f0 : wr.drew.frozen? ⟨w.heap.size, k, none⟩ = false := hA.out.drew.frozen k
      have hS : wr.drew.cell? ⟨w.heap.size, k, none⟩ = some (.int .u64 (x : Int)) ∧ wr.drew.cell? ⟨w.heap.size + 1, k, none⟩ = some (.int .u64 (y : Int)) := ⟨c0, c1⟩
      have hb2 : Upd (fun q => q = w.heap.size) wr.drew (wr.drew.setCell ⟨w.heap.size, k, none⟩ (.int .u64 ((lessN x y : Nat) : Int))) := (Upd.refl (fun q => q = w.heap.size) wr.drew).setCell (p := ⟨w.heap.size, k, none⟩) (.inl rfl) _
      have HN := Lib.hid (show Blk (wr.drew.setCell ⟨w.heap.size, k, none⟩ (.int .u64 ((lessN x y : Nat) : Int))) w.heap.size 168 (wdC (mixW lessN a b (k + 1))).toArray ∧ Blk (wr.drew.setCell ⟨w.heap.size, k, none⟩ (.int .u64 ((lessN x y : Nat) : Int))) (w.heap.size + 1) 168 (wdC b).toArray ∧ Blk (wr.drew.setCell ⟨w.heap.size, k, none⟩ (.int .u64 ((lessN x y : Nat) : Int))) (w.heap.size + 1 + 1) 168 (wdC zero64).toArray ∧ Below w.heap.size w (wr.drew.setCell ⟨w.heap.size, k, none⟩ (.int .u64 ((lessN x y : Nat) : Int))) from by
        refine ⟨?_, hB.out.drew.upd hb2 (by omega), hC.out.drew.upd hb2 (by omega), hbw.out.drew.trans (hb2.below (fun q _ e => Nat.le_of_eq e.symm) hbw.out.size)⟩
        have := hA.out.drew.set k (.int .u64 ((lessN x y : Nat) : Int))
        rw [wdC_set, mixW_set hab hx hy] at this
        exact this)
      clear hA hB hC hbw hb2 hx hy c1
      generalize hq : (lessN x y : Nat) = q at hop HN
      clear hq
      go_upto_region 4 with (fail)
      refine wp_region_ord (fun W => W.cell? ⟨w.heap.size, k, none⟩ = some (.int .u64 (x : Int)) ∧ W.cell? ⟨w.heap.size + 1, k, none⟩ = some (.int .u64 (y : Int))) 8 [(0, true), (1, true), (2, true), (3, true), (4, true), (5, true), (6, true), (7, true), (8, false)] (by kernel_rfl) (by kernel_rfl) (fun _ _ d _ _ h => by cases d <;> exact h) hS ?_
      generalize wr.drew = V0 at hS c0 f0 HN ⊢
      iterate 8 (refine ord_takeA rfl ?_; (try simp only [Act.put, List.getElem_toArray, List.getElem_cons_succ, List.getElem_cons_zero, List.setIfInBounds_toArray, List.set_cons_zero, List.set_cons_succ]))
      refine ord_do rfl rfl (fun K hK => ?_)
      go_simp
      refine hK _ _ (fun h => absurd rfl h) ?_
      clear hK K hS c0 f0 hop
      (try simp only [Act.put, List.getElem_toArray, List.getElem_cons_succ, List.getElem_cons_zero, List.setIfInBounds_toArray, List.set_cons_zero, List.set_cons_succ])
      refine ord_done ?_
      generalize V0.setCell ⟨w.heap.size, k, none⟩ (.int .u64 (q : Int)) = W1 at HN ⊢
      go_wp2
      go_roundw
      case rel => exact ⟨k + 1, by omega, by go_num, Lib.hid HN.out.1, Lib.hid HN.out.2.1, Lib.hid HN.out.2.2.1, Lib.hid HN.out.2.2.2⟩
      case measure => simp [intOf]; omega
    · obtain rfl : k = 64 := by omega
      have hA2 := hA.out
      rw [mixW_all H.out.1.len H.out.2.1.len] at hA2
      have hz : Wd (List.zipWith lessN a b) := less_wd H.out.1 H.out.2.1
      have hrg := range_blk hA2
      have hsz := info_wd hz
      have hth : wr.there (w.heap.size + 1 + 1) 0 (wdC (List.zipWith lessN a b)).toArray.size := there_blk hC.out (by simp [wdC_len, hz.len, zero64])
      have hsz2 : (Tryz.prog.info? 168).map (·.size) = some (wdC (List.zipWith lessN a b)).toArray.size := by simpa using hsz
      have h1c : (wdC (List.zipWith lessN a b)).toArray.all (·.oneCell') = true := all_oneCell_toArray (one_wd _)
      have FIN := Lib.hid (show Below w.heap.size w (wr.setCells (w.heap.size + 1 + 1) 0 (wdC (List.zipWith lessN a b))) ∧ (wr.setCells (w.heap.size + 1 + 1) 0 (wdC (List.zipWith lessN a b))).rangeAt (w.heap.size + 1 + 1) 0 (wdC (List.zipWith lessN a b)) from ⟨hbw.out.trans ((Upd.setCells (F := fun q => q = w.heap.size + 1 + 1) (.inl rfl) _ _ (Upd.refl _ _)).below (fun q _ e => by omega) hbw.out.size), World.rangeAt_setCells_same _ _ _ _ (by simpa using hth)⟩)
      clear hA hB hC hbw hA2
      go_upto_region 6 with (fail)
      go_wp2_with (first | (refine wpList_load_mid rfl 168 _ rfl w.heap.size 0 rfl (wdC (List.zipWith lessN a b)) (.array 64 166) hrg Tryz.underlying168 rfl hsz ?_) | (refine wpList_store_mid rfl 168 _ _ rfl (w.heap.size + 1 + 1) 0 (wdC (List.zipWith lessN a b)).toArray rfl rfl hth hsz2 h1c ?_))
      have hlv := run_loadVar_mid (P := Tryz.prog) _ (w.heap.size + 1 + 1) 0 168 (wdC (List.zipWith lessN a b)) (.array 64 166) FIN.out.2 Tryz.underlying168 rfl hsz
      refine bodyPost_ret (v := .agg (wdC (List.zipWith lessN a b)).toArray) (by simp [results, Tryz.f146, Act.put, asAddr, hlv, Result.andThen, Sem.run_bind]) rfl ⟨rfl, FIN.out.1⟩
set_option maxHeartbeats 4000000 in
set_option maxRecDepth 20000 in
theorem bor_any (w : World) (a b : List Nat) (ha : Wd a) (hb : Wd b) : Calls Tryz.prog 147 #[wdV a, wdV b] w (Sam w (wdV (List.zipWith orN a b))) := by
  have k0 := ((Blk.new w 168 (wdC a).toArray).alloc (.cells (wdC b).toArray 168)).alloc (.cells #[Value.int .u64 0, .int .u64 0, .int .u64 0, .int .u64 0, .int .u64 0, .int .u64 0, .int .u64 0, .int .u64 0, .int .u64 0, .int .u64 0, .int .u64 0, .int .u64 0, .int .u64 0, .int .u64 0, .int .u64 0, .int .u64 0, .int .u64 0, .int .u64 0, .int .u64 0, .int .u64 0, .int .u64 0, .int .u64 0, .int .u64 0, .int .u64 0, .int .u64 0, .int .u64 0, .int .u64 0, .int .u64 0, .int .u64 0, .int .u64 0, .int .u64 0, .int .u64 0, .int .u64 0, .int .u64 0, .int .u64 0, .int .u64 0, .int .u64 0, .int .u64 0, .int .u64 0, .int .u64 0, .int .u64 0, .int .u64 0, .int .u64 0, .int .u64 0, .int .u64 0, .int .u64 0, .int .u64 0, .int .u64 0, .int .u64 0, .int .u64 0, .int .u64 0, .int .u64 0, .int .u64 0, .int .u64 0, .int .u64 0, .int .u64 0, .int .u64 0, .int .u64 0, .int .u64 0, .int .u64 0, .int .u64 0, .int .u64 0, .int .u64 0, .int .u64 0] 168)
  have k1 := (Blk.new (w.alloc (.cells (wdC a).toArray 168)) 168 (wdC b).toArray).alloc (.cells #[Value.int .u64 0, .int .u64 0, .int .u64 0, .int .u64 0, .int .u64 0, .int .u64 0, .int .u64 0, .int .u64 0, .int .u64 0, .int .u64 0, .int .u64 0, .int .u64 0, .int .u64 0, .int .u64 0, .int .u64 0, .int .u64 0, .int .u64 0, .int .u64 0, .int .u64 0, .int .u64 0, .int .u64 0, .int .u64 0, .int .u64 0, .int .u64 0, .int .u64 0, .int .u64 0, .int .u64 0, .int .u64 0, .int .u64 0, .int .u64 0, .int .u64 0, .int .u64 0, .int .u64 0, .int .u64 0, .int .u64 0, .int .u64 0, .int .u64 0, .int .u64 0, .int .u64 0, .int .u64 0, .int .u64 0, .int .u64 0, .int .u64 0, .int .u64 0, .int .u64 0, .int .u64 0, .int .u64 0, .int .u64 0, .int .u64 0, .int .u64 0, .int .u64 0, .int .u64 0, .int .u64 0, .int .u64 0, .int .u64 0, .int .u64 0, .int .u64 0, .int .u64 0, .int .u64 0, .int .u64 0, .int .u64 0, .int .u64 0, .int .u64 0, .int .u64 0] 168)
  have k2 := Blk.new ((w.alloc (.cells (wdC a).toArray 168)).alloc (.cells (wdC b).toArray 168)) 168 #[Value.int .u64 0, .int .u64 0, .int .u64 0, .int .u64 0, .int .u64 0, .int .u64 0, .int .u64 0, .int .u64 0, .int .u64 0, .int .u64 0, .int .u64 0, .int .u64 0, .int .u64 0, .int .u64 0, .int .u64 0, .int .u64 0, .int .u64 0, .int .u64 0, .int .u64 0, .int .u64 0, .int .u64 0, .int .u64 0, .int .u64 0, .int .u64 0, .int .u64 0, .int .u64 0, .int .u64 0, .int .u64 0, .int .u64 0, .int .u64 0, .int .u64 0, .int .u64 0, .int .u64 0, .int .u64 0, .int .u64 0, .int .u64 0, .int .u64 0, .int .u64 0, .int .u64 0, .int .u64 0, .int .u64 0, .int .u64 0, .int .u64 0, .int .u64 0, .int .u64 0, .int .u64 0, .int .u64 0, .int .u64 0, .int .u64 0, .int .u64 0, .int .u64 0, .int .u64 0, .int .u64 0, .int .u64 0, .int .u64 0, .int .u64 0, .int .u64 0, .int .u64 0, .int .u64 0, .int .u64 0, .int .u64 0, .int .u64 0, .int .u64 0, .int .u64 0]
  simp only [World.size_alloc] at k1 k2
  have u0 : Below w.heap.size w (((w.alloc (.cells (wdC a).toArray 168)).alloc (.cells (wdC b).toArray 168)).alloc (.cells #[Value.int .u64 0, .int .u64 0, .int .u64 0, .int .u64 0, .int .u64 0, .int .u64 0, .int .u64 0, .int .u64 0, .int .u64 0, .int .u64 0, .int .u64 0, .int .u64 0, .int .u64 0, .int .u64 0, .int .u64 0, .int .u64 0, .int .u64 0, .int .u64 0, .int .u64 0, .int .u64 0, .int .u64 0, .int .u64 0, .int .u64 0, .int .u64 0, .int .u64 0, .int .u64 0, .int .u64 0, .int .u64 0, .int .u64 0, .int .u64 0, .int .u64 0, .int .u64 0, .int .u64 0, .int .u64 0, .int .u64 0, .int .u64 0, .int .u64 0, .int .u64 0, .int .u64 0, .int .u64 0, .int .u64 0, .int .u64 0, .int .u64 0, .int .u64 0, .int .u64 0, .int .u64 0, .int .u64 0, .int .u64 0, .int .u64 0, .int .u64 0, .int .u64 0, .int .u64 0, .int .u64 0, .int .u64 0, .int .u64 0, .int .u64 0, .int .u64 0, .int .u64 0, .int .u64 0, .int .u64 0, .int .u64 0, .int .u64 0, .int .u64 0, .int .u64 0] 168)) := by (repeat (first | exact Below.refl _ _ | apply Below.drew | refine Below.alloc ?_ (by first | exact Nat.le_refl _ | (simp; done) | (simp; omega)) _ | refine Below.setCell ?_ (by first | exact Nat.le_refl _ | (simp; done) | (simp; omega)) _))
  have H := Lib.hid (And.intro ha (And.intro hb (And.intro k0 (And.intro k1 (And.intro (zero64_blk.mp k2) u0)))))
  clear k0 k1 k2 u0 ha hb
  unfold wdV
  go_enter Tryz.func147, Tryz.ntmps147
  go_upto_region 1 with (fail)
  generalize ((w.alloc (.cells (wdC a).toArray 168)).alloc (.cells (wdC b).toArray 168)).alloc (.cells #[Value.int .u64 0, .int .u64 0, .int .u64 0, .int .u64 0, .int .u64 0, .int .u64 0, .int .u64 0, .int .u64 0, .int .u64 0, .int .u64 0, .int .u64 0, .int .u64 0, .int .u64 0, .int .u64 0, .int .u64 0, .int .u64 0, .int .u64 0, .int .u64 0, .int .u64 0, .int .u64 0, .int .u64 0, .int .u64 0, .int .u64 0, .int .u64 0, .int .u64 0, .int .u64 0, .int .u64 0, .int .u64 0, .int .u64 0, .int .u64 0, .int .u64 0, .int .u64 0, .int .u64 0, .int .u64 0, .int .u64 0, .int .u64 0, .int .u64 0, .int .u64 0, .int .u64 0, .int .u64 0, .int .u64 0, .int .u64 0, .int .u64 0, .int .u64 0, .int .u64 0, .int .u64 0, .int .u64 0, .int .u64 0, .int .u64 0, .int .u64 0, .int .u64 0, .int .u64 0, .int .u64 0, .int .u64 0, .int .u64 0, .int .u64 0, .int .u64 0, .int .u64 0, .int .u64 0, .int .u64 0, .int .u64 0, .int .u64 0, .int .u64 0, .int .u64 0] 168) = W0 at H ⊢
  go_wp2_with fail
  go_loopw [6] (fun i wr => ∃ k : Nat, k ≤ 64 ∧ i = .int .i64 k ∧ Hid (Blk wr w.heap.size 168 (wdC (mixW orN a b k)).toArray) ∧ Hid (Blk wr (w.heap.size + 1) 168 (wdC b).toArray) ∧ Hid (Blk wr (w.heap.size + 1 + 1) 168 (wdC zero64).toArray) ∧ Hid (Below w.heap.size w wr)) (fun i _ => 64 - (intOf i).toNat)
  case atStart => exact ⟨0, Nat.zero_le _, rfl, Lib.hid (by rw [mixW_zero]; exact H.out.2.2.1), Lib.hid H.out.2.2.2.1, Lib.hid H.out.2.2.2.2.1, Lib.hid H.out.2.2.2.2.2⟩
  case round =>
    obtain ⟨k, hk, rfl, hA, hB, hC, hbw⟩ := hrel
    have hab : a.length = b.length := by rw [H.out.1.len, H.out.2.1.len]
    by_cases hlt : k < 64
    · have hltI : (k : Int) < (64 : Int) := by omega
      have hkw : IntKind.i64.wrap ((k : Int) + 1) = (k : Int) + 1 := IntWalk.i64_in _ (by omega)
      obtain ⟨x, hx⟩ : ∃ x, a[k]? = some x := ⟨a[k]'(by rw [H.out.1.len]; exact hlt), List.getElem?_eq_getElem _⟩
      obtain ⟨y, hy⟩ : ∃ x, b[k]? = some x := ⟨b[k]'(by rw [H.out.2.1.len]; exact hlt), List.getElem?_eq_getElem _⟩
      have hop := u64_orN x y (H.out.1.fit x (List.mem_of_getElem? hx)) (H.out.2.1.fit y (List.mem_of_getElem? hy))
      have c0 : wr.drew.cell? ⟨w.heap.size, k, none⟩ = some (.int .u64 (x : Int)) := (hA.out.drew.cell k).trans (by simpa using wdC_at (mixW_at (f := orN) hab hx))
      have c1 : wr.drew.cell? ⟨w.heap.size + 1, k, none⟩ = some (.int .u64 (y : Int)) := (hB.out.drew.cell k).trans (by simpa using wdC_at hy)
      have f0 : wr.drew.frozen? ⟨w.heap.size, k, none⟩ = false := hA.out.drew.frozen k
      have hS : wr.drew.cell? ⟨w.heap.size, k, none⟩ = some (.int .u64 (x : Int)) ∧ wr.drew.cell? ⟨w.heap.size + 1, k, none⟩ = some (.int .u64 (y : Int)) := ⟨c0, c1⟩
      have hb2 : Upd (fun q => q = w.heap.size) wr.drew (wr.drew.setCell ⟨w.heap.size, k, none⟩ (.int .u64 ((orN x y : Nat) : Int))) := (Upd.refl (fun q => q = w.heap.size) wr.drew).setCell (p := ⟨w.heap.size, k, none⟩) (.inl rfl) _
      have HN := Lib.hid (show Blk (wr.drew.setCell ⟨w.heap.size, k, none⟩ (.int .u64 ((orN x y : Nat) : Int))) w.heap.size 168 (wdC (mixW orN a b (k + 1))).toArray ∧ Blk (wr.drew.setCell ⟨w.heap.size, k, none⟩ (.int .u64 ((orN x y : Nat) : Int))) (w.heap.size + 1) 168 (wdC b).toArray ∧ Blk (wr.drew.setCell ⟨w.heap.size, k, none⟩ (.int .u64 ((orN x y : Nat) : Int))) (w.heap.size + 1 + 1) 168 (wdC zero64).toArray ∧ Below w.heap.size w (wr.drew.setCell ⟨w.heap.size, k, none⟩ (.int .u64 ((orN x y : Nat) : Int))) from by
        refine ⟨?_, hB.out.drew.upd hb2 (by omega), hC.out.drew.upd hb2 (by omega), hbw.out.drew.trans (hb2.below (fun q _ e => Nat.le_of_eq e.symm) hbw.out.size)⟩
        have := hA.out.drew.set k (.int .u64 ((orN x y : Nat) : Int))
        rw [wdC_set, mixW_set hab hx hy] at this
        exact this)
      clear hA hB hC hbw hb2 hx hy c1
      generalize hq : (orN x y : Nat) = q at hop HN
      clear hq
      go_upto_region 4 with (fail)
      refine wp_region_ord (fun W => W.cell? ⟨w.heap.size, k, none⟩ = some (.int .u64 (x : Int)) ∧ W.cell? ⟨w.heap.size + 1, k, none⟩ = some (.int .u64 (y : Int))) 8 [(0, true), (1, true), (2, true), (3, true), (4, true), (5, true), (6, true), (7, true), (8, false)] (by kernel_rfl) (by kernel_rfl) (fun _ _ d _ _ h => by cases d <;> exact h) hS ?_
      generalize wr.drew = V0 at hS c0 f0 HN ⊢
      iterate 8 (refine ord_takeA rfl ?_; (try simp only [Act.put, List.getElem_toArray, List.getElem_cons_succ, List.getElem_cons_zero, List.setIfInBounds_toArray, List.set_cons_zero, List.set_cons_succ]))
      refine ord_do rfl rfl (fun K hK => ?_)
      go_simp
      refine hK _ _ (fun h => absurd rfl h) ?_
      clear hK K hS c0 f0 hop
      (try simp only [Act.put, List.getElem_toArray, List.getElem_cons_succ, List.getElem_cons_zero, List.setIfInBounds_toArray, List.set_cons_zero, List.set_cons_succ])
      refine ord_done ?_
      generalize V0.setCell ⟨w.heap.size, k, none⟩ (.int .u64 (q : Int)) = W1 at HN ⊢
      go_wp2
      go_roundw
      case rel => exact ⟨k + 1, by omega, by go_num, Lib.hid HN.out.1, Lib.hid HN.out.2.1, Lib.hid HN.out.2.2.1, Lib.hid HN.out.2.2.2⟩
      case measure => simp [intOf]; omega
    · obtain rfl : k = 64 := by omega
      have hA2 := hA.out
      rw [mixW_all H.out.1.len H.out.2.1.len] at hA2
      have hz : Wd (List.zipWith orN a b) := or_wd H.out.1 H.out.2.1
      have hrg := range_blk hA2
      have hsz := info_wd hz
      have hth : wr.there (w.heap.size + 1 + 1) 0 (wdC (List.zipWith orN a b)).toArray.size := there_blk hC.out (by simp [wdC_len, hz.len, zero64])
      have hsz2 : (Tryz.prog.info? 168).map (·.size) = some (wdC (List.zipWith orN a b)).toArray.size := by simpa using hsz
      have h1c : (wdC (List.zipWith orN a b)).toArray.all (·.oneCell') = true := all_oneCell_toArray (one_wd _)
      have FIN := Lib.hid (show Below w.heap.size w (wr.setCells (w.heap.size + 1 + 1) 0 (wdC (List.zipWith orN a b))) ∧ (wr.setCells (w.heap.size + 1 + 1) 0 (wdC (List.zipWith orN a b))).rangeAt (w.heap.size + 1 + 1) 0 (wdC (List.zipWith orN a b)) from ⟨hbw.out.trans ((Upd.setCells (F := fun q => q = w.heap.size + 1 + 1) (.inl rfl) _ _ (Upd.refl _ _)).below (fun q _ e => by omega) hbw.out.size), World.rangeAt_setCells_same _ _ _ _ (by simpa using hth)⟩)
      clear hA hB hC hbw hA2
      go_upto_region 6 with (fail)
      go_wp2_with (first | (refine wpList_load_mid rfl 168 _ rfl w.heap.size 0 rfl (wdC (List.zipWith orN a b)) (.array 64 166) hrg Tryz.underlying168 rfl hsz ?_) | (refine wpList_store_mid rfl 168 _ _ rfl (w.heap.size + 1 + 1) 0 (wdC (List.zipWith orN a b)).toArray rfl rfl hth hsz2 h1c ?_))
      have hlv := run_loadVar_mid (P := Tryz.prog) _ (w.heap.size + 1 + 1) 0 168 (wdC (List.zipWith orN a b)) (.array 64 166) FIN.out.2 Tryz.underlying168 rfl hsz
      refine bodyPost_ret (v := .agg (wdC (List.zipWith orN a b)).toArray) (by simp [results, Tryz.f147, Act.put, asAddr, hlv, Result.andThen, Sem.run_bind]) rfl ⟨rfl, FIN.out.1⟩
end Go.Proofs.YtddffnonlmfhdaaGreatDoor
namespace Go.Proofs.YtddffnonlmfhdaaGreatDoor
open Go.RowKit
set_option maxHeartbeats 1000000 in
set_option maxRecDepth 20000 in
theorem blkin_any (n : Nat) (hn : n < 64) (w : World) : Calls Tryz.prog 143 #[.int .i64 (n : Int)] w (fun e w' => e = .returned (.bool true) ∧ w' = w) := by
  have h0 : (0 : Int) ≤ (n : Int) := by omega
  have h1 : (n : Int) < 64 := by omega
  go_enter Tryz.func143, Tryz.ntmps143
  go_wp2
  go_ret
  exact ⟨rfl, rfl⟩
def bitW (r : List Nat) (i j : Nat) : Bool := (r[i]?.getD 0).testBit j
theorem and_one (x : Nat) (hx : x < 18446744073709551616) (j : Nat) : (bits .and .u64 ((x : Int) / 2 ^ j) 1 == 1) = x.testBit j := by
  rw [show ((x : Int) / 2 ^ j) = ((x / 2 ^ j : Nat) : Int) by push_cast; rfl]
  have hlt : x / 2 ^ j < 18446744073709551616 := Nat.lt_of_le_of_lt (Nat.div_le_self _ _) hx
  have h := bits_and_u64_nat (x / 2 ^ j) 1 hlt (by decide)
  have e : ((1 : Nat) : Int) = 1 := rfl
  rw [e] at h
  rw [h, Nat.and_one_is_mod, Nat.testBit_eq_decide_div_mod_eq]
  by_cases hq : x / 2 ^ j % 2 = 1
  · simp [hq]
  · have : x / 2 ^ j % 2 = 0 := by omega
    simp [this]
set_option maxHeartbeats 1000000 in
set_option maxRecDepth 20000 in
theorem bget_any (w : World) (r : List Nat) (hr : Wd r) (i j : Nat) (hi : i < 64) (hj : j < 64) : Calls Tryz.prog 118 #[wdV r, .int .i64 (i : Int), .int .i64 (j : Int)] w (Sam w (.tuple #[.bool (bitW r i j), .int .i64 0])) := by
  have k0 := Blk.new w 168 (wdC r).toArray
  have u0 : Below w.heap.size w (w.alloc (.cells (wdC r).toArray 168)) := (Below.refl _ _).alloc (Nat.le_refl _) _
  obtain ⟨x, hx⟩ : ∃ x, r[i]? = some x := ⟨r[i]'(by rw [hr.len]; exact hi), List.getElem?_eq_getElem _⟩
  have c0 : (w.alloc (.cells (wdC r).toArray 168)).cell? ⟨w.heap.size, i, none⟩ = some (.int .u64 (x : Int)) := (k0.cell i).trans (by simpa using wdC_at hx)
  have hb : bitW r i j = x.testBit j := by unfold bitW; rw [hx]; rfl
  have ha := and_one x (hr.fit x (List.mem_of_getElem? hx)) j
  rw [hb, ← ha]
  have H := Lib.hid u0
  have hiI : (i : Int) < (64 : Int) := by omega
  have hj0 : ¬ ((j : Int) < 0) := by omega
  clear k0 u0 hx hr hb ha
  unfold wdV
  go_enter Tryz.func118, Tryz.ntmps118
  go_upto_region 1 with (fail)
  generalize w.alloc (.cells (wdC r).toArray 168) = W0 at H c0 ⊢
  go_wp2_with fail
  refine (blkin_any i hi W0).mono ?_
  rintro e w' ⟨rfl, hw⟩
  subst w'
  go_wp2_with fail
  refine (blkin_any j hj W0).mono ?_
  rintro e w' ⟨rfl, hw⟩
  subst w'
  go_wp2
  refine bodyPost_ret (v := .tuple #[.bool (bits .and .u64 ((x : Int) / 2 ^ j) 1 == 1), .int .i64 0]) (by simp [results, Tryz.f118, go_sem]) rfl ⟨rfl, H.out⟩
set_option maxHeartbeats 1000000 in
set_option maxRecDepth 20000 in
theorem way_any (l : Nat) (hl : l ≤ 10) (w : World) : Calls Tryz.prog 155 #[.int .i64 0, .int .i64 0, .int .i64 (l : Int)] w (Sam w (.int .i64 0)) := by
  have h0 : ¬ ((l : Int) < 0) := by omega
  have h1 : bits .and .i64 0 1 = 0 := by decide +kernel
  have h2 : wrap64 0 = 0 := by decide +kernel
  have h3 : bits .or .i64 0 0 = 0 := by decide +kernel
  go_enter Tryz.func155, Tryz.ntmps155
  go_upto_region 1 with (fail)
  go_quiet (fail)
  go_wp2
  go_ret
  exact ⟨rfl, (Upd.refl (fun _ => False) w).drewN _ |>.below (fun _ _ h => h.elim) (Nat.le_refl _)⟩
end Go.Proofs.YtddffnonlmfhdaaGreatDoor
namespace Go.Proofs.YtddffnonlmfhdaaGreatDoor
open Go.RowKit
def putH (L : List Hp) (h : Hp) : List Hp := insAt L (posH L h) h
theorem posH_none {L : List Hp} {h : Hp} (hn : ∀ x ∈ L, ltH x h = false) : posH L h = 0 := by
  unfold posH
  rw [List.countP_eq_zero]
  intro x hx
  rw [hn x hx]
  simp
theorem putH_nil (h : Hp) : putH [] h = [h] := rfl
theorem putH_yes {x : Hp} {L : List Hp} {h : Hp} (hx : ltH x h = true) : putH (x :: L) h = x :: putH L h := by
  unfold putH posH insAt
  rw [List.countP_cons_of_pos (p := fun x => ltH x h) hx]
  rfl
theorem putH_no {x : Hp} {L : List Hp} {h : Hp} (hup : Rises ltH (x :: L)) (hx : ltH x h = false) : putH (x :: L) h = h :: x :: L := by
  unfold putH insAt
  have h0 := (List.pairwise_cons.1 hup).1
  rw [posH_none (fun y hy => by
    rcases List.mem_cons.1 hy with rfl | hy
    · exact hx
    · cases e : ltH y h
      · rfl
      · rw [stoH.tr _ _ _ (h0 y hy) e] at hx
        cases hx)]
  rfl
theorem putH_mem {L : List Hp} {h y : Hp} : y ∈ putH L h ↔ y ∈ L ∨ y = h := by
  unfold putH insAt
  rw [List.mem_append, List.mem_cons]
  have : y ∈ L ↔ y ∈ L.take (posH L h) ∨ y ∈ L.drop (posH L h) := by rw [← List.mem_append, List.take_append_drop]
  rw [this]
  constructor
  · rintro (h | h | h)
    · exact .inl (.inl h)
    · exact .inr h
    · exact .inl (.inr h)
  · rintro ((h | h) | h)
    · exact .inl h
    · exact .inr (.inr h)
    · exact .inr (.inl h)
theorem putH_rises : ∀ {L : List Hp} {h : Hp}, Rises ltH L → h ∉ L → Rises ltH (putH L h)
  | [], h, _, _ => by rw [putH_nil]; exact List.pairwise_singleton _ _
  | x :: L, h, hup, hn => by
    have h0 := List.pairwise_cons.1 hup
    cases hx : ltH x h with
    | true =>
      rw [putH_yes hx]
      refine List.pairwise_cons.2 ⟨fun y hy => ?_, putH_rises h0.2 (fun e => hn (List.mem_cons_of_mem _ e))⟩
      rcases putH_mem.1 hy with h1 | rfl
      · exact h0.1 y h1
      · exact hx
    | false =>
      rw [putH_no hup hx]
      have hhx : ltH h x = true := by
        cases e : ltH h x with
        | true => rfl
        | false => exact (hn (by rw [stoH.tri _ _ e hx]; exact List.mem_cons_self ..)).elim
      refine List.pairwise_cons.2 ⟨fun y hy => ?_, hup⟩
      rcases List.mem_cons.1 hy with rfl | hy
      · exact hhx
      · exact stoH.tr _ _ _ hhx (h0.1 y hy)

set_option maxHeartbeats 2000000 in
set_option maxRecDepth 20000 in
theorem put_any (w : World) (base : Nat) (A : Option Addr) (c : Nat) (L : List Hp) (h : Hp) (own : w.ownsRow base 103 2 (.slice A L.length c) L.length (hpCells L)) (hup : Rises ltH L) (hb : base ≤ w.heap.size) (hl : (L.length + 1) * 24 ≤ 140737488355328) :
    Calls Tryz.prog 92 #[.slice A L.length c, h.agg] w (InsAt w base (.slice A L.length c) (putH L h)) := by
  unfold putH
  obtain ⟨i, hi⟩ : ∃ i, posH L h = i := ⟨_, rfl⟩
  have hil : i ≤ L.length := by rw [← hi]; exact posH_le L h
  rw [hi]
  obtain ⟨s0, s1⟩ := h
  have k0 := Blk.new w 103 #[.string s0, .int .i64 s1]
  have u0 : Below w.heap.size w (w.alloc (.cells #[.string s0, .int .i64 s1] 103)) := (Below.refl _ _).alloc (Nat.le_refl _) _
  have H := Lib.hid (And.intro (own.alloc (.cells #[.string s0, .int .i64 s1] 103)) (And.intro k0 (And.intro u0 (And.intro hup (And.intro (own.lt) hi)))))
  clear k0 u0 own hup hi
  unfold Hp.agg
  dsimp only
  go_enter Tryz.func92, Tryz.ntmps92
  go_upto_region 1 with (fail)
  generalize w.alloc (.cells #[.string s0, .int .i64 s1] 103) = W0 at H ⊢
  have q0 : W0.cell? ⟨w.heap.size, 0, none⟩ = some (.string s0) := H.out.2.1.cell 0
  have q1 : W0.cell? ⟨w.heap.size, 1, none⟩ = some (.int .i64 s1) := H.out.2.1.cell 1
  have hcon := bsf_any W0 A c L ⟨s0, s1⟩ (RowR.of_own H.out.1) H.out.2.2.2.1 (by omega)
  rw [H.out.2.2.2.2.2] at hcon
  unfold Hp.agg at hcon
  dsimp only at hcon
  go_wp2_with fail
  refine hcon.mono ?_
  clear hcon q0 q1
  rintro e w1 ⟨rfl, b1⟩
  have k1 := H.out.2.1.upd (Upd.of_below b1 (fun _ => False)) id
  have k2 := Blk.new w1 103 #[.string s0, .int .i64 s1]
  have o2 := (ownsRow_upd H.out.1 (Upd.of_below b1 (fun _ => False)) (fun _ _ h => h)).alloc (.cells #[.string s0, .int .i64 s1] 103)
  have b2 : Below w.heap.size w (w1.alloc (.cells #[.string s0, .int .i64 s1] 103)) := (H.out.2.2.1.trans (b1.mono H.out.2.2.1.size)).alloc (by have := H.out.2.2.1.size; have := b1.size; omega) _
  have q0 : w1.cell? ⟨w.heap.size, 0, none⟩ = some (.string s0) := k1.cell 0
  have q1 : w1.cell? ⟨w.heap.size, 1, none⟩ = some (.int .i64 s1) := k1.cell 1
  have hne : (Value.slice A L.length c).ownBlock ≠ some w1.heap.size := fun e => by
    have := (H.out.2.2.2.2.1 _ e).2
    have := b2.size
    have := H.out.2.2.1.size
    have := b1.size
    omega
  have hcon := insert_hop _ base A c L o2 w1.heap.size ⟨s0, s1⟩ k2 hne (by have := b2.size; omega) i hil hl
  have HB := Lib.hid b2
  clear k1 k2 o2 b2 b1
  go_wp2_with fail
  refine hcon.mono ?_
  clear hcon q0 q1
  generalize w1.alloc (.cells #[.string s0, .int .i64 s1] 103) = W2 at HB ⊢
  rintro e w3 ⟨A', c', rfl, o3, u3, p3⟩
  have FIN := Lib.hid (show InsAt w base (.slice A L.length c) (insAt L i ⟨s0, s1⟩) (.returned (.slice A' (insAt L i ⟨s0, s1⟩).length c')) w3 from ⟨A', c', rfl, o3, (Upd.of_below HB.out _).trans u3 (fun k hk => .inl hk), fun k hk => by
    rcases p3 k hk with h | h
    · exact .inl h
    · exact .inr (by have := HB.out.size; omega)⟩)
  clear o3 u3 p3
  go_wp2
  go_ret
  exact FIN.out
end Go.Proofs.YtddffnonlmfhdaaGreatDoor
namespace Go.Proofs.YtddffnonlmfhdaaGreatDoor
open Go.RowKit
/-- What Of answers. -/
def OfP (w : World) (N : List Txt) (E : List Ed) (e : Ending) (w' : World) : Prop :=
  (namedB N E = false ∧ e = .returned (.tuple #[twoV none 0 0 none 0 0, .int .i64 173]) ∧ Below w.heap.size w w') ∨ (namedB N E = true ∧ MadeP w N E e w')

set_option maxHeartbeats 1000000 in
set_option maxRecDepth 20000 in
theorem eof_any (w : World) (A : Option Addr) (c : Nat) (B : Option Addr) (d : Nat) (N : List Txt) (E : List Ed) (h : ForG w A c B d N E) (hb : (N.length + E.length * 2) * 16 ≤ 140737488355328) :
    Calls Tryz.prog 108 #[.slice A N.length c, .slice B E.length d] w (OfP w N E) := by
  have k0 := Blk.new w 34 #[.slice none 0 0, .slice none 0 0]
  have u0 : Below w.heap.size w (w.alloc (.cells #[.slice none 0 0, .slice none 0 0] 34)) := (Below.refl _ _).alloc (Nat.le_refl _) _
  have H := Lib.hid (And.intro (h.below u0) (And.intro k0 u0))
  clear h k0 u0
  obtain ⟨b0, hb0⟩ : ∃ b, namedB N E = b := ⟨_, rfl⟩
  have HN := Lib.hid hb0
  clear hb0
  go_enter Tryz.func108, Tryz.ntmps108
  go_upto_region 1 with (fail)
  generalize w.alloc (.cells #[.slice none 0 0, .slice none 0 0] 34) = W0 at H ⊢
  have hz0 : w.heap.size + 1 ≤ W0.heap.size := H.out.2.1.lt
  go_wp2_with fail
  refine (named_any W0 A c B d N E H.out.1).mono ?_
  rintro e w1 ⟨rfl, b1⟩
  rw [HN.out]
  have k1 := H.out.2.1.upd (Upd.of_below b1 (fun _ => False)) id
  have fin : ∀ w8 : World, Blk w8 w.heap.size 34 #[.slice none 0 0, .slice none 0 0] → ∀ v0 v1 : Value, Blk ((w8.setCell ⟨w.heap.size, 0, none⟩ v0).setCell ⟨w.heap.size, 1, none⟩ v1) w.heap.size 34 #[v0, v1] ∧ Upd (fun q => q = w.heap.size) w8 ((w8.setCell ⟨w.heap.size, 0, none⟩ v0).setCell ⟨w.heap.size, 1, none⟩ v1) := fun w8 k8 v0 v1 =>
    ⟨(k8.set 0 v0).set 1 v1, ((Upd.refl (fun q => q = w.heap.size) w8).setCell (p := ⟨w.heap.size, 0, none⟩) (.inl rfl) v0).setCell (p := ⟨w.heap.size, 1, none⟩) (.inl rfl) v1⟩
  have H1 := Lib.hid (And.intro (H.out.1.below b1) (And.intro k1 (H.out.2.2.trans (b1.mono H.out.2.2.size))))
  have FN := Lib.hid fin
  have z1 := b1.size
  clear k1 b1 fin
  cases b0
  · have c0 : w1.cell? ⟨w.heap.size, 0, none⟩ = some (.slice none 0 0) := H1.out.2.1.cell 0
    have c1' : w1.cell? ⟨w.heap.size, 1, none⟩ = some (.slice none 0 0) := H1.out.2.1.cell 1
    have f0 := H1.out.2.1.frozen 0
    have f1 := H1.out.2.1.frozen 1
    obtain ⟨kF, uF⟩ := FN.out _ H1.out.2.1 (.slice none 0 0) (.slice none 0 0)
    have e0 := kF.cell 0
    have e1 := kF.cell 1
    simp only [List.getElem?_toArray, List.getElem?_cons_succ, List.getElem?_cons_zero] at e0 e1
    have FIN := Lib.hid (show OfP w N E (.returned (.tuple #[twoV none 0 0 none 0 0, .int .i64 173])) _ from .inl ⟨HN.out, rfl, H1.out.2.2.trans (uF.below (fun q _ e => by omega) H1.out.2.2.size)⟩)
    clear kF uF
    go_wp2
    refine bodyPost_ret (v := .tuple #[twoV none 0 0 none 0 0, .int .i64 173]) (by simp [results, Tryz.f108, go_sem, twoV, e0, e1]) rfl FIN.out
  · go_wp2_with fail
    refine (made_any w1 A c B d N E H1.out.1 (Short.of HN.out) hb).mono ?_
    rintro e w2 (⟨hc, A2, c2, B2, d2, rfl, oT, oE, b2⟩ | ⟨hc, rfl, b2⟩)
    · have k2 := H1.out.2.1.upd (Upd.of_below b2 (fun _ => False)) id
      have c0 : w2.cell? ⟨w.heap.size, 0, none⟩ = some (.slice none 0 0) := k2.cell 0
      have c1' : w2.cell? ⟨w.heap.size, 1, none⟩ = some (.slice none 0 0) := k2.cell 1
      have f0 := k2.frozen 0
      have f1 := k2.frozen 1
      obtain ⟨n, hn⟩ : ∃ n, (gN N E).length = n := ⟨_, rfl⟩
      obtain ⟨m, hm⟩ : ∃ m, (gE E).length = m := ⟨_, rfl⟩
      obtain ⟨kF, uF⟩ := FN.out _ k2 (.slice A2 n c2) (.slice B2 m d2)
      have e0 := kF.cell 0
      have e1 := kF.cell 1
      simp only [List.getElem?_toArray, List.getElem?_cons_succ, List.getElem?_cons_zero] at e0 e1
      have bw := H1.out.2.2.trans (b2.mono H1.out.2.2.size)
      have FIN := Lib.hid (show OfP w N E (.returned (.tuple #[twoV A2 n c2 B2 m d2, .int .i64 0])) _ from .inr ⟨HN.out, .inl ⟨hc, A2, c2, B2, d2, by rw [hn, hm], ownsRow_base (ownsRow_upd oT uF (fun q hq e => by have := (oT.lt q hq).1; omega)) (fun q hq => by have := (oT.lt q hq).1; omega), ownsRow_base (ownsRow_upd oE uF (fun q hq e => by have := (oE.lt q hq).1; omega)) (fun q hq => by have := (oE.lt q hq).1; omega), bw.trans (uF.below (fun q _ e => by omega) bw.size)⟩⟩)
      rw [hn, hm]
      unfold twoV
      clear kF uF oT oE b2 bw k2 hc hn hm
      go_wp2
      refine bodyPost_ret (v := .tuple #[twoV A2 n c2 B2 m d2, .int .i64 0]) (by simp [results, Tryz.f108, go_sem, twoV, e0, e1]) rfl FIN.out
    · have k2 := H1.out.2.1.upd (Upd.of_below b2 (fun _ => False)) id
      have c0 : w2.cell? ⟨w.heap.size, 0, none⟩ = some (.slice none 0 0) := k2.cell 0
      have c1' : w2.cell? ⟨w.heap.size, 1, none⟩ = some (.slice none 0 0) := k2.cell 1
      have f0 := k2.frozen 0
      have f1 := k2.frozen 1
      obtain ⟨cp, hcp⟩ : ∃ cp, capsI (gN N E) (gE E) = cp := ⟨_, rfl⟩
      obtain ⟨kF, uF⟩ := FN.out _ k2 (.slice none 0 0) (.slice none 0 0)
      have e0 := kF.cell 0
      have e1 := kF.cell 1
      simp only [List.getElem?_toArray, List.getElem?_cons_succ, List.getElem?_cons_zero] at e0 e1
      have bw := H1.out.2.2.trans (b2.mono H1.out.2.2.size)
      have FIN := Lib.hid (show OfP w N E (.returned (.tuple #[twoV none 0 0 none 0 0, .int .i64 cp])) _ from .inr ⟨HN.out, .inr ⟨hc, by rw [hcp], bw.trans (uF.below (fun q _ e => by omega) bw.size)⟩⟩)
      rw [hcp]
      unfold twoV
      clear kF uF b2 bw k2 hc hcp
      go_wp2
      refine bodyPost_ret (v := .tuple #[twoV none 0 0 none 0 0, .int .i64 cp]) (by simp [results, Tryz.f108, go_sem, twoV, e0, e1]) rfl FIN.out
end Go.Proofs.YtddffnonlmfhdaaGreatDoor
namespace Go.Proofs.YtddffnonlmfhdaaGreatDoor
open Go.RowKit
def sameB (N : List Txt) (E : List Ed) (N' : List Txt) (E' : List Ed) : Bool := decide (N = N') && decide (E = E')
end Go.Proofs.YtddffnonlmfhdaaGreatDoor
namespace Go.Proofs.YtddffnonlmfhdaaGreatDoor
open Go.RowKit
theorem flat_sub {α β : Type} [DecidableEq α] (f : α → List β) : ∀ {L M : List α}, L.Nodup → (∀ x ∈ L, x ∈ M) → (L.flatMap f).length ≤ (M.flatMap f).length
  | [], M, _, _ => by simp
  | a :: L, M, hd, hs => by
    obtain ⟨h1, h2⟩ := List.nodup_cons.1 hd
    have hp := List.perm_cons_erase (hs a (by simp))
    have ih := flat_sub f (L := L) (M := M.erase a) h2 (fun x hx => by
      have hne : x ≠ a := by rintro rfl; exact h1 hx
      exact (List.mem_erase_of_ne hne).2 (hs x (by simp [hx])))
    have hl := (hp.flatMap_right f).length_eq
    rw [List.flatMap_cons, List.length_append] at hl ⊢
    omega
theorem len_sub {α : Type} [DecidableEq α] {L M : List α} (hd : L.Nodup) (hs : ∀ x ∈ L, x ∈ M) : L.length ≤ M.length := by
  have := flat_sub (fun x => [x]) hd hs
  simpa using this
theorem Rises.nodup {α : Type} {lt : α → α → Bool} (hs : Sto lt) {l : List α} (h : Rises lt l) : l.Nodup := List.Pairwise.imp (fun {_a _b} h => hs.ne h) h
theorem mem_ends {E : List Ed} {s : Txt} : s ∈ endsTo E E.length ↔ ∃ x ∈ E, s = x.fr ∨ s = x.to := by
  rw [endsTo_iff]
  constructor
  · rintro ⟨i, x, _, hx, h⟩
    exact ⟨x, List.mem_of_getElem? hx, h⟩
  · rintro ⟨x, hx, h⟩
    obtain ⟨i, hi, e⟩ := List.getElem_of_mem hx
    exact ⟨i, x, hi, by rw [List.getElem?_eq_getElem hi, e], h⟩
theorem mem_lone {N : List Txt} {E : List Ed} {s : Txt} : s ∈ loneL N E ↔ s ∈ N ∧ ¬ ∃ x ∈ E, s = x.fr ∨ s = x.to := by
  unfold loneL
  rw [List.mem_filter, ← mem_ends, ← inB_iff (s := s) (N := endsTo E E.length)]
  simp
theorem lineN_len (s : Txt) : (lineN s).length = s.size + 3 := by simp [lineN, sepL]
theorem lineE_len (x : Ed) : (lineE x).length = x.fr.size + x.lb.size + x.to.size + 5 := by simp [lineE, sepL]; omega
theorem ends_lines : ∀ (D : List Ed), (∀ x ∈ D, 1 ≤ x.lb.size) → ((D.flatMap endsL).flatMap lineN).length ≤ (D.flatMap lineE).length
  | [], _ => by simp
  | x :: D, h => by
    have ih := ends_lines D (fun y hy => h y (by simp [hy]))
    have h1 := h x (by simp)
    simp only [List.flatMap_cons, List.flatMap_append, List.length_append, lineE_len]
    simp only [endsL, List.flatMap_cons, List.flatMap_nil, List.append_nil, List.length_append, lineN_len]
    omega
theorem text_sub {N N' : List Txt} {E E' : List Ed} (hN : N'.Nodup) (hE : E.Nodup) (hE' : E'.Nodup) (sN : ∀ s ∈ N', s ∈ N) (sE : ∀ x ∈ E', x ∈ E) (hl : ∀ x ∈ E, 1 ≤ x.lb.size) :
    (textL N' E').length ≤ (textL N E).length := by
  have h1 : (loneL N' E').Nodup := List.Nodup.sublist List.filter_sublist hN
  have h2 : ((loneL N' E').flatMap lineN).length ≤ ((loneL N E ++ (E.filter fun x => !decide (x ∈ E')).flatMap endsL).flatMap lineN).length := by
    refine flat_sub lineN h1 (fun s hs => ?_)
    obtain ⟨m1, m2⟩ := mem_lone.1 hs
    rw [List.mem_append]
    by_cases h : ∃ x ∈ E, s = x.fr ∨ s = x.to
    · obtain ⟨x, hx, hsx⟩ := h
      refine .inr (List.mem_flatMap.2 ⟨x, List.mem_filter.2 ⟨hx, ?_⟩, ?_⟩)
      · simp only [Bool.not_eq_true', decide_eq_false_iff_not]
        intro hx'
        exact m2 ⟨x, hx', hsx⟩
      · simp [endsL]; exact hsx
    · exact .inl (mem_lone.2 ⟨sN s m1, h⟩)
  have h3 := ends_lines (E.filter fun x => !decide (x ∈ E')) (fun x hx => hl x (List.mem_filter.1 hx).1)
  have h4 : ((E' ++ E.filter fun x => !decide (x ∈ E')).flatMap lineE).length ≤ (E.flatMap lineE).length := by
    refine flat_sub lineE ?_ (fun x hx => ?_)
    · rw [List.nodup_append]
      refine ⟨hE', List.Nodup.sublist List.filter_sublist hE, fun a ha b hb => ?_⟩
      rintro rfl
      have := (List.mem_filter.1 hb).2
      simp [ha] at this
    · rcases List.mem_append.1 hx with hx | hx
      · exact sE x hx
      · exact (List.mem_filter.1 hx).1
  unfold textL
  simp only [List.flatMap_append, List.length_append] at h2 h4 ⊢
  omega
theorem lbs_mem {E : List Ed} {s : Txt} : s ∈ lbs E ↔ ∃ x ∈ E, x.lb = s := List.mem_map
theorem caps_sub {N N' : List Txt} {E E' : List Ed} (hN : N'.Nodup) (hE : E.Nodup) (hE' : E'.Nodup) (sN : ∀ s ∈ N', s ∈ N) (sE : ∀ x ∈ E', x ∈ E) (hl : ∀ x ∈ E, 1 ≤ x.lb.size) (h : capsI N E = 0) : capsI N' E' = 0 := by
  unfold capsI at h ⊢
  have h1 := len_sub hN sN
  have h2 : (setOf ltT (lbs E')).length ≤ (setOf ltT (lbs E)).length := len_sub ((setOf_is stoT _).up.nodup stoT) (fun s hs => by
    obtain ⟨x, hx, e⟩ := lbs_mem.1 (((setOf_is stoT _).mem s).1 hs)
    exact ((setOf_is stoT _).mem s).2 (lbs_mem.2 ⟨x, sE x hx, e⟩))
  have h3 := len_sub hE' sE
  have h4 := text_sub hN hE hE' sN sE hl
  split at h
  · omega
  split at h
  · omega
  split at h
  · omega
  split at h
  · omega
  rw [if_neg (by omega), if_neg (by omega), if_neg (by omega), if_neg (by omega)]

/-- May nodes and edges come to a graph? -/
def ofI (N : List Txt) (E : List Ed) : Int := if namedB N E = false then 173 else capsI (gN N E) (gE E)
theorem named_iff {N : List Txt} {E : List Ed} : namedB N E = true ↔ (∀ s ∈ N, nameB s = true) ∧ ∀ x ∈ E, nameB x.fr = true ∧ labelB x.lb = true ∧ nameB x.to = true := by
  unfold namedB edNamed
  simp [List.all_eq_true]
theorem gN_mem {N : List Txt} {E : List Ed} {s : Txt} : s ∈ gN N E ↔ s ∈ N ∨ ∃ x ∈ E, s = x.fr ∨ s = x.to := ((setOf_is stoT _).mem s).trans mem_all
theorem gE_mem {E : List Ed} {x : Ed} : x ∈ gE E ↔ x ∈ E := (setOf_is stoE E).mem x
theorem gN_nodup (N : List Txt) (E : List Ed) : (gN N E).Nodup := (setOf_is stoT _).up.nodup stoT
theorem gE_nodup (E : List Ed) : (gE E).Nodup := (setOf_is stoE _).up.nodup stoE
theorem ofI_named {N : List Txt} {E : List Ed} (h : ofI N E = 0) : namedB N E = true := by
  unfold ofI at h
  split at h
  · cases h
  · rename_i h1; simpa using h1
theorem ofI_caps {N : List Txt} {E : List Ed} (h : ofI N E = 0) : capsI (gN N E) (gE E) = 0 := by
  unfold ofI at h
  split at h
  · cases h
  · exact h
theorem lb_len {N : List Txt} {E : List Ed} (h : namedB N E = true) : ∀ x ∈ E, 1 ≤ x.lb.size := fun x hx => (nameB_short (labelB_name ((named_iff.1 h).2 x hx).2.1)).1
/-- What is told of a graph that may be, may be. -/
theorem ofI_sub {N N' : List Txt} {E E' : List Ed} (sN : ∀ s ∈ N', s ∈ N ∨ ∃ x ∈ E, s = x.fr ∨ s = x.to) (sE : ∀ x ∈ E', x ∈ E) (h : ofI N E = 0) : ofI N' E' = 0 := by
  have hn := ofI_named h
  have hn' : namedB N' E' = true := by
    rw [named_iff] at hn ⊢
    refine ⟨fun s hs => ?_, fun x hx => hn.2 x (sE x hx)⟩
    rcases sN s hs with h1 | ⟨x, hx, rfl | rfl⟩
    · exact hn.1 s h1
    · exact (hn.2 x hx).1
    · exact (hn.2 x hx).2.2
  unfold ofI
  rw [hn']
  simp only [Bool.true_eq_false, if_false]
  refine caps_sub (gN_nodup _ _) (gE_nodup _) (gE_nodup _) (fun s hs => ?_) (fun x hx => gE_mem.2 (sE x (gE_mem.1 hx))) (fun x hx => lb_len hn x (gE_mem.1 hx)) (ofI_caps h)
  rw [gN_mem] at hs ⊢
  rcases hs with h1 | ⟨x, hx, h1⟩
  · exact sN s h1
  · exact .inr ⟨x, sE x hx, h1⟩
theorem gN_same {N N' : List Txt} {E E' : List Ed} (h : ∀ s, (s ∈ N ∨ ∃ x ∈ E, s = x.fr ∨ s = x.to) ↔ (s ∈ N' ∨ ∃ x ∈ E', s = x.fr ∨ s = x.to)) : gN N E = gN N' E' :=
  (setOf_is stoT _).uniq stoT (setOf_is stoT _) (fun s => mem_all.trans ((h s).trans mem_all.symm))
theorem gE_same {E E' : List Ed} (h : ∀ x, x ∈ E ↔ x ∈ E') : gE E = gE E' := (setOf_is stoE _).uniq stoE (setOf_is stoE _) h
theorem ofI_same {N N' : List Txt} {E E' : List Ed} (h : ∀ s, (s ∈ N ∨ ∃ x ∈ E, s = x.fr ∨ s = x.to) ↔ (s ∈ N' ∨ ∃ x ∈ E', s = x.fr ∨ s = x.to)) (k : ∀ x, x ∈ E ↔ x ∈ E')
    (hm : ∀ s ∈ N, s ∈ N' ∨ ∃ x ∈ E', s = x.fr ∨ s = x.to) (hm' : ∀ s ∈ N', s ∈ N ∨ ∃ x ∈ E, s = x.fr ∨ s = x.to) : ofI N E = ofI N' E' := by
  have h1 : namedB N E = namedB N' E' := by
    rw [Bool.eq_iff_iff, named_iff, named_iff]
    constructor
    · rintro ⟨a, b⟩
      refine ⟨fun s hs => ?_, fun x hx => b x ((k x).2 hx)⟩
      rcases hm' s hs with h1 | ⟨x, hx, rfl | rfl⟩
      · exact a s h1
      · exact (b x hx).1
      · exact (b x hx).2.2
    · rintro ⟨a, b⟩
      refine ⟨fun s hs => ?_, fun x hx => b x ((k x).1 hx)⟩
      rcases hm s hs with h1 | ⟨x, hx, rfl | rfl⟩
      · exact a s h1
      · exact (b x hx).1
      · exact (b x hx).2.2
  unfold ofI
  rw [h1, gN_same h, gE_same k]

structure Gr where
  N : List Txt
  X : List Ed
structure GOk (G : Gr) : Prop where
  nd : G.N.Nodup
  xd : G.X.Nodup
  ends : ∀ x ∈ G.X, x.fr ∈ G.N ∧ x.to ∈ G.N
  may : ofI G.N G.X = 0
def addN (N : List Txt) (s : Txt) : List Txt := if inB s N = true then N else N ++ [s]
theorem mem_addN {N : List Txt} {s t : Txt} : t ∈ addN N s ↔ t ∈ N ∨ t = s := by
  unfold addN
  split
  · rename_i h
    constructor
    · exact .inl
    · rintro (h1 | rfl)
      · exact h1
      · exact inB_iff.1 h
  · simp
theorem addN_nodup {N : List Txt} (h : N.Nodup) (s : Txt) : (addN N s).Nodup := by
  unfold addN
  split
  · exact h
  · rename_i hs
    rw [List.nodup_append]
    refine ⟨h, by simp, fun a ha b hb => ?_⟩
    rw [List.mem_singleton] at hb
    subst hb
    rintro rfl
    exact hs (inB_iff.2 ha)
def addNode (G : Gr) (s : Txt) : Gr × Bool × Int :=
  if inB s G.N = true then (G, false, 0) else if ofI (G.N ++ [s]) G.X = 0 then (⟨G.N ++ [s], G.X⟩, true, 0) else (G, false, ofI (G.N ++ [s]) G.X)
def addEdge (G : Gr) (x : Ed) : Gr × Bool × Int :=
  if x ∈ G.X then (G, false, 0) else if ofI G.N (G.X ++ [x]) = 0 then (⟨addN (addN G.N x.fr) x.to, G.X ++ [x]⟩, true, 0) else (G, false, ofI G.N (G.X ++ [x]))
theorem GOk.new : GOk ⟨[], []⟩ := ⟨by simp, by simp, by simp, by
  have h1 : gE [] = [] := by
    have h : ∀ x : Ed, x ∉ gE [] := fun x hx => by simpa using gE_mem.1 hx
    exact List.eq_nil_iff_forall_not_mem.2 h
  have h2 : gN [] [] = [] := by
    have h : ∀ x : Txt, x ∉ gN [] [] := fun x hx => by simpa using gN_mem.1 hx
    exact List.eq_nil_iff_forall_not_mem.2 h
  have h3 : setOf ltT (lbs []) = [] := by
    have h : ∀ x : Txt, x ∉ setOf ltT (lbs []) := fun x hx => by simpa [lbs] using ((setOf_is stoT _).mem x).1 hx
    exact List.eq_nil_iff_forall_not_mem.2 h
  simp [ofI, namedB, h1, h2, capsI, h3, textL, loneL]⟩
theorem GOk.node {G : Gr} (h : GOk G) (s : Txt) : GOk (addNode G s).1 := by
  unfold addNode
  split
  · exact h
  split
  · rename_i h1 h2
    refine ⟨?_, h.xd, fun x hx => ⟨List.mem_append.2 (.inl (h.ends x hx).1), List.mem_append.2 (.inl (h.ends x hx).2)⟩, h2⟩
    have := addN_nodup h.nd s
    unfold addN at this
    rwa [if_neg h1] at this
  · exact h
theorem GOk.edge {G : Gr} (h : GOk G) (x : Ed) : GOk (addEdge G x).1 := by
  unfold addEdge
  split
  · exact h
  split
  · rename_i h1 h2
    refine ⟨addN_nodup (addN_nodup h.nd _) _, ?_, ?_, ?_⟩
    · rw [List.nodup_append]
      refine ⟨h.xd, by simp, fun a ha b hb => ?_⟩
      rw [List.mem_singleton] at hb
      subst hb
      rintro rfl
      exact h1 ha
    · intro y hy
      simp only [mem_addN]
      rcases List.mem_append.1 hy with hy | hy
      · exact ⟨.inl (.inl (h.ends y hy).1), .inl (.inl (h.ends y hy).2)⟩
      · rw [List.mem_singleton] at hy
        subst hy
        exact ⟨.inl (.inr rfl), .inr rfl⟩
    · refine ofI_sub (N := G.N) (E := G.X ++ [x]) (fun s hs => ?_) (fun _ hy => hy) h2
      simp only [mem_addN] at hs
      rcases hs with (hs | rfl) | rfl
      · exact .inl hs
      · exact .inr ⟨x, by simp, .inl rfl⟩
      · exact .inr ⟨x, by simp, .inr rfl⟩
  · exact h
/-- What Data tells. -/
def datN (G : Gr) : List Txt := gN G.N G.X
def datE (G : Gr) : List Ed := gE G.X
theorem datN_mem {G : Gr} (h : GOk G) {s : Txt} : s ∈ datN G ↔ s ∈ G.N := by
  unfold datN
  rw [gN_mem]
  constructor
  · rintro (h1 | ⟨x, hx, rfl | rfl⟩)
    · exact h1
    · exact (h.ends x hx).1
    · exact (h.ends x hx).2
  · exact .inl
/-- With what is more: as if it came to what Data tells. -/
theorem ofI_dat {G : Gr} (N : List Txt) (E : List Ed) : ofI (datN G ++ N) (datE G ++ E) = ofI (G.N ++ N) (G.X ++ E) := by
  have e : ∀ x, x ∈ datE G ++ E ↔ x ∈ G.X ++ E := fun x => by rw [List.mem_append, List.mem_append, datE, gE_mem]
  have m1 : ∀ s ∈ datN G ++ N, s ∈ G.N ++ N ∨ ∃ x ∈ G.X ++ E, s = x.fr ∨ s = x.to := fun s hs => by
    rcases List.mem_append.1 hs with hs | hs
    · rcases gN_mem.1 hs with h1 | ⟨x, hx, h1⟩
      · exact .inl (List.mem_append.2 (.inl h1))
      · exact .inr ⟨x, List.mem_append.2 (.inl hx), h1⟩
    · exact .inl (List.mem_append.2 (.inr hs))
  have m2 : ∀ s ∈ G.N ++ N, s ∈ datN G ++ N ∨ ∃ x ∈ datE G ++ E, s = x.fr ∨ s = x.to := fun s hs => by
    rcases List.mem_append.1 hs with hs | hs
    · exact .inl (List.mem_append.2 (.inl (gN_mem.2 (.inl hs))))
    · exact .inl (List.mem_append.2 (.inr hs))
  refine ofI_same (fun s => ?_) e m1 m2
  constructor
  · rintro (h | ⟨x, hx, h⟩)
    · exact m1 s h
    · exact .inr ⟨x, (e x).1 hx, h⟩
  · rintro (h | ⟨x, hx, h⟩)
    · exact m2 s h
    · exact .inr ⟨x, (e x).2 hx, h⟩
end Go.Proofs.YtddffnonlmfhdaaGreatDoor
namespace Go.Proofs.YtddffnonlmfhdaaGreatDoor
open Go
section
variable {P : Program} {ops : Array Oper} {Q : Exit → Act → World → Prop} {md : Region.Mode} {S : World → Prop} {n : Nat}
theorem wp_region_any2 {rid : Nat} {a : Act} {w : World} {l : List Oper} (S : World → Prop) (hm : P.follows .mixedOrders = true) (_hsel : Region.noSelect l.toArray = true)
    (_hS : S w.drew) (h : wpAnyC P .any l.toArray Q S l.toArray.size l.length (Array.replicate l.toArray.size false) a w.drew) : (Code.region rid l.toArray true).wp P Q a w := by
  refine wp_region_any hm (wpAny_of_C (S := S) (n := l.toArray.size) _ _ _ _ ?_)
  simpa using h
theorem any_start {f m : Nat} {a : Act} {w : World} (h : Down md ops (Array.replicate m false) → wpAnyC P md ops Q S n f (Array.replicate m false) a w) : wpAnyC P md ops Q S n f (Array.replicate m false) a w := h (down_start m)
/-- A stable one that has come up is taken. -/
theorem any_take {i f : Nat} {listed : Array Bool} {a : Act} {w : World} {oi : Oper} {v : Value} (hi : ops[i]? = some oi) (hB : (Region.noSelect ops && Region.free md ops listed i && (Region.ready md ops listed).contains i) = true)
    (hd : Down md ops listed) (hn : ops.size ≤ n) (hQ : ∀ c a d v w, Q (.panic c) (Act.put a d v) w → Q (.panic c) a w) (hS : S w)
    (hw : Region.wanted oi (yielded ops a.tmps) = true) (hy : ∀ w, S w → (execOp a.eval oi).run P w = .ok (.value v) w)
    (h : Down md ops (listed.setIfInBounds i true) → wpAnyC P md ops Q S n f (listed.setIfInBounds i true) (a.put oi.dst v) w) : wpAnyC P md ops Q S n (f + 1) listed a w := by
  simp only [Bool.and_eq_true] at hB
  obtain ⟨⟨h1, h2⟩, h3⟩ := hB
  have hr : i ∈ Region.ready md ops listed := by simpa using h3
  exact wpAnyC_first (f := ops.size) hi (Region.noSelect_spec h1) (fun c a w => hQ c a _ _ w) (.inl hn) f listed a w (Region.free_spec hi h2) hd hr (.inl ⟨hw, hy⟩) hS (h (hd.set hr))
/-- One that has come up is run. -/
theorem any_run {f : Nat} {listed : Array Bool} {a : Act} {w : World} {L : List Nat} (hd : Down md ops listed) (hL : Region.ready md ops listed = L) (hne : L ≠ [])
    (h : ∀ i ∈ L, (Down md ops (listed.setIfInBounds i true)) → wpOp P ops Q i (fun a' w' => (i ≠ n → S w') ∧ wpAnyC P md ops Q S n f (listed.setIfInBounds i true) a' w') a w) : wpAnyC P md ops Q S n (f + 1) listed a w :=
  any_step hL hne (fun i hi => h i hi (hd.set (by rw [hL]; exact hi)))
end
theorem any_takeA {P : Program} {ops : Array Oper} {Q : Exit → Act → World → Prop} {S : World → Prop} {a : Act} {w : World} {oi : Oper} {v : Value} {md : Region.Mode} {n i f : Nat} {listed : Array Bool} (hi : ops[i]? = some oi) (hd : Down md ops listed) (hS : S w) (h : Down md ops (listed.setIfInBounds i true) → wpAnyC P md ops Q S n f (listed.setIfInBounds i true) (a.put oi.dst v) w) (hn : ops.size ≤ n := by exact Nat.le_refl _) (hB : (Region.noSelect ops && Region.free md ops listed i && (Region.ready md ops listed).contains i) = true := by kernel_rfl) (hQ : ∀ c a d v w, Q (.panic c) (Act.put a d v) w → Q (.panic c) a w := by intro _ _ d _ _ h; cases d <;> exact h) (hw : Region.wanted oi (yielded ops a.tmps) = true := by first | with_reducible rfl | kernel_rfl) (hy : ∀ w, S w → (execOp a.eval oi).run P w = .ok (.value v) w := by intro wS hS; (try dsimp only at hS); go_split_ands; go_simp; (try with_reducible rfl); done) : wpAnyC P md ops Q S n (f + 1) listed a w := any_take hi hB hd hn hQ hS hw hy h
end Go.Proofs.YtddffnonlmfhdaaGreatDoor
namespace Go.Proofs.YtddffnonlmfhdaaGreatDoor
open Go
section
variable {P : Program} {ops : Array Oper} {Q : Exit → Act → World → Prop} {md : Region.Mode} {S : World → Prop} {late : Nat → Bool}
def lateFrom (n i : Nat) : Bool := decide (n ≤ i)
/-- Whatever order is picked; S holds behind every operation that is not late. -/
def wpAnyL (P : Program) (md : Region.Mode) (ops : Array Oper) (Q : Exit → Act → World → Prop) (S : World → Prop) (late : Nat → Bool) : Nat → Array Bool → Act → World → Prop
  | 0, listed, a, w => Region.ready md ops listed = [] ∧ Q .normal a w
  | fuel + 1, listed, a, w =>
    (Region.ready md ops listed = [] → Q .normal a w) ∧
    ∀ i ∈ Region.ready md ops listed, wpOp P ops Q i (fun a' w' => (late i = false → S w → S w') ∧ wpAnyL P md ops Q S late fuel (listed.setIfInBounds i true) a' w') a w
theorem wpAny_of_L : ∀ (fuel : Nat) (listed : Array Bool) (a : Act) (w : World), wpAnyL P md ops Q S late fuel listed a w → wpAny P md ops Q fuel listed a w
  | 0, _, _, _, h => h
  | fuel + 1, _, _, _, h => ⟨h.1, fun i hi => wpOp_mono (fun a' w' h' => wpAny_of_L fuel _ a' w' h'.2) (h.2 i hi)⟩
theorem wpAnyL_first {i f : Nat} {oi : Oper} {v : Value} (hi : ops[i]? = some oi) (hsel : ∀ (j : Nat) (o : Oper) cs b, ops[j]? = some o → o.op ≠ .select cs b)
    (hQ : ∀ c a w, Q (.panic c) (a.put oi.dst v) w → Q (.panic c) a w) (hpn : ∀ j, j < ops.size → late j = true → i ∈ preds md ops f [j]) :
    ∀ (fuel : Nat) (listed : Array Bool) (a : Act) (w : World),
      (∀ j oj, ops[j]? = some oj → j ≠ i → listed.getD j true = false → (∀ e ∈ oj.after, Region.binds md e = true → e.on ≠ i) → oi.apart ops oj = true) →
      Down md ops listed → i ∈ Region.ready md ops listed → YieldsIf P ops S oi v a → S w →
      wpAnyL P md ops Q S late fuel (listed.setIfInBounds i true) (a.put oi.dst v) w → wpAnyL P md ops Q S late (fuel + 1) listed a w := by
  intro fuel
  induction fuel with
  | zero =>
    intro listed a w _ _ hr hy hS H
    refine ⟨fun h => (by rw [h] at hr; cases hr), fun j hj => ?_⟩
    by_cases hji : j = i
    · subst hji; exact hy.wpOp hi hS ⟨fun _ h => h, H⟩
    · have := ready_mono hj hji
      rw [H.1] at this
      cases this
  | succ fuel ih =>
    intro listed a w hfree hd hr hy hS H
    refine ⟨fun h => (by rw [h] at hr; cases hr), fun j hj => ?_⟩
    by_cases hji : j = i
    · subst hji; exact hy.wpOp hi hS ⟨fun _ h => h, H⟩
    · have h1 := H.2 j (ready_mono hj hji)
      obtain ⟨hjun, oj, hoj, hall⟩ := mem_ready.1 hj
      have hiun : listed.getD i false = false := by
        have h0 := (mem_ready.1 hr).1
        rcases Nat.lt_or_ge i listed.size with h' | h'
        · simp [h'] at h0 ⊢; exact h0
        · simp [Array.getElem?_eq_none h']
      have hnot : ∀ e ∈ oj.after, Region.binds md e = true → e.on ≠ i := fun e he hb heq => by
        have h1 := hall e he hb
        rw [heq, hiun] at h1
        cases h1
      have hjn : late j = false := by
        cases hp : late j with
        | false => rfl
        | true =>
          exfalso
          have hp := hpn j (Array.getElem?_eq_some_iff.1 hoj).1 hp
          have hd' := hd.set hj
          have hl : ∀ k ∈ [j], (listed.setIfInBounds j true).getD k false = true := by
            intro k hk
            obtain rfl := List.mem_singleton.1 hk
            have hks : k < listed.size := by
              rcases Nat.lt_or_ge k listed.size with h' | h'
              · exact h'
              · simp [Array.getElem?_eq_none h'] at hjun
            simp [hks]
          have := preds_listed hd' f [j] hl i hp
          rw [getD_set_ne false hji, hiun] at this
          cases this
      have h2 := wpOp_putIf hoj (hfree j oj hoj hji hjun hnot) (fun cs b => hsel i oi cs b hi) (fun cs b => hsel j oj cs b hoj) hQ hy h1
      have hfree' : ∀ k ok, ops[k]? = some ok → k ≠ i → (listed.setIfInBounds j true).getD k true = false →
          (∀ e ∈ ok.after, Region.binds md e = true → e.on ≠ i) → oi.apart ops ok = true := fun k ok hk hki hun hno => by
        refine hfree k ok hk hki ?_ hno
        by_cases hjk : j = k
        · subst hjk; exact hjun
        · rw [getD_set_ne true hjk] at hun; exact hun
      refine wpOp_mono (fun a' w' h3 => ⟨h3.2.1, ih (listed.setIfInBounds j true) a' w' hfree' (hd.set hj) (ready_mono hr (Ne.symm hji)) h3.1 (h3.2.1 hjn hS) ?_⟩) h2
      rw [Array.setIfInBounds_comm _ _ hji]
      exact h3.2.2
theorem wpAnyL_first0 {i : Nat} {oi : Oper} {v : Value} (hi : ops[i]? = some oi) (hsel : ∀ (j : Nat) (o : Oper) cs b, ops[j]? = some o → o.op ≠ .select cs b)
    (hQ : ∀ c a w, Q (.panic c) (a.put oi.dst v) w → Q (.panic c) a w) :
    ∀ (fuel : Nat) (listed : Array Bool) (a : Act) (w : World),
      (∀ j oj, ops[j]? = some oj → j ≠ i → listed.getD j true = false → (∀ e ∈ oj.after, Region.binds md e = true → e.on ≠ i) → oi.apart ops oj = true) →
      Down md ops listed → i ∈ Region.ready md ops listed → YieldsIf P ops (fun _ => True) oi v a →
      wpAnyL P md ops Q S late fuel (listed.setIfInBounds i true) (a.put oi.dst v) w → wpAnyL P md ops Q S late (fuel + 1) listed a w := by
  intro fuel
  induction fuel with
  | zero =>
    intro listed a w _ _ hr hy H
    refine ⟨fun h => (by rw [h] at hr; cases hr), fun j hj => ?_⟩
    by_cases hji : j = i
    · subst hji; exact hy.wpOp hi trivial ⟨fun _ h => h, H⟩
    · have := ready_mono hj hji
      rw [H.1] at this
      cases this
  | succ fuel ih =>
    intro listed a w hfree hd hr hy H
    refine ⟨fun h => (by rw [h] at hr; cases hr), fun j hj => ?_⟩
    by_cases hji : j = i
    · subst hji; exact hy.wpOp hi trivial ⟨fun _ h => h, H⟩
    · have h1 := H.2 j (ready_mono hj hji)
      obtain ⟨hjun, oj, hoj, hall⟩ := mem_ready.1 hj
      have hiun : listed.getD i false = false := by
        have h0 := (mem_ready.1 hr).1
        rcases Nat.lt_or_ge i listed.size with h' | h'
        · simp [h'] at h0 ⊢; exact h0
        · simp [Array.getElem?_eq_none h']
      have hnot : ∀ e ∈ oj.after, Region.binds md e = true → e.on ≠ i := fun e he hb heq => by
        have h1 := hall e he hb
        rw [heq, hiun] at h1
        cases h1
      have h2 := wpOp_putIf hoj (hfree j oj hoj hji hjun hnot) (fun cs b => hsel i oi cs b hi) (fun cs b => hsel j oj cs b hoj) hQ hy h1
      have hfree' : ∀ k ok, ops[k]? = some ok → k ≠ i → (listed.setIfInBounds j true).getD k true = false →
          (∀ e ∈ ok.after, Region.binds md e = true → e.on ≠ i) → oi.apart ops ok = true := fun k ok hk hki hun hno => by
        refine hfree k ok hk hki ?_ hno
        by_cases hjk : j = k
        · subst hjk; exact hjun
        · rw [getD_set_ne true hjk] at hun; exact hun
      refine wpOp_mono (fun a' w' h3 => ⟨h3.2.1, ih (listed.setIfInBounds j true) a' w' hfree' (hd.set hj) (ready_mono hr (Ne.symm hji)) h3.1 ?_⟩) h2
      rw [Array.setIfInBounds_comm _ _ hji]
      exact h3.2.2
theorem wp_region_late {rid : Nat} {a : Act} {w : World} {l : List Oper} (S : World → Prop) (late : Nat → Bool) (hm : P.follows .mixedOrders = true)
    (h : Down .any l.toArray (Array.replicate l.toArray.size false) → wpAnyL P .any l.toArray Q S late l.length (Array.replicate l.toArray.size false) a w.drew) : (Code.region rid l.toArray true).wp P Q a w := by
  refine wp_region_any hm (wpAny_of_L (S := S) (late := late) _ _ _ _ ?_)
  simpa using h (down_start _)
/-- A stable one that has come up is taken. -/
theorem late_take {i f : Nat} {listed : Array Bool} {a : Act} {w : World} {oi : Oper} {v : Value} (hi : ops[i]? = some oi)
    (hB : (Region.noSelect ops && Region.free md ops listed i && (Region.ready md ops listed).contains i && (List.range ops.size).all fun j => !late j || (preds md ops ops.size [j]).contains i) = true)
    (hd : Down md ops listed) (hQ : ∀ c a d v w, Q (.panic c) (Act.put a d v) w → Q (.panic c) a w) (hS : S w)
    (hw : Region.wanted oi (yielded ops a.tmps) = true) (hy : ∀ w, S w → (execOp a.eval oi).run P w = .ok (.value v) w)
    (h : Down md ops (listed.setIfInBounds i true) → wpAnyL P md ops Q S late f (listed.setIfInBounds i true) (a.put oi.dst v) w) : wpAnyL P md ops Q S late (f + 1) listed a w := by
  simp only [Bool.and_eq_true] at hB
  obtain ⟨⟨⟨h1, h2⟩, h3⟩, h4⟩ := hB
  have hr : i ∈ Region.ready md ops listed := by simpa using h3
  refine wpAnyL_first (f := ops.size) hi (Region.noSelect_spec h1) (fun c a w => hQ c a _ _ w) (fun j hj hl => ?_) f listed a w (Region.free_spec hi h2) hd hr (.inl ⟨hw, hy⟩) hS (h (hd.set hr))
  have := List.all_eq_true.1 h4 j (List.mem_range.2 hj)
  rw [hl] at this
  simpa using this
/-- A late one that yields the same everywhere is taken. -/
theorem late_take0 {i f : Nat} {listed : Array Bool} {a : Act} {w : World} {oi : Oper} {v : Value} (hi : ops[i]? = some oi)
    (hB : (Region.noSelect ops && Region.free md ops listed i && (Region.ready md ops listed).contains i) = true)
    (hd : Down md ops listed) (hQ : ∀ c a d v w, Q (.panic c) (Act.put a d v) w → Q (.panic c) a w)
    (hw : Region.wanted oi (yielded ops a.tmps) = true) (hy : ∀ w, (execOp a.eval oi).run P w = .ok (.value v) w)
    (h : Down md ops (listed.setIfInBounds i true) → wpAnyL P md ops Q S late f (listed.setIfInBounds i true) (a.put oi.dst v) w) : wpAnyL P md ops Q S late (f + 1) listed a w := by
  simp only [Bool.and_eq_true] at hB
  obtain ⟨⟨h1, h2⟩, h3⟩ := hB
  have hr : i ∈ Region.ready md ops listed := by simpa using h3
  exact wpAnyL_first0 hi (Region.noSelect_spec h1) (fun c a w => hQ c a _ _ w) f listed a w (Region.free_spec hi h2) hd hr (.inl ⟨hw, fun w _ => hy w⟩) (h (hd.set hr))
/-- One that has come up is run. -/
theorem late_run {f : Nat} {listed : Array Bool} {a : Act} {w : World} {L : List Nat} (hd : Down md ops listed) (hL : Region.ready md ops listed = L) (hne : L ≠ [])
    (h : ∀ i ∈ L, (Down md ops (listed.setIfInBounds i true)) → wpOp P ops Q i (fun a' w' => (late i = false → S w → S w') ∧ wpAnyL P md ops Q S late f (listed.setIfInBounds i true) a' w') a w) : wpAnyL P md ops Q S late (f + 1) listed a w := by
  subst hL
  exact ⟨fun e => absurd e hne, fun i hi => h i hi (hd.set hi)⟩
theorem late_do {i f : Nat} {listed : Array Bool} {a : Act} {w : World} {oi : Oper} (hi : ops[i]? = some oi) (hg : oi.guard = none)
    (h : ∀ K : Act → World → Prop, (∀ a w', (late i = false → S w → S w') → wpAnyL P md ops Q S late f (listed.setIfInBounds i true) a w' → K a w') → oi.wp P a w K Q) :
    wpOp P ops Q i (fun a' w' => (late i = false → S w → S w') ∧ wpAnyL P md ops Q S late f (listed.setIfInBounds i true) a' w') a w := by
  unfold wpOp
  simp only [hi]
  rw [if_pos (by simp [Region.wanted, hg])]
  exact .inl (h _ fun a w h1 h2 => ⟨h1, h2⟩)
theorem late_done {listed : Array Bool} {a : Act} {w : World} (hL : Region.ready md ops listed = []) (h : Q .normal a w) : wpAnyL P md ops Q S late 0 listed a w := ⟨hL, h⟩
end
theorem late_takeA {P : Program} {ops : Array Oper} {Q : Exit → Act → World → Prop} {S : World → Prop} {a : Act} {w : World} {oi : Oper} {v : Value} {md : Region.Mode} {late : Nat → Bool} {i f : Nat} {listed : Array Bool} (hi : ops[i]? = some oi) (hd : Down md ops listed) (hS : S w) (h : Down md ops (listed.setIfInBounds i true) → wpAnyL P md ops Q S late f (listed.setIfInBounds i true) (a.put oi.dst v) w) (hB : (Region.noSelect ops && Region.free md ops listed i && (Region.ready md ops listed).contains i && (List.range ops.size).all fun j => !late j || (preds md ops ops.size [j]).contains i) = true := by kernel_rfl) (hQ : ∀ c a d v w, Q (.panic c) (Act.put a d v) w → Q (.panic c) a w := by intro _ _ d _ _ h; cases d <;> exact h) (hw : Region.wanted oi (yielded ops a.tmps) = true := by first | with_reducible rfl | kernel_rfl) (hy : ∀ w, S w → (execOp a.eval oi).run P w = .ok (.value v) w := by intro wS hS; (try dsimp only at hS); go_split_ands; go_simp; (try with_reducible rfl); done) : wpAnyL P md ops Q S late (f + 1) listed a w := late_take hi hB hd hQ hS hw hy h
end Go.Proofs.YtddffnonlmfhdaaGreatDoor
namespace Go.Proofs.YtddffnonlmfhdaaGreatDoor
open Go.RowKit
def idxT (N : List Txt) (s : Txt) : Nat := N.findIdx fun t => decide (t = s)
theorem idxT_at {N : List Txt} {s : Txt} (h : s ∈ N) : N[idxT N s]? = some s := by
  have hl : idxT N s < N.length := List.findIdx_lt_length_of_exists ⟨s, h, by simp⟩
  have := List.findIdx_getElem (p := fun t => decide (t = s)) (xs := N) (w := hl)
  rw [List.getElem?_eq_getElem hl]
  exact congrArg some (of_decide_eq_true this)
theorem idxT_lt {N : List Txt} {s : Txt} (h : s ∈ N) : idxT N s < N.length := (List.getElem?_eq_some_iff.1 (idxT_at h)).1
theorem idxT_out {N : List Txt} {s : Txt} (h : s ∉ N) : idxT N s = N.length := by
  unfold idxT
  rw [List.findIdx_eq_length]
  intro t ht
  rw [decide_eq_false]
  rintro rfl
  exact h ht
theorem idxT_app {N M : List Txt} {s : Txt} (h : s ∈ N) : idxT (N ++ M) s = idxT N s := by
  have hl := idxT_lt h
  unfold idxT at hl ⊢
  rw [List.findIdx_append, if_pos hl]
theorem idxT_is {N : List Txt} (hd : N.Nodup) {s : Txt} {i : Nat} (h : N[i]? = some s) : idxT N s = i := by
  have h1 := idxT_at (List.mem_of_getElem? h)
  obtain ⟨a, e⟩ := List.getElem?_eq_some_iff.1 h
  obtain ⟨b, f⟩ := List.getElem?_eq_some_iff.1 h1
  exact (List.getElem_inj hd).1 (f.trans e.symm)
theorem idxT_addN {N : List Txt} {s t : Txt} (h : s ∈ N) : idxT (addN N t) s = idxT N s := by
  unfold addN
  split
  · rfl
  · exact idxT_app h
theorem idxT_new (N : List Txt) (s : Txt) : idxT (addN N s) s = idxT N s := by
  by_cases h : s ∈ N
  · exact idxT_addN h
  · unfold addN
    rw [if_neg (fun e => h (inB_iff.1 e)), idxT_out h]
    unfold idxT
    rw [List.findIdx_append, if_neg (by have := idxT_out h; unfold idxT at this; omega)]
    simp
def numT (N : List Txt) (s : Txt) : Int := if inB s N = true then (idxT N s : Int) + 1 else 0
theorem look_num {w : World} {r : Nat} {N : List Txt} (h : MapIs w Tryz.prog 9 r (kvN N N.length)) (s : Txt) (hk : TxtOk s) :
    (Instr.lookup 105 (.map (some r)) (.string s) false).run Tryz.prog w = .ok (.int .i64 (numT N s)) w := by
  unfold numT
  by_cases hs : s ∈ N
  · rw [if_pos (inB_iff.2 hs)]
    exact h.look_hit str_law Tryz.underlying105 (kvN_in N N.length _ s (idxT_lt hs) (idxT_at hs)) false
  · rw [if_neg (fun e => hs (inB_iff.1 e))]
    exact h.look_miss str_law Tryz.underlying105 (str_key hk) (fun q hq e => by
      obtain ⟨i, t, hi, ht, rfl⟩ := kvN_mem N N.length q hq
      simp only [Value.string.injEq] at e
      subst e
      exact hs (List.mem_of_getElem? ht)) (by kernel_rfl) false
theorem kvN_app (N M : List Txt) : ∀ k, k ≤ N.length → kvN (N ++ M) k = kvN N k
  | 0, _ => rfl
  | k + 1, h => by
    unfold kvN
    rw [List.getElem?_append_left (by omega), kvN_app N M k (by omega)]
theorem kvN_push (N : List Txt) (s : Txt) : kvN (N ++ [s]) (N.length + 1) = kvN N N.length ++ [(.string s, .int .i64 ((N.length : Int) + 1))] := by
  rw [kvN, kvN_app N [s] _ (Nat.le_refl _)]
  simp

inductive Ro
  | p | m | n | o | i
  | oo (k : Nat)
  | ii (k : Nat)
structure GrD where
  r : Nat
  nv : Value
  ov : Value
  iv : Value
  fo : Nat → Value
  fi : Nat → Value
def rowV (f : Nat → Value) (n : Nat) : List Value := (List.range n).map f
theorem rowV_succ (f : Nat → Value) (n : Nat) : rowV f (n + 1) = rowV f n ++ [f n] := by simp [rowV, List.range_succ]
theorem rowV_at {f : Nat → Value} {n k : Nat} (h : k < n) : (rowV f n)[k]? = some (f k) := by simp [rowV, h]
structure GrI (w : World) (O : Nat → Option Ro) (p : Nat) (N : List Txt) (U V : Nat → List Hp) (cnt : Int) (D : GrD) : Prop where
  blk : Blk w p 108 #[D.nv, .map (some D.r), D.ov, D.iv, .int .i64 cnt]
  map : MapIs w Tryz.prog 9 D.r (kvN N N.length)
  rn : w.ownsRow 0 9 1 D.nv N.length (txtCells N)
  ro : w.ownsRow 0 99 1 D.ov N.length (rowV D.fo N.length)
  ri : w.ownsRow 0 99 1 D.iv N.length (rowV D.fi N.length)
  fo : ∀ k, w.ownsRow 0 103 2 (D.fo k) (U k).length (hpCells (U k))
  fi : ∀ k, w.ownsRow 0 103 2 (D.fi k) (V k).length (hpCells (V k))
  op : O p = some .p
  om : O D.r = some .m
  on : ∀ k, D.nv.ownBlock = some k → O k = some .n
  oo : ∀ k, D.ov.ownBlock = some k → O k = some .o
  oi : ∀ k, D.iv.ownBlock = some k → O k = some .i
  oU : ∀ j k, (D.fo j).ownBlock = some k → O k = some (.oo j)
  oV : ∀ j k, (D.fi j).ownBlock = some k → O k = some (.ii j)
  lt : ∀ k, O k ≠ none → k < w.heap.size
  out : ∀ k, N.length ≤ k → D.fo k = .slice none 0 0 ∧ D.fi k = .slice none 0 0
/-- Block p is a graph of these; F: the blocks that are its own. -/
def GrAt (w : World) (F : Nat → Prop) (p : Nat) (N : List Txt) (U V : Nat → List Hp) (cnt : Int) : Prop := ∃ O D, GrI w O p N U V cnt D ∧ F = fun k => O k ≠ none
theorem GrI.upd {w w' : World} {O : Nat → Option Ro} {p : Nat} {N : List Txt} {U V : Nat → List Hp} {cnt : Int} {D : GrD} {G : Nat → Prop} (h : GrI w O p N U V cnt D) (hu : Upd G w w') (hd : ∀ k, O k ≠ none → ¬ G k) : GrI w' O p N U V cnt D := by
  have no : ∀ k t, O k = some t → ¬ G k := fun k t e => hd k (by simp [e])
  exact ⟨h.blk.upd hu (no _ _ h.op), h.map.upd hu (no _ _ h.om), ownsRow_upd h.rn hu fun k hk => no _ _ (h.on k hk), ownsRow_upd h.ro hu fun k hk => no _ _ (h.oo k hk), ownsRow_upd h.ri hu fun k hk => no _ _ (h.oi k hk),
    fun j => ownsRow_upd (h.fo j) hu fun k hk => no _ _ (h.oU j k hk), fun j => ownsRow_upd (h.fi j) hu fun k hk => no _ _ (h.oV j k hk), h.op, h.om, h.on, h.oo, h.oi, h.oU, h.oV, fun k hk => Nat.lt_of_lt_of_le (h.lt k hk) hu.size, h.out⟩
theorem GrAt.upd {w w' : World} {F G : Nat → Prop} {p : Nat} {N : List Txt} {U V : Nat → List Hp} {cnt : Int} (h : GrAt w F p N U V cnt) (hu : Upd G w w') (hd : ∀ k, F k → ¬ G k) : GrAt w' F p N U V cnt := by
  obtain ⟨O, D, hs, rfl⟩ := h
  exact ⟨O, D, hs.upd hu hd, rfl⟩
theorem GrAt.lt {w : World} {F : Nat → Prop} {p : Nat} {N : List Txt} {U V : Nat → List Hp} {cnt : Int} (h : GrAt w F p N U V cnt) : ∀ k, F k → k < w.heap.size := by
  obtain ⟨O, D, hs, rfl⟩ := h
  exact hs.lt
theorem GrAt.below {w w' : World} {F : Nat → Prop} {p : Nat} {N : List Txt} {U V : Nat → List Hp} {cnt : Int} (h : GrAt w F p N U V cnt) (hb : Below w.heap.size w w') : GrAt w' F p N U V cnt := h.upd (Upd.of_below hb (fun _ => False)) (fun _ _ => id)
/-- What a call that turns this graph leaves. -/
def GrNext (w : World) (F : Nat → Prop) (p : Nat) (N : List Txt) (U V : Nat → List Hp) (cnt : Int) (w' : World) : Prop :=
  ∃ F', GrAt w' F' p N U V cnt ∧ Upd F w w' ∧ ∀ k, F' k → F k ∨ w.heap.size ≤ k
theorem GrNext.refl {w w' : World} {F : Nat → Prop} {p : Nat} {N : List Txt} {U V : Nat → List Hp} {cnt : Int} (h : GrAt w F p N U V cnt) (hb : Below w.heap.size w w') : GrNext w F p N U V cnt w' :=
  ⟨F, h.below hb, Upd.of_below hb F, fun _ hk => .inl hk⟩
theorem GrI.grow {w w' : World} {O : Nat → Option Ro} {p : Nat} {N : List Txt} {U V : Nat → List Hp} {cnt : Int} {D : GrD} (h : GrI w O p N U V cnt D) (s : Txt) (nv ov iv : Value) (B1 B2 : Nat) (hB1 : w.heap.size ≤ B1) (hB2 : B1 ≤ B2)
    (hu : Upd (fun k => k = p ∨ k = D.r ∨ D.nv.ownBlock = some k ∨ D.ov.ownBlock = some k ∨ D.iv.ownBlock = some k) w w') (hb : Blk w' p 108 #[nv, .map (some D.r), ov, iv, .int .i64 cnt])
    (hm : MapIs w' Tryz.prog 9 D.r (kvN N N.length ++ [(.string s, .int .i64 ((N.length : Int) + 1))]))
    (rn : w'.ownsRow 0 9 1 nv (N.length + 1) (txtCells N ++ [.string s])) (ro : w'.ownsRow 0 99 1 ov (N.length + 1) (rowV D.fo N.length ++ [.slice none 0 0])) (ri : w'.ownsRow 0 99 1 iv (N.length + 1) (rowV D.fi N.length ++ [.slice none 0 0]))
    (pn : ∀ k, nv.ownBlock = some k → D.nv.ownBlock = some k ∨ w.heap.size ≤ k ∧ k < B1) (po : ∀ k, ov.ownBlock = some k → D.ov.ownBlock = some k ∨ B1 ≤ k ∧ k < B2) (pi : ∀ k, iv.ownBlock = some k → D.iv.ownBlock = some k ∨ B2 ≤ k) :
    GrNext w (fun k => O k ≠ none) p (N ++ [s]) U V cnt w' := by
  have no : ∀ k t, O k = some t → (t = Ro.p → False) → (t = Ro.m → False) → (t = Ro.n → False) → (t = Ro.o → False) → (t = Ro.i → False) → ¬ (k = p ∨ k = D.r ∨ D.nv.ownBlock = some k ∨ D.ov.ownBlock = some k ∨ D.iv.ownBlock = some k) := by
    rintro k t e h1 h2 h3 h4 h5 (rfl | rfl | hk | hk | hk)
    · rw [h.op] at e; injection e with e; exact h1 e.symm
    · rw [h.om] at e; injection e with e; exact h2 e.symm
    · rw [h.on k hk] at e; injection e with e; exact h3 e.symm
    · rw [h.oo k hk] at e; injection e with e; exact h4 e.symm
    · rw [h.oi k hk] at e; injection e with e; exact h5 e.symm
  have fresh : ∀ k, w.heap.size ≤ k → O k = none := fun k hk => by
    cases e : O k with
    | none => rfl
    | some t => have := h.lt k (by simp [e]); omega
  have hn : ∀ k, nv.ownBlock = some k → O k = some .n ∨ O k = none ∧ w.heap.size ≤ k ∧ k < B1 := fun k hk => by
    rcases pn k hk with h1 | ⟨h1, h2⟩
    · exact .inl (h.on k h1)
    · exact .inr ⟨fresh k h1, h1, h2⟩
  have ho : ∀ k, ov.ownBlock = some k → O k = some .o ∨ O k = none ∧ B1 ≤ k ∧ k < B2 := fun k hk => by
    rcases po k hk with h1 | ⟨h1, h2⟩
    · exact .inl (h.oo k h1)
    · exact .inr ⟨fresh k (by omega), h1, h2⟩
  have hi : ∀ k, iv.ownBlock = some k → O k = some .i ∨ O k = none ∧ B2 ≤ k := fun k hk => by
    rcases pi k hk with h1 | h1
    · exact .inl (h.oi k h1)
    · exact .inr ⟨fresh k (by omega), h1⟩
  have keep : ∀ k t, O k = some t → (t = Ro.n → False) → (t = Ro.o → False) → (t = Ro.i → False) → (if nv.ownBlock = some k then some Ro.n else if ov.ownBlock = some k then some Ro.o else if iv.ownBlock = some k then some Ro.i else O k) = some t := by
    intro k t e h1 h2 h3
    rw [if_neg, if_neg, if_neg, e]
    · intro hk
      rcases hi k hk with h4 | h4
      · rw [e] at h4; injection h4 with h4; exact h3 h4
      · rw [e] at h4; cases h4.1
    · intro hk
      rcases ho k hk with h4 | h4
      · rw [e] at h4; injection h4 with h4; exact h2 h4
      · rw [e] at h4; cases h4.1
    · intro hk
      rcases hn k hk with h4 | h4
      · rw [e] at h4; injection h4 with h4; exact h1 h4
      · rw [e] at h4; cases h4.1
  refine ⟨fun k => (if nv.ownBlock = some k then some Ro.n else if ov.ownBlock = some k then some Ro.o else if iv.ownBlock = some k then some Ro.i else O k) ≠ none, ⟨fun k => if nv.ownBlock = some k then some Ro.n else if ov.ownBlock = some k then some Ro.o else if iv.ownBlock = some k then some Ro.i else O k, ⟨D.r, nv, ov, iv, D.fo, D.fi⟩, ⟨hb, ?_, ?_, ?_, ?_, fun j => ownsRow_upd (h.fo j) hu fun k hk => no _ _ (h.oU j k hk) nofun nofun nofun nofun nofun, fun j => ownsRow_upd (h.fi j) hu fun k hk => no _ _ (h.oV j k hk) nofun nofun nofun nofun nofun, ?_, ?_, ?_, ?_, ?_, ?_, ?_, ?_, ?_⟩, rfl⟩, hu.mono ?_, ?_⟩
  · dsimp only
    rw [List.length_append, List.length_singleton, kvN_push]
    exact hm
  · dsimp only
    rw [List.length_append, List.length_singleton, txtCells, List.map_append]
    exact rn
  · dsimp only
    rw [List.length_append, List.length_singleton, rowV_succ, (h.out _ (Nat.le_refl _)).1]
    exact ro
  · dsimp only
    rw [List.length_append, List.length_singleton, rowV_succ, (h.out _ (Nat.le_refl _)).2]
    exact ri
  · exact keep p _ h.op nofun nofun nofun
  · exact keep _ _ h.om nofun nofun nofun
  · intro k hk
    exact if_pos hk
  · intro k hk
    (try dsimp only at hk ⊢)
    rw [if_neg, if_pos hk]
    intro e
    rcases hn k e with h1 | ⟨h1, h2, h3⟩ <;> rcases ho k hk with h4 | ⟨h4, h5, h6⟩
    · rw [h1] at h4; cases h4
    · rw [h1] at h4; cases h4
    · rw [h1] at h4; cases h4
    · omega
  · intro k hk
    (try dsimp only at hk ⊢)
    rw [if_neg, if_neg, if_pos hk]
    · intro e
      rcases ho k e with h1 | ⟨h1, h2, h3⟩ <;> rcases hi k hk with h4 | ⟨h4, h5⟩
      · rw [h1] at h4; cases h4
      · rw [h1] at h4; cases h4
      · rw [h1] at h4; cases h4
      · omega
    · intro e
      rcases hn k e with h1 | ⟨h1, h2, h3⟩ <;> rcases hi k hk with h4 | ⟨h4, h5⟩
      · rw [h1] at h4; cases h4
      · rw [h1] at h4; cases h4
      · rw [h1] at h4; cases h4
      · omega
  · intro j k hk
    exact keep k _ (h.oU j k hk) nofun nofun nofun
  · intro j k hk
    exact keep k _ (h.oV j k hk) nofun nofun nofun
  · intro k hk
    (try dsimp only at hk)
    by_cases h1 : nv.ownBlock = some k
    · exact (rn.lt k h1).2
    rw [if_neg h1] at hk
    by_cases h2 : ov.ownBlock = some k
    · exact (ro.lt k h2).2
    rw [if_neg h2] at hk
    by_cases h3 : iv.ownBlock = some k
    · exact (ri.lt k h3).2
    rw [if_neg h3] at hk
    exact Nat.lt_of_lt_of_le (h.lt k hk) hu.size
  · intro k hk
    rw [List.length_append, List.length_singleton] at hk
    exact h.out k (by omega)
  · rintro k - (rfl | rfl | hk | hk | hk)
    · rw [h.op]; nofun
    · rw [h.om]; nofun
    · rw [h.on k hk]; nofun
    · rw [h.oo k hk]; nofun
    · rw [h.oi k hk]; nofun
  · intro k hk
    (try dsimp only at hk ⊢)
    by_cases h1 : nv.ownBlock = some k
    · rcases hn k h1 with h2 | h2
      · rw [h2]; exact .inl nofun
      · exact .inr h2.2.1
    rw [if_neg h1] at hk
    by_cases h2 : ov.ownBlock = some k
    · rcases ho k h2 with h2 | h2
      · rw [h2]; exact .inl nofun
      · exact .inr (by omega)
    rw [if_neg h2] at hk
    by_cases h3 : iv.ownBlock = some k
    · rcases hi k h3 with h2 | h2
      · rw [h2]; exact .inl nofun
      · exact .inr (by omega)
    rw [if_neg h3] at hk
    exact .inl hk
end Go.Proofs.YtddffnonlmfhdaaGreatDoor
