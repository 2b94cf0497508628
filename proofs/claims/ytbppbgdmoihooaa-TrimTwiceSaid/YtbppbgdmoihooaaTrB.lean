/- Forests: how facts and packs stand (cmp.Compare, cmp.Or, order, byPlace, Less, PackLess). -/
import Derived.Test.YtbppbgdmoihooaaTrA
import Derived.Test.YtbppbgdmoihooaaOrd
namespace Go.Proofs.Ytbppbgdmoihooaa
open Go.RowKit

def cmpI (a b : Int) : Int := if a < b then -1 else if b < a then 1 else 0
def ord3 (a b c a' b' c' : Int) : Int := if cmpI a a' ≠ 0 then cmpI a a' else if cmpI b b' ≠ 0 then cmpI b b' else cmpI c c'
def lt3 (a b c a' b' c' : Int) : Bool := if a ≠ a' then decide (a < a') else if b ≠ b' then decide (b < b') else decide (c < c')
theorem ord3_lt (a b c a' b' c' : Int) : decide (ord3 a b c a' b' c' < 0) = lt3 a b c a' b' c' := by
  unfold ord3 lt3 cmpI
  grind

set_option maxRecDepth 20000 in
theorem isNaN_any (w : World) (a : Int) : Calls Try.prog 91 #[.int .i64 a] w fun e w' => e = .returned (.bool false) ∧ w = w' := by
  have h : (a != a) = false := by simp
  go_enter Try.func91, Try.ntmps91
  go_wp2
  go_ret
  exact ⟨rfl, rfl⟩

theorem cmp_ret {a b : Int} {k : Int} (h : k = cmpI a b) : Ending.returned (.int .i64 k) = .returned (.int .i64 (cmpI a b)) := by rw [h]
set_option maxRecDepth 20000 in
theorem cmp_any (w : World) (a b : Int) : Calls Try.prog 86 #[.int .i64 a, .int .i64 b] w fun e w' => e = .returned (.int .i64 (cmpI a b)) ∧ w = w' := by
  by_cases h1 : a < b
  · have e1 : decide (a < b) = true := by simpa using h1
    have k := Lib.hid h1
    clear h1
    go_enter Try.func86, Try.ntmps86
    go_wp2_with (go_at_call 91; refine (isNaN_any _ _).mono ?_; rintro e w' ⟨rfl, rfl⟩)
    go_ret
    exact ⟨cmp_ret (by have := k.out; unfold cmpI; split <;> omega), rfl⟩
  · by_cases h2 : b < a
    · have e1 : decide (a < b) = false := by simpa using h1
      have e2 : decide (b < a) = true := by simpa using h2
      have k := Lib.hid (And.intro h1 h2)
      clear h1 h2
      go_enter Try.func86, Try.ntmps86
      go_wp2_with (go_at_call 91; refine (isNaN_any _ _).mono ?_; rintro e w' ⟨rfl, rfl⟩)
      go_ret
      exact ⟨cmp_ret (by have := k.out; unfold cmpI; (repeat' split) <;> omega), rfl⟩
    · have e1 : decide (a < b) = false := by simpa using h1
      have e2 : decide (b < a) = false := by simpa using h2
      have k := Lib.hid (And.intro h1 h2)
      clear h1 h2
      go_enter Try.func86, Try.ntmps86
      go_wp2_with (go_at_call 91; refine (isNaN_any _ _).mono ?_; rintro e w' ⟨rfl, rfl⟩)
      go_ret
      exact ⟨cmp_ret (by have := k.out; unfold cmpI; (repeat' split) <;> omega), rfl⟩

def or3 (x y z : Int) : Int := if x ≠ 0 then x else if y ≠ 0 then y else z
theorem ord3_or (a b c a' b' c' : Int) : ord3 a b c a' b' c' = or3 (cmpI a a') (cmpI b b') (cmpI c c') := rfl
theorem or_ret {x y z : Int} {k : Int} (h : k = or3 x y z) : Ending.returned (.int .i64 k) = .returned (.int .i64 (or3 x y z)) := by rw [h]

set_option maxRecDepth 20000 in
set_option maxHeartbeats 800000 in
theorem or_any (w : World) (g c : Nat) (x y z : Int) (hc : 3 ≤ c) (h0 : w.cell? ⟨g, 0, none⟩ = some (.int .i64 x)) (h1 : w.cell? ⟨g, 1, none⟩ = some (.int .i64 y)) (h2 : w.cell? ⟨g, 2, none⟩ = some (.int .i64 z)) :
    Calls Try.prog 85 #[.slice (some ⟨g, 0, none⟩) 3 c] w fun e w' => e = .returned (.int .i64 (or3 x y z)) ∧ w = w' := by
  have hc' : (3 : Int) ≤ (c : Int) := by omega
  by_cases hx : x = 0
  · subst hx
    by_cases hy : y = 0
    · subst hy
      by_cases hz : z = 0
      · subst hz
        go_enter Try.func85, Try.ntmps85
        go_wp2
        refine wp_loop_rounds 4 ?_
        repeat (rw [rounds_succ]; go_wp2)
        go_ret
        exact ⟨rfl, rfl⟩
      · have ez : (z != 0) = true := by simpa using hz
        have k := Lib.hid hz
        clear hz
        go_enter Try.func85, Try.ntmps85
        go_wp2
        refine wp_loop_rounds 4 ?_
        repeat (rw [rounds_succ]; go_wp2)
        go_ret
        exact ⟨rfl, rfl⟩
    · have ey : (y != 0) = true := by simpa using hy
      have k := Lib.hid hy
      clear hy
      go_enter Try.func85, Try.ntmps85
      go_wp2
      refine wp_loop_rounds 4 ?_
      repeat (rw [rounds_succ]; go_wp2)
      go_ret
      exact ⟨or_ret (by unfold or3; rw [if_neg (by simp), if_pos k.out]), rfl⟩
  · have ex : (x != 0) = true := by simpa using hx
    have k := Lib.hid hx
    clear hx
    go_enter Try.func85, Try.ntmps85
    go_wp2
    refine wp_loop_rounds 4 ?_
    repeat (rw [rounds_succ]; go_wp2)
    go_ret
    exact ⟨or_ret (by unfold or3; rw [if_pos k.out]), rfl⟩

set_option maxRecDepth 20000 in
set_option maxHeartbeats 1600000 in
theorem order_any (w : World) (f h : Fct) : Calls Try.prog 74 #[f.agg, h.agg] w fun e w' => e = .returned (.int .i64 (ord3 f.nt f.fr f.to h.nt h.fr h.to)) ∧ Below w.heap.size w w' := by
  obtain ⟨a, b, c⟩ := f
  obtain ⟨a', b', c'⟩ := h
  unfold Fct.agg
  have k0 := (Blk.new w 101 #[.int .i64 a, .int .i64 b, .int .i64 c]).alloc (.cells #[.int .i64 a', .int .i64 b', .int .i64 c'] 101)
  have k1 := Blk.new (w.alloc (.cells #[.int .i64 a, .int .i64 b, .int .i64 c] 101)) 101 #[.int .i64 a', .int .i64 b', .int .i64 c']
  simp only [World.size_alloc] at k1
  have u1 : Below w.heap.size w ((w.alloc (.cells #[.int .i64 a, .int .i64 b, .int .i64 c] 101)).alloc (.cells #[.int .i64 a', .int .i64 b', .int .i64 c'] 101)) := ((Below.refl _ _).alloc (Nat.le_refl _) _).alloc (by simp) _
  go_enter Try.func74, Try.ntmps74
  go_wp2_with fail
  have z1 : ((w.alloc (.cells #[.int .i64 a, .int .i64 b, .int .i64 c] 101)).alloc (.cells #[.int .i64 a', .int .i64 b', .int .i64 c'] 101)).heap.size = w.heap.size + 2 := by simp
  generalize (w.alloc (.cells #[.int .i64 a, .int .i64 b, .int .i64 c] 101)).alloc (.cells #[.int .i64 a', .int .i64 b', .int .i64 c'] 101) = W at k0 k1 u1 z1 ⊢
  have r0 := k0.cell 0
  have r1 := k0.cell 1
  have r2 := k0.cell 2
  have s0 := k1.cell 0
  have s1 := k1.cell 1
  have s2 := k1.cell 2
  simp only [List.getElem?_toArray, List.getElem?_cons_succ, List.getElem?_cons_zero] at r0 r1 r2 s0 s1 s2
  have HB := Lib.hid (And.intro u1 z1)
  clear k0 k1 u1 z1
  refine wp_region_ord (fun w' => w'.cell? ⟨w.heap.size, 0, none⟩ = some (.int .i64 a) ∧ w'.cell? ⟨w.heap.size, 1, none⟩ = some (.int .i64 b) ∧ w'.cell? ⟨w.heap.size, 2, none⟩ = some (.int .i64 c) ∧
    w'.cell? ⟨w.heap.size + 1, 0, none⟩ = some (.int .i64 a') ∧ w'.cell? ⟨w.heap.size + 1, 1, none⟩ = some (.int .i64 b') ∧ w'.cell? ⟨w.heap.size + 1, 2, none⟩ = some (.int .i64 c')) 18
    [(0, true), (1, true), (2, true), (3, true), (5, true), (6, true), (7, true), (8, true), (10, true), (11, true), (12, true), (13, true), (4, false), (9, false), (14, false), (15, false), (16, false), (17, true)]
    (by kernel_rfl) (by kernel_rfl) (fun _ _ d _ _ h => by cases d <;> exact h) ⟨r0, r1, r2, s0, s1, s2⟩ ?_
  iterate 12 (refine ord_take (v := ?_) rfl (by first | with_reducible rfl | kernel_rfl) ?_ ?_; rotate_left; (focus (intro wS hS; (try dsimp only at hS); go_split_ands; go_simp; (try with_reducible rfl); done)); (try simp only [Act.put, List.getElem_toArray, List.getElem_cons_succ, List.getElem_cons_zero, List.setIfInBounds_toArray, List.set_cons_zero, List.set_cons_succ]))
  have SS := Lib.hid (And.intro r0 (And.intro r1 (And.intro r2 (And.intro s0 (And.intro s1 s2)))))
  clear r0 r1 r2 s0 s1 s2
  refine ord_do rfl rfl (fun K hK => ?_)
  go_simp
  refine (cmp_any _ _ _).mono ?_
  rintro e w' ⟨rfl, rfl⟩
  refine hK _ _ (fun _ => SS.out) ?_
  clear hK K
  (try simp only [Act.put, List.getElem_toArray, List.getElem_cons_succ, List.getElem_cons_zero, List.setIfInBounds_toArray, List.set_cons_zero, List.set_cons_succ])
  refine ord_do rfl rfl (fun K hK => ?_)
  go_simp
  refine (cmp_any _ _ _).mono ?_
  rintro e w' ⟨rfl, rfl⟩
  refine hK _ _ (fun _ => SS.out) ?_
  clear hK K
  (try simp only [Act.put, List.getElem_toArray, List.getElem_cons_succ, List.getElem_cons_zero, List.setIfInBounds_toArray, List.set_cons_zero, List.set_cons_succ])
  refine ord_do rfl rfl (fun K hK => ?_)
  go_simp
  refine (cmp_any _ _ _).mono ?_
  rintro e w' ⟨rfl, rfl⟩
  refine hK _ _ (fun _ => SS.out) ?_
  clear hK K
  (try simp only [Act.put, List.getElem_toArray, List.getElem_cons_succ, List.getElem_cons_zero, List.setIfInBounds_toArray, List.set_cons_zero, List.set_cons_succ])
  refine ord_do rfl rfl (fun K hK => ?_)
  go_simp
  have al : ∀ p u, W.cell? p = some u → (W.alloc (.cells #[.int .i64 (cmpI a a'), .int .i64 (cmpI b b'), .int .i64 (cmpI c c')] 3)).drew.cell? p = some u := fun p u h => (World.cell?_alloc_lt W (.cells #[.int .i64 (cmpI a a'), .int .i64 (cmpI b b'), .int .i64 (cmpI c c')] 3) p (World.block_lt_of_cell? W _ h)).trans h
  refine hK _ _ (fun _ => ⟨al _ _ SS.out.1, al _ _ SS.out.2.1, al _ _ SS.out.2.2.1, al _ _ SS.out.2.2.2.1, al _ _ SS.out.2.2.2.2.1, al _ _ SS.out.2.2.2.2.2⟩) ?_
  have SA := Lib.hid (And.intro (al _ _ SS.out.1) (And.intro (al _ _ SS.out.2.1) (And.intro (al _ _ SS.out.2.2.1) (And.intro (al _ _ SS.out.2.2.2.1) (And.intro (al _ _ SS.out.2.2.2.2.1) (al _ _ SS.out.2.2.2.2.2))))))
  clear hK K al SS
  have kn := (Blk.new W 3 #[.int .i64 (cmpI a a'), .int .i64 (cmpI b b'), .int .i64 (cmpI c c')]).drew
  have bn : Below w.heap.size w (W.alloc (.cells #[.int .i64 (cmpI a a'), .int .i64 (cmpI b b'), .int .i64 (cmpI c c')] 3)).drew := (HB.out.1.alloc HB.out.1.size _).drew
  have n0 := kn.cell 0
  have n1 := kn.cell 1
  have n2 := kn.cell 2
  simp only [List.getElem?_toArray, List.getElem?_cons_succ, List.getElem?_cons_zero] at n0 n1 n2
  have HN := Lib.hid bn
  clear kn bn
  generalize (W.alloc (.cells #[.int .i64 (cmpI a a'), .int .i64 (cmpI b b'), .int .i64 (cmpI c c')] 3)).drew = W2 at SA n0 n1 n2 HN ⊢
  (try simp only [Act.put, List.getElem_toArray, List.getElem_cons_succ, List.getElem_cons_zero, List.setIfInBounds_toArray, List.set_cons_zero, List.set_cons_succ])
  refine ord_do rfl rfl (fun K hK => ?_)
  go_simp
  refine (or_any W2 _ 3 _ _ _ (by omega) n0 n1 n2).mono ?_
  rintro e w' ⟨rfl, rfl⟩
  refine hK _ _ (fun _ => SA.out) ?_
  clear hK K n0 n1 n2
  (try simp only [Act.put, List.getElem_toArray, List.getElem_cons_succ, List.getElem_cons_zero, List.setIfInBounds_toArray, List.set_cons_zero, List.set_cons_succ])
  (refine ord_take (v := ?_) rfl (by first | with_reducible rfl | kernel_rfl) ?_ ?_; rotate_left; (focus (intro wS hS; (try dsimp only at hS); go_split_ands; go_simp; (try with_reducible rfl); done)); (try simp only [Act.put, List.getElem_toArray, List.getElem_cons_succ, List.getElem_cons_zero, List.setIfInBounds_toArray, List.set_cons_zero, List.set_cons_succ]))
  refine ord_done ?_
  go_wp2
  go_ret
  exact ⟨rfl, HN.out⟩

set_option maxRecDepth 20000 in
set_option maxHeartbeats 1600000 in
theorem byPlace_any (w : World) (f h : Pk) : Calls Try.prog 76 #[f.agg, h.agg] w fun e w' => e = .returned (.int .i64 (ord3 f.spot f.prod f.mid h.spot h.prod h.mid)) ∧ Below w.heap.size w w' := by
  obtain ⟨a, b, c, l, r⟩ := f
  obtain ⟨a', b', c', l', r'⟩ := h
  unfold Pk.agg
  have k0 := (Blk.new w 125 #[.int .i64 a, .int .i64 b, .int .i64 c, .int .i64 l, .int .i64 r]).alloc (.cells #[.int .i64 a', .int .i64 b', .int .i64 c', .int .i64 l', .int .i64 r'] 125)
  have k1 := Blk.new (w.alloc (.cells #[.int .i64 a, .int .i64 b, .int .i64 c, .int .i64 l, .int .i64 r] 125)) 125 #[.int .i64 a', .int .i64 b', .int .i64 c', .int .i64 l', .int .i64 r']
  simp only [World.size_alloc] at k1
  have u1 : Below w.heap.size w ((w.alloc (.cells #[.int .i64 a, .int .i64 b, .int .i64 c, .int .i64 l, .int .i64 r] 125)).alloc (.cells #[.int .i64 a', .int .i64 b', .int .i64 c', .int .i64 l', .int .i64 r'] 125)) := ((Below.refl _ _).alloc (Nat.le_refl _) _).alloc (by simp) _
  go_enter Try.func76, Try.ntmps76
  go_wp2_with fail
  have z1 : ((w.alloc (.cells #[.int .i64 a, .int .i64 b, .int .i64 c, .int .i64 l, .int .i64 r] 125)).alloc (.cells #[.int .i64 a', .int .i64 b', .int .i64 c', .int .i64 l', .int .i64 r'] 125)).heap.size = w.heap.size + 2 := by simp
  generalize (w.alloc (.cells #[.int .i64 a, .int .i64 b, .int .i64 c, .int .i64 l, .int .i64 r] 125)).alloc (.cells #[.int .i64 a', .int .i64 b', .int .i64 c', .int .i64 l', .int .i64 r'] 125) = W at k0 k1 u1 z1 ⊢
  have r0 := k0.cell 0
  have r1 := k0.cell 1
  have r2 := k0.cell 2
  have s0 := k1.cell 0
  have s1 := k1.cell 1
  have s2 := k1.cell 2
  simp only [List.getElem?_toArray, List.getElem?_cons_succ, List.getElem?_cons_zero] at r0 r1 r2 s0 s1 s2
  have HB := Lib.hid (And.intro u1 z1)
  clear k0 k1 u1 z1
  refine wp_region_ord (fun w' => w'.cell? ⟨w.heap.size, 0, none⟩ = some (.int .i64 a) ∧ w'.cell? ⟨w.heap.size, 1, none⟩ = some (.int .i64 b) ∧ w'.cell? ⟨w.heap.size, 2, none⟩ = some (.int .i64 c) ∧
    w'.cell? ⟨w.heap.size + 1, 0, none⟩ = some (.int .i64 a') ∧ w'.cell? ⟨w.heap.size + 1, 1, none⟩ = some (.int .i64 b') ∧ w'.cell? ⟨w.heap.size + 1, 2, none⟩ = some (.int .i64 c')) 18
    [(0, true), (1, true), (2, true), (3, true), (5, true), (6, true), (7, true), (8, true), (10, true), (11, true), (12, true), (13, true), (4, false), (9, false), (14, false), (15, false), (16, false), (17, true)]
    (by kernel_rfl) (by kernel_rfl) (fun _ _ d _ _ h => by cases d <;> exact h) ⟨r0, r1, r2, s0, s1, s2⟩ ?_
  iterate 12 (refine ord_take (v := ?_) rfl (by first | with_reducible rfl | kernel_rfl) ?_ ?_; rotate_left; (focus (intro wS hS; (try dsimp only at hS); go_split_ands; go_simp; (try with_reducible rfl); done)); (try simp only [Act.put, List.getElem_toArray, List.getElem_cons_succ, List.getElem_cons_zero, List.setIfInBounds_toArray, List.set_cons_zero, List.set_cons_succ]))
  have SS := Lib.hid (And.intro r0 (And.intro r1 (And.intro r2 (And.intro s0 (And.intro s1 s2)))))
  clear r0 r1 r2 s0 s1 s2
  refine ord_do rfl rfl (fun K hK => ?_)
  go_simp
  refine (cmp_any _ _ _).mono ?_
  rintro e w' ⟨rfl, rfl⟩
  refine hK _ _ (fun _ => SS.out) ?_
  clear hK K
  (try simp only [Act.put, List.getElem_toArray, List.getElem_cons_succ, List.getElem_cons_zero, List.setIfInBounds_toArray, List.set_cons_zero, List.set_cons_succ])
  refine ord_do rfl rfl (fun K hK => ?_)
  go_simp
  refine (cmp_any _ _ _).mono ?_
  rintro e w' ⟨rfl, rfl⟩
  refine hK _ _ (fun _ => SS.out) ?_
  clear hK K
  (try simp only [Act.put, List.getElem_toArray, List.getElem_cons_succ, List.getElem_cons_zero, List.setIfInBounds_toArray, List.set_cons_zero, List.set_cons_succ])
  refine ord_do rfl rfl (fun K hK => ?_)
  go_simp
  refine (cmp_any _ _ _).mono ?_
  rintro e w' ⟨rfl, rfl⟩
  refine hK _ _ (fun _ => SS.out) ?_
  clear hK K
  (try simp only [Act.put, List.getElem_toArray, List.getElem_cons_succ, List.getElem_cons_zero, List.setIfInBounds_toArray, List.set_cons_zero, List.set_cons_succ])
  refine ord_do rfl rfl (fun K hK => ?_)
  go_simp
  have al : ∀ p u, W.cell? p = some u → (W.alloc (.cells #[.int .i64 (cmpI a a'), .int .i64 (cmpI b b'), .int .i64 (cmpI c c')] 3)).drew.cell? p = some u := fun p u h => (World.cell?_alloc_lt W (.cells #[.int .i64 (cmpI a a'), .int .i64 (cmpI b b'), .int .i64 (cmpI c c')] 3) p (World.block_lt_of_cell? W _ h)).trans h
  refine hK _ _ (fun _ => ⟨al _ _ SS.out.1, al _ _ SS.out.2.1, al _ _ SS.out.2.2.1, al _ _ SS.out.2.2.2.1, al _ _ SS.out.2.2.2.2.1, al _ _ SS.out.2.2.2.2.2⟩) ?_
  have SA := Lib.hid (And.intro (al _ _ SS.out.1) (And.intro (al _ _ SS.out.2.1) (And.intro (al _ _ SS.out.2.2.1) (And.intro (al _ _ SS.out.2.2.2.1) (And.intro (al _ _ SS.out.2.2.2.2.1) (al _ _ SS.out.2.2.2.2.2))))))
  clear hK K al SS
  have kn := (Blk.new W 3 #[.int .i64 (cmpI a a'), .int .i64 (cmpI b b'), .int .i64 (cmpI c c')]).drew
  have bn : Below w.heap.size w (W.alloc (.cells #[.int .i64 (cmpI a a'), .int .i64 (cmpI b b'), .int .i64 (cmpI c c')] 3)).drew := (HB.out.1.alloc HB.out.1.size _).drew
  have n0 := kn.cell 0
  have n1 := kn.cell 1
  have n2 := kn.cell 2
  simp only [List.getElem?_toArray, List.getElem?_cons_succ, List.getElem?_cons_zero] at n0 n1 n2
  have HN := Lib.hid bn
  clear kn bn
  generalize (W.alloc (.cells #[.int .i64 (cmpI a a'), .int .i64 (cmpI b b'), .int .i64 (cmpI c c')] 3)).drew = W2 at SA n0 n1 n2 HN ⊢
  (try simp only [Act.put, List.getElem_toArray, List.getElem_cons_succ, List.getElem_cons_zero, List.setIfInBounds_toArray, List.set_cons_zero, List.set_cons_succ])
  refine ord_do rfl rfl (fun K hK => ?_)
  go_simp
  refine (or_any W2 _ 3 _ _ _ (by omega) n0 n1 n2).mono ?_
  rintro e w' ⟨rfl, rfl⟩
  refine hK _ _ (fun _ => SA.out) ?_
  clear hK K n0 n1 n2
  (try simp only [Act.put, List.getElem_toArray, List.getElem_cons_succ, List.getElem_cons_zero, List.setIfInBounds_toArray, List.set_cons_zero, List.set_cons_succ])
  (refine ord_take (v := ?_) rfl (by first | with_reducible rfl | kernel_rfl) ?_ ?_; rotate_left; (focus (intro wS hS; (try dsimp only at hS); go_split_ands; go_simp; (try with_reducible rfl); done)); (try simp only [Act.put, List.getElem_toArray, List.getElem_cons_succ, List.getElem_cons_zero, List.setIfInBounds_toArray, List.set_cons_zero, List.set_cons_succ]))
  refine ord_done ?_
  go_wp2
  go_ret
  exact ⟨rfl, HN.out⟩

set_option maxRecDepth 20000 in
set_option maxHeartbeats 800000 in
theorem less_any (w : World) (f h : Fct) : Calls Try.prog 64 #[f.agg, h.agg] w fun e w' => e = .returned (.bool (lt3 f.nt f.fr f.to h.nt h.fr h.to)) ∧ Below w.heap.size w w' := by
  obtain ⟨a, b, c⟩ := f
  obtain ⟨a', b', c'⟩ := h
  unfold Fct.agg
  have u1 : Below w.heap.size w ((w.alloc (.cells #[.int .i64 a, .int .i64 b, .int .i64 c] 101)).alloc (.cells #[.int .i64 a', .int .i64 b', .int .i64 c'] 101)) := ((Below.refl _ _).alloc (Nat.le_refl _) _).alloc (by simp) _
  have HB := Lib.hid u1
  clear u1
  by_cases h1 : a = a'
  · subst h1
    by_cases h2 : b = b'
    · subst h2
      go_enter Try.func64, Try.ntmps64
      go_wp2
      go_ret
      exact ⟨by simp [lt3], HB.out⟩
    · have e2 : (b != b') = true := by simpa using h2
      have k := Lib.hid h2
      clear h2
      go_enter Try.func64, Try.ntmps64
      go_wp2
      go_ret
      exact ⟨by have := k.out; simp [lt3, this], HB.out⟩
  · have e1 : (a != a') = true := by simpa using h1
    have k := Lib.hid h1
    clear h1
    go_enter Try.func64, Try.ntmps64
    go_wp2
    go_ret
    exact ⟨by have := k.out; simp [lt3, this], HB.out⟩

set_option maxRecDepth 20000 in
set_option maxHeartbeats 800000 in
theorem packLess_any (w : World) (f h : Pk) : Calls Try.prog 66 #[f.agg, h.agg] w fun e w' => e = .returned (.bool (lt3 f.spot f.prod f.mid h.spot h.prod h.mid)) ∧ Below w.heap.size w w' := by
  obtain ⟨a, b, c, l, r⟩ := f
  obtain ⟨a', b', c', l', r'⟩ := h
  unfold Pk.agg
  have u1 : Below w.heap.size w ((w.alloc (.cells #[.int .i64 a, .int .i64 b, .int .i64 c, .int .i64 l, .int .i64 r] 125)).alloc (.cells #[.int .i64 a', .int .i64 b', .int .i64 c', .int .i64 l', .int .i64 r'] 125)) := ((Below.refl _ _).alloc (Nat.le_refl _) _).alloc (by simp) _
  have HB := Lib.hid u1
  clear u1
  by_cases h1 : a = a'
  · subst h1
    by_cases h2 : b = b'
    · subst h2
      go_enter Try.func66, Try.ntmps66
      go_wp2
      go_ret
      exact ⟨by simp [lt3], HB.out⟩
    · have e2 : (b != b') = true := by simpa using h2
      have k := Lib.hid h2
      clear h2
      go_enter Try.func66, Try.ntmps66
      go_wp2
      go_ret
      exact ⟨by have := k.out; simp [lt3, this], HB.out⟩
  · have e1 : (a != a') = true := by simpa using h1
    have k := Lib.hid h1
    clear h1
    go_enter Try.func66, Try.ntmps66
    go_wp2
    go_ret
    exact ⟨by have := k.out; simp [lt3, this], HB.out⟩

end Go.Proofs.Ytbppbgdmoihooaa
