/- Edges: two lists, two graphs that are the same. -/
import Derived.Test.YthmkgnifcbnkpaaGreatEdP
namespace Go.Proofs.YthmkgnifcbnkpaaGreat
open Go.RowKit

set_option maxHeartbeats 1000000 in
set_option maxRecDepth 20000 in
theorem equal_txt (w : World) (A : Option Addr) (c : Nat) (B : Option Addr) (d : Nat) (N M : List Txt) (h : RowR w A (txtCells N)) (k : RowR w B (txtCells M)) (hc : N.length ≤ c) (hd : M.length ≤ d) (hl : N.length * 16 ≤ 140737488355328) (hl2 : M.length * 16 ≤ 140737488355328) :
    Calls Tryz.prog 50 #[.slice A N.length c, .slice B M.length d] w (Sam w (.bool (decide (N = M)))) := by
  have HH := Lib.hid (And.intro h k)
  clear h k
  by_cases hlen : N.length = M.length
  · obtain ⟨n, hn⟩ : ∃ n, M.length = n := ⟨_, rfl⟩
    rw [hn] at hlen hd hl2 ⊢
    have HN := Lib.hid (And.intro hn hlen)
    have hNn : N.length ≤ n := by omega
    have hnN : n ≤ N.length := by omega
    have hnM : n ≤ M.length := by omega
    rw [hlen] at hc hl ⊢
    clear hn hlen
    go_enter Tryz.func50, Tryz.ntmps50
    go_wp2_with fail
    go_loopw [5, 13] (fun _ iv wr => ∃ k q : Nat, k ≤ n ∧ iv = .int .i64 k ∧ wr = w.drewN q ∧ Hid (∀ j, j < k → N[j]? = M[j]?)) (fun _ iv _ => n - (intOf iv).toNat)
    case atStart => exact ⟨0, 0, Nat.zero_le _, rfl, rfl, Lib.hid (fun j hj => by omega)⟩
    case round =>
      obtain ⟨k, q, hk, rfl, rfl, hall⟩ := hrel
      have hkw : IntKind.i64.wrap ((k : Int) + 1) = (k : Int) + 1 := IntWalk.i64_in _ (by omega)
      by_cases hlt : k < n
      · have hltI : (k : Int) < (n : Int) := by omega
        obtain ⟨x, hx⟩ : ∃ x, N[k]? = some x := ⟨N[k], List.getElem?_eq_getElem _⟩
        obtain ⟨y, hy⟩ : ∃ y, M[k]? = some y := ⟨M[k]'(by omega), List.getElem?_eq_getElem _⟩
        obtain ⟨ab, ao, rfl, x0⟩ := HH.out.1.txt hx
        obtain ⟨bb, bo, rfl, y0⟩ := HH.out.2.txt hy
        have hneq : (!(x.toList == y.toList)) = !decide (x = y) := by rw [eql_txt]
        have HXY := Lib.hid (And.intro hx hy)
        clear hx hy
        by_cases he : x = y
        · rw [decide_eq_true he] at hneq
          have HE := Lib.hid he
          clear he
          go_upto_region 6 with (fail)
          refine wp_region_ord (fun w' => w'.cell? ⟨ab, ao + k, none⟩ = some (.string x) ∧ w'.cell? ⟨bb, bo + k, none⟩ = some (.string y)) 9 [(0, true), (1, true), (2, true), (3, true), (4, true), (5, true), (6, true), (7, true), (8, true)] (by kernel_rfl) (by kernel_rfl) (fun _ _ d _ _ h => by cases d <;> exact h) ⟨x0, y0⟩ ?_
          iterate 9 (refine ord_take (v := ?_) rfl (by first | with_reducible rfl | kernel_rfl) ?_ ?_; rotate_left; (focus (intro wS hS; (try dsimp only at hS); go_split_ands; go_simp; (try with_reducible rfl); done)); (try simp only [Act.put, List.getElem_toArray, List.getElem_cons_succ, List.getElem_cons_zero, List.setIfInBounds_toArray, List.set_cons_zero, List.set_cons_succ]))
          refine ord_done ?_
          go_wp2
          go_roundw
          case rel => exact ⟨k + 1, q + 1, by omega, by go_num, rfl, Lib.hid (fun j hj => by
            rcases Nat.lt_succ_iff_lt_or_eq.1 hj with h | rfl
            · exact hall.out j h
            · rw [HXY.out.1, HXY.out.2, HE.out])⟩
          case measure => simp [intOf]; omega
        · rw [decide_eq_false he] at hneq
          have HE := Lib.hid he
          clear he
          go_upto_region 6 with (fail)
          refine wp_region_ord (fun w' => w'.cell? ⟨ab, ao + k, none⟩ = some (.string x) ∧ w'.cell? ⟨bb, bo + k, none⟩ = some (.string y)) 9 [(0, true), (1, true), (2, true), (3, true), (4, true), (5, true), (6, true), (7, true), (8, true)] (by kernel_rfl) (by kernel_rfl) (fun _ _ d _ _ h => by cases d <;> exact h) ⟨x0, y0⟩ ?_
          iterate 9 (refine ord_take (v := ?_) rfl (by first | with_reducible rfl | kernel_rfl) ?_ ?_; rotate_left; (focus (intro wS hS; (try dsimp only at hS); go_split_ands; go_simp; (try with_reducible rfl); done)); (try simp only [Act.put, List.getElem_toArray, List.getElem_cons_succ, List.getElem_cons_zero, List.setIfInBounds_toArray, List.set_cons_zero, List.set_cons_succ]))
          refine ord_done ?_
          go_wp2
          go_ret
          refine ⟨retb ?_, (below_drewN (Below.refl _ _) _).drew⟩
          refine (decide_eq_false (fun e => HE.out ?_)).symm
          have h1 := HXY.out.1
          rw [e, HXY.out.2] at h1
          injection h1 with h1
          exact h1.symm
      · obtain rfl : k = n := by omega
        have he : N = M := by
          apply List.ext_getElem?
          intro j
          by_cases hj : j < k
          · exact hall.out j hj
          · rw [List.getElem?_eq_none (by rw [HN.out.2]; omega), List.getElem?_eq_none (by rw [HN.out.1]; omega)]
        have HE := Lib.hid he
        clear he hall
        go_wp2
        go_ret
        exact ⟨retb (decide_eq_true HE.out).symm, below_drewN (Below.refl _ _) _⟩
  · have hne : N ≠ M := fun e => hlen (by rw [e])
    have HE := Lib.hid hne
    clear hne
    obtain ⟨n, hn⟩ : ∃ n, N.length = n := ⟨_, rfl⟩
    obtain ⟨m, hm⟩ : ∃ m, M.length = m := ⟨_, rfl⟩
    rw [hn, hm] at hlen
    rw [hn, hm]
    have hd1 : (n == m) = false := by simpa using hlen
    clear hn hm HH
    go_enter Tryz.func50, Tryz.ntmps50
    go_wp2
    go_ret
    exact ⟨retb (decide_eq_false HE.out).symm, Below.refl _ _⟩

set_option maxHeartbeats 1000000 in
set_option maxRecDepth 20000 in
theorem equal_ed (w : World) (A : Option Addr) (c : Nat) (B : Option Addr) (d : Nat) (N M : List Ed) (h : RowR w A (edCells N)) (k : RowR w B (edCells M)) (hc : N.length ≤ c) (hd : M.length ≤ d) (hl : N.length * 48 ≤ 140737488355328) (hl2 : M.length * 48 ≤ 140737488355328) :
    Calls Tryz.prog 51 #[.slice A N.length c, .slice B M.length d] w (Sam w (.bool (decide (N = M)))) := by
  have HH := Lib.hid (And.intro h k)
  clear h k
  by_cases hlen : N.length = M.length
  · obtain ⟨n, hn⟩ : ∃ n, M.length = n := ⟨_, rfl⟩
    rw [hn] at hlen hd hl2 ⊢
    have HN := Lib.hid (And.intro hn hlen)
    have hNn : N.length ≤ n := by omega
    have hnN : n ≤ N.length := by omega
    have hnM : n ≤ M.length := by omega
    rw [hlen] at hc hl ⊢
    clear hn hlen
    go_enter Tryz.func51, Tryz.ntmps51
    go_wp2_with fail
    go_loopw [5, 13] (fun _ iv wr => ∃ k q : Nat, k ≤ n ∧ iv = .int .i64 k ∧ wr = w.drewN q ∧ Hid (∀ j, j < k → N[j]? = M[j]?)) (fun _ iv _ => n - (intOf iv).toNat)
    case atStart => exact ⟨0, 0, Nat.zero_le _, rfl, rfl, Lib.hid (fun j hj => by omega)⟩
    case round =>
      obtain ⟨k, q, hk, rfl, rfl, hall⟩ := hrel
      have hkw : IntKind.i64.wrap ((k : Int) + 1) = (k : Int) + 1 := IntWalk.i64_in _ (by omega)
      by_cases hlt : k < n
      · have hltI : (k : Int) < (n : Int) := by omega
        obtain ⟨⟨x0, x1, x2⟩, hx⟩ : ∃ x, N[k]? = some x := ⟨N[k], List.getElem?_eq_getElem _⟩
        obtain ⟨⟨y0, y1, y2⟩, hy⟩ : ∃ y, M[k]? = some y := ⟨M[k]'(by omega), List.getElem?_eq_getElem _⟩
        obtain ⟨ab, ao, rfl, a0, a1, a2⟩ := HH.out.1.ed hx
        obtain ⟨bb, bo, rfl, b0, b1, b2⟩ := HH.out.2.ed hy
        dsimp only at a0 a1 a2 b0 b1 b2
        have hneq := fun W => ed_neq W ⟨x0, x1, x2⟩ ⟨y0, y1, y2⟩
        unfold Ed.agg at hneq
        dsimp only at hneq
        have HXY := Lib.hid (And.intro hx hy)
        clear hx hy
        by_cases he : (⟨x0, x1, x2⟩ : Ed) = ⟨y0, y1, y2⟩
        · rw [decide_eq_true he] at hneq
          have HE := Lib.hid he
          clear he
          go_upto_region 6 with (fail)
          refine wp_region_ord (fun w' => w'.cell? ⟨ab, ao + k * 3, none⟩ = some (.string x0) ∧ w'.cell? ⟨ab, ao + k * 3 + 1, none⟩ = some (.string x1) ∧ w'.cell? ⟨ab, ao + k * 3 + 2, none⟩ = some (.string x2) ∧ w'.cell? ⟨bb, bo + k * 3, none⟩ = some (.string y0) ∧ w'.cell? ⟨bb, bo + k * 3 + 1, none⟩ = some (.string y1) ∧ w'.cell? ⟨bb, bo + k * 3 + 2, none⟩ = some (.string y2)) 9 [(0, true), (1, true), (2, true), (3, true), (4, true), (5, true), (6, true), (7, true), (8, true)] (by kernel_rfl) (by kernel_rfl) (fun _ _ d _ _ h => by cases d <;> exact h) ⟨a0, a1, a2, b0, b1, b2⟩ ?_
          iterate 9 (refine ord_take (v := ?_) rfl (by first | with_reducible rfl | kernel_rfl) ?_ ?_; rotate_left; (focus (intro wS hS; (try dsimp only at hS); go_split_ands; go_simp; (try with_reducible rfl); done)); (try simp only [Act.put, List.getElem_toArray, List.getElem_cons_succ, List.getElem_cons_zero, List.setIfInBounds_toArray, List.set_cons_zero, List.set_cons_succ]))
          refine ord_done ?_
          go_wp2
          go_roundw
          case rel => exact ⟨k + 1, q + 1, by omega, by go_num, rfl, Lib.hid (fun j hj => by
            rcases Nat.lt_succ_iff_lt_or_eq.1 hj with h | rfl
            · exact hall.out j h
            · rw [HXY.out.1, HXY.out.2, HE.out])⟩
          case measure => simp [intOf]; omega
        · rw [decide_eq_false he] at hneq
          have HE := Lib.hid he
          clear he
          go_upto_region 6 with (fail)
          refine wp_region_ord (fun w' => w'.cell? ⟨ab, ao + k * 3, none⟩ = some (.string x0) ∧ w'.cell? ⟨ab, ao + k * 3 + 1, none⟩ = some (.string x1) ∧ w'.cell? ⟨ab, ao + k * 3 + 2, none⟩ = some (.string x2) ∧ w'.cell? ⟨bb, bo + k * 3, none⟩ = some (.string y0) ∧ w'.cell? ⟨bb, bo + k * 3 + 1, none⟩ = some (.string y1) ∧ w'.cell? ⟨bb, bo + k * 3 + 2, none⟩ = some (.string y2)) 9 [(0, true), (1, true), (2, true), (3, true), (4, true), (5, true), (6, true), (7, true), (8, true)] (by kernel_rfl) (by kernel_rfl) (fun _ _ d _ _ h => by cases d <;> exact h) ⟨a0, a1, a2, b0, b1, b2⟩ ?_
          iterate 9 (refine ord_take (v := ?_) rfl (by first | with_reducible rfl | kernel_rfl) ?_ ?_; rotate_left; (focus (intro wS hS; (try dsimp only at hS); go_split_ands; go_simp; (try with_reducible rfl); done)); (try simp only [Act.put, List.getElem_toArray, List.getElem_cons_succ, List.getElem_cons_zero, List.setIfInBounds_toArray, List.set_cons_zero, List.set_cons_succ]))
          refine ord_done ?_
          go_wp2
          go_ret
          refine ⟨retb ?_, (below_drewN (Below.refl _ _) _).drew⟩
          refine (decide_eq_false (fun e => HE.out ?_)).symm
          have h1 := HXY.out.1
          rw [e, HXY.out.2] at h1
          injection h1 with h1
          exact h1.symm
      · obtain rfl : k = n := by omega
        have he : N = M := by
          apply List.ext_getElem?
          intro j
          by_cases hj : j < k
          · exact hall.out j hj
          · rw [List.getElem?_eq_none (by rw [HN.out.2]; omega), List.getElem?_eq_none (by rw [HN.out.1]; omega)]
        have HE := Lib.hid he
        clear he hall
        go_wp2
        go_ret
        exact ⟨retb (decide_eq_true HE.out).symm, below_drewN (Below.refl _ _) _⟩
  · have hne : N ≠ M := fun e => hlen (by rw [e])
    have HE := Lib.hid hne
    clear hne
    obtain ⟨n, hn⟩ : ∃ n, N.length = n := ⟨_, rfl⟩
    obtain ⟨m, hm⟩ : ∃ m, M.length = m := ⟨_, rfl⟩
    rw [hn, hm] at hlen
    rw [hn, hm]
    have hd1 : (n == m) = false := by simpa using hlen
    clear hn hm HH
    go_enter Tryz.func51, Tryz.ntmps51
    go_wp2
    go_ret
    exact ⟨retb (decide_eq_false HE.out).symm, Below.refl _ _⟩

def sameB (N : List Txt) (E : List Ed) (N' : List Txt) (E' : List Ed) : Bool := decide (N = N') && decide (E = E')
set_option maxHeartbeats 1000000 in
set_option maxRecDepth 20000 in
theorem esame_any (w : World) (A : Option Addr) (c : Nat) (B : Option Addr) (d : Nat) (N : List Txt) (E : List Ed) (A' : Option Addr) (c' : Nat) (B' : Option Addr) (d' : Nat) (N' : List Txt) (E' : List Ed) (h : ForG w A c B d N E) (h' : ForG w A' c' B' d' N' E') :
    Calls Tryz.prog 19 #[twoV A N.length c B E.length d, twoV A' N'.length c' B' E'.length d'] w (Sam w (.bool (sameB N E N' E'))) := by
  have k0 := (Blk.new w 25 #[.slice A N.length c, .slice B E.length d]).alloc (.cells #[.slice A' N'.length c', .slice B' E'.length d'] 25)
  have k1 := Blk.new (w.alloc (.cells #[.slice A N.length c, .slice B E.length d] 25)) 25 #[.slice A' N'.length c', .slice B' E'.length d']
  simp only [World.size_alloc] at k1
  have u0 : Below w.heap.size w ((w.alloc (.cells #[.slice A N.length c, .slice B E.length d] 25)).alloc (.cells #[.slice A' N'.length c', .slice B' E'.length d'] 25)) := by (repeat (first | exact Below.refl _ _ | apply Below.drew | refine Below.alloc ?_ (by first | exact Nat.le_refl _ | (simp; done) | (simp; omega)) _ | refine Below.setCell ?_ (by first | exact Nat.le_refl _ | (simp; done) | (simp; omega)) _))
  have H := Lib.hid (And.intro (h.below u0) (And.intro (h'.below u0) (And.intro k0 (And.intro k1 u0))))
  clear h h' k0 k1 u0
  obtain ⟨b0, hb0⟩ : ∃ b, decide (N = N') = b := ⟨_, rfl⟩
  obtain ⟨b1, hb1⟩ : ∃ b, decide (E = E') = b := ⟨_, rfl⟩
  have HB := Lib.hid (And.intro hb0 hb1)
  clear hb0 hb1
  unfold twoV
  go_enter Tryz.func19, Tryz.ntmps19
  go_upto_region 1 with (fail)
  generalize (w.alloc (.cells #[.slice A N.length c, .slice B E.length d] 25)).alloc (.cells #[.slice A' N'.length c', .slice B' E'.length d'] 25) = W0 at H ⊢
  have q0 : W0.cell? ⟨w.heap.size, 0, none⟩ = some (.slice A N.length c) := H.out.2.2.1.cell 0
  have q2 : W0.cell? ⟨w.heap.size + 1, 0, none⟩ = some (.slice A' N'.length c') := H.out.2.2.2.1.cell 0
  go_wp2_with fail
  refine (equal_txt W0 A c A' c' N N' H.out.1.rn H.out.2.1.rn H.out.1.hc H.out.2.1.hc H.out.1.fit.n H.out.2.1.fit.n).mono ?_
  rintro e w1 ⟨rfl, u1⟩
  rw [HB.out.1]
  have k0 := H.out.2.2.1.upd (Upd.of_below u1 (fun _ => False)) id
  have k1 := H.out.2.2.2.1.upd (Upd.of_below u1 (fun _ => False)) id
  have H1 := Lib.hid (And.intro (H.out.1.below u1) (And.intro (H.out.2.1.below u1) (H.out.2.2.2.2.trans (u1.mono H.out.2.2.2.2.size))))
  clear u1 q0 q2
  have q1 : w1.cell? ⟨w.heap.size, 1, none⟩ = some (.slice B E.length d) := k0.cell 1
  have q3 : w1.cell? ⟨w.heap.size + 1, 1, none⟩ = some (.slice B' E'.length d') := k1.cell 1
  clear k0 k1
  cases b0
  · go_wp2
    go_ret
    exact ⟨retb (by rw [sameB, HB.out.1, Bool.false_and]), H1.out.2.2⟩
  go_wp2_with fail
  refine (equal_ed w1 B d B' d' E E' H1.out.1.re H1.out.2.1.re H1.out.1.hd H1.out.2.1.hd H1.out.1.fit.e H1.out.2.1.fit.e).mono ?_
  rintro e w2 ⟨rfl, u2⟩
  rw [HB.out.2]
  have FIN := Lib.hid (H1.out.2.2.trans (u2.mono H1.out.2.2.size))
  clear u2 q1 q3
  go_wp2
  go_ret
  exact ⟨retb (by rw [sameB, HB.out.1, HB.out.2, Bool.true_and]), FIN.out⟩
end Go.Proofs.YthmkgnifcbnkpaaGreat
