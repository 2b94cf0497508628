/- Edges: slices.Compact at edges. -/
import Derived.Test.YthmkgnifcbnkpaaGreatEdL
namespace Go.Proofs.YthmkgnifcbnkpaaGreat
open Go.RowKit Go.Sort Go.Shelf

theorem own_frozen {w : World} {base e size n g cap : Nat} {xs : List Value} (h : w.ownsRow base e size (.slice (some ⟨g, 0, none⟩) n cap) n xs) (i : Nat) : w.frozen? ⟨g, i, none⟩ = false := by
  rcases h.2 with ⟨hv, -⟩ | ⟨g', cap', cur, hv, hb, hg, -⟩
  · cases hv
  injection hv with hv _ _
  injection hv with hv
  injection hv with hv _ _
  subst hv
  exact Blk.frozen (t := e) hg i
/-- The edges stand at the front of the row, each once. -/
def CmpP (w : World) (g cap : Nat) (L : List Ed) (e : Ending) (w' : World) : Prop := ∃ M, SetOf ltE L M ∧ M.length ≤ L.length ∧ e = .returned (.slice (some ⟨g, 0, none⟩) M.length cap) ∧ RowR w' (some ⟨g, 0, none⟩) (edCells M) ∧ Upd (fun q => q = g) w w'

set_option maxHeartbeats 2000000 in
set_option maxRecDepth 100000 in
theorem compact_ed (w : World) (base g cap n : Nat) (L : List Ed) (d : Array Ed) (ho : InOrd ltE L d) (hn : L.length = n) (h : w.ownsRow base 39 3 (.slice (some ⟨g, 0, none⟩) n cap) n (edCells d.toList)) (hl : n ≤ 140737488355328) :
    Calls Tryz.prog 115 #[.slice (some ⟨g, 0, none⟩) n cap] w (CmpP w g cap L) := by
  have hsz : d.size = n := by rw [ho.n, hn]
  have hset := compact_setOf stoE d ho.p ho.s
  rw [hsz] at hset
  have hcap : n ≤ cap := by
    obtain ⟨_, _, e1, h1, -⟩ := own_form h
    injection e1 with _ _ e1
    rw [e1]
    exact h1
  have HS := Lib.hid (And.intro hset (And.intro hn (And.intro hsz h)))
  clear hset hn hsz h ho
  by_cases h2 : n < 2
  · have h2I : (n : Int) < 2 := by omega
    have hall : ∀ j, j < n → Lib.keeps d j = true := fun j hj => Lib.keeps_lt_one d j (by omega) |> fun h => h
    have hc := cmpct_all hall (by rw [HS.out.2.2.1]; exact Nat.le_refl _)
    have FIN := Lib.hid (show CmpP w g cap L (.returned (.slice (some ⟨g, 0, none⟩) n cap)) w from ⟨_, HS.out.1, by rw [hc.1, HS.out.2.1, List.length_take]; omega, by rw [hc.1, List.length_take, Array.length_toList, HS.out.2.2.1, Nat.min_self], by
      rw [hc.1, List.take_of_length_le (by rw [Array.length_toList, HS.out.2.2.1]; exact Nat.le_refl _)]
      exact RowR.of_own HS.out.2.2.2, Upd.refl _ _⟩)
    clear hall hc h2
    go_enter Tryz.func115, Tryz.ntmps115
    go_wp2
    go_ret
    exact FIN.out
  have h2I : ¬ (n : Int) < 2 := by omega
  go_enter Tryz.func115, Tryz.ntmps115
  go_wp2_with fail
  go_loopw [3] (fun i wr => ∃ k q : Nat, k + 1 ≤ n ∧ i = .int .i64 ((k : Int) + 1) ∧ wr = w.drewN q ∧ Hid (∀ j, j < k + 1 → Lib.keeps d j = true)) (fun i _ => n + 1 - (intOf i).toNat)
  case atStart => exact ⟨0, 0, by omega, rfl, rfl, Lib.hid (fun j hj => Lib.keeps_lt_one d j (by omega))⟩
  case round =>
    obtain ⟨k, q, hk, rfl, rfl, hall⟩ := hrel
    have hkw : IntKind.i64.wrap (k : Int) = (k : Int) := IntWalk.i64_in _ (by omega)
    have hkw2 : IntKind.i64.wrap ((k : Int) + 1 + 1) = (k : Int) + 1 + 1 := IntWalk.i64_in _ (by omega)
    by_cases hlt : k + 1 < n
    · have hltI : (k : Int) + 1 < (n : Int) := by omega
      have hltI2 : (k : Int) < (n : Int) := by omega
      have ht : ((k : Int) + 1).toNat = k + 1 := by omega
      have hn0 : (0 : Int) ≤ (k : Int) + 1 := by omega
      have hx : d.toList[k + 1]? = some d[k + 1]! := by rw [Array.getElem?_toList, getElem!_pos d (k + 1) (by rw [HS.out.2.2.1]; exact hlt), Array.getElem?_eq_getElem]
      have hy : d.toList[k]? = some d[k]! := by rw [Array.getElem?_toList, getElem!_pos d k (by rw [HS.out.2.2.1]; omega), Array.getElem?_eq_getElem]
      obtain ⟨x0, x1, x2⟩ := ed_row HS.out.2.2.2 hx
      obtain ⟨y0, y1, y2⟩ := ed_row HS.out.2.2.2 hy
      obtain ⟨x, hx⟩ : ∃ x, d[k + 1]! = x := ⟨_, rfl⟩
      obtain ⟨y, hy⟩ : ∃ y, d[k]! = y := ⟨_, rfl⟩
      rw [hx] at x0 x1 x2
      rw [hy] at y0 y1 y2
      obtain ⟨sx0, sx1, sx2⟩ := x
      obtain ⟨sy0, sy1, sy2⟩ := y
      dsimp only at x0 x1 x2 y0 y1 y2
      have heq := fun W => ed_eql W ⟨sx0, sx1, sx2⟩ ⟨sy0, sy1, sy2⟩
      unfold Ed.agg at heq
      dsimp only at heq
      have HXY := Lib.hid (And.intro hx hy)
      clear hx hy
      by_cases he : (⟨sx0, sx1, sx2⟩ : Ed) = ⟨sy0, sy1, sy2⟩
      · rw [decide_eq_true he] at heq
        have HE := Lib.hid he
        clear he
        go_upto_region 6 with (fail)
        refine wp_region_ord (fun w' => w'.cell? ⟨g, (k + 1) * 3, none⟩ = some (.string sx0) ∧ w'.cell? ⟨g, (k + 1) * 3 + 1, none⟩ = some (.string sx1) ∧ w'.cell? ⟨g, (k + 1) * 3 + 2, none⟩ = some (.string sx2) ∧ w'.cell? ⟨g, k * 3, none⟩ = some (.string sy0) ∧ w'.cell? ⟨g, k * 3 + 1, none⟩ = some (.string sy1) ∧ w'.cell? ⟨g, k * 3 + 2, none⟩ = some (.string sy2)) 10 [(0, true), (1, true), (2, true), (3, true), (4, true), (5, true), (6, true), (7, true), (8, true), (9, true)] (by kernel_rfl) (by kernel_rfl) (fun _ _ d _ _ h => by cases d <;> exact h) ⟨x0, x1, x2, y0, y1, y2⟩ ?_
        iterate 10 (refine ord_take (v := ?_) rfl (by first | with_reducible rfl | kernel_rfl) ?_ ?_; rotate_left; (focus (intro wS hS; (try dsimp only at hS); go_split_ands; go_simp; (try with_reducible rfl); done)); (try simp only [Act.put, List.getElem_toArray, List.getElem_cons_succ, List.getElem_cons_zero, List.setIfInBounds_toArray, List.set_cons_zero, List.set_cons_succ]))
        refine ord_done ?_
        clear x0 x1 x2 y0 y1 y2 heq
        go_wp2_with fail
        obtain ⟨ln, hln⟩ : ∃ ln, n - (k + 1) = ln := ⟨_, rfl⟩
        obtain ⟨cn, hcn⟩ : ∃ cn, cap - (k + 1) = cn := ⟨_, rfl⟩
        obtain ⟨oo, hoo⟩ : ∃ oo, (k + 1) * 3 = oo := ⟨_, rfl⟩
        rw [hln, hcn, hoo]
        have hkeep : Lib.keeps d (k + 1) = false := Lib.keeps_neg (by omega) (by rw [Nat.add_sub_cancel, HXY.out.1, HXY.out.2, HE.out])
        have hc0 := cmpct_all hall.out (by rw [HS.out.2.2.1]; omega)
        have hl0 : (Lib.compactUpTo d (k + 1)).length = k + 1 := by rw [hc0.1, List.length_take, Array.length_toList, HS.out.2.2.1]; omega
        have hl1 : (Lib.compactUpTo d (k + 2)).length = k + 1 := by
          rw [Lib.compactUpTo_succ, hkeep]
          simpa using hl0
        have hs1 : cmpct d (k + 2) = d.toList := by rw [cmpct_same hkeep]; exact hc0.2
        have hlnb : ln + (k + 1) = n := by omega
        have hcnb : cn + (k + 1) = cap := by omega
        have HB := Lib.hid (And.intro hoo (And.intro hl1 (And.intro hs1 (And.intro hlnb hcnb))))
        have hlnn : ln + k + 1 ≤ n := by omega
        have hln1 : 0 + 1 ≤ ln := by omega
        clear hln hcn hoo hkeep hc0 hl0 hl1 hs1 hcnb hlnb
        go_loopw [3, 5] (fun a3 a5 wz => ∃ kk r : Nat, r + 1 ≤ ln ∧ a3 = .int .i64 kk ∧ a5 = .int .i64 ((r : Int) + 1) ∧ kk ≤ k + r + 1 ∧ Hid (kk = (Lib.compactUpTo d (k + r + 2)).length) ∧ Hid (wz.ownsRow base 39 3 (.slice (some ⟨g, 0, none⟩) n cap) n (edCells (cmpct d (k + r + 2)))) ∧ Hid (Upd (fun q => q = g) w wz)) (fun _ a5 _ => ln + 1 - (intOf a5).toNat)
        case atStart => exact ⟨k + 1, 0, hln1, by go_num, rfl, by omega, Lib.hid HB.out.2.1.symm, Lib.hid (by rw [Nat.add_zero, HB.out.2.2.1]; exact HS.out.2.2.2), Lib.hid ((Upd.refl _ w).drewN (q + 1))⟩
        case round =>
          obtain ⟨kk, r, hr, rfl, rfl, hkk, hkl, how, hu⟩ := hrel
          have hrw : IntKind.i64.wrap (r : Int) = (r : Int) := IntWalk.i64_in _ (by omega)
          have hrw2 : IntKind.i64.wrap ((r : Int) + 1 + 1) = (r : Int) + 1 + 1 := IntWalk.i64_in _ (by omega)
          have hkw3 : IntKind.i64.wrap ((kk : Int) + 1) = (kk : Int) + 1 := IntWalk.i64_in _ (by omega)
          by_cases hlt3 : r + 1 < ln
          · have hltI3 : (r : Int) + 1 < (ln : Int) := by omega
            have hltI4 : (r : Int) < (ln : Int) := by omega
            have ht3 : ((r : Int) + 1).toNat = r + 1 := by omega
            have hn3 : (0 : Int) ≤ (r : Int) + 1 := by omega
            have hm : k + r + 2 < d.size := by rw [HS.out.2.2.1]; omega
            have hx := cmpct_at (d := d) (m := k + r + 2) (j := k + r + 2) (by rw [← hkl.out]; omega) hm
            have hy := cmpct_at (d := d) (m := k + r + 2) (j := k + r + 1) (by rw [← hkl.out]; omega) (by omega)
            obtain ⟨x0, x1, x2⟩ := ed_row how.out hx
            obtain ⟨y0, y1, y2⟩ := ed_row how.out hy
            rw [show (k + r + 2) * 3 = oo + (r + 1) * 3 by have := HB.out.1; omega] at x0 x1 x2
            rw [show (k + r + 1) * 3 = oo + r * 3 by have := HB.out.1; omega] at y0 y1 y2
            obtain ⟨x, hx⟩ : ∃ x, d[k + r + 2]! = x := ⟨_, rfl⟩
            obtain ⟨y, hy⟩ : ∃ y, d[k + r + 1]! = y := ⟨_, rfl⟩
            rw [hx] at x0 x1 x2
            rw [hy] at y0 y1 y2
            obtain ⟨tx0, tx1, tx2⟩ := x
            obtain ⟨ty0, ty1, ty2⟩ := y
            dsimp only at x0 x1 x2 y0 y1 y2
            have hneq := fun W => ed_neq W ⟨tx0, tx1, tx2⟩ ⟨ty0, ty1, ty2⟩
            unfold Ed.agg at hneq
            dsimp only at hneq
            have HXY2 := Lib.hid (And.intro hx hy)
            clear hx hy hm
            by_cases he : (⟨tx0, tx1, tx2⟩ : Ed) = ⟨ty0, ty1, ty2⟩
            · rw [decide_eq_true he] at hneq
              have HE2 := Lib.hid he
              clear he
              go_upto_region 11 with (fail)
              refine wp_region_ord (fun w' => w'.cell? ⟨g, oo + (r + 1) * 3, none⟩ = some (.string tx0) ∧ w'.cell? ⟨g, oo + (r + 1) * 3 + 1, none⟩ = some (.string tx1) ∧ w'.cell? ⟨g, oo + (r + 1) * 3 + 2, none⟩ = some (.string tx2) ∧ w'.cell? ⟨g, oo + r * 3, none⟩ = some (.string ty0) ∧ w'.cell? ⟨g, oo + r * 3 + 1, none⟩ = some (.string ty1) ∧ w'.cell? ⟨g, oo + r * 3 + 2, none⟩ = some (.string ty2)) 10 [(0, true), (1, true), (2, true), (3, true), (4, true), (5, true), (6, true), (7, true), (8, true), (9, true)] (by kernel_rfl) (by kernel_rfl) (fun _ _ d _ _ h => by cases d <;> exact h) ⟨x0, x1, x2, y0, y1, y2⟩ ?_
              iterate 10 (refine ord_take (v := ?_) rfl (by first | with_reducible rfl | kernel_rfl) ?_ ?_; rotate_left; (focus (intro wS hS; (try dsimp only at hS); go_split_ands; go_simp; (try with_reducible rfl); done)); (try simp only [Act.put, List.getElem_toArray, List.getElem_cons_succ, List.getElem_cons_zero, List.setIfInBounds_toArray, List.set_cons_zero, List.set_cons_succ]))
              refine ord_done ?_
              clear x0 x1 x2 y0 y1 y2 hneq
              have hkf : Lib.keeps d (k + r + 2) = false := Lib.keeps_neg (by omega) (by rw [show k + r + 2 - 1 = k + r + 1 by omega, HXY2.out.1, HXY2.out.2, HE2.out])
              have HK := Lib.hid hkf
              clear hkf
              go_wp2
              go_roundw
              case rel => exact ⟨kk, r + 1, by omega, rfl, by go_num, by omega, Lib.hid (by rw [hkl.out, show k + (r + 1) + 2 = k + r + 2 + 1 by omega, Lib.compactUpTo_succ d (k + r + 2), HK.out]; simp), Lib.hid (by rw [show k + (r + 1) + 2 = k + r + 2 + 1 by omega, cmpct_same HK.out]; exact how.out), Lib.hid hu.out.drew⟩
              case measure => simp [intOf]; omega
            · rw [decide_eq_false he] at hneq
              have HE2 := Lib.hid he
              clear he
              go_upto_region 11 with (fail)
              refine wp_region_ord (fun w' => w'.cell? ⟨g, oo + (r + 1) * 3, none⟩ = some (.string tx0) ∧ w'.cell? ⟨g, oo + (r + 1) * 3 + 1, none⟩ = some (.string tx1) ∧ w'.cell? ⟨g, oo + (r + 1) * 3 + 2, none⟩ = some (.string tx2) ∧ w'.cell? ⟨g, oo + r * 3, none⟩ = some (.string ty0) ∧ w'.cell? ⟨g, oo + r * 3 + 1, none⟩ = some (.string ty1) ∧ w'.cell? ⟨g, oo + r * 3 + 2, none⟩ = some (.string ty2)) 10 [(0, true), (1, true), (2, true), (3, true), (4, true), (5, true), (6, true), (7, true), (8, true), (9, true)] (by kernel_rfl) (by kernel_rfl) (fun _ _ d _ _ h => by cases d <;> exact h) ⟨x0, x1, x2, y0, y1, y2⟩ ?_
              iterate 10 (refine ord_take (v := ?_) rfl (by first | with_reducible rfl | kernel_rfl) ?_ ?_; rotate_left; (focus (intro wS hS; (try dsimp only at hS); go_split_ands; go_simp; (try with_reducible rfl); done)); (try simp only [Act.put, List.getElem_toArray, List.getElem_cons_succ, List.getElem_cons_zero, List.setIfInBounds_toArray, List.set_cons_zero, List.set_cons_succ]))
              refine ord_done ?_
              clear y0 y1 y2 hneq
              have hkt : Lib.keeps d (k + r + 2) = true := Lib.keeps_pos (by rw [show k + r + 2 - 1 = k + r + 1 by omega, HXY2.out.1, HXY2.out.2]; exact HE2.out)
              have hclen := cmpct_len (d := d) (m := k + r + 2) (by rw [HS.out.2.2.1]; omega)
              have hkn : kk < n := by omega
              obtain ⟨z0, z1, z2⟩ := ed_row how.out (cmpct_at (d := d) (m := k + r + 2) (j := kk) (by rw [← hkl.out]; exact Nat.le_refl _) (by rw [HS.out.2.2.1]; exact hkn))
              have fz := fun i => own_frozen how.out i
              have f0 := fz (kk * 3)
              have f1 := fz (kk * 3 + 1)
              have f2 := fz (kk * 3 + 2)
              have o1 := own_setCell (ownsRow_upd how.out (Upd.refl (fun _ => False) wr).drew (fun _ _ => id)) (i := kk * 3) (by omega) (.string tx0)
              have o2 := own_setCell o1 (i := kk * 3 + 1) (by omega) (.string tx1)
              have o3 := own_setCell o2 (i := kk * 3 + 2) (by omega) (.string tx2)
              have hes := ed_set (L := cmpct d (k + r + 2)) (k := kk) (by rw [hclen, HS.out.2.2.1]; exact hkn) ⟨tx0, tx1, tx2⟩
              dsimp only at hes
              have hst := cmpct_step hkt (by rw [← hkl.out, HS.out.2.2.1]; exact hkn)
              rw [← hkl.out, HXY2.out.1] at hst
              rw [hes, hst] at o3
              have u3 := ((hu.out.drew.setCell (p := ⟨g, kk * 3, none⟩) (.inl rfl) (.string tx0)).setCell (p := ⟨g, kk * 3 + 1, none⟩) (.inl rfl) (.string tx1)).setCell (p := ⟨g, kk * 3 + 2, none⟩) (.inl rfl) (.string tx2)
              have HO := Lib.hid (And.intro o3 (And.intro u3 hkt))
              have hknI : (kk : Int) < (n : Int) := by omega
              clear o1 o2 o3 hes hst u3 hkt fz hclen
              go_wp2
              go_roundw
              case rel => exact ⟨kk + 1, r + 1, by omega, by go_num, by go_num, by omega, Lib.hid (by rw [hkl.out, show k + (r + 1) + 2 = k + r + 2 + 1 by omega, Lib.compactUpTo_succ d (k + r + 2), HO.out.2.2]; simp), Lib.hid (by rw [show k + (r + 1) + 2 = k + r + 2 + 1 by omega]; exact HO.out.1), Lib.hid HO.out.2.1⟩
              case measure => simp [intOf]; omega
          · obtain rfl : r + 1 = ln := by omega
            have hmn : k + r + 2 = n := by have := HB.out.2.2.2.1; omega
            have hkn : kk < n := by omega
            have hknI : (kk : Int) < (n : Int) := by omega
            have hkc : kk < cap := by omega
            obtain ⟨w6, hcl, hr6, u6⟩ := clear_own how.out kk hkn (cap - kk)
            have hkl' : (Lib.compactUpTo d n).length = kk := by rw [hkl.out, hmn]
            have FIN := Lib.hid (show CmpP w g cap L (.returned (.slice (some ⟨g, 0, none⟩) kk cap)) w6 from ⟨_, HS.out.1, by rw [hkl', HS.out.2.1]; omega, by rw [hkl'], by
              rw [hmn, cmpct, edCells, List.flatMap_append, List.take_left' (by
                show (edCells (Lib.compactUpTo d n)).length = kk * 3
                rw [edCells_len, hkl'])] at hr6
              exact hr6, hu.out.trans u6 (fun i e => .inl e)⟩)
            clear hr6 u6 hkl' hmn hlt3
            go_wp2
            go_ret
            exact FIN.out
      · rw [decide_eq_false he] at heq
        have HE := Lib.hid he
        clear he
        go_upto_region 6 with (fail)
        refine wp_region_ord (fun w' => w'.cell? ⟨g, (k + 1) * 3, none⟩ = some (.string sx0) ∧ w'.cell? ⟨g, (k + 1) * 3 + 1, none⟩ = some (.string sx1) ∧ w'.cell? ⟨g, (k + 1) * 3 + 2, none⟩ = some (.string sx2) ∧ w'.cell? ⟨g, k * 3, none⟩ = some (.string sy0) ∧ w'.cell? ⟨g, k * 3 + 1, none⟩ = some (.string sy1) ∧ w'.cell? ⟨g, k * 3 + 2, none⟩ = some (.string sy2)) 10 [(0, true), (1, true), (2, true), (3, true), (4, true), (5, true), (6, true), (7, true), (8, true), (9, true)] (by kernel_rfl) (by kernel_rfl) (fun _ _ d _ _ h => by cases d <;> exact h) ⟨x0, x1, x2, y0, y1, y2⟩ ?_
        iterate 10 (refine ord_take (v := ?_) rfl (by first | with_reducible rfl | kernel_rfl) ?_ ?_; rotate_left; (focus (intro wS hS; (try dsimp only at hS); go_split_ands; go_simp; (try with_reducible rfl); done)); (try simp only [Act.put, List.getElem_toArray, List.getElem_cons_succ, List.getElem_cons_zero, List.setIfInBounds_toArray, List.set_cons_zero, List.set_cons_succ]))
        refine ord_done ?_
        clear x0 x1 x2 y0 y1 y2 heq
        go_wp2
        go_roundw
        case rel => exact ⟨k + 1, q + 1, by omega, by go_num, rfl, Lib.hid (fun j hj => by
          rcases Nat.lt_succ_iff_lt_or_eq.1 hj with h | rfl
          · exact hall.out j h
          · exact Lib.keeps_pos (by rw [Nat.add_sub_cancel, HXY.out.1, HXY.out.2]; exact HE.out))⟩
        case measure => simp [intOf]; omega
    · obtain rfl : n = k + 1 := by omega
      have hc := cmpct_all hall.out (by rw [HS.out.2.2.1]; exact Nat.le_refl _)
      have FIN := Lib.hid (show CmpP w g cap L (.returned (.slice (some ⟨g, 0, none⟩) (k + 1) cap)) (w.drewN q) from ⟨_, HS.out.1, by rw [hc.1, HS.out.2.1, List.length_take]; omega, by rw [hc.1, List.length_take, Array.length_toList, HS.out.2.2.1, Nat.min_self], by
        rw [hc.1, List.take_of_length_le (by rw [Array.length_toList, HS.out.2.2.1]; exact Nat.le_refl _)]
        exact RowR.of_own (ownsRow_upd HS.out.2.2.2 ((Upd.refl (fun _ => False) w).drewN q) (fun _ _ => id)), (Upd.refl _ w).drewN q⟩)
      clear hc
      go_wp2
      go_ret
      exact FIN.out
end Go.Proofs.YthmkgnifcbnkpaaGreat
