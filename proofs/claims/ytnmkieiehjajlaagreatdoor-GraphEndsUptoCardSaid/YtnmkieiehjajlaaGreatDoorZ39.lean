/- All blocks of a matrix: at most one; All blocks of a matrix: none, or what there is; The iterators over cells: what the makers hand back; The bits of a word, lowest first (plain). -/
import Derived.Test.YtnmkieiehjajlaaGreatDoorZ38
import Derived.Laws.EntriesVeiled
set_option linter.unusedVariables false
set_option linter.unusedSimpArgs false
namespace Go.Proofs.YtnmkieiehjajlaaGreatDoor
open Go.RowKit

def AllQ (w : World) (b : Option (List Nat)) (e : Ending) (w' : World) : Prop :=
  Below w.heap.size w w' ∧ match b with
  | none => e = .returned (.slice none 0 0)
  | some r => ∃ A c, e = .returned (.slice A 1 c) ∧ w'.ownsRow 0 126 66 (.slice A 1 c) 1 (plC r) ∧ ∀ k, (Value.slice A 1 c).ownBlock = some k → w.heap.size ≤ k
theorem below_of_upd {w V W : World} {g : Nat} (hb : Below w.heap.size w V) (hu : Upd (fun k => k = g) V W) (hg : w.heap.size ≤ g) : Below w.heap.size w W :=
  hb.trans (show Below w.heap.size V W from ⟨hu.os, hu.tape, hu.output, hu.size, fun k hk => hu.block k (Nat.lt_of_lt_of_le hk hb.size) (fun e => by omega)⟩)
abbrev allF (g1 g3 g4 : Nat) : Value := .func (.func 86) #[] #[.pointer (some ⟨g1, 0, none⟩), .pointer (some ⟨g3, 0, none⟩), .pointer (some ⟨g4, 0, none⟩)]
theorem all_blocks (w : World) (p : Nat) : let V := (((w.alloc (.cells #[.pointer (some ⟨p, 0, none⟩)] 38)).alloc (.cells #[.slice none 0 0] 117)).alloc (.cells #[.nilFunc] 168))
    Blk V w.heap.size 38 #[.pointer (some ⟨p, 0, none⟩)] ∧ Blk V (w.heap.size + 1) 117 #[.slice none 0 0] ∧ Blk V (w.heap.size + 1 + 1) 168 #[.nilFunc] ∧ Below w.heap.size w V := by
  intro V
  have k1 := Blk.new w 38 #[.pointer (some ⟨p, 0, none⟩)]
  have k2 := Blk.new (w.alloc (.cells #[.pointer (some ⟨p, 0, none⟩)] 38)) 117 #[.slice none 0 0]
  have k3 := Blk.new ((w.alloc (.cells #[.pointer (some ⟨p, 0, none⟩)] 38)).alloc (.cells #[.slice none 0 0] 117)) 168 #[.nilFunc]
  simp only [World.size_alloc] at k2 k3
  refine ⟨(k1.upd ((Upd.refl (fun _ => False) _).alloc _) (fun h => h)).upd ((Upd.refl (fun _ => False) _).alloc _) (fun h => h), k2.upd ((Upd.refl (fun _ => False) _).alloc _) (fun h => h), k3, ?_⟩
  exact (((Below.refl _ _).alloc (Nat.le_refl _) _).alloc (by simp) _).alloc (by simp; omega) _
set_option maxHeartbeats 4000000 in
set_option maxRecDepth 20000 in
theorem qall_some (w : World) (O : Nat → Option QRo) (p side dep cnt m : Nat) (r : List Nat) (pv lv : Value) (h : QuI w O p side dep cnt m 1 [r] pv lv) (hr : Wd r) (hs : 1 ≤ side) (hd : m + 1 = dep) (hd4 : dep ≤ 4) :
    Calls Tryz.prog 49 #[.pointer (some ⟨p, 0, none⟩)] w (AllQ w (some r)) := by
  have q0 : ((w.alloc (.cells #[.pointer (some ⟨p, 0, none⟩)] 38)).alloc (.cells #[.slice none 0 0] 117)).cell? ⟨p, 0, none⟩ = some (.int .i64 (side : Int)) := (h.blk.upd (((Upd.refl (fun _ => False) w).alloc _).alloc _) (fun h => h)).cell 0
  have hcon := qis_any _ p side hs q0
  clear q0
  have H := Lib.hid h
  have HA := Lib.hid (all_blocks w p)
  obtain ⟨g, hg⟩ : ∃ g, w.heap.size = g := ⟨_, rfl⟩
  clear h
  go_enter Tryz.func49, Tryz.ntmps49
  go_wp2_with fail
  refine hcon.mono ?_
  clear hcon
  rintro e w' ⟨rfl, hw⟩
  subst w'
  go_upto_region 5 with (fail)
  obtain ⟨k1, k3, k4, hb⟩ := HA.out
  generalize (((w.alloc (.cells #[.pointer (some ⟨p, 0, none⟩)] 38)).alloc (.cells #[.slice none 0 0] 117)).alloc (.cells #[.nilFunc] 168)) = V at k1 k3 k4 hb ⊢
  rw [hg] at k1 k3 k4
  have q4 : V.cell? ⟨g + 1 + 1, 0, none⟩ = some .nilFunc := k4.cell 0
  have f4 : V.frozen? ⟨g + 1 + 1, 0, none⟩ = false := k4.frozen 0
  have us := (Upd.refl (fun k => k = g + 1 + 1) V).setCell (p := ⟨g + 1 + 1, 0, none⟩) (.inl rfl) (allF g (g + 1) (g + 1 + 1))
  have HV := Lib.hid (show Blk (V.setCell ⟨g + 1 + 1, 0, none⟩ (allF g (g + 1) (g + 1 + 1))) g 38 #[.pointer (some ⟨p, 0, none⟩)] ∧ Blk (V.setCell ⟨g + 1 + 1, 0, none⟩ (allF g (g + 1) (g + 1 + 1))) (g + 1) 117 #[.slice none 0 0] ∧ Blk (V.setCell ⟨g + 1 + 1, 0, none⟩ (allF g (g + 1) (g + 1 + 1))) (g + 1 + 1) 168 #[allF g (g + 1) (g + 1 + 1)] ∧ Below w.heap.size w (V.setCell ⟨g + 1 + 1, 0, none⟩ (allF g (g + 1) (g + 1 + 1))) from
    ⟨k1.upd us (by omega), k3.upd us (by omega), k4.set 0 _, below_of_upd hb us (by omega)⟩)
  clear k1 k3 k4 hb us
  go_upto_region 6 with (fail)
  generalize V.setCell ⟨g + 1 + 1, 0, none⟩ (allF g (g + 1) (g + 1 + 1)) = V1 at HV ⊢
  clear q4 f4
  have SR := Lib.hid (show ∀ W, Below V1.heap.size V1 W → Blk W g 38 #[.pointer (some ⟨p, 0, none⟩)] ∧ Blk W (g + 1) 117 #[.slice none 0 0] ∧ Blk W (g + 1 + 1) 168 #[allF g (g + 1) (g + 1 + 1)] ∧ Below w.heap.size w W ∧ QuI W O p side dep cnt m 1 [r] pv lv from fun W hb => by
    obtain ⟨k1, k3, k4, b⟩ := HV.out
    have hu := Upd.of_below hb (fun _ => False)
    have hbw := b.trans (hb.mono b.size)
    exact ⟨k1.upd hu (fun h => h), k3.upd hu (fun h => h), k4.upd hu (fun h => h), hbw, H.out.upd (Upd.of_below hbw (fun _ => False)) (fun _ _ => id)⟩)
  obtain ⟨j1, j3, j4, bw, hi⟩ := SR.out V1.drew (Below.refl _ _).drew
  have hS : V1.drew.cell? ⟨g + 1 + 1, 0, none⟩ = some (allF g (g + 1) (g + 1 + 1)) ∧ V1.drew.cell? ⟨g, 0, none⟩ = some (.pointer (some ⟨p, 0, none⟩)) ∧ V1.drew.cell? ⟨p, 1, none⟩ = some (.int .i64 (dep : Int)) := ⟨j4.cell 0, j1.cell 0, hi.blk.cell 1⟩
  have hw1 : IntKind.i64.wrap ((dep : Int) - 1) = (m : Int) := by rw [IntKind.wrap_i64]; omega
  have hcon : Calls Tryz.prog 86 #[.int .i64 0, .int .i64 (m : Int), .int .i64 0, .int .i64 0, .pointer (some ⟨g, 0, none⟩), .pointer (some ⟨g + 1, 0, none⟩), .pointer (some ⟨g + 1 + 1, 0, none⟩)] V1.drew (fun e w' => e = .returned (.tuple #[]) ∧ DownQ V1.drew (g + 1) r w') := down_full V1.drew O p side dep cnt m r pv lv hi hr (by omega) g (g + 1) (g + 1 + 1) ⟨_, j1⟩ ⟨_, j3⟩ ⟨_, j4⟩ m 0 (by omega)
  have BW := Lib.hid bw
  clear j1 j3 j4 bw hi
  refine wp_region_ord (fun W => W.cell? ⟨g + 1 + 1, 0, none⟩ = some (allF g (g + 1) (g + 1 + 1)) ∧ W.cell? ⟨g, 0, none⟩ = some (.pointer (some ⟨p, 0, none⟩)) ∧ W.cell? ⟨p, 1, none⟩ = some (.int .i64 (dep : Int))) 6 [(0, true), (1, true), (2, true), (3, true), (4, true), (5, true), (6, false)] (by kernel_rfl) (by kernel_rfl) (fun _ _ d _ _ h => by cases d <;> exact h) hS ?_
  generalize V1.drew = V2 at hS hcon BW ⊢
  iterate 6 (refine ord_take (v := ?_) rfl (by first | with_reducible rfl | kernel_rfl) ?_ ?_; rotate_left; (focus (intro wS hS; (try dsimp only at hS); go_split_ands; go_simp; (try with_reducible rfl); done)); (try simp only [Act.put, List.getElem_toArray, List.getElem_cons_succ, List.getElem_cons_zero, List.setIfInBounds_toArray, List.set_cons_zero, List.set_cons_succ]))
  refine ord_do rfl rfl (fun K hK => ?_)
  go_simp
  refine hcon.mono ?_
  clear hcon
  rintro e W3 ⟨rfl, D⟩
  refine hK _ _ (fun h => absurd rfl h) ?_
  clear hK K hS
  (try simp only [Act.put, List.getElem_toArray, List.getElem_cons_succ, List.getElem_cons_zero, List.setIfInBounds_toArray, List.set_cons_zero, List.set_cons_succ])
  refine ord_done ?_
  obtain ⟨A, c, d1, d2, d3, d4⟩ := D
  have FIN := Lib.hid (show AllQ w (some r) (.returned (.slice A 1 c)) W3 from ⟨below_of_upd BW.out d3 (by omega), A, c, rfl, d2, fun k hk => Nat.le_trans BW.out.size (d4 k hk)⟩)
  clear d2 d3 d4
  have hso := sort_01 1 (Nat.le_refl _) A c (.func (.func 88) #[] #[]) W3
  go_wp2_with fail
  refine hso.mono ?_
  clear hso
  rintro e w' ⟨⟨v, rfl⟩, hw⟩
  subst w'
  go_wp2
  go_ret
  exact FIN.out
end Go.Proofs.YtnmkieiehjajlaaGreatDoor
namespace Go.Proofs.YtnmkieiehjajlaaGreatDoor
open Go.RowKit

set_option maxHeartbeats 4000000 in
set_option maxRecDepth 20000 in
theorem qall_none (w : World) (O : Nat → Option QRo) (p side dep cnt : Nat) (pv lv : Value) (h : QuI w O p side dep cnt 0 0 [] pv lv) (hs : 1 ≤ side) (hd1 : 1 ≤ dep) (hd4 : dep ≤ 4) :
    Calls Tryz.prog 49 #[.pointer (some ⟨p, 0, none⟩)] w (AllQ w none) := by
  have q0 : ((w.alloc (.cells #[.pointer (some ⟨p, 0, none⟩)] 38)).alloc (.cells #[.slice none 0 0] 117)).cell? ⟨p, 0, none⟩ = some (.int .i64 (side : Int)) := (h.blk.upd (((Upd.refl (fun _ => False) w).alloc _).alloc _) (fun h => h)).cell 0
  have hcon := qis_any _ p side hs q0
  clear q0
  have H := Lib.hid h
  have HA := Lib.hid (all_blocks w p)
  obtain ⟨g, hg⟩ : ∃ g, w.heap.size = g := ⟨_, rfl⟩
  clear h
  go_enter Tryz.func49, Tryz.ntmps49
  go_wp2_with fail
  refine hcon.mono ?_
  clear hcon
  rintro e w' ⟨rfl, hw⟩
  subst w'
  go_upto_region 5 with (fail)
  obtain ⟨k1, k3, k4, hb⟩ := HA.out
  generalize (((w.alloc (.cells #[.pointer (some ⟨p, 0, none⟩)] 38)).alloc (.cells #[.slice none 0 0] 117)).alloc (.cells #[.nilFunc] 168)) = V at k1 k3 k4 hb ⊢
  rw [hg] at k1 k3 k4
  have q4 : V.cell? ⟨g + 1 + 1, 0, none⟩ = some .nilFunc := k4.cell 0
  have f4 : V.frozen? ⟨g + 1 + 1, 0, none⟩ = false := k4.frozen 0
  have us := (Upd.refl (fun k => k = g + 1 + 1) V).setCell (p := ⟨g + 1 + 1, 0, none⟩) (.inl rfl) (allF g (g + 1) (g + 1 + 1))
  have HV := Lib.hid (show Blk (V.setCell ⟨g + 1 + 1, 0, none⟩ (allF g (g + 1) (g + 1 + 1))) g 38 #[.pointer (some ⟨p, 0, none⟩)] ∧ Blk (V.setCell ⟨g + 1 + 1, 0, none⟩ (allF g (g + 1) (g + 1 + 1))) (g + 1) 117 #[.slice none 0 0] ∧ Blk (V.setCell ⟨g + 1 + 1, 0, none⟩ (allF g (g + 1) (g + 1 + 1))) (g + 1 + 1) 168 #[allF g (g + 1) (g + 1 + 1)] ∧ Below w.heap.size w (V.setCell ⟨g + 1 + 1, 0, none⟩ (allF g (g + 1) (g + 1 + 1))) from
    ⟨k1.upd us (by omega), k3.upd us (by omega), k4.set 0 _, below_of_upd hb us (by omega)⟩)
  clear k1 k3 k4 hb us
  go_upto_region 6 with (fail)
  generalize V.setCell ⟨g + 1 + 1, 0, none⟩ (allF g (g + 1) (g + 1 + 1)) = V1 at HV ⊢
  clear q4 f4
  have SR := Lib.hid (show ∀ W, Below V1.heap.size V1 W → Blk W g 38 #[.pointer (some ⟨p, 0, none⟩)] ∧ Blk W (g + 1) 117 #[.slice none 0 0] ∧ Blk W (g + 1 + 1) 168 #[allF g (g + 1) (g + 1 + 1)] ∧ Below w.heap.size w W ∧ QuI W O p side dep cnt 0 0 [] pv lv from fun W hb => by
    obtain ⟨k1, k3, k4, b⟩ := HV.out
    have hu := Upd.of_below hb (fun _ => False)
    have hbw := b.trans (hb.mono b.size)
    exact ⟨k1.upd hu (fun h => h), k3.upd hu (fun h => h), k4.upd hu (fun h => h), hbw, H.out.upd (Upd.of_below hbw (fun _ => False)) (fun _ _ => id)⟩)
  obtain ⟨j1, j3, j4, bw, hi⟩ := SR.out V1.drew (Below.refl _ _).drew
  have hS : V1.drew.cell? ⟨g + 1 + 1, 0, none⟩ = some (allF g (g + 1) (g + 1 + 1)) ∧ V1.drew.cell? ⟨g, 0, none⟩ = some (.pointer (some ⟨p, 0, none⟩)) ∧ V1.drew.cell? ⟨p, 1, none⟩ = some (.int .i64 (dep : Int)) := ⟨j4.cell 0, j1.cell 0, hi.blk.cell 1⟩
  have hw1 : IntKind.i64.wrap ((dep : Int) - 1) = (dep : Int) - 1 := by rw [IntKind.wrap_i64]; omega
  have hcon := down_none V1.drew O p side dep cnt pv lv hi ((dep : Int) - 1) g (g + 1) (g + 1 + 1) (j1.cell 0)
  have h3 : V1.drew.cell? ⟨g + 1, 0, none⟩ = some (.slice none 0 0) := j3.cell 0
  have BW := Lib.hid bw
  clear j1 j3 j4 bw hi
  refine wp_region_ord (fun W => W.cell? ⟨g + 1 + 1, 0, none⟩ = some (allF g (g + 1) (g + 1 + 1)) ∧ W.cell? ⟨g, 0, none⟩ = some (.pointer (some ⟨p, 0, none⟩)) ∧ W.cell? ⟨p, 1, none⟩ = some (.int .i64 (dep : Int))) 6 [(0, true), (1, true), (2, true), (3, true), (4, true), (5, true), (6, false)] (by kernel_rfl) (by kernel_rfl) (fun _ _ d _ _ h => by cases d <;> exact h) hS ?_
  generalize V1.drew = V2 at hS hcon h3 BW ⊢
  iterate 6 (refine ord_take (v := ?_) rfl (by first | with_reducible rfl | kernel_rfl) ?_ ?_; rotate_left; (focus (intro wS hS; (try dsimp only at hS); go_split_ands; go_simp; (try with_reducible rfl); done)); (try simp only [Act.put, List.getElem_toArray, List.getElem_cons_succ, List.getElem_cons_zero, List.setIfInBounds_toArray, List.set_cons_zero, List.set_cons_succ]))
  refine ord_do rfl rfl (fun K hK => ?_)
  go_simp
  refine hcon.mono ?_
  clear hcon
  rintro e W3 ⟨rfl, hw⟩
  subst W3
  refine hK _ _ (fun h => absurd rfl h) ?_
  clear hK K hS
  (try simp only [Act.put, List.getElem_toArray, List.getElem_cons_succ, List.getElem_cons_zero, List.setIfInBounds_toArray, List.set_cons_zero, List.set_cons_succ])
  refine ord_done ?_
  have FIN := Lib.hid (show AllQ w none (.returned (.slice none 0 0)) V2 from ⟨BW.out, rfl⟩)
  have hso := sort_01 0 (Nat.zero_le _) none 0 (.func (.func 88) #[] #[]) V2
  go_wp2_with fail
  refine hso.mono ?_
  clear hso
  rintro e w' ⟨⟨v, rfl⟩, hw⟩
  subst w'
  go_wp2
  go_ret
  exact FIN.out
theorem qall_any (w : World) (F : Nat → Prop) (p side : Nat) (b : Option (List Nat)) (h : QuS w F p side b) : Calls Tryz.prog 49 #[.pointer (some ⟨p, 0, none⟩)] w (AllQ w b) := by
  obtain ⟨O, dep, cnt, m, last, L, pv, lv, hq, ok, -⟩ := h
  cases b with
  | none =>
    obtain ⟨rfl, rfl, rfl, rfl⟩ := ok.no rfl
    exact qall_none w O p side dep 0 pv lv hq ok.s1 ok.d1 ok.d2
  | some r =>
    obtain ⟨hm, rfl, rfl, rfl, hr⟩ := ok.is r rfl
    exact qall_some w O p side dep _ m r pv lv hq hr ok.s1 hm ok.d2
end Go.Proofs.YtnmkieiehjajlaaGreatDoor
namespace Go.Proofs.YtnmkieiehjajlaaGreatDoor
open Go.RowKit

set_option maxHeartbeats 1000000 in
set_option maxRecDepth 20000 in
/-- What block.Cells hands back. -/
theorem bcells_any (r : List Nat) (hr : Wd r) (w : World) : Calls Tryz.prog 89 #[wdV r] w (fun e w' => e = .returned (.func (.func 130) #[] #[.pointer (some ⟨w.heap.size, 0, none⟩)]) ∧ w' = w.alloc (.cells (wdC r).toArray 124)) := by
  unfold wdV
  go_enter Tryz.func89, Tryz.ntmps89
  go_wp2
  go_ret
  exact ⟨rfl, rfl⟩
/-- What Cells hands back: the blocks lie in a variable of its own. -/
def CellsQ (w : World) (b : Option (List Nat)) (e : Ending) (w' : World) : Prop :=
  ∃ g A n c, w.heap.size ≤ g ∧ e = .returned (.func (.func 50) #[] #[.pointer (some ⟨g, 0, none⟩)]) ∧ Blk w' g 117 #[.slice A n c] ∧ Below w.heap.size w w' ∧
    match b with
    | none => n = 0
    | some r => n = 1 ∧ w'.ownsRow 0 126 66 (.slice A 1 c) 1 (plC r) ∧ ∀ k, (Value.slice A 1 c).ownBlock = some k → w.heap.size ≤ k
theorem cells_blk (w W : World) (v : Value) (hb : Below w.heap.size w W) : Blk (W.alloc (.cells #[v] 117)) W.heap.size 117 #[v] ∧ Below w.heap.size w (W.alloc (.cells #[v] 117)) :=
  ⟨Blk.new W 117 #[v], hb.alloc hb.size _⟩
set_option maxHeartbeats 1000000 in
set_option maxRecDepth 20000 in
theorem mcells_any (w : World) (F : Nat → Prop) (p side : Nat) (b : Option (List Nat)) (h : QuS w F p side b) : Calls Tryz.prog 18 #[.pointer (some ⟨p, 0, none⟩)] w (CellsQ w b) := by
  have ha := qall_any w F p side b h
  clear h
  cases b with
  | none =>
    go_enter Tryz.func18, Tryz.ntmps18
    go_wp2_with fail
    refine ha.mono ?_
    clear ha
    rintro e W ⟨hb, rfl⟩
    have C := Lib.hid (cells_blk w W (.slice none 0 0) hb)
    have HB := Lib.hid hb
    clear hb
    go_wp2
    go_ret
    exact ⟨W.heap.size, none, 0, 0, HB.out.size, rfl, C.out.1, C.out.2, rfl⟩
  | some r =>
    go_enter Tryz.func18, Tryz.ntmps18
    go_wp2_with fail
    refine ha.mono ?_
    clear ha
    rintro e W ⟨hb, A, c, rfl, own, pl⟩
    have C := Lib.hid (cells_blk w W (.slice A 1 c) hb)
    have HB := Lib.hid (And.intro hb (And.intro own pl))
    clear hb own pl
    go_wp2
    go_ret
    exact ⟨W.heap.size, A, 1, c, HB.out.1.size, rfl, C.out.1, C.out.2, rfl, HB.out.2.1.alloc _, HB.out.2.2⟩
end Go.Proofs.YtnmkieiehjajlaaGreatDoor
namespace Go.Proofs.YtnmkieiehjajlaaGreatDoor

/-- The places of the set bits among the lowest n, from o on, rising. -/
def bitsL : Nat → Nat → Nat → List Nat
  | 0, _, _ => []
  | n + 1, o, x => if x % 2 = 1 then o :: bitsL n (o + 1) (x / 2) else bitsL n (o + 1) (x / 2)
theorem and_pred_odd {x : Nat} (h : x % 2 = 1) : x &&& (x - 1) = x - 1 := by
  apply Nat.eq_of_testBit_eq
  intro j
  rw [Nat.testBit_and]
  cases j with
  | zero => simp [Nat.testBit_zero]; omega
  | succ j =>
    rw [Nat.testBit_succ, Nat.testBit_succ]
    have : (x - 1) / 2 = x / 2 := by omega
    rw [this, Bool.and_self]
theorem and_pred_even {y : Nat} (h : y ≠ 0) : (2 * y) &&& (2 * y - 1) = 2 * (y &&& (y - 1)) := by
  apply Nat.eq_of_testBit_eq
  intro j
  rw [Nat.testBit_and]
  cases j with
  | zero => simp [Nat.testBit_zero]
  | succ j =>
    rw [Nat.testBit_succ, Nat.testBit_succ, Nat.testBit_succ]
    have h1 : (2 * y - 1) / 2 = y - 1 := by omega
    have h2 : 2 * y / 2 = y := by omega
    have h3 : 2 * (y &&& (y - 1)) / 2 = y &&& (y - 1) := by omega
    rw [h1, h2, h3, Nat.testBit_and]
theorem bitsL_zero : ∀ n o, bitsL n o 0 = []
  | 0, _ => rfl
  | n + 1, o => by
    rw [bitsL, if_neg (by decide)]
    exact bitsL_zero n (o + 1)
theorem bitsL_step : ∀ (n o x : Nat), x ≠ 0 → x < 2 ^ n → bitsL n o x = (o + Lib.ctz n x) :: bitsL n o (x &&& (x - 1))
  | 0, o, x, h0, h => by simp at h; omega
  | n + 1, o, x, h0, h => by
    by_cases hx : x % 2 = 1
    · have hc : Lib.ctz (n + 1) x = 0 := by rw [Lib.ctz, if_neg h0, Lib.ctzFrom, if_pos hx]
      rw [and_pred_odd hx, hc, bitsL, if_pos hx, bitsL, if_neg (by omega)]
      have : (x - 1) / 2 = x / 2 := by omega
      rw [this]
      rfl
    · obtain ⟨y, rfl⟩ : ∃ y, x = 2 * y := ⟨x / 2, by omega⟩
      have hy : y ≠ 0 := by omega
      have hd : 2 * y / 2 = y := by omega
      have hc : Lib.ctz (n + 1) (2 * y) = Lib.ctz n y + 1 := by rw [Lib.ctz, if_neg h0, Lib.ctz, if_neg hy, Lib.ctzFrom, if_neg hx, hd, Nat.add_comm]
      have hd2 : 2 * (y &&& (y - 1)) / 2 = y &&& (y - 1) := by omega
      rw [and_pred_even hy, hc, bitsL, if_neg hx, bitsL, if_neg (by omega), hd, hd2, bitsL_step n (o + 1) y hy (by rw [Nat.pow_succ] at h; omega)]
      congr 1
      omega
theorem bitsL_mem : ∀ (n o x j : Nat), j ∈ bitsL n o x ↔ ∃ i, i < n ∧ j = o + i ∧ x.testBit i = true
  | 0, o, x, j => by simp [bitsL]
  | n + 1, o, x, j => by
    have ih := bitsL_mem n (o + 1) (x / 2) j
    have hz : x.testBit 0 = decide (x % 2 = 1) := Nat.testBit_zero x
    constructor
    · intro h
      rw [bitsL] at h
      have key : j = o ∧ x % 2 = 1 ∨ j ∈ bitsL n (o + 1) (x / 2) := by
        split at h
        · rcases List.mem_cons.1 h with h | h
          · exact .inl ⟨h, by assumption⟩
          · exact .inr h
        · exact .inr h
      rcases key with ⟨rfl, hx⟩ | hm
      · exact ⟨0, by omega, rfl, by rw [hz]; exact decide_eq_true hx⟩
      · obtain ⟨i, hi, rfl, ht⟩ := ih.1 hm
        exact ⟨i + 1, by omega, by omega, by rw [Nat.testBit_succ]; exact ht⟩
    · rintro ⟨i, hi, rfl, ht⟩
      rw [bitsL]
      cases i with
      | zero =>
        rw [hz] at ht
        rw [if_pos (of_decide_eq_true ht)]
        exact List.mem_cons_self
      | succ i =>
        have hm : o + (i + 1) ∈ bitsL n (o + 1) (x / 2) := ih.2 ⟨i, by omega, by omega, by rw [← Nat.testBit_succ]; exact ht⟩
        split
        · exact List.mem_cons_of_mem _ hm
        · exact hm
end Go.Proofs.YtnmkieiehjajlaaGreatDoor
