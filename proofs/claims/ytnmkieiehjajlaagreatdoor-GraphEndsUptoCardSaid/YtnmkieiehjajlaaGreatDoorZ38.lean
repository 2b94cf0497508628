/- A block and its place as one value; a row of one of them; Going down a matrix: at its block; Going down a matrix: the walk at its block; Going down a matrix: all the way. -/
import Derived.Test.YtnmkieiehjajlaaGreatDoorZ37
import Derived.Great.FillDense
import Derived.Great.BuildSlice
set_option linter.unusedVariables false
set_option linter.unusedSimpArgs false
namespace Go.Proofs.YtnmkieiehjajlaaGreatDoor
open Go.RowKit

def plC (r : List Nat) : List Value := .int .i64 0 :: .int .i64 0 :: wdC r
theorem plC_len {r : List Nat} (hr : Wd r) : (plC r).length = 66 := by simp [plC, wdC_len, hr.len]
theorem plC_one (r : List Nat) : ∀ u ∈ plC r, u.oneCell' = true := fun u hu => by
  simp only [plC, wdC, List.mem_cons, List.mem_map] at hu
  rcases hu with rfl | rfl | ⟨x, -, rfl⟩ <;> rfl
theorem fill_placed {r : List Nat} (hr : Wd r) (cells : Array Value) (hc : cells.size = 66) :
    Instr.fill (fun i => #[(0, 2), (2, 64)][i]?) cells [(0, .agg #[.int .i64 0, .int .i64 0]), (1, wdV r)] = some (plC r).toArray := by
  have hl : (wdC r).length = 64 := by rw [wdC_len, hr.len]
  obtain ⟨s1, k1⟩ := Go.Great.foldl_set 0 [.int .i64 0, .int .i64 0] 0 cells
  obtain ⟨s2, k2⟩ := Go.Great.foldl_set 2 (wdC r) 0 (([Value.int .i64 0, .int .i64 0].zipIdx 0).foldl (fun cs (x : Value × Nat) => cs.setIfInBounds (0 + x.2) x.1) cells)
  have e : Instr.fill (fun i => #[(0, 2), (2, 64)][i]?) cells [(0, .agg #[.int .i64 0, .int .i64 0]), (1, wdV r)] = some (((wdC r).zipIdx 0).foldl (fun cs (x : Value × Nat) => cs.setIfInBounds (2 + x.2) x.1) (([Value.int .i64 0, .int .i64 0].zipIdx 0).foldl (fun cs (x : Value × Nat) => cs.setIfInBounds (0 + x.2) x.1) cells)) := by
    simp [Instr.fill, wdV, Value.cells, hl, hc]
  rw [e]
  congr 1
  apply Array.ext_getElem?
  intro k
  rw [k2 k, s1, hc, hl]
  by_cases h2 : 2 + 0 ≤ k ∧ k < 2 + 0 + 64 ∧ k < 66
  · rw [if_pos h2]
    obtain ⟨j, rfl⟩ : ∃ j, k = j + 2 := ⟨k - 2, by omega⟩
    simp [plC]
  · rw [if_neg h2, k1 k]
    by_cases h0 : k < 2
    · rw [if_pos (by simp; omega)]
      obtain rfl | rfl : k = 0 ∨ k = 1 := by omega
      · simp [plC]
      · simp [plC]
    · rw [if_neg (by simp; omega)]
      have : (plC r).length ≤ k := by rw [plC_len hr]; omega
      simp [hc, this]
      omega
theorem build_placed {r : List Nat} (hr : Wd r) (w : World) : (Instr.build 126 #[(0, .agg #[.int .i64 0, .int .i64 0]), (1, wdV r)]).run Tryz.prog w = .ok (.agg (plC r).toArray) w := by
  refine run_build w _ _ _ ?_
  obtain ⟨cells, hc, hb⟩ : ∃ cells : Array Value, cells.size = 66 ∧ ∀ ps, Tryz.prog.built 126 ps = Instr.fill (fun i => #[(0, 2), (2, 64)][i]?) cells ps := ⟨(List.replicate 2 (Value.int .i64 0) ++ List.replicate 64 (Value.int .u64 0)).toArray, by decide, fun ps => by kernel_rfl⟩
  rw [hb]
  exact fill_placed hr cells hc
theorem info_placed : (Tryz.prog.info? 126).map (fun i => (i.zero.isSome, i.size, i.bytes)) = some (true, 66, 528) := by kernel_rfl
theorem slice_placed {r : List Nat} (hr : Wd r) (w : World) : (Instr.buildSlice 117 1 #[(0, .agg (plC r).toArray)]).run Tryz.prog w = .ok (.slice (some ⟨w.heap.size, 0, none⟩) 1 1) (w.alloc (.cells (plC r).toArray 126)) := by
  obtain ⟨ie, z, hie, hz, hs⟩ : ∃ ie z, Tryz.prog.info? 126 = some ie ∧ ie.zero = some z ∧ ie.size = 66 := by
    have h := info_placed
    cases hi : Tryz.prog.info? 126 with
    | none => rw [hi] at h; cases h
    | some ie =>
      rw [hi] at h
      simp only [Option.map_some, Option.some.injEq, Prod.mk.injEq] at h
      obtain ⟨h1, h2, h3⟩ := h
      obtain ⟨z, hz⟩ := Option.isSome_iff_exists.1 h1
      exact ⟨ie, z, rfl, hz, h2⟩
  refine run_buildSlice w _ 126 1 _ _ ie z Tryz.underlying117 hie hz (by rw [hs]; decide) (by rw [hs]; decide) ?_
  rw [hs]
  have hl : (Value.agg (plC r).toArray).cells.size = 66 := by simp [Value.cells, plC_len hr]
  have := Go.Great.fill_whole (s := 66) (by decide) [Value.agg (plC r).toArray] ((Array.range (1 * 66)).map (z.cells[· % z.cells.size]!)) (fun v hv => by rw [List.mem_singleton.1 hv]; exact hl) (by simp)
  simpa [Value.cells] using this
end Go.Proofs.YtnmkieiehjajlaaGreatDoor
namespace Go.Proofs.YtnmkieiehjajlaaGreatDoor
open Go.RowKit

def DownQ (w : World) (g3 : Nat) (r : List Nat) (w' : World) : Prop :=
  ∃ A c, w'.cell? ⟨g3, 0, none⟩ = some (.slice A 1 c) ∧ w'.ownsRow 0 126 66 (.slice A 1 c) 1 (plC r) ∧ Upd (fun k => k = g3) w w' ∧ ∀ k, (Value.slice A 1 c).ownBlock = some k → w.heap.size ≤ k
theorem info_placed2 : ∃ z, z.cells.size = 66 ∧ (Tryz.prog.info? 126).map (fun i => (i.zero, i.size, i.bytes)) = some (some z, 66, 528) := ⟨.agg (List.replicate 2 (Value.int .i64 0) ++ List.replicate 64 (Value.int .u64 0)).toArray, by decide, by kernel_rfl⟩
theorem down_push {w : World} {r : List Nat} (hr : Wd r) (g3 : Nat) (hg : g3 < w.heap.size) (hfz : w.frozen? ⟨g3, 0, none⟩ = false) (hl : ∃ ty, Blk w g3 ty #[.slice none 0 0]) : ∃ A c W2, (Builtin.append_ #[117, 117] 117 #[.slice none 0 0, .slice (some ⟨w.heap.size, 0, none⟩) 1 1]).run Tryz.prog (w.alloc (.cells (plC r).toArray 126)) = .ok (.slice A 1 c) W2 ∧ Upd (fun _ => False) w W2 ∧ W2.frozen? ⟨g3, 0, none⟩ = false ∧ DownQ w g3 r (W2.setCell ⟨g3, 0, none⟩ (.slice A 1 c)) := by
  obtain ⟨z, hz, hi⟩ := info_placed2
  obtain ⟨v2, W2, happ, own2, u2, p2⟩ := push_own w 0 117 126 66 528 z Tryz.underlying117 hi hz (by decide) (.slice none 0 0) 0 [] (World.ownsRow_nil _ _ _ _) (plC r) 1 (by rw [plC_len hr]) (plC_one r) (by omega) (by unfold maxLen; omega) (Nat.zero_le _)
  obtain ⟨A, c, rfl, -, -⟩ := own_form own2
  obtain ⟨ty, kb⟩ := hl
  have u3 : Upd (fun _ => False) w W2 := u2.mono (fun k _ hk => by simp [Value.ownBlock] at hk)
  have kb2 := kb.upd u3 (fun h => h)
  have us := (Upd.refl (fun k => k = g3) W2).setCell (p := ⟨g3, 0, none⟩) (.inl rfl) (.slice A 1 c)
  have pl : ∀ k, (Value.slice A 1 c).ownBlock = some k → w.heap.size ≤ k := fun k hk => by
    rcases p2 k hk with h1 | h1
    · simp [Value.ownBlock] at h1
    · exact h1
  exact ⟨A, c, W2, happ, u3, kb2.frozen 0, A, c, (kb2.set 0 (.slice A 1 c)).cell 0, ownsRow_upd own2 us (fun k hk e => by have := pl k hk; omega), (u3.mono (fun _ _ h => h.elim)).trans us (fun k hk => .inl hk), pl⟩
end Go.Proofs.YtnmkieiehjajlaaGreatDoor
namespace Go.Proofs.YtnmkieiehjajlaaGreatDoor
open Go.RowKit

section
variable {P : Program} {ops : Array Oper} {Q : Exit → Act → World → Prop} {S : World → Prop} {n : Nat}
/-- A value that is put together is taken first. -/
theorem ord_build {i : Nat} {r : List (Nat × Bool)} {a : Act} {w : World} {oi : Oper} {v : Value} (hi : ops[i]? = some oi) (hw : Region.wanted oi (yielded ops a.tmps) = true) (ty : TypeId) (parts : Array (Nat × Operand)) (ho : oi.op = .build ty parts)
    (vals : Array (Nat × Value)) (hv : parts.map (fun (i, x) => (i, a.eval x)) = vals) (hb : ∀ w, (Instr.build ty vals).run P w = .ok v w) (h : wpOrd P ops Q S n r (a.put oi.dst v) w) : wpOrd P ops Q S n ((i, true) :: r) a w :=
  ord_take hi hw (fun w _ => by unfold execOp; simp only [ho, hv, Sem.run_bind, hb, Result.andThen_ok]; rfl) h
theorem do_buildSlice {o : Oper} {a : Act} {w w' : World} {K : Act → World → Prop} {v : Value} (ty : TypeId) (len : Nat) (parts : Array (Nat × Operand)) (ho : o.op = .buildSlice ty len parts)
    (vals : Array (Nat × Value)) (hv : parts.map (fun (i, x) => (i, a.eval x)) = vals) (hb : (Instr.buildSlice ty len vals).run P w = .ok v w') (h : K (a.put o.dst v) w') : o.wp P a w K Q := by
  unfold Oper.wp execOp
  simp only [ho, hv, Sem.run_bind, hb, Result.andThen_ok]
  exact h
theorem do_append {o : Oper} {a : Act} {w w' : World} {K : Act → World → Prop} {v v2 v' : Value} (s x : Operand) (t : TypeId)
    (ho : o.op = .call { callee := .builtin .append, args := #[s, x], argTypes := #[t, t] }) (hs : a.eval s = v) (hx : a.eval x = v2)
    (hrun : (Builtin.append_ #[t, t] o.type #[v, v2]).run P w = .ok v' w') (h : K (a.put o.dst v') w') : o.wp P a w K Q := by
  unfold Oper.wp execOp
  simp only [ho, resolve, invoke, builtin, Sem.run_bind, Sem.run_pure, Result.andThen_ok, List.map_toArray, List.map_cons, List.map_nil, hs, hx, hrun]
  exact h
end
set_option maxHeartbeats 4000000 in
set_option maxRecDepth 20000 in
theorem down_leaf (w : World) (O : Nat → Option QRo) (p side dep cnt m : Nat) (r : List Nat) (pv lv : Value) (h : QuI w O p side dep cnt m 1 [r] pv lv) (hr : Wd r) (hm : m ≤ 4) (g1 g3 g4 : Nat) (k1 : ∃ ty, Blk w g1 ty #[.pointer (some ⟨p, 0, none⟩)]) (k3 : ∃ ty, Blk w g3 ty #[.slice none 0 0]) :
    Calls Tryz.prog 86 #[.int .i64 (m : Int), .int .i64 0, .int .i64 0, .int .i64 0, .pointer (some ⟨g1, 0, none⟩), .pointer (some ⟨g3, 0, none⟩), .pointer (some ⟨g4, 0, none⟩)] w (fun e w' => e = .returned (.tuple #[]) ∧ DownQ w g3 r w') := by
  obtain ⟨pg, pc, e, -, -, -, -, -⟩ := own_cells h.rp (by omega)
  subst e
  obtain ⟨lg, lc, e, -, -, -, -, -⟩ := own_cells h.rl (by simp)
  subst e
  have c1 : w.cell? ⟨g1, 0, none⟩ = some (.pointer (some ⟨p, 0, none⟩)) := by obtain ⟨ty, k⟩ := k1; exact k.cell 0
  obtain ⟨n, hn⟩ : ∃ n, m + 1 = n := ⟨_, rfl⟩
  have q3 : w.cell? ⟨p, 3, none⟩ = some (.slice (some ⟨pg, 0, none⟩) n pc) := by rw [← hn]; exact h.blk.cell 3
  have hmn : (m : Int) < (n : Int) := by omega
  have hrg : w.rangeAt pg (m * 4) (four 1) := range_four (k := m) h (fun j u hu => by
    have hq : qsC m 1 = ((List.range m).flatMap fun (i : Nat) => four ((i : Int) + 2)) ++ four 1 := rfl
    have hlen : ((List.range m).flatMap fun (i : Nat) => four ((i : Int) + 2)).length = m * 4 := by
      have := qsC_len m 1
      rw [hq, List.length_append] at this
      simp only [four, List.length_cons, List.length_nil] at this ⊢
      omega
    rw [hq, List.getElem?_append_right (by omega), hlen, Nat.add_sub_cancel_left]
    exact hu)
  have hsz : (Tryz.prog.info? 169).map (·.size) = some (four 1).length := by kernel_rfl
  have hszr : (Tryz.prog.info? 124).map (·.size) = some (wdC r).length := info_wd hr
  have SR := Lib.hid (show ∀ W, Below w.heap.size w W → W.cell? ⟨g3, 0, none⟩ = some (.slice none 0 0) ∧ W.cell? ⟨g1, 0, none⟩ = some (.pointer (some ⟨p, 0, none⟩)) ∧ W.cell? ⟨p, 4, none⟩ = some (.slice (some ⟨lg, 0, none⟩) 1 lc) ∧ W.rangeAt lg 0 (wdC r) from fun W hb => by
    have hi := h.upd (Upd.of_below hb (fun _ => False)) (fun _ _ => id)
    obtain ⟨t1, b1⟩ := k1
    obtain ⟨t3, b3⟩ := k3
    refine ⟨(b3.upd (Upd.of_below hb (fun _ => False)) (fun h => h)).cell 0, (b1.upd (Upd.of_below hb (fun _ => False)) (fun h => h)).cell 0, hi.blk.cell 4, fun j u hu => ?_⟩
    obtain ⟨g', c', e', -, -, -, -, hc'⟩ := own_cells hi.rl (by simp)
    injection e' with e'
    injection e' with e'
    injection e' with e'
    subst e'
    rw [Nat.zero_add]
    exact (hc' j u (by simpa [lfC] using hu)).1)
  have KD := Lib.hid (And.intro hr k3)
  clear h k1 k3 hn
  go_enter Tryz.func86, Tryz.ntmps86
  go_wp2_with (first | (refine wpList_load_mid rfl 169 _ rfl pg (m * 4) rfl (four 1) (.array 4 3) hrg Tryz.underlying169 rfl hsz ?_) | fail)
  clear c1 q3 hrg hsz
  have HX := Lib.hid (idx_four 1)
  generalize (four 1).toArray = arr at HX ⊢
  go_loopw [22] (fun a wr => ∃ j : Nat, j ≤ 4 ∧ a = .int .i64 (j : Int) ∧ Hid (j = 0 ∧ wr = w ∨ 0 < j ∧ DownQ w g3 r wr)) (fun a _ => (4 - intOf a).toNat)
  case atStart => exact ⟨0, by omega, rfl, Lib.hid (.inl ⟨rfl, rfl⟩)⟩
  case round =>
    obtain ⟨j, hj, rfl, hq⟩ := hrel
    by_cases hlt : j < 4
    · by_cases h0 : j = 0
      · subst h0
        obtain rfl : wr = w := by rcases hq.out with ⟨-, e⟩ | ⟨e, -⟩ <;> first | exact e | omega
        clear hq hlt
        have hix : (Instr.index 169 (.agg arr) (.int .i64 0)).run Tryz.prog wr = .ok (.int .i64 1) wr := HX.out wr 0 (by decide)
        have b1 : bits .or .i64 0 0 = 0 := by decide
        have b2 : bits .and .i64 0 1 = 0 := by decide
        go_upto_region 7 with (fail)
        clear b1 b2
        have HB := Lib.hid (show Below wr.heap.size wr wr.drew from (Below.refl _ _).drew)
        have hS := SR.out wr.drew HB.out
        refine wp_region_ord (fun W => W.cell? ⟨g3, 0, none⟩ = some (.slice none 0 0) ∧ W.cell? ⟨g1, 0, none⟩ = some (.pointer (some ⟨p, 0, none⟩)) ∧ W.cell? ⟨p, 4, none⟩ = some (.slice (some ⟨lg, 0, none⟩) 1 lc) ∧ W.rangeAt lg 0 (wdC r)) 15 [(0, true), (1, true), (2, true), (3, true), (4, true), (5, true), (6, true), (7, true), (8, true), (9, true), (10, true), (11, true), (12, true), (13, false), (14, false), (15, false)] (by kernel_rfl) (by kernel_rfl) (fun _ _ d _ _ h => by cases d <;> exact h) hS ?_
        generalize wr.drew = V0 at HB hS ⊢
        have hw00 : IntKind.i64.wrap 0 = 0 := by decide
        iterate 11 (refine ord_take (v := ?_) rfl (by first | with_reducible rfl | kernel_rfl) ?_ ?_; rotate_left; (focus (intro wS hS; (try dsimp only at hS); go_split_ands; go_simp; (try with_reducible rfl); done)); (try simp only [Act.put, List.getElem_toArray, List.getElem_cons_succ, List.getElem_cons_zero, List.setIfInBounds_toArray, List.set_cons_zero, List.set_cons_succ]))
        (refine ord_load rfl (by first | with_reducible rfl | kernel_rfl) 124 _ rfl lg 0 rfl (wdC r) (.array 64 122) (fun _ h => h.2.2.2) Tryz.underlying124 rfl hszr ?_; (try simp only [Act.put, List.getElem_toArray, List.getElem_cons_succ, List.getElem_cons_zero, List.setIfInBounds_toArray, List.set_cons_zero, List.set_cons_succ]))
        have hbp : ∀ W, (Instr.build 126 #[(0, .agg #[.int .i64 0, .int .i64 0]), (1, .agg (wdC r).toArray)]).run Tryz.prog W = .ok (.agg (plC r).toArray) W := fun W => build_placed KD.out.1 W
        (refine ord_build rfl (by first | with_reducible rfl | kernel_rfl) 126 _ rfl #[(0, .agg #[.int .i64 0, .int .i64 0]), (1, .agg (wdC r).toArray)] (by first | with_reducible rfl | kernel_rfl) hbp ?_; (try simp only [Act.put, List.getElem_toArray, List.getElem_cons_succ, List.getElem_cons_zero, List.setIfInBounds_toArray, List.set_cons_zero, List.set_cons_succ]))
        clear hbp
        have hbs := slice_placed KD.out.1 V0
        have k3 : ∃ ty, Blk V0 g3 ty #[.slice none 0 0] := by obtain ⟨ty, k⟩ := KD.out.2; exact ⟨ty, k.upd (Upd.of_below HB.out (fun _ => False)) (fun h => h)⟩
        have hg3 : g3 < V0.heap.size := by obtain ⟨ty, k⟩ := k3; exact k.lt
        have hf3 : V0.frozen? ⟨g3, 0, none⟩ = false := by obtain ⟨ty, k⟩ := k3; exact k.frozen 0
        obtain ⟨A, c, W2, happ, u2, f2, D⟩ := down_push KD.out.1 g3 hg3 hf3 k3
        have HD := Lib.hid (And.intro u2 D)
        clear u2 D k3
        have hS1 := SR.out (V0.alloc (.cells (plC r).toArray 126)) (HB.out.alloc HB.out.size _)
        generalize (plC r).toArray = pla at hbs happ hS1 ⊢
        refine ord_do rfl rfl (fun K hK => ?_)
        refine do_buildSlice 117 1 _ rfl #[(0, .agg pla)] (by first | with_reducible rfl | kernel_rfl) hbs ?_
        refine hK _ _ (fun _ => hS1) ?_
        clear hK K hbs
        (try simp only [Act.put, List.getElem_toArray, List.getElem_cons_succ, List.getElem_cons_zero, List.setIfInBounds_toArray, List.set_cons_zero, List.set_cons_succ])
        refine ord_do rfl rfl (fun K hK => ?_)
        have hS2 := SR.out W2 (HB.out.trans (Below.mono (show Below V0.heap.size V0 W2 from ⟨HD.out.1.os, HD.out.1.tape, HD.out.1.output, HD.out.1.size, fun k hk => HD.out.1.block k hk (fun h => h)⟩) HB.out.size))
        refine do_append _ _ _ rfl rfl rfl happ ?_
        refine hK _ _ (fun _ => ?_) ?_
        · exact hS2
        obtain ⟨qW, -, -, -⟩ := hS2
        clear hK K happ
        (try simp only [Act.put, List.getElem_toArray, List.getElem_cons_succ, List.getElem_cons_zero, List.setIfInBounds_toArray, List.set_cons_zero, List.set_cons_succ])
        refine ord_do rfl rfl (fun K hK => ?_)
        go_simp
        refine hK _ _ (fun h => absurd rfl h) ?_
        clear hK K
        (try simp only [Act.put, List.getElem_toArray, List.getElem_cons_succ, List.getElem_cons_zero, List.setIfInBounds_toArray, List.set_cons_zero, List.set_cons_succ])
        refine ord_done ?_
        have FIN := Lib.hid (show DownQ wr g3 r (W2.setCell ⟨g3, 0, none⟩ (.slice A 1 c)) by
          obtain ⟨-, A', c', e1, e2, e3, e4⟩ := HD.out
          exact ⟨A', c', e1, e2, (Upd.of_below HB.out _).trans e3 (fun _ h => .inl h), fun k hk => Nat.le_trans HB.out.size (e4 k hk)⟩)
        go_wp2
        go_roundw
        case rel => exact ⟨1, by omega, by go_num, Lib.hid (.inr ⟨by omega, FIN.out⟩)⟩
        case measure => simp [intOf] <;> omega
      · have hix : (Instr.index 169 (.agg arr) (.int .i64 (j : Int))).run Tryz.prog wr = .ok (.int .i64 0) wr := by have := HX.out wr j hlt; rwa [if_neg h0] at this
        have hltI : (j : Int) < (4 : Int) := by omega
        have hkw : IntKind.i64.wrap ((j : Int) + 1) = (j : Int) + 1 := IntWalk.i64_in _ (by omega)
        have hge : (0 : Int) ≤ (j : Int) := by omega
        have hD := Lib.hid (show 0 < j + 1 ∧ DownQ w g3 r wr from by rcases hq.out with ⟨e, -⟩ | ⟨-, e⟩; exact absurd e h0; exact ⟨by omega, e⟩)
        clear hq
        go_wp2
        go_roundw
        case rel => exact ⟨j + 1, by omega, by go_num, Lib.hid (.inr hD.out)⟩
        case measure => simp [intOf] <;> omega
    · obtain rfl : j = 4 := by omega
      have FIN := Lib.hid (show DownQ w g3 r wr by rcases hq.out with ⟨e, -⟩ | ⟨-, e⟩; exact absurd e (by decide); exact e)
      clear hq
      go_wp2
      (try simp only [Exit.inBlock, Exit.then])
      exact bodyPost_end (results_none rfl _ _ _) rfl ⟨rfl, FIN.out⟩
end Go.Proofs.YtnmkieiehjajlaaGreatDoor
namespace Go.Proofs.YtnmkieiehjajlaaGreatDoor
open Go.RowKit

set_option maxHeartbeats 4000000 in
set_option maxRecDepth 20000 in
theorem down_step (w : World) (O : Nat → Option QRo) (p side dep cnt m : Nat) (r : List Nat) (pv lv : Value) (h : QuI w O p side dep cnt m 1 [r] pv lv) (hr : Wd r) (hm : m ≤ 4) (g1 g3 g4 : Nat) (k1 : ∃ ty, Blk w g1 ty #[.pointer (some ⟨p, 0, none⟩)]) (k3 : ∃ ty, Blk w g3 ty #[.slice none 0 0])
    (k4 : ∃ ty, Blk w g4 ty #[.func (.func 86) #[] #[.pointer (some ⟨g1, 0, none⟩), .pointer (some ⟨g3, 0, none⟩), .pointer (some ⟨g4, 0, none⟩)]]) (l k : Nat) (hk : k + (l + 1) = m) (IH : Calls Tryz.prog 86 #[.int .i64 ((k + 1 : Nat) : Int), .int .i64 (l : Int), .int .i64 0, .int .i64 0, .pointer (some ⟨g1, 0, none⟩), .pointer (some ⟨g3, 0, none⟩), .pointer (some ⟨g4, 0, none⟩)] w (fun e w' => e = .returned (.tuple #[]) ∧ DownQ w g3 r w')) :
    Calls Tryz.prog 86 #[.int .i64 (k : Int), .int .i64 ((l + 1 : Nat) : Int), .int .i64 0, .int .i64 0, .pointer (some ⟨g1, 0, none⟩), .pointer (some ⟨g3, 0, none⟩), .pointer (some ⟨g4, 0, none⟩)] w (fun e w' => e = .returned (.tuple #[]) ∧ DownQ w g3 r w') := by
  obtain ⟨pg, pc, e, -, -, -, -, -⟩ := own_cells h.rp (by omega)
  subst e
  have c1 : w.cell? ⟨g1, 0, none⟩ = some (.pointer (some ⟨p, 0, none⟩)) := by obtain ⟨ty, k⟩ := k1; exact k.cell 0
  have c4 : w.cell? ⟨g4, 0, none⟩ = some (.func (.func 86) #[] #[.pointer (some ⟨g1, 0, none⟩), .pointer (some ⟨g3, 0, none⟩), .pointer (some ⟨g4, 0, none⟩)]) := by obtain ⟨ty, k⟩ := k4; exact k.cell 0
  obtain ⟨n, hn⟩ : ∃ n, m + 1 = n := ⟨_, rfl⟩
  have q3 : w.cell? ⟨p, 3, none⟩ = some (.slice (some ⟨pg, 0, none⟩) n pc) := by rw [← hn]; exact h.blk.cell 3
  have hkn : (k : Int) < (n : Int) := by omega
  have hrg : w.rangeAt pg (k * 4) (four ((k : Int) + 2)) := range_four (k := k) h (fun j u hu => by
    have hj : j < 4 := by have := (List.getElem?_eq_some_iff.1 hu).1; simpa [four] using this
    have hq : qsC m 1 = ((List.range m).flatMap fun (i : Nat) => four ((i : Int) + 2)) ++ four 1 := rfl
    have hlen : ((List.range m).flatMap fun (i : Nat) => four ((i : Int) + 2)).length = m * 4 := by
      have := qsC_len m 1
      rw [hq, List.length_append] at this
      simp only [four, List.length_cons, List.length_nil] at this ⊢
      omega
    rw [hq, List.getElem?_append_left (by omega), flat_get (fun (i : Nat) => four ((i : Int) + 2)) 4 (fun _ => rfl) (List.range m) k j k (by rw [List.getElem?_range (by omega)]) hj]
    exact hu)
  have hsz : (Tryz.prog.info? 169).map (·.size) = some (four ((k : Int) + 2)).length := by kernel_rfl
  clear h k1 k3 k4 hn
  have hw1 : IntKind.i64.wrap ((k : Int) + 2 - 1) = ((k + 1 : Nat) : Int) := by rw [IntKind.wrap_i64]; omega
  have hw2 : IntKind.i64.wrap (((l + 1 : Nat) : Int) - 1) = (l : Int) := by rw [IntKind.wrap_i64]; omega
  have z1 : ((k : Int) + 2 == 0) = false := by simp; omega
  have z2 : (((l + 1 : Nat) : Int) == 0) = false := by simp; omega
  go_enter Tryz.func86, Tryz.ntmps86
  generalize ((l + 1 : Nat) : Int) = lI at hw2 z2 ⊢
  generalize hx : (k : Int) + 2 = xI at hw1 z1 hrg hsz ⊢
  have HX := Lib.hid (idx_four xI)
  clear hx
  go_wp2_with (first | (refine wpList_load_mid rfl 169 _ rfl pg (k * 4) rfl (four xI) (.array 4 3) hrg Tryz.underlying169 rfl hsz ?_) | fail)
  clear c1 q3 hrg hsz
  generalize (four xI).toArray = arr at HX ⊢
  go_loopw [22] (fun a wr => ∃ j : Nat, j ≤ 4 ∧ a = .int .i64 (j : Int) ∧ Hid (j = 0 ∧ wr = w ∨ 0 < j ∧ DownQ w g3 r wr)) (fun a _ => (4 - intOf a).toNat)
  case atStart => exact ⟨0, by omega, rfl, Lib.hid (.inl ⟨rfl, rfl⟩)⟩
  case round =>
    obtain ⟨j, hj, rfl, hq⟩ := hrel
    by_cases hlt : j < 4
    · by_cases h0 : j = 0
      · subst h0
        obtain rfl : wr = w := by rcases hq.out with ⟨-, e⟩ | ⟨e, -⟩ <;> first | exact e | omega
        clear hq hlt
        have hix : (Instr.index 169 (.agg arr) (.int .i64 0)).run Tryz.prog wr = .ok (.int .i64 xI) wr := HX.out wr 0 (by decide)
        have b1 : bits .or .i64 0 0 = 0 := by decide
        have b2 : bits .and .i64 0 1 = 0 := by decide
        go_wp2_with fail
        refine IH.mono ?_
        clear IH
        rintro e W1 ⟨rfl, D⟩
        have FIN := Lib.hid D
        clear D
        go_wp2
        go_roundw
        case rel => exact ⟨1, by omega, by go_num, Lib.hid (.inr ⟨by omega, FIN.out⟩)⟩
        case measure => simp [intOf] <;> omega
      · have hix : (Instr.index 169 (.agg arr) (.int .i64 (j : Int))).run Tryz.prog wr = .ok (.int .i64 0) wr := by have := HX.out wr j hlt; rwa [if_neg h0] at this
        have hltI : (j : Int) < (4 : Int) := by omega
        have hkw : IntKind.i64.wrap ((j : Int) + 1) = (j : Int) + 1 := IntWalk.i64_in _ (by omega)
        have hge : (0 : Int) ≤ (j : Int) := by omega
        have hD := Lib.hid (show 0 < j + 1 ∧ DownQ w g3 r wr from by rcases hq.out with ⟨e, -⟩ | ⟨-, e⟩; exact absurd e h0; exact ⟨by omega, e⟩)
        clear hq
        go_wp2
        go_roundw
        case rel => exact ⟨j + 1, by omega, by go_num, Lib.hid (.inr hD.out)⟩
        case measure => simp [intOf] <;> omega
    · obtain rfl : j = 4 := by omega
      have FIN := Lib.hid (show DownQ w g3 r wr by rcases hq.out with ⟨e, -⟩ | ⟨-, e⟩; exact absurd e (by decide); exact e)
      clear hq
      go_wp2
      (try simp only [Exit.inBlock, Exit.then])
      exact bodyPost_end (results_none rfl _ _ _) rfl ⟨rfl, FIN.out⟩
theorem down_full (w : World) (O : Nat → Option QRo) (p side dep cnt m : Nat) (r : List Nat) (pv lv : Value) (h : QuI w O p side dep cnt m 1 [r] pv lv) (hr : Wd r) (hm : m ≤ 4) (g1 g3 g4 : Nat) (k1 : ∃ ty, Blk w g1 ty #[.pointer (some ⟨p, 0, none⟩)]) (k3 : ∃ ty, Blk w g3 ty #[.slice none 0 0])
    (k4 : ∃ ty, Blk w g4 ty #[.func (.func 86) #[] #[.pointer (some ⟨g1, 0, none⟩), .pointer (some ⟨g3, 0, none⟩), .pointer (some ⟨g4, 0, none⟩)]]) : ∀ (l k : Nat), k + l = m →
    Calls Tryz.prog 86 #[.int .i64 (k : Int), .int .i64 (l : Int), .int .i64 0, .int .i64 0, .pointer (some ⟨g1, 0, none⟩), .pointer (some ⟨g3, 0, none⟩), .pointer (some ⟨g4, 0, none⟩)] w (fun e w' => e = .returned (.tuple #[]) ∧ DownQ w g3 r w')
  | 0, k, hk => by
    obtain rfl : k = m := by omega
    exact down_leaf w O p side dep cnt k r pv lv h hr hm g1 g3 g4 k1 k3
  | l + 1, k, hk => down_step w O p side dep cnt m r pv lv h hr hm g1 g3 g4 k1 k3 k4 l k hk (down_full w O p side dep cnt m r pv lv h hr hm g1 g3 g4 k1 k3 k4 l (k + 1) (by omega))
end Go.Proofs.YtnmkieiehjajlaaGreatDoor
