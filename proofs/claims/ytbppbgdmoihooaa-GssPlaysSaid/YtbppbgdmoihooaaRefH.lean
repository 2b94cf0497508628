/- GssPlays: All of a stack: the list that is gone over. -/
import Derived.Test.YtbppbgdmoihooaaRefG
namespace Go.Proofs.Ytbppbgdmoihooaa
open Go.RowKit

/-- The frames of the first k nodes, in order. -/
def allF (N : List GNode) (k : Nat) : List (Nat × Int × Int) := (N.take k).zipIdx.flatMap fun p => p.1.frames.map fun f => (p.2, f.1, f.2)
theorem allF_succ {N : List GNode} {k : Nat} {x : GNode} (h : N[k]? = some x) : allF N (k + 1) = allF N k ++ x.frames.map fun f => (k, f.1, f.2) := by
  have hk := (List.getElem?_eq_some_iff.1 h).1
  unfold allF
  rw [take_snoc h, List.zipIdx_append, List.flatMap_append, List.length_take, Nat.min_eq_left (by omega)]
  simp
set_option maxRecDepth 20000 in
theorem allF_len {N : List GNode} (h : ∀ (i : Nat) (x : GNode), N[i]? = some x → x.frames.length ≤ 300) : ∀ k, (allF N k).length ≤ k * 300
  | 0 => by simp [allF]
  | k + 1 => by
    cases hk : N[k]? with
    | none =>
      have h1 := List.getElem?_eq_none_iff.1 hk
      have h2 := allF_len h k
      have : allF N (k + 1) = allF N k := by unfold allF; rw [List.take_of_length_le h1, List.take_of_length_le (by omega)]
      rw [this]
      omega
    | some x =>
      rw [allF_succ hk, List.length_append, List.length_map]
      have h1 := h k x hk
      have h2 := allF_len h k
      omega
def tripCells (l : List (Nat × Int × Int)) : List Value := l.flatMap fun m => [.int .i64 m.1, .int .i64 m.2.1, .int .i64 m.2.2]
theorem tripCells_app (l l' : List (Nat × Int × Int)) : tripCells (l ++ l') = tripCells l ++ tripCells l' := by simp [tripCells]
theorem info_framed : (Try.prog.info? 119).map (fun i => (i.zero, i.size, i.bytes)) = some (some (.agg #[.int .i64 0, .int .i64 0, .int .i64 0]), 3, 24) := by kernel_rfl

/-- In the midst of All: the box, and what has been gathered. -/
def Gath (w : World) (bx : Nat) (L : List (Nat × Int × Int)) (wr : World) : Prop :=
  ∃ v, Blk wr bx 120 #[v] ∧ wr.ownsRow w.heap.size 119 3 v L.length (tripCells L) ∧ v.ownBlock ≠ some bx ∧ Below w.heap.size w wr
def AllPost (w : World) (L : List (Nat × Int × Int)) (e : Ending) (w' : World) : Prop :=
  ∃ bx, e = .returned (.func (.func 60) #[] #[.pointer (some ⟨bx, 0, none⟩)]) ∧ w.heap.size ≤ bx ∧ Gath w bx L w'

set_option maxHeartbeats 4000000 in
set_option maxRecDepth 20000 in
theorem all_yes (w : World) (F : Nat → Prop) (b : Nat) (N : List GNode) (h : StkAt w F b N) (hN : N.length ≤ 300) (hF : ∀ (i : Nat) (x : GNode), N[i]? = some x → x.frames.length ≤ 300) :
    Calls Try.prog 28 #[.pointer (some ⟨b, 0, none⟩)] w (AllPost w (allF N N.length)) := by
  obtain ⟨O, D, hs, rfl⟩ := h
  have hb0 := hs.blk.lt
  have c0 : w.cell? ⟨b, 0, none⟩ = some (.map (some D.r1)) := hs.blk.cell 0
  obtain ⟨A, c, hnv, hc, -⟩ := own_form hs.row
  have c3 : w.cell? ⟨b, 3, none⟩ = some (.slice A N.length c) := by rw [← hnv]; exact hs.blk.cell 3
  have k0 := Blk.new w 120 #[.slice none 0 0]
  have u1 : Below w.heap.size w (w.alloc (.cells #[.slice none 0 0] 120)) := (Below.refl _ _).alloc (Nat.le_refl _) _
  have hc' : (N.length : Int) ≤ (c : Int) := by omega
  have H := Lib.hid (And.intro hs (And.intro hnv (And.intro hF (And.intro c0 c3))))
  have HK := Lib.hid (And.intro k0 u1)
  clear hs hnv hF k0 u1 c0 c3 hc
  go_enter Try.func28, Try.ntmps28
  go_wp2_with fail
  generalize w.alloc (.cells #[.slice none 0 0] 120) = w1 at HK ⊢
  have d0 : w1.cell? ⟨b, 0, none⟩ = some (.map (some D.r1)) := (HK.out.2.cell (p := ⟨b, 0, none⟩) hb0).trans H.out.2.2.2.1
  have d3 : w1.cell? ⟨b, 3, none⟩ = some (.slice A N.length c) := (HK.out.2.cell (p := ⟨b, 3, none⟩) hb0).trans H.out.2.2.2.2
  refine (is_any _ _ _ d0).mono ?_
  rintro e w' ⟨rfl, rfl⟩
  clear d0
  go_wp2
  go_loopw [14] (fun iv wr => ∃ k : Nat, k ≤ N.length ∧ iv = .int .i64 k ∧ Gath w w.heap.size (allF N k) wr) (fun iv _ => N.length - (intOf iv).toNat)
  case atStart => exact ⟨0, Nat.zero_le _, rfl, _, HK.out.1, World.ownsRow_nil _ _ _ _, by simp [Value.ownBlock], HK.out.2⟩
  case round =>
    obtain ⟨k, hk, rfl, ga⟩ := hrel
    obtain ⟨wo, rfl⟩ : ∃ wo : World, wo = wr := ⟨_, rfl⟩
    clear d3
    by_cases hlt : k < N.length
    · obtain ⟨x, hx⟩ : ∃ x, N[k]? = some x := ⟨N[k], List.getElem?_eq_getElem hlt⟩
      obtain ⟨g, cc, hv, hOg, -, hgl, -, -, n2, -, -⟩ := node_cells H.out.1 hx
      have hv' := H.out.2.1.symm.trans hv
      injection hv' with hA _ hcc
      subst hA
      have hrow := H.out.1.rowF k x hx
      have hxl := H.out.2.2.1 k x hx
      obtain ⟨Af, cf, hfv, hcf, -⟩ := own_form hrow
      rw [hfv] at n2
      have bo : Below w.heap.size w wo := by obtain ⟨v, _, _, _, h⟩ := ga; exact h
      have d3 : wo.cell? ⟨b, 3, none⟩ = some (.slice (some ⟨g, 0, none⟩) N.length c) := (bo.cell (p := ⟨b, 3, none⟩) hb0).trans H.out.2.2.2.2
      have d4 : wo.cell? ⟨g, k * 4 + 2, none⟩ = some (.slice Af x.frames.length cf) := (bo.cell (p := ⟨g, k * 4 + 2, none⟩) hgl).trans n2
      have hcf' : (x.frames.length : Int) ≤ (cf : Int) := by omega
      have HX := Lib.hid (And.intro hx (And.intro hrow (And.intro hfv ga)))
      clear hx hrow hfv ga hv hOg hgl n2 hcc hcf bo
      go_wp2
      go_loopw [26] (fun iv wr => ∃ j : Nat, j ≤ x.frames.length ∧ iv = .int .i64 j ∧ Gath w w.heap.size (allF N k ++ (x.frames.take j).map fun f => (k, f.1, f.2)) wr) (fun iv _ => x.frames.length - (intOf iv).toNat)
      case atStart => exact ⟨0, Nat.zero_le _, rfl, by simpa using HX.out.2.2.2⟩
      case round =>
        obtain ⟨j, hj, rfl, ga⟩ := hrel
        by_cases hltj : j < x.frames.length
        · obtain ⟨⟨f1, f2⟩, hf⟩ : ∃ f, x.frames[j]? = some f := ⟨x.frames[j], List.getElem?_eq_getElem hltj⟩
          obtain ⟨gf, cf', hvf, -, -, hgf, -, hcellf⟩ := own_cells HX.out.2.1 (by omega)
          have hvf' := HX.out.2.2.1.symm.trans hvf
          injection hvf' with hAf _ hcff
          subst hAf
          obtain ⟨v, kb, row, hvb, bel⟩ := ga
          have hg2 := fun r (hr : r < 2) => flat_get (fun p : Int × Int => [Value.int .i64 p.1, .int .i64 p.2]) 2 (fun _ => rfl) x.frames j r _ hf hr
          have s0 : wr.cell? ⟨gf, j * 2, none⟩ = some (.int .i64 f1) := (bel.cell (p := ⟨gf, j * 2, none⟩) (World.block_lt_of_cell? w _ (hcellf _ _ (hg2 0 (by omega))).1)).trans (hcellf _ _ (hg2 0 (by omega))).1
          have s1 : wr.cell? ⟨gf, j * 2 + 1, none⟩ = some (.int .i64 f2) := (bel.cell (p := ⟨gf, j * 2 + 1, none⟩) (World.block_lt_of_cell? w _ (hcellf _ _ (hg2 1 (by omega))).1)).trans (hcellf _ _ (hg2 1 (by omega))).1
          obtain ⟨Av, cv, rfl, -, -⟩ := own_form row
          obtain ⟨L, hL⟩ : ∃ L, (allF N k ++ (x.frames.take j).map fun f => (k, f.1, f.2)) = L := ⟨_, rfl⟩
          have hLn : L.length ≤ 100000 := by
            rw [← hL, List.length_append, List.length_map, List.length_take]
            have h1 := allF_len H.out.2.2.1 k
            have h2 := H.out.2.2.1 k x HX.out.1
            omega
          have hLs : (allF N k ++ (x.frames.take (j + 1)).map fun f => (k, f.1, f.2)) = L ++ [(k, f1, f2)] := by
            rw [take_snoc hf, List.map_append, ← List.append_assoc, hL]
            rfl
          rw [hL] at row kb hvb
          -- what the round makes
          have e0 := (Blk.new wr 48 #[.int .i64 f1, .int .i64 f2])
          obtain ⟨i0, hi0, hz0, hz1, hz2⟩ := info_parts info_framed
          obtain ⟨v8, w8, happ, own8, gr8, -, pl8⟩ := run_append_own_at (P := Try.prog) ((wr.alloc (.cells #[.int .i64 f1, .int .i64 f2] 48)).alloc (.cells #[.int .i64 (k : Int), .int .i64 f1, .int .i64 f2] 119)) w.heap.size 120 120 119 i0 _ 3 24 Try.underlying120 hi0 hz0 hz1 hz2 rfl (by decide) _ L.length _ ((row.alloc _).alloc _) ⟨wr.heap.size + 1, 0, none⟩ 1 1
            (tripCells [(k, f1, f2)]) rfl (by
              intro j u hu
              match j, hu with
              | 0, hu => simp [Addr.add, tripCells] at hu ⊢; exact hu
              | 1, hu => simp [Addr.add, tripCells] at hu ⊢; exact hu
              | 2, hu => simp [Addr.add, tripCells] at hu ⊢; exact hu
              | j + 3, hu => simp [tripCells] at hu) (by simp [Value.oneCell', tripCells]) (by unfold maxLen; omega) (by omega) (by have := bel.size; simp; omega)
          obtain ⟨A8, c8, rfl, -, -⟩ := own_form own8
          have hvb' : some w.heap.size ≠ Value.ownBlock (.slice Av L.length cv) := fun e => hvb e.symm
          have kba := kb.alloc (.cells #[.int .i64 f1, .int .i64 f2] 48)
          have kb8 := (kba.alloc (.cells #[.int .i64 (k : Int), .int .i64 f1, .int .i64 f2] 119)).grown gr8 hvb'
          have b0 : (wr.alloc (.cells #[.int .i64 f1, .int .i64 f2] 48)).cell? ⟨w.heap.size, 0, none⟩ = some (.slice Av L.length cv) := kba.cell 0
          have b8 : w8.cell? ⟨w.heap.size, 0, none⟩ = some (.slice Av L.length cv) := kb8.cell 0
          have b9 := kb8.frozen 0
          have fin : Gath w w.heap.size (allF N k ++ (x.frames.take (j + 1)).map fun f => (k, f.1, f.2)) (w8.setCell ⟨w.heap.size, 0, none⟩ (.slice A8 (L.length + 1) c8)) := by
            rw [hLs]
            have U8 : Upd (fun q => Value.ownBlock (.slice Av L.length cv) = some q ∨ q = w.heap.size) wr w8 := (((Upd.refl _ wr).alloc _).alloc _).grown gr8 (fun q hq => .inl (.inl hq))
            have hne : Value.ownBlock (.slice A8 (L.length + 1) c8) ≠ some w.heap.size := by
              have hsz := bel.size
              have hkl := kb.lt
              rcases pl8 with h5 | h5
              · rw [h5]
                exact hvb
              · rw [h5]
                intro e
                injection e with e
                simp at e
                omega
            refine ⟨.slice A8 (L.length + 1) c8, kb8.set 0 _, ?_, hne, ?_⟩
            · rw [tripCells_app, List.length_append]
              refine ownsRow_upd own8 ((Upd.refl (fun q => q = w.heap.size) w8).setCell (.inl rfl) _) ?_
              rintro q hq rfl
              exact hne hq
            · refine bel.trans ((U8.setCell (p := ⟨w.heap.size, 0, none⟩) (.inl (.inr rfl)) _).below ?_ bel.size)
              rintro q _ (hq | rfl)
              · exact (row.lt q hq).1
              · exact Nat.le_refl _
          have FIN := Lib.hid fin
          clear fin row hvb bel hg2 hcellf hf hvf hgf hcff hL hLs hLn own8 gr8 pl8 hvb' kba kb8 kb hi0 hz0 hz1 hz2
          have e00 := e0.cell 0
          have e01 := e0.cell 1
          simp only [List.getElem?_toArray, List.getElem?_cons_succ, List.getElem?_cons_zero] at e00 e01
          clear e0
          go_wp2_with (at_builtin; refine wpList_append_run rfl _ _ _ rfl rfl rfl happ ?_)
          go_roundw
          case rel => exact ⟨j + 1, by omega, by go_num, FIN.out⟩
          case measure => simp [intOf]; omega
        · have HG := Lib.hid ga
          clear ga
          go_wp2
          go_roundw
          case rel =>
            refine ⟨k + 1, by omega, by go_num, ?_⟩
            have := HG.out
            rw [List.take_of_length_le (by omega)] at this
            rw [allF_succ HX.out.1]
            exact this
          case measure => simp [intOf]; omega
    · obtain rfl : N.length = k := by omega
      have HG := Lib.hid ga
      clear ga
      go_wp2
      go_ret
      exact ⟨w.heap.size, rfl, Nat.le_refl _, HG.out⟩
end Go.Proofs.Ytbppbgdmoihooaa
