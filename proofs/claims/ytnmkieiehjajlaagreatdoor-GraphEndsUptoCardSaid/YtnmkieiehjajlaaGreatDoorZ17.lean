/- Edges: slices.Concat of two lists. -/
import Derived.Test.YtnmkieiehjajlaaGreatDoorZ15
import Derived.Test.YtnmkieiehjajlaaGreatDoorZ04
set_option linter.unusedVariables false
set_option linter.unusedSimpArgs false
namespace Go.Proofs.YtnmkieiehjajlaaGreatDoor
open Go.RowKit Go.Sort Go.Shelf

/-- append of nothing. -/
theorem append_none (w : World) (t e : TypeId) (ht : Tryz.prog.underlying t = some (.slice e)) (i : TypeInfo) (hi : Tryz.prog.info? e = some i) (b : Option Addr) (n c d : Nat) (hn : n ≤ c) (h63 : n ≤ 9223372036854775807) :
    (Builtin.append_ #[t, t] t #[.slice b n c, .slice none 0 d]).run Tryz.prog w = .ok (.slice b n c) w := by
  have h1 : ¬ (9223372036854775807 < (n : Int)) := by omega
  cases b <;> simp [Builtin.append_, run_underlying ht, sizeOf, typeInfo, hi, hn, Builtin.lenOf, run_firstCells_none, storeCells]
/-- append of a row to a row of the call's own. -/
theorem append_row (w : World) (base t e size bytes : Nat) (z : Value) (ht : Tryz.prog.underlying t = some (.slice e)) (hi : (Tryz.prog.info? e).map (fun i => (i.zero, i.size, i.bytes)) = some (some z, size, bytes)) (hzs : z.cells.size = size) (h0 : 0 < size) (h8 : 8 ≤ bytes)
    (B : Option Addr) (n c : Nat) (xs : List Value) (own : w.ownsRow base e size (.slice B n c) n xs) (A : Option Addr) (m d : Nat) (ys : List Value) (hr : RowR w A ys) (hl : ys.length = m * size) (h1 : ∀ u ∈ ys, u.oneCell' = true) (hn : (n + m) * bytes ≤ 140737488355328) (hb : base ≤ w.heap.size) :
    ∃ B' c' w', (Builtin.append_ #[t, t] t #[.slice B n c, .slice A m d]).run Tryz.prog w = .ok (.slice B' (n + m) c') w' ∧ w'.ownsRow base e size (.slice B' (n + m) c') (n + m) (xs ++ ys) ∧ Below base w w' := by
  obtain ⟨i0, hi0, hz0, hz1, hz2⟩ := info_parts hi
  have hnm : n + m ≤ maxLen := by
    have : (n + m) * 8 ≤ (n + m) * bytes := Nat.mul_le_mul_left _ h8
    unfold maxLen; omega
  have hre := hr.reads hl h0
  rcases A with _ | ad
  · obtain ⟨rfl, rfl⟩ := hre.nil
    obtain ⟨A', c', hv, hc, -⟩ := own_form own
    injection hv with _ _ hcc
    refine ⟨B, c, w, append_none w t e ht i0 hi0 B n c d (by omega) (by unfold maxLen at hnm; omega), by simpa using own, (Below.refl _ _).mono hb⟩
  · obtain ⟨v', w', happ, own', gr, -, pl⟩ := run_append_own_at (P := Tryz.prog) w base t t e i0 z size bytes ht hi0 hz0 hz1 hz2 hzs h0 (.slice B n c) n xs own ad m d ys hl (hre.2.2 ad rfl) h1 hnm (by simpa using hn) hb
    obtain ⟨B', c', rfl, -, -⟩ := own_form own'
    exact ⟨B', c', w', happ, own', (Below.refl base w).grown gr hb (fun k hk => (own.lt k hk).1)⟩

set_option maxHeartbeats 4000000 in
set_option maxRecDepth 20000 in
theorem concat_txt (w : World) (g : Nat) (A : Option Addr) (c : Nat) (B : Option Addr) (d : Nat) (N M : List Txt) (k : Blk w g 22 #[.slice A N.length c, .slice B M.length d]) (hN : RowR w A (txtCells N)) (hM : RowR w B (txtCells M)) (hl : (N.length + M.length) * 16 ≤ 140737488355328) :
    Calls Tryz.prog 115 #[.slice (some ⟨g, 0, none⟩) 2 2] w (NewT w (N ++ M)) := by
  have H := Lib.hid (And.intro k (And.intro hN hM))
  clear k hN hM
  obtain ⟨n, hn⟩ : ∃ n, N.length = n := ⟨_, rfl⟩
  obtain ⟨m, hm⟩ : ∃ m, M.length = m := ⟨_, rfl⟩
  have HL := Lib.hid (And.intro hn hm)
  have c0 : w.cell? ⟨g, 0, none⟩ = some (.slice A n c) := by rw [← hn]; exact H.out.1.cell 0
  have c1 : w.cell? ⟨g, 1, none⟩ = some (.slice B m d) := by rw [← hm]; exact H.out.1.cell 1
  rw [hn, hm] at hl
  clear hn hm
  go_enter Tryz.func115, Tryz.ntmps115
  go_wp2_with fail
  go_loop [3, 11] (fun s i => ∃ j : Nat, j ≤ 2 ∧ i = .int .i64 j ∧ s = .int .i64 (((if j = 0 then 0 else if j = 1 then n else n + m : Nat)) : Int)) (fun _ i => 2 - (intOf i).toNat)
  case atStart => exact ⟨0, by omega, rfl, rfl⟩
  case round =>
    obtain ⟨j, hj, rfl, rfl⟩ := hrel
    have hj3 : j = 0 ∨ j = 1 ∨ j = 2 := by omega
    have w1 : IntKind.i64.wrap (0 + (n : Int)) = (n : Int) := by rw [Int.zero_add]; exact IntWalk.i64_in _ (by omega)
    have w2 : IntKind.i64.wrap ((n : Int) + (m : Int)) = (n : Int) + (m : Int) := IntWalk.i64_in _ (by omega)
    have p1 : ¬ ((n : Int) < 0) := by omega
    have p2 : ¬ ((n : Int) + (m : Int) < 0) := by omega
    rcases hj3 with rfl | rfl | rfl
    · go_wp2
      go_round
      case rel => exact ⟨1, by omega, rfl, by simp⟩
      case measure => simp [intOf]
    · go_wp2
      go_round
      case rel => exact ⟨2, by omega, rfl, by simp⟩
      case measure => simp [intOf]
    · have hgrow : Calls Tryz.prog 154 #[.slice none 0 0, .int .i64 ((n : Int) + (m : Int))] w fun e w' => ∃ B0 c0, e = .returned (.slice B0 0 c0) ∧ w'.ownsRow w.heap.size 9 1 (.slice B0 0 c0) 0 [] ∧ Below w.heap.size w w' := by
        rw [← Int.natCast_add]
        by_cases h0 : n + m = 0
        · have h := Any8.slices_Grow_room growT none 0 0 (n + m) w (Nat.le_refl _) (by omega) (by omega) (by omega)
          exact h.mono (by rintro e w' ⟨rfl, rfl⟩; exact ⟨none, 0, rfl, World.ownsRow_nil _ _ _ _, Below.refl _ _⟩)
        · obtain ⟨i0, hi0, hz0, hz1, hz2⟩ := info_parts info_string
          have h := Any8.slices_Grow_grow growT i0 _ hi0 hz0 (by rw [hz1]; decide) none 0 0 (n + m) [] w (Nat.le_refl _) (by omega) (by rw [hz2]; omega) (by omega) (by simp) (fun _ => rfl) (fun a h => by cases h)
          refine h.mono ?_
          rintro e w' ⟨rfl, rfl⟩
          refine ⟨_, _, rfl, ⟨rfl, .inr ⟨w.heap.size, _, _, rfl, Nat.le_refl _, heap_alloc_new _ _, Nat.zero_le _, grownCap_le_maxLen w _ _ _ (by unfold maxLen; omega), ?_, by simp⟩⟩, ((Below.refl w.heap.size w).drew).alloc (Nat.le_refl _) _⟩
          have hge := grownCap_ge w (0 + (n + m)) 0 (ren_growT.t 25)
          have hzc : (.string ByteArray.empty : Value).cells.size = 1 := rfl
          simp only [Array.size_append, size_zeroCells, List.size_toArray, List.length_nil, hzc]
          omega
      go_wp2_with fail
      refine hgrow.mono ?_
      rintro e W1 ⟨B0, c0', rfl, own0, b1⟩
      clear hgrow
      have k1 := H.out.1.upd (Upd.of_below b1 (fun _ => False)) id
      have H1 := Lib.hid (And.intro own0 b1)
      clear own0 k1 b1 c0 c1
      go_wp2_with fail
      go_loopw [6, 27] (fun v i wr => ∃ (j : Nat) (B' : Option Addr) (c' q : Nat) (L : List Txt), i = .int .i64 j ∧ v = .slice B' q c' ∧ Hid (wr.ownsRow w.heap.size 9 1 (.slice B' q c') q (txtCells L) ∧ Below w.heap.size w wr) ∧ ((j = 0 ∧ q = 0 ∧ L = []) ∨ (j = 1 ∧ q = n ∧ L = N) ∨ (j = 2 ∧ q = n + m ∧ L = N ++ M))) (fun _ i _ => 2 - (intOf i).toNat)
      case atStart => exact ⟨0, B0, c0', 0, [], rfl, rfl, H1, .inl ⟨rfl, rfl, rfl⟩⟩
      case round =>
        obtain ⟨j, B', c', q, L, rfl, rfl, HR, hc⟩ := hrel
        have kr := H.out.1.upd (Upd.of_below HR.out.2 (fun _ => False)) id
        have c0 : wr.cell? ⟨g, 0, none⟩ = some (.slice A n c) := by rw [← HL.out.1]; exact kr.cell 0
        have c1 : wr.cell? ⟨g, 1, none⟩ = some (.slice B m d) := by rw [← HL.out.2]; exact kr.cell 1
        clear kr
        rcases hc with ⟨rfl, rfl, rfl⟩ | ⟨rfl, rfl, rfl⟩ | ⟨rfl, rfl, rfl⟩
        · obtain ⟨B2, c2, W2, happ, own2, b2⟩ := append_row wr w.heap.size 22 9 1 16 _ Tryz.underlying22 info_string rfl (by decide) (by decide) B' 0 c' _ HR.out.1 A n c _ (H.out.2.1.below HR.out.2) (by rw [txtCells_len, HL.out.1]) (one_txt N) (by omega) HR.out.2.size
          have HN := Lib.hid (show W2.ownsRow w.heap.size 9 1 (.slice B2 n c2) n (txtCells N) ∧ Below w.heap.size w W2 from ⟨by simpa [txtCells] using own2, HR.out.2.trans b2⟩)
          rw [Nat.zero_add] at happ
          clear own2 b2
          go_wp2_with (at_builtin; refine wpList_append_run rfl _ _ _ rfl rfl rfl happ ?_)
          go_roundw
          case rel => exact ⟨1, B2, c2, n, N, by go_num, rfl, HN, .inr (.inl ⟨rfl, rfl, rfl⟩)⟩
          case measure => simp [intOf]
        · obtain ⟨B2, c2, W2, happ, own2, b2⟩ := append_row wr w.heap.size 22 9 1 16 _ Tryz.underlying22 info_string rfl (by decide) (by decide) B' q c' _ HR.out.1 B m d _ (H.out.2.2.below HR.out.2) (by rw [txtCells_len, HL.out.2]) (one_txt M) (by omega) HR.out.2.size
          have HN := Lib.hid (show W2.ownsRow w.heap.size 9 1 (.slice B2 (q + m) c2) (q + m) (txtCells (L ++ M)) ∧ Below w.heap.size w W2 from ⟨by simpa [txtCells] using own2, HR.out.2.trans b2⟩)
          clear own2 b2
          go_wp2_with (at_builtin; refine wpList_append_run rfl _ _ _ rfl rfl rfl happ ?_)
          go_roundw
          case rel => exact ⟨2, B2, c2, q + m, L ++ M, by go_num, rfl, HN, .inr (.inr ⟨rfl, rfl, rfl⟩)⟩
          case measure => simp [intOf]
        · have FIN := Lib.hid (show NewT w (N ++ M) (.returned (.slice B' (n + m) c')) wr from ⟨_, rfl, by rw [List.length_append, HL.out.1, HL.out.2]; exact HR.out.1, HR.out.2⟩)
          go_wp2
          go_ret
          exact FIN.out

set_option maxHeartbeats 4000000 in
set_option maxRecDepth 20000 in
theorem concat_ed (w : World) (g : Nat) (A : Option Addr) (c : Nat) (B : Option Addr) (d : Nat) (N M : List Ed) (k : Blk w g 23 #[.slice A N.length c, .slice B M.length d]) (hN : RowR w A (edCells N)) (hM : RowR w B (edCells M)) (hl : (N.length + M.length) * 48 ≤ 140737488355328) :
    Calls Tryz.prog 116 #[.slice (some ⟨g, 0, none⟩) 2 2] w (NewE w (N ++ M)) := by
  have H := Lib.hid (And.intro k (And.intro hN hM))
  clear k hN hM
  obtain ⟨n, hn⟩ : ∃ n, N.length = n := ⟨_, rfl⟩
  obtain ⟨m, hm⟩ : ∃ m, M.length = m := ⟨_, rfl⟩
  have HL := Lib.hid (And.intro hn hm)
  have c0 : w.cell? ⟨g, 0, none⟩ = some (.slice A n c) := by rw [← hn]; exact H.out.1.cell 0
  have c1 : w.cell? ⟨g, 1, none⟩ = some (.slice B m d) := by rw [← hm]; exact H.out.1.cell 1
  rw [hn, hm] at hl
  clear hn hm
  go_enter Tryz.func116, Tryz.ntmps116
  go_wp2_with fail
  go_loop [3, 11] (fun s i => ∃ j : Nat, j ≤ 2 ∧ i = .int .i64 j ∧ s = .int .i64 (((if j = 0 then 0 else if j = 1 then n else n + m : Nat)) : Int)) (fun _ i => 2 - (intOf i).toNat)
  case atStart => exact ⟨0, by omega, rfl, rfl⟩
  case round =>
    obtain ⟨j, hj, rfl, rfl⟩ := hrel
    have hj3 : j = 0 ∨ j = 1 ∨ j = 2 := by omega
    have w1 : IntKind.i64.wrap (0 + (n : Int)) = (n : Int) := by rw [Int.zero_add]; exact IntWalk.i64_in _ (by omega)
    have w2 : IntKind.i64.wrap ((n : Int) + (m : Int)) = (n : Int) + (m : Int) := IntWalk.i64_in _ (by omega)
    have p1 : ¬ ((n : Int) < 0) := by omega
    have p2 : ¬ ((n : Int) + (m : Int) < 0) := by omega
    rcases hj3 with rfl | rfl | rfl
    · go_wp2
      go_round
      case rel => exact ⟨1, by omega, rfl, by simp⟩
      case measure => simp [intOf]
    · go_wp2
      go_round
      case rel => exact ⟨2, by omega, rfl, by simp⟩
      case measure => simp [intOf]
    · have hgrow : Calls Tryz.prog 155 #[.slice none 0 0, .int .i64 ((n : Int) + (m : Int))] w fun e w' => ∃ B0 c0, e = .returned (.slice B0 0 c0) ∧ w'.ownsRow w.heap.size 52 3 (.slice B0 0 c0) 0 [] ∧ Below w.heap.size w w' := by
        rw [← Int.natCast_add]
        by_cases h0 : n + m = 0
        · have h := Any8.slices_Grow_room growE none 0 0 (n + m) w (Nat.le_refl _) (by omega) (by omega) (by omega)
          exact h.mono (by rintro e w' ⟨rfl, rfl⟩; exact ⟨none, 0, rfl, World.ownsRow_nil _ _ _ _, Below.refl _ _⟩)
        · obtain ⟨i0, hi0, hz0, hz1, hz2⟩ := info_parts info_edge
          have h := Any8.slices_Grow_grow growE i0 _ hi0 hz0 (by rw [hz1]; decide) none 0 0 (n + m) [] w (Nat.le_refl _) (by omega) (by rw [hz2]; omega) (by omega) (by simp) (fun _ => rfl) (fun a h => by cases h)
          refine h.mono ?_
          rintro e w' ⟨rfl, rfl⟩
          refine ⟨_, _, rfl, ⟨rfl, .inr ⟨w.heap.size, _, _, rfl, Nat.le_refl _, heap_alloc_new _ _, Nat.zero_le _, grownCap_le_maxLen w _ _ _ (by unfold maxLen; omega), ?_, by simp⟩⟩, ((Below.refl w.heap.size w).drew).alloc (Nat.le_refl _) _⟩
          have hge := grownCap_ge w (0 + (n + m)) 0 (ren_growE.t 25)
          have hzc : (.agg #[.string ByteArray.empty, .string ByteArray.empty, .string ByteArray.empty] : Value).cells.size = 3 := rfl
          simp only [Array.size_append, size_zeroCells, List.size_toArray, List.length_nil, hzc]
          omega
      go_wp2_with fail
      refine hgrow.mono ?_
      rintro e W1 ⟨B0, c0', rfl, own0, b1⟩
      clear hgrow
      have k1 := H.out.1.upd (Upd.of_below b1 (fun _ => False)) id
      have H1 := Lib.hid (And.intro own0 b1)
      clear own0 k1 b1 c0 c1
      go_wp2_with fail
      go_loopw [6, 27] (fun v i wr => ∃ (j : Nat) (B' : Option Addr) (c' q : Nat) (L : List Ed), i = .int .i64 j ∧ v = .slice B' q c' ∧ Hid (wr.ownsRow w.heap.size 52 3 (.slice B' q c') q (edCells L) ∧ Below w.heap.size w wr) ∧ ((j = 0 ∧ q = 0 ∧ L = []) ∨ (j = 1 ∧ q = n ∧ L = N) ∨ (j = 2 ∧ q = n + m ∧ L = N ++ M))) (fun _ i _ => 2 - (intOf i).toNat)
      case atStart => exact ⟨0, B0, c0', 0, [], rfl, rfl, H1, .inl ⟨rfl, rfl, rfl⟩⟩
      case round =>
        obtain ⟨j, B', c', q, L, rfl, rfl, HR, hc⟩ := hrel
        have kr := H.out.1.upd (Upd.of_below HR.out.2 (fun _ => False)) id
        have c0 : wr.cell? ⟨g, 0, none⟩ = some (.slice A n c) := by rw [← HL.out.1]; exact kr.cell 0
        have c1 : wr.cell? ⟨g, 1, none⟩ = some (.slice B m d) := by rw [← HL.out.2]; exact kr.cell 1
        clear kr
        rcases hc with ⟨rfl, rfl, rfl⟩ | ⟨rfl, rfl, rfl⟩ | ⟨rfl, rfl, rfl⟩
        · obtain ⟨B2, c2, W2, happ, own2, b2⟩ := append_row wr w.heap.size 23 52 3 48 _ Tryz.underlying23 info_edge rfl (by decide) (by decide) B' 0 c' _ HR.out.1 A n c _ (H.out.2.1.below HR.out.2) (by rw [edCells_len, HL.out.1]) (one_ed N) (by omega) HR.out.2.size
          have HN := Lib.hid (show W2.ownsRow w.heap.size 52 3 (.slice B2 n c2) n (edCells N) ∧ Below w.heap.size w W2 from ⟨by simpa [edCells] using own2, HR.out.2.trans b2⟩)
          rw [Nat.zero_add] at happ
          clear own2 b2
          go_wp2_with (at_builtin; refine wpList_append_run rfl _ _ _ rfl rfl rfl happ ?_)
          go_roundw
          case rel => exact ⟨1, B2, c2, n, N, by go_num, rfl, HN, .inr (.inl ⟨rfl, rfl, rfl⟩)⟩
          case measure => simp [intOf]
        · obtain ⟨B2, c2, W2, happ, own2, b2⟩ := append_row wr w.heap.size 23 52 3 48 _ Tryz.underlying23 info_edge rfl (by decide) (by decide) B' q c' _ HR.out.1 B m d _ (H.out.2.2.below HR.out.2) (by rw [edCells_len, HL.out.2]) (one_ed M) (by omega) HR.out.2.size
          have HN := Lib.hid (show W2.ownsRow w.heap.size 52 3 (.slice B2 (q + m) c2) (q + m) (edCells (L ++ M)) ∧ Below w.heap.size w W2 from ⟨by simpa [edCells] using own2, HR.out.2.trans b2⟩)
          clear own2 b2
          go_wp2_with (at_builtin; refine wpList_append_run rfl _ _ _ rfl rfl rfl happ ?_)
          go_roundw
          case rel => exact ⟨2, B2, c2, q + m, L ++ M, by go_num, rfl, HN, .inr (.inr ⟨rfl, rfl, rfl⟩)⟩
          case measure => simp [intOf]
        · have FIN := Lib.hid (show NewE w (N ++ M) (.returned (.slice B' (n + m) c')) wr from ⟨_, rfl, by rw [List.length_append, HL.out.1, HL.out.2]; exact HR.out.1, HR.out.2⟩)
          go_wp2
          go_ret
          exact FIN.out
end Go.Proofs.YtnmkieiehjajlaaGreatDoor
