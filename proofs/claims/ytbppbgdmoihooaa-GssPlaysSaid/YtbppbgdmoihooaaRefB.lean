/- GssPlays: Framed, Popped, SameInts, SameFrames. -/
import Derived.Test.YtbppbgdmoihooaaRefA
import Derived.Test.YtbppbgdmoihooaaMeetF
namespace Go.Proofs.Ytbppbgdmoihooaa
open Go.RowKit

set_option maxHeartbeats 1600000 in
set_option maxRecDepth 20000 in
theorem framed_any (w : World) (base : Nat) (mk pl : Int) (fv pv : Value) (L : List (Int × Int)) (f1 f2 : Int) (h : w.ownsRow base 48 2 fv L.length (frameCells L)) (hL : L.length ≤ 1000000) :
    Calls Try.prog 56 #[.agg #[.int .i64 mk, .int .i64 pl, fv, pv], .agg #[.int .i64 f1, .int .i64 f2]] w (Same w (.bool (decide ((f1, f2) ∈ L)))) := by
  obtain ⟨A, c, rfl, hc, -⟩ := own_form h
  have heq := eql_frame
  have H := Lib.hid h
  have k0 := (Blk.new w 59 #[.int .i64 mk, .int .i64 pl, .slice A L.length c, pv]).alloc (.cells #[.int .i64 f1, .int .i64 f2] 48)
  have k1 := Blk.new (w.alloc (.cells #[.int .i64 mk, .int .i64 pl, .slice A L.length c, pv] 59)) 48 #[.int .i64 f1, .int .i64 f2]
  have u1 : Below w.heap.size w ((w.alloc (.cells #[.int .i64 mk, .int .i64 pl, .slice A L.length c, pv] 59)).alloc (.cells #[.int .i64 f1, .int .i64 f2] 48)) := ((Below.refl _ _).alloc (Nat.le_refl _) _).alloc (by simp) _
  simp only [World.size_alloc] at k1
  have hc' : (L.length : Int) ≤ (c : Int) := by omega
  clear h
  go_enter Try.func56, Try.ntmps56
  have HU := Lib.hid (And.intro k0 (And.intro k1 u1))
  clear k0 k1 u1
  go_wp2
  generalize (w.alloc (.cells #[.int .i64 mk, .int .i64 pl, .slice A L.length c, pv] 59)).alloc (.cells #[.int .i64 f1, .int .i64 f2] 48) = w1 at HU ⊢
  have c2 : w1.cell? ⟨w.heap.size, 2, none⟩ = some (.slice A L.length c) := HU.out.1.cell 2
  have e0 : w1.cell? ⟨w.heap.size + 1, 0, none⟩ = some (.int .i64 f1) := HU.out.2.1.cell 0
  have e1 : w1.cell? ⟨w.heap.size + 1, 1, none⟩ = some (.int .i64 f2) := HU.out.2.1.cell 1
  go_loopw [5] (fun i wr => ∃ k nq : Nat, k ≤ L.length ∧ i = .int .i64 k ∧ (f1, f2) ∉ L.take k ∧ wr = w1.drewN nq) (fun i _ => L.length - (intOf i).toNat)
  case atStart => exact ⟨0, 0, Nat.zero_le _, rfl, by simp, rfl⟩
  case round =>
    obtain ⟨k, nq, hk, rfl, hno, rfl⟩ := hrel
    have HN := Lib.hid hno
    clear hno
    by_cases hlt : k < L.length
    · obtain ⟨⟨m0, m1⟩, hm⟩ : ∃ m, L[k]? = some m := ⟨L[k], List.getElem?_eq_getElem hlt⟩
      obtain ⟨g, cc, hv, -, -, -, -, hcell⟩ := own_cells H.out (by omega)
      injection hv with hA _ hcc
      subst hA
      have hg := fun j (hj : j < 2) => flat_get (fun p : Int × Int => [Value.int .i64 p.1, .int .i64 p.2]) 2 (fun _ => rfl) L k j _ hm hj
      have s0 := (HU.out.2.2.cell (p := ⟨g, k * 2, none⟩) (World.block_lt_of_cell? w _ (hcell _ _ (hg 0 (by omega))).1)).trans (hcell _ _ (hg 0 (by omega))).1
      have s1 := (HU.out.2.2.cell (p := ⟨g, k * 2 + 1, none⟩) (World.block_lt_of_cell? w _ (hcell _ _ (hg 1 (by omega))).1)).trans (hcell _ _ (hg 1 (by omega))).1
      have HT := Lib.hid (And.intro (take_snoc hm) (List.mem_of_getElem? hm))
      clear hm hcell hg hcc hc
      by_cases he : m0 = f1 ∧ m1 = f2
      · have hb : (m0 == f1 && m1 == f2) = true := by simp [he.1, he.2]
        have HE := Lib.hid he
        clear he
        go_wp2
        go_quiet (fail)
        go_wp2
        go_ret
        refine ⟨?_, below_drewN (below_drewN HU.out.2.2 _) _⟩
        obtain ⟨rfl, rfl⟩ := HE.out
        rw [decide_eq_true HT.out.2]
        rfl
      · have hb : (m0 == f1 && m1 == f2) = false := by
          rw [Bool.eq_false_iff]
          intro hh
          simp only [Bool.and_eq_true, beq_iff_eq] at hh
          exact he hh
        have HE := Lib.hid he
        clear he
        go_wp2
        go_quiet (fail)
        go_wp2
        go_roundw
        case rel =>
          refine ⟨k + 1, _, by omega, by go_num, ?_, rfl⟩
          rw [HT.out.1, List.mem_append]
          rintro (h | h)
          · exact HN.out h
          · simp only [List.mem_singleton, Prod.mk.injEq] at h
            exact HE.out ⟨h.1.symm, h.2.symm⟩
        case measure => simp [intOf]; omega
    · go_wp2
      go_ret
      refine ⟨?_, below_drewN HU.out.2.2 _⟩
      have := HN.out
      rw [List.take_of_length_le (by omega)] at this
      rw [decide_eq_false this]
      rfl

set_option maxHeartbeats 1600000 in
set_option maxRecDepth 20000 in
theorem popped_any (w : World) (base : Nat) (mk pl : Int) (fv pv : Value) (L : List Int) (f : Int) (h : w.ownsRow base 3 1 pv L.length (popCells L)) (hL : L.length ≤ 1000000) :
    Calls Try.prog 58 #[.agg #[.int .i64 mk, .int .i64 pl, fv, pv], .int .i64 f] w (Same w (.bool (decide (f ∈ L)))) := by
  obtain ⟨A, c, rfl, hc, -⟩ := own_form h
  have H := Lib.hid h
  have k0 := Blk.new w 59 #[.int .i64 mk, .int .i64 pl, fv, .slice A L.length c]
  have u1 : Below w.heap.size w (w.alloc (.cells #[.int .i64 mk, .int .i64 pl, fv, .slice A L.length c] 59)) := (Below.refl _ _).alloc (Nat.le_refl _) _
  have hc' : (L.length : Int) ≤ (c : Int) := by omega
  clear h
  go_enter Try.func58, Try.ntmps58
  have HU := Lib.hid (And.intro k0 u1)
  clear k0 u1
  go_wp2
  generalize w.alloc (.cells #[.int .i64 mk, .int .i64 pl, fv, .slice A L.length c] 59) = w1 at HU ⊢
  have c2 : w1.cell? ⟨w.heap.size, 3, none⟩ = some (.slice A L.length c) := HU.out.1.cell 3
  go_loop [5] (fun i => ∃ k : Nat, k ≤ L.length ∧ i = .int .i64 k ∧ f ∉ L.take k) (fun i => L.length - (intOf i).toNat)
  case atStart => exact ⟨0, Nat.zero_le _, rfl, by simp⟩
  case round =>
    obtain ⟨k, hk, rfl, hno⟩ := hrel
    have HN := Lib.hid hno
    clear hno
    by_cases hlt : k < L.length
    · obtain ⟨m, hm⟩ : ∃ m, L[k]? = some m := ⟨L[k], List.getElem?_eq_getElem hlt⟩
      obtain ⟨g, cc, hv, -, -, -, -, hcell⟩ := own_cells H.out (by omega)
      injection hv with hA _ hcc
      subst hA
      have hpc : (popCells L)[k]? = some (.int .i64 m) := by simp [popCells, hm]
      have s0 := (HU.out.2.cell (p := ⟨g, k, none⟩) (World.block_lt_of_cell? w _ (hcell k _ hpc).1)).trans (hcell k _ hpc).1
      have HT := Lib.hid (And.intro (take_snoc hm) (List.mem_of_getElem? hm))
      clear hm hcell hpc hcc hc
      by_cases he : m = f
      · have hb : (m == f) = true := by simp [he]
        have HE := Lib.hid he
        clear he
        go_wp2
        go_ret
        refine ⟨?_, HU.out.2⟩
        obtain rfl := HE.out
        rw [decide_eq_true HT.out.2]
        rfl
      · have hb : (m == f) = false := by simp [he]
        have HE := Lib.hid he
        clear he
        go_wp2
        go_round
        case rel =>
          refine ⟨k + 1, by omega, by go_num, ?_⟩
          rw [HT.out.1, List.mem_append]
          rintro (h | h)
          · exact HN.out h
          · exact HE.out (List.mem_singleton.1 h).symm
        case measure => simp [intOf]; omega
    · go_wp2
      go_ret
      refine ⟨?_, HU.out.2⟩
      have := HN.out
      rw [List.take_of_length_le (by omega)] at this
      rw [decide_eq_false this]
      rfl

set_option maxHeartbeats 1600000 in
set_option maxRecDepth 20000 in
theorem sameInts_same (w : World) (base base' : Nat) (u v : Value) (L : List Int) (h : w.ownsRow base 3 1 u L.length (popCells L)) (h' : w.ownsRow base' 3 1 v L.length (popCells L)) (hL : L.length ≤ 1000000) :
    Calls Try.prog 57 #[u, v] w (Same w (.bool true)) := by
  obtain ⟨A, c, rfl, hc, -⟩ := own_form h
  obtain ⟨A', c', rfl, hc', -⟩ := own_form h'
  have H := Lib.hid (And.intro h h')
  have hc2 : (L.length : Int) ≤ (c : Int) := by omega
  have hc3 : (L.length : Int) ≤ (c' : Int) := by omega
  have hne : ((L.length : Int) != (L.length : Int)) = false := by simp
  clear h h' hc hc'
  go_enter Try.func57, Try.ntmps57
  go_wp2
  go_loopw [5] (fun i wr => ∃ k nq : Nat, k ≤ L.length ∧ i = .int .i64 k ∧ wr = w.drewN nq) (fun i _ => L.length - (intOf i).toNat)
  case atStart => exact ⟨0, 0, Nat.zero_le _, rfl, rfl⟩
  case round =>
    obtain ⟨k, nq, hk, rfl, rfl⟩ := hrel
    by_cases hlt : k < L.length
    · obtain ⟨m, hm⟩ : ∃ m, L[k]? = some m := ⟨L[k], List.getElem?_eq_getElem hlt⟩
      obtain ⟨g, cc, hv, -, -, -, -, hcell⟩ := own_cells H.out.1 (by omega)
      injection hv with hA _ hcc
      subst hA
      obtain ⟨g', cc', hv', -, -, -, -, hcell'⟩ := own_cells H.out.2 (by omega)
      injection hv' with hA' _ hcc'
      subst hA'
      have hpc : (popCells L)[k]? = some (.int .i64 m) := by simp [popCells, hm]
      have s0 := (hcell k _ hpc).1
      have s1 := (hcell' k _ hpc).1
      have hmm : (m != m) = false := by simp
      clear hm hcell hcell' hpc hcc hcc'
      go_wp2
      go_quiet (fail)
      go_wp2
      go_roundw
      case rel => exact ⟨k + 1, _, by omega, by go_num, rfl⟩
      case measure => simp [intOf]; omega
    · go_wp2
      go_ret
      exact ⟨rfl, below_drewN (Below.refl _ _) _⟩

set_option maxHeartbeats 1600000 in
set_option maxRecDepth 20000 in
theorem sameFrames_same (w : World) (base base' : Nat) (u v : Value) (L : List (Int × Int)) (h : w.ownsRow base 48 2 u L.length (frameCells L)) (h' : w.ownsRow base' 48 2 v L.length (frameCells L)) (hL : L.length ≤ 1000000) :
    Calls Try.prog 59 #[u, v] w (Same w (.bool true)) := by
  obtain ⟨A, c, rfl, hc, -⟩ := own_form h
  obtain ⟨A', c', rfl, hc', -⟩ := own_form h'
  have heq := neq_frame
  have H := Lib.hid (And.intro h h')
  have hc2 : (L.length : Int) ≤ (c : Int) := by omega
  have hc3 : (L.length : Int) ≤ (c' : Int) := by omega
  have hne : ((L.length : Int) != (L.length : Int)) = false := by simp
  clear h h' hc hc'
  go_enter Try.func59, Try.ntmps59
  go_wp2
  go_loopw [5] (fun i wr => ∃ k nq : Nat, k ≤ L.length ∧ i = .int .i64 k ∧ wr = w.drewN nq) (fun i _ => L.length - (intOf i).toNat)
  case atStart => exact ⟨0, 0, Nat.zero_le _, rfl, rfl⟩
  case round =>
    obtain ⟨k, nq, hk, rfl, rfl⟩ := hrel
    by_cases hlt : k < L.length
    · obtain ⟨⟨m0, m1⟩, hm⟩ : ∃ m, L[k]? = some m := ⟨L[k], List.getElem?_eq_getElem hlt⟩
      obtain ⟨g, cc, hv, -, -, -, -, hcell⟩ := own_cells H.out.1 (by omega)
      injection hv with hA _ hcc
      subst hA
      obtain ⟨g', cc', hv', -, -, -, -, hcell'⟩ := own_cells H.out.2 (by omega)
      injection hv' with hA' _ hcc'
      subst hA'
      have hg := fun j (hj : j < 2) => flat_get (fun p : Int × Int => [Value.int .i64 p.1, .int .i64 p.2]) 2 (fun _ => rfl) L k j _ hm hj
      have s0 : w.cell? ⟨g, k * 2, none⟩ = some (.int .i64 m0) := (hcell _ _ (hg 0 (by omega))).1
      have s1 : w.cell? ⟨g, k * 2 + 1, none⟩ = some (.int .i64 m1) := (hcell _ _ (hg 1 (by omega))).1
      have s2 : w.cell? ⟨g', k * 2, none⟩ = some (.int .i64 m0) := (hcell' _ _ (hg 0 (by omega))).1
      have s3 : w.cell? ⟨g', k * 2 + 1, none⟩ = some (.int .i64 m1) := (hcell' _ _ (hg 1 (by omega))).1
      have hmm : (m0 == m0 && m1 == m1) = true := by simp
      clear hm hcell hcell' hg hcc hcc'
      go_wp2
      go_quiet (fail)
      go_wp2
      go_roundw
      case rel => exact ⟨k + 1, _, by omega, by go_num, rfl⟩
      case measure => simp [intOf]; omega
    · go_wp2
      go_ret
      exact ⟨rfl, below_drewN (Below.refl _ _) _⟩
end Go.Proofs.Ytbppbgdmoihooaa
