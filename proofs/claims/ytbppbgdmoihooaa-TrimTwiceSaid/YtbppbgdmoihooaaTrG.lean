/- Forests: the packs of a spot (bywayref22.PacksOf); may a forest be, by the document (bywayref22.CheckForest). -/
import Derived.Test.YtbppbgdmoihooaaTrF
namespace Go.Proofs.Ytbppbgdmoihooaa
open Go.RowKit

def ofSpot (s : Int) (P : List Pk) : List Pk := P.filter fun p => p.spot == s
theorem ofSpot_hit {s : Int} {P : List Pk} {k : Nat} {p : Pk} (h : P[k]? = some p) (hs : p.spot = s) : ofSpot s (P.take (k + 1)) = ofSpot s (P.take k) ++ [p] := by
  unfold ofSpot
  rw [tk_snoc h, List.filter_append]
  simp [hs]
theorem ofSpot_miss {s : Int} {P : List Pk} {k : Nat} {p : Pk} (h : P[k]? = some p) (hs : ¬ p.spot = s) : ofSpot s (P.take (k + 1)) = ofSpot s (P.take k) := by
  unfold ofSpot
  rw [tk_snoc h, List.filter_append]
  simp [hs]
theorem ofSpot_len (s : Int) (P : List Pk) : (ofSpot s P).length ≤ P.length := List.length_filter_le _ _
theorem packCells_app (l l' : List Pk) : packCells (l ++ l') = packCells l ++ packCells l' := by simp [packCells]

def PkPost (w : World) (L : List Pk) (e : Ending) (w' : World) : Prop := ∃ v, e = .returned v ∧ w'.ownsRow w.heap.size 125 5 v L.length (packCells L) ∧ Below w.heap.size w w'

set_option maxHeartbeats 2000000 in
set_option maxRecDepth 20000 in
theorem packsOf_any (w : World) (A : Option Addr) (c : Nat) (B : Option Addr) (d : Nat) (S : List Fct) (P : List Pk) (s : Int) (h : ForR w A c B d S P) :
    Calls Try.prog 67 #[forV A S.length c B P.length d, .int .i64 s] w (PkPost w (ofSpot s P)) := by
  have k0 := Blk.new w 75 #[.slice A S.length c, .slice B P.length d]
  have u0 : Below w.heap.size w (w.alloc (.cells #[.slice A S.length c, .slice B P.length d] 75)) := (Below.refl _ _).alloc (Nat.le_refl _) _
  have hdI : (P.length : Int) ≤ (d : Int) := by have := h.hd; omega
  have hP8 : P.length * 40 ≤ 140737488355328 := h.fit.p
  have H := Lib.hid (And.intro h (And.intro k0 u0))
  clear h k0 u0
  go_enter Try.func67, Try.ntmps67
  unfold forV
  go_wp2_with fail
  generalize w.alloc (.cells #[.slice A S.length c, .slice B P.length d] 75) = W0 at H ⊢
  go_loopw [5, 6] (fun ov iv wr => ∃ k : Nat, k ≤ P.length ∧ iv = .int .i64 k ∧ wr.ownsRow W0.heap.size 125 5 ov (ofSpot s (P.take k)).length (packCells (ofSpot s (P.take k))) ∧ Below W0.heap.size W0 wr) (fun _ iv _ => P.length - (intOf iv).toNat)
  case atStart => exact ⟨0, Nat.zero_le _, rfl, World.ownsRow_nil _ _ _ _, Below.refl _ _⟩
  case round =>
    obtain ⟨k, hk, rfl, row, bel⟩ := hrel
    obtain ⟨A', c', rfl, -, -⟩ := own_form row
    have kb := H.out.2.1.upd (Upd.of_below bel (fun _ => False)) id
    have q1 : wr.cell? ⟨w.heap.size, 1, none⟩ = some (.slice B P.length d) := kb.cell 1
    have HB := Lib.hid (And.intro row bel)
    clear row bel kb
    by_cases hlt : k < P.length
    · obtain ⟨⟨p0, p1, p2, p3, p4⟩, hp⟩ : ∃ p, P[k]? = some p := ⟨P[k], List.getElem?_eq_getElem hlt⟩
      obtain ⟨gb, go, rfl, a0, a1, a2, a3, a4⟩ := ((H.out.1.rp.below H.out.2.2).below HB.out.2).pack hp
      by_cases hs : p0 = s
      · subst hs
        have hls := ofSpot_len p0 (P.take k)
        rw [List.length_take] at hls
        obtain ⟨i0, hi0, hz0, hz1, hz2⟩ := info_parts info_pack
        obtain ⟨v8, w8, happ, own8, gr8, -, pl8⟩ := run_append_own_at (P := Try.prog) (wr.alloc (.cells #[.int .i64 p0, .int .i64 p1, .int .i64 p2, .int .i64 p3, .int .i64 p4] 125)) W0.heap.size 73 73 125 i0 _ 5 40 Try.underlying73 hi0 hz0 hz1 hz2 rfl (by decide) _ _ _ (HB.out.1.alloc _) ⟨wr.heap.size, 0, none⟩ 1 1
          (packCells [⟨p0, p1, p2, p3, p4⟩]) rfl (by
            intro j u hu
            match j, hu with
            | 0, hu => simp [Addr.add, packCells, Pk.cells] at hu ⊢; exact hu
            | 1, hu => simp [Addr.add, packCells, Pk.cells] at hu ⊢; exact hu
            | 2, hu => simp [Addr.add, packCells, Pk.cells] at hu ⊢; exact hu
            | 3, hu => simp [Addr.add, packCells, Pk.cells] at hu ⊢; exact hu
            | 4, hu => simp [Addr.add, packCells, Pk.cells] at hu ⊢; exact hu
            | j + 5, hu => simp [packCells, Pk.cells] at hu) (one_pack _) (by unfold maxLen; omega) (by omega) (by have := HB.out.2.size; simp; omega)
        have fin : w8.ownsRow W0.heap.size 125 5 v8 (ofSpot p0 (P.take (k + 1))).length (packCells (ofSpot p0 (P.take (k + 1)))) ∧ Below W0.heap.size W0 w8 := by
          rw [ofSpot_hit hp rfl, packCells_app, List.length_append]
          exact ⟨own8, (HB.out.2.alloc HB.out.2.size _).grown gr8 (by have := HB.out.2.size; simp; omega) (fun q hq => (HB.out.1.lt q hq).1)⟩
        have FIN := Lib.hid fin
        clear fin own8 gr8 pl8 hi0 hz0 hz1 hz2 hp hls
        go_wp2_with (at_builtin; refine wpList_append_run rfl _ _ _ rfl rfl rfl happ ?_)
        go_roundw
        case rel => exact ⟨k + 1, by omega, by go_num, FIN.out.1, FIN.out.2⟩
        case measure => simp [intOf]; omega
      · have e1 : (p0 == s) = false := by simpa using hs
        have HP := Lib.hid (And.intro hp hs)
        clear hp hs
        go_wp2
        go_roundw
        case rel => exact ⟨k + 1, by omega, by go_num, by rw [ofSpot_miss HP.out.1 HP.out.2]; exact HB.out.1, HB.out.2⟩
        case measure => simp [intOf]; omega
    · obtain rfl : k = P.length := by omega
      clear hlt
      have fin : PkPost w (ofSpot s P) (.returned (.slice A' (ofSpot s (P.take P.length)).length c')) wr := by
        have := HB.out.1
        rw [List.take_length] at this ⊢
        exact ⟨_, rfl, ownsRow_base this (fun q hq => by have := (this.lt q hq).1; have := H.out.2.2.size; omega), H.out.2.2.trans (HB.out.2.mono H.out.2.2.size)⟩
      have FIN := Lib.hid fin
      clear fin
      go_wp2
      go_ret
      exact FIN.out
end Go.Proofs.Ytbppbgdmoihooaa
