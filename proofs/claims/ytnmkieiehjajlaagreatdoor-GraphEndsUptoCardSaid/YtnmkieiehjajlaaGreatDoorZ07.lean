/- A new variable of many cells that is stored into at once; a value that is put together. Nothing here names the program. -/
import Derived.Test.YtnmkieiehjajlaaGreatDoorZ01
import Derived.Test.YtnmkieiehjajlaaGreatDoorZ05
import Derived.Laws.NewFold
import Derived.Deep.MidRow
set_option linter.unusedVariables false
set_option linter.unusedSimpArgs false
namespace Go.Proofs.YtnmkieiehjajlaaGreatDoor
open Go.RowKit

theorem setCell_new (w : World) (cur : Array Value) (t : TypeId) (o : Nat) (v : Value) : (w.alloc (.cells cur t)).setCell ⟨w.heap.size, o, none⟩ v = w.alloc (.cells (cur.setIfInBounds o v) t) := by
  unfold World.setCell World.alloc
  simp only
  congr 1
  apply Array.ext_getElem?
  intro k
  rw [Array.getElem?_modify, Array.getElem?_push, Array.getElem?_push]
  by_cases h : k = w.heap.size
  · subst h; simp
  · rw [if_neg (fun e => h e.symm), if_neg h, if_neg h]
theorem setCells_new (w : World) (t : TypeId) : ∀ (vs : List Value) (o : Nat) (cur : Array Value), o + vs.length ≤ cur.size →
    ∃ cur' : Array Value, (w.alloc (.cells cur t)).setCells w.heap.size o vs = w.alloc (.cells cur' t) ∧ cur'.toList = cur.toList.take o ++ vs ++ cur.toList.drop (o + vs.length)
  | [], o, cur, _ => ⟨cur, rfl, by simp⟩
  | v :: r, o, cur, hl => by
    simp only [List.length_cons] at hl
    obtain ⟨c', e1, e3⟩ := setCells_new w t r (o + 1) (cur.setIfInBounds o v) (by simp; omega)
    refine ⟨c', ?_, ?_⟩
    · show ((w.alloc (.cells cur t)).setCell ⟨w.heap.size, o, none⟩ v).setCells w.heap.size (o + 1) r = _
      rw [setCell_new, e1]
    rw [e3, Array.toList_setIfInBounds, List.drop_set_of_lt (by omega), List.take_set]
    have h1 : (cur.toList.take (o + 1)).set o v = cur.toList.take o ++ [v] := by
      rw [List.take_add_one, List.getElem?_eq_getElem (by simp; omega)]
      rw [List.set_append_right _ _ (by simp; omega)]
      have : o - (cur.toList.take o).length = 0 := by simp; omega
      rw [this]
      rfl
    rw [h1]
    simp [Nat.add_assoc, Nat.add_comm 1]
theorem setCells_all (w : World) (t : TypeId) (vs : List Value) (cur : Array Value) (h : vs.length = cur.size) : (w.alloc (.cells cur t)).setCells w.heap.size 0 vs = w.alloc (.cells vs.toArray t) := by
  obtain ⟨c', e1, e2⟩ := setCells_new w t vs 0 cur (by omega)
  rw [e1]
  congr 2
  have : c'.toList = vs := by rw [e2]; simp; omega
  rw [← this]
section
variable {P : Program} {ops : Array Oper} {rest : List Oper} {a : Act} {w : World} {Q : Exit → Act → World → Prop}
/-- 'x := v', x a new variable of many cells. -/
theorem wpList_alloc_store {op1 op2 : Oper} (g1 : op1.guard = none) (g2 : op2.guard = none) (ty : TypeId) (x y : Operand) (o1 : op1.op = .alloc ty) (o2 : op2.op = .store ty x y) (cells : List Value)
    (hz : ∃ Z : Array Value, Z.size = cells.length ∧ ∀ w, (zeroValue ty).run P w = .ok (.agg Z) w)
    (hx : (a.put op1.dst (.pointer (some ⟨w.heap.size, 0, none⟩))).eval x = .pointer (some ⟨w.heap.size, 0, none⟩)) (hy : (a.put op1.dst (.pointer (some ⟨w.heap.size, 0, none⟩))).eval y = .agg cells.toArray)
    (hi : (P.info? ty).map (·.size) = some cells.length) (h1 : ∀ u ∈ cells, u.oneCell' = true)
    (h : wpList P ops Q rest ((a.put op1.dst (.pointer (some ⟨w.heap.size, 0, none⟩))).put op2.dst undef) (w.alloc (.cells cells.toArray ty))) : wpList P ops Q (op1 :: op2 :: rest) a w := by
  obtain ⟨Z, hs, hz⟩ := hz
  refine wpList_plain g1 fun K hK => ?_
  unfold Oper.wp execOp
  have hr : (Instr.alloc ty true (.tuple #[])).run P w = .ok (.pointer (some ⟨w.heap.size, 0, none⟩)) (w.alloc (.cells Z ty)) := by
    unfold Instr.alloc newVar newRow
    simp only [Sem.run_bind, hz, Result.andThen_ok, Value.cells, run_newObj_alloc, Sem.run_pure]
  simp only [o1, Sem.run_bind, hr, Result.andThen_ok, Sem.run_pure]
  refine hK _ _ ?_
  have hb := Blk.new w ty Z
  refine wpList_store_mid g2 ty x y o2 w.heap.size 0 cells.toArray hx hy (fun j hj => ⟨by rw [Nat.zero_add, hb.cell j, Array.getElem?_eq_getElem (by simpa [hs] using hj)]; rfl, hb.frozen _⟩) (by simpa using hi) (all_oneCell_toArray h1) ?_
  rw [List.toList_toArray, setCells_all w ty cells Z hs.symm]
  exact h
theorem wpList_build {op : Oper} (g : op.guard = none) (ty : TypeId) (parts : Array (Nat × Operand)) (ho : op.op = .build ty parts) (vals : Array (Nat × Value)) (v : Value) (hv : parts.map (fun (i, x) => (i, a.eval x)) = vals)
    (hb : (Instr.build ty vals).run P w = .ok v w) (h : wpList P ops Q rest (a.put op.dst v) w) : wpList P ops Q (op :: rest) a w := by
  refine wpList_plain g fun K hK => ?_
  unfold Oper.wp execOp
  simp only [ho, hv, Sem.run_bind, hb, Result.andThen_ok, Sem.run_pure]
  exact hK _ _ h
end
end Go.Proofs.YtnmkieiehjajlaaGreatDoor
