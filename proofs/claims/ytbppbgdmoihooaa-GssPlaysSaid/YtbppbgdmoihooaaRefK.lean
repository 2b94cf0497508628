/- GssPlays: all: what is awaited. -/
import Derived.Test.YtbppbgdmoihooaaRefJ
namespace Go.Proofs.Ytbppbgdmoihooaa
open Go.RowKit

structure Gt (w2 : World) (Ln : List Nat) (Lw : List (Int × Int)) (vn vw : Value) (wr : World) : Prop where
  kn : Blk wr w2.heap.size 44 #[vn]
  kw : Blk wr (w2.heap.size + 1) 41 #[vw]
  rn : wr.ownsRow (w2.heap.size + 2) 3 1 vn Ln.length (Ln.map fun n : Nat => Value.int .i64 (n : Int))
  rf : wr.ownsRow (w2.heap.size + 2) 48 2 vw Lw.length (frameCells Lw)
  d : ∀ q, vn.ownBlock = some q → vw.ownBlock ≠ some q
  bel : Below w2.heap.size w2 wr

theorem Gt.node {w2 : World} {Ln : List Nat} {Lw : List (Int × Int)} {vn vw v8 : Value} {wr w8 : World} (h : Gt w2 Ln Lw vn vw wr) {o : Obj} {k : Nat} (gr : (wr.alloc o).grownBy w8 vn.ownBlock)
    (own : w8.ownsRow (w2.heap.size + 2) 3 1 v8 (Ln.length + 1) ((Ln.map fun n : Nat => Value.int .i64 (n : Int)) ++ [.int .i64 (k : Int)])) (pl : v8.ownBlock = vn.ownBlock ∨ v8.ownBlock = some (wr.alloc o).heap.size) :
    Blk w8 w2.heap.size 44 #[vn] ∧ Gt w2 (Ln ++ [k]) Lw v8 vw (w8.setCell ⟨w2.heap.size, 0, none⟩ v8) := by
  have hkn := h.kn.lt
  have hkw := h.kw.lt
  have n0 : some w2.heap.size ≠ vn.ownBlock := fun e => by have := (h.rn.lt _ e.symm).1; omega
  have n1 : some (w2.heap.size + 1) ≠ vn.ownBlock := fun e => by have := (h.rn.lt _ e.symm).1; omega
  have k8 := (h.kn.alloc o).grown gr n0
  have U : Upd (fun q => vn.ownBlock = some q) wr w8 := ((Upd.refl _ wr).alloc o).grown gr (fun q hq => .inl hq)
  have ge : ∀ q, v8.ownBlock = some q → w2.heap.size + 2 ≤ q := fun q hq => (own.lt q hq).1
  have V : Upd (fun q => q = w2.heap.size) w8 (w8.setCell ⟨w2.heap.size, 0, none⟩ v8) := (Upd.refl (fun q => q = w2.heap.size) w8).setCell (.inl rfl) _
  refine ⟨k8, ⟨k8.set 0 _, ((h.kw.upd U (fun e => n1 e.symm)).upd V (by omega)), ?_, ownsRow_upd (ownsRow_upd h.rf U (fun q hq hv => h.d q hv hq)) V (fun q hq => by have := (h.rf.lt q hq).1; omega), ?_, ?_⟩⟩
  · rw [List.length_append, List.map_append]
    exact ownsRow_upd own V (fun q hq => by have := ge q hq; omega)
  · intro q hq hv
    rcases pl with h5 | h5
    · rw [h5] at hq
      exact h.d q hq hv
    · rw [h5] at hq
      injection hq with hq
      have := (h.rf.lt q hv).2
      simp at hq
      omega
  · have b8 := h.bel.trans (U.below (fun q _ hq => by have := (h.rn.lt q hq).1; omega) h.bel.size)
    exact b8.trans (V.below (fun q _ hq => by omega) b8.size)
theorem Gt.want {w2 : World} {Ln : List Nat} {Lw : List (Int × Int)} {vn vw v8 : Value} {wr w8 : World} (h : Gt w2 Ln Lw vn vw wr) {o : Obj} {f : Int × Int} (gr : (wr.alloc o).grownBy w8 vw.ownBlock)
    (own : w8.ownsRow (w2.heap.size + 2) 48 2 v8 (Lw.length + 1) (frameCells Lw ++ [.int .i64 f.1, .int .i64 f.2])) (pl : v8.ownBlock = vw.ownBlock ∨ v8.ownBlock = some (wr.alloc o).heap.size) :
    Blk w8 (w2.heap.size + 1) 41 #[vw] ∧ Gt w2 Ln (Lw ++ [f]) vn v8 (w8.setCell ⟨w2.heap.size + 1, 0, none⟩ v8) := by
  have hkn := h.kn.lt
  have hkw := h.kw.lt
  have n0 : some w2.heap.size ≠ vw.ownBlock := fun e => by have := (h.rf.lt _ e.symm).1; omega
  have n1 : some (w2.heap.size + 1) ≠ vw.ownBlock := fun e => by have := (h.rf.lt _ e.symm).1; omega
  have k8 := (h.kw.alloc o).grown gr n1
  have U : Upd (fun q => vw.ownBlock = some q) wr w8 := ((Upd.refl _ wr).alloc o).grown gr (fun q hq => .inl hq)
  have ge : ∀ q, v8.ownBlock = some q → w2.heap.size + 2 ≤ q := fun q hq => (own.lt q hq).1
  have V : Upd (fun q => q = w2.heap.size + 1) w8 (w8.setCell ⟨w2.heap.size + 1, 0, none⟩ v8) := (Upd.refl (fun q => q = w2.heap.size + 1) w8).setCell (.inl rfl) _
  refine ⟨k8, ⟨((h.kn.upd U (fun e => n0 e.symm)).upd V (by omega)), k8.set 0 _, ownsRow_upd (ownsRow_upd h.rn U (fun q hq hv => h.d q hq hv)) V (fun q hq => by have := (h.rn.lt q hq).1; omega), ?_, ?_, ?_⟩⟩
  · have e : frameCells (Lw ++ [f]) = frameCells Lw ++ [.int .i64 f.1, .int .i64 f.2] := by simp [frameCells]
    rw [List.length_append, e]
    exact ownsRow_upd own V (fun q hq => by have := ge q hq; omega)
  · intro q hq hv
    rcases pl with h5 | h5
    · rw [h5] at hv
      exact h.d q hq hv
    · rw [h5] at hv
      injection hv with hv
      have := (h.rn.lt q hq).2
      simp at hv
      omega
  · have b8 := h.bel.trans (U.below (fun q _ hq => by have := (h.rf.lt q hq).1; omega) h.bel.size)
    exact b8.trans (V.below (fun q _ hq => by omega) b8.size)

theorem Gt.drew {w2 : World} {Ln : List Nat} {Lw : List (Int × Int)} {vn vw : Value} {wr : World} (h : Gt w2 Ln Lw vn vw wr) : Gt w2 Ln Lw vn vw wr.drew := ⟨h.kn.drew, h.kw.drew, h.rn.drew, h.rf.drew, h.d, h.bel.drew⟩
/-- Both lists, of what All goes over. -/
def Gat (w2 : World) (L : List (Nat × Int × Int)) (wr : World) : Prop := ∃ vn vw, Gt w2 (L.map fun m => m.1) (L.map fun m => m.2) vn vw wr
theorem Gat.bel {w2 wr : World} {L : List (Nat × Int × Int)} (h : Gat w2 L wr) : Below w2.heap.size w2 wr := by obtain ⟨_, _, h⟩ := h; exact h.bel
theorem Gat.start (w2 : World) : Gat w2 [] ((w2.alloc (.cells #[.slice none 0 0] 44)).alloc (.cells #[.slice none 0 0] 41)) := by
  have k0 := (Blk.new w2 44 #[.slice none 0 0]).alloc (.cells #[.slice none 0 0] 41)
  have k1 := Blk.new (w2.alloc (.cells #[.slice none 0 0] 44)) 41 #[.slice none 0 0]
  simp only [World.size_alloc] at k1
  exact ⟨.slice none 0 0, .slice none 0 0, k0, k1, World.ownsRow_nil _ _ _ _, World.ownsRow_nil _ _ _ _, by simp [Value.ownBlock], ((Below.refl _ _).alloc (Nat.le_refl _) _).alloc (by simp) _⟩
theorem Gt.alloc {w2 : World} {Ln : List Nat} {Lw : List (Int × Int)} {vn vw : Value} {wr : World} (h : Gt w2 Ln Lw vn vw wr) (o : Obj) : Gt w2 Ln Lw vn vw (wr.alloc o) :=
  ⟨h.kn.alloc o, h.kw.alloc o, h.rn.alloc o, h.rf.alloc o, h.d, h.bel.alloc h.bel.size o⟩
theorem Gt.upd {w2 : World} {Ln : List Nat} {Lw : List (Int × Int)} {vn vw : Value} {wr W : World} {F : Nat → Prop} (h : Gt w2 Ln Lw vn vw wr) (U : Upd F wr W) (hF : ∀ q, F q → wr.heap.size ≤ q ∨ (w2.heap.size + 2 ≤ q ∧ vn.ownBlock ≠ some q ∧ vw.ownBlock ≠ some q)) : Gt w2 Ln Lw vn vw W := by
  have h1 := h.kn.lt
  have h2 := h.kw.lt
  refine ⟨h.kn.upd U (fun hq => by rcases hF _ hq with h3 | h3 <;> omega), h.kw.upd U (fun hq => by rcases hF _ hq with h3 | h3 <;> omega), ownsRow_upd h.rn U (fun q hq hf => ?_), ownsRow_upd h.rf U (fun q hq hf => ?_), h.d, ?_⟩
  · rcases hF q hf with h3 | h3
    · have := (h.rn.lt q hq).2; omega
    · exact h3.2.1 hq
  · rcases hF q hf with h3 | h3
    · have := (h.rf.lt q hq).2; omega
    · exact h3.2.2 hq
  · exact h.bel.trans (U.below (fun q hq hf => by rcases hF q hf with h3 | h3 <;> omega) h.bel.size)
/-- What stands in the lists' cells. -/
theorem Gt.at {w2 : World} {L : List (Nat × Int × Int)} {vn vw : Value} {W : World} (h : Gt w2 (L.map fun m => m.1) (L.map fun m => m.2) vn vw W) {k m : Nat} {f1 f2 : Int} (hk : L[k]? = some (m, f1, f2)) :
    ∃ gn cn gw cw, L.length ≤ cn ∧ L.length ≤ cw ∧ W.cell? ⟨w2.heap.size, 0, none⟩ = some (.slice (some ⟨gn, 0, none⟩) L.length cn) ∧ W.cell? ⟨w2.heap.size + 1, 0, none⟩ = some (.slice (some ⟨gw, 0, none⟩) L.length cw) ∧
      W.cell? ⟨gn, k, none⟩ = some (.int .i64 (m : Int)) ∧ W.cell? ⟨gw, k * 2, none⟩ = some (.int .i64 f1) ∧ W.cell? ⟨gw, k * 2 + 1, none⟩ = some (.int .i64 f2) := by
  have hlt := (List.getElem?_eq_some_iff.1 hk).1
  obtain ⟨gn, cn, rfl, -, hcn, -, -, hn⟩ := own_cells h.rn (by rw [List.length_map]; omega)
  obtain ⟨gw, cw, rfl, -, hcw, -, -, hw⟩ := own_cells h.rf (by rw [List.length_map]; omega)
  have e1 : (L.map fun m => m.2)[k]? = some (f1, f2) := by rw [List.getElem?_map, hk]; rfl
  have hg := fun j (hj : j < 2) => flat_get (fun p : Int × Int => [Value.int .i64 p.1, .int .i64 p.2]) 2 (fun _ => rfl) _ k j _ e1 hj
  rw [List.length_map] at hcn hcw
  refine ⟨gn, cn, gw, cw, hcn, hcw, ?_, ?_, (hn k _ (by rw [List.getElem?_map, List.getElem?_map, hk]; rfl)).1, (hw _ _ (hg 0 (by omega))).1, (hw _ _ (hg 1 (by omega))).1⟩
  · have := h.kn.cell 0
    rw [List.length_map] at this
    exact this
  · have := h.kw.cell 0
    rw [List.length_map] at this
    exact this
theorem Gt.wlen {w2 : World} {L : List (Nat × Int × Int)} {vn vw : Value} {W : World} (h : Gt w2 (L.map fun m => m.1) (L.map fun m => m.2) vn vw W) : ∃ A c, W.cell? ⟨w2.heap.size + 1, 0, none⟩ = some (.slice A L.length c) := by
  obtain ⟨A, c, rfl, -, -⟩ := own_form h.rf
  refine ⟨A, c, ?_⟩
  have := h.kw.cell 0
  rw [List.length_map] at this
  exact this
/-- Told is what does not stand in the list. -/
def BadAt (L ys : List (Nat × Int × Int)) : Prop := ∃ x y, ys[ys.length - 1]? = some x ∧ L[ys.length - 1]? = some y ∧ x ≠ y
theorem BadAt.no {L ys : List (Nat × Int × Int)} {k : Nat} (h : BadAt L ys) (hy : ys = L.take k) : False := by
  obtain ⟨x, y, h1, h2, hne⟩ := h
  subst hy
  rw [List.getElem?_take] at h1
  split at h1
  · rw [h1] at h2
    injection h2 with h2
    exact hne h2
  · cases h1
theorem BadAt.mk {L pre : List (Nat × Int × Int)} {x y : Nat × Int × Int} (h : L[pre.length]? = some y) (hne : x ≠ y) : BadAt L (pre ++ [x]) :=
  ⟨x, y, by simp, by simpa using h, hne⟩
end Go.Proofs.Ytbppbgdmoihooaa
