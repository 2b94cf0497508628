/- The shared stack (gss): what its memory holds, and what each of its functions does. -/
import Derived.Test.YtbppbgdmoihooaaRows
import Derived.Test.YtbppbgdmoihooaaBase
import Derived.WalkLawsBesides
import Derived.Deep.QuietTactic
import Derived.BigQuiet
import Derived.StillTailTactics
import Derived.Carry
import Derived.Lib.Hide
import Derived.DeepKeys4
namespace Go.Proofs.Ytbppbgdmoihooaa
open Go.RowKit

/-- An int that fits. -/
def Wf (a : Int) : Prop := (Lit.int .i64 a).wf = true

structure GNode where
  mark : Int
  place : Int
  frames : List (Int × Int)
  pops : List Int

def frameCells (l : List (Int × Int)) : List Value := l.flatMap fun p => [.int .i64 p.1, .int .i64 p.2]
def popCells (l : List Int) : List Value := l.map fun p => .int .i64 p
def nodeCells (N : List GNode) (fv pv : Nat → Value) : List Value := N.zipIdx.flatMap fun p => [.int .i64 p.1.mark, .int .i64 p.1.place, fv p.2, pv p.2]

inductive Tag where
  | stack | m1 | m2 | m3 | nodes | fr (i : Nat) | po (i : Nat)

structure StkD where
  r1 : Nat
  r2 : Nat
  r3 : Nat
  nv : Value
  fv : Nat → Value
  pv : Nat → Value
  k1 : List (Value × Value)
  k2 : List (Value × Value)
  k3 : List (Value × Value)

def key2 (a b : Int) : Value := .agg #[.int .i64 a, .int .i64 b]
def key3 (a b c : Int) : Value := .agg #[.int .i64 a, .int .i64 b, .int .i64 c]

structure StkI (w : World) (O : Nat → Option Tag) (b : Nat) (N : List GNode) (D : StkD) : Prop where
  blk : Blk w b 108 #[.map (some D.r1), .map (some D.r2), .map (some D.r3), D.nv]
  map1 : MapIs w Try.prog 27 D.r1 D.k1
  map2 : MapIs w Try.prog 119 D.r2 D.k2
  map3 : MapIs w Try.prog 27 D.r3 D.k3
  e1 : D.k1 = N.zipIdx.map fun p => (key2 p.1.mark p.1.place, .int .i64 p.2)
  e2 : ∀ p, p ∈ D.k2 ↔ ∃ (n : Nat) (f : Int × Int) (x : GNode), N[n]? = some x ∧ f ∈ x.frames ∧ p = (key3 n f.1 f.2, .int .i64 1)
  e3 : ∀ p, p ∈ D.k3 ↔ ∃ (n : Nat) (a : Int) (x : GNode), N[n]? = some x ∧ a ∈ x.pops ∧ p = (key2 n a, .int .i64 1)
  row : w.ownsRow 0 110 4 D.nv N.length (nodeCells N D.fv D.pv)
  rowF : ∀ i x, N[i]? = some x → w.ownsRow 0 48 2 (D.fv i) x.frames.length (frameCells x.frames)
  rowP : ∀ i x, N[i]? = some x → w.ownsRow 0 3 1 (D.pv i) x.pops.length (popCells x.pops)
  o0 : O b = some .stack
  o1 : O D.r1 = some .m1
  o2 : O D.r2 = some .m2
  o3 : O D.r3 = some .m3
  oN : ∀ k, D.nv.ownBlock = some k → O k = some .nodes
  oF : ∀ i, i < N.length → ∀ k, (D.fv i).ownBlock = some k → O k = some (.fr i)
  oP : ∀ i, i < N.length → ∀ k, (D.pv i).ownBlock = some k → O k = some (.po i)
  lt : ∀ k, O k ≠ none → k < w.heap.size
  wf : ∀ x ∈ N, Wf x.mark ∧ Wf x.place ∧ (∀ f ∈ x.frames, Wf f.1 ∧ Wf f.2) ∧ (∀ a ∈ x.pops, Wf a) ∧ x.frames.length ≤ 1000000 ∧ x.pops.length ≤ 1000000
  out : ∀ i, N.length ≤ i → D.fv i = .slice none 0 0 ∧ D.pv i = .slice none 0 0
  few : N.length ≤ 1000000

/-- Block b is a stack of these nodes; F: the blocks that are its own. -/
def StkAt (w : World) (F : Nat → Prop) (b : Nat) (N : List GNode) : Prop := ∃ O D, StkI w O b N D ∧ F = fun k => O k ≠ none

theorem StkAt.upd {w w' : World} {F G : Nat → Prop} {b : Nat} {N : List GNode} (h : StkAt w F b N) (hu : Upd G w w') (hd : ∀ k, F k → ¬ G k) : StkAt w' F b N := by
  obtain ⟨O, D, hs, rfl⟩ := h
  have no : ∀ k t, O k = some t → ¬ G k := fun k t e => hd k (by simp [e])
  refine ⟨O, D, ⟨hs.blk.upd hu (no _ _ hs.o0), hs.map1.upd hu (no _ _ hs.o1), hs.map2.upd hu (no _ _ hs.o2), hs.map3.upd hu (no _ _ hs.o3), hs.e1, hs.e2, hs.e3, ownsRow_upd hs.row hu fun k hk => no _ _ (hs.oN k hk), ?_, ?_,
    hs.o0, hs.o1, hs.o2, hs.o3, hs.oN, hs.oF, hs.oP, fun k hk => Nat.lt_of_lt_of_le (hs.lt k hk) hu.size, hs.wf, hs.out, hs.few⟩, rfl⟩
  · intro i x hx
    exact ownsRow_upd (hs.rowF i x hx) hu fun k hk => no _ _ (hs.oF i (List.getElem?_eq_some_iff.1 hx).1 k hk)
  · intro i x hx
    exact ownsRow_upd (hs.rowP i x hx) hu fun k hk => no _ _ (hs.oP i (List.getElem?_eq_some_iff.1 hx).1 k hk)
theorem StkAt.lt {w : World} {F : Nat → Prop} {b : Nat} {N : List GNode} (h : StkAt w F b N) : ∀ k, F k → k < w.heap.size := by
  obtain ⟨O, D, hs, rfl⟩ := h
  exact hs.lt

/-- Behind a call on the stack: it holds N', and nothing but its own blocks has turned. -/
def StkNext (w : World) (F : Nat → Prop) (b : Nat) (N' : List GNode) (w' : World) : Prop := ∃ F', StkAt w' F' b N' ∧ Upd F w w' ∧ ∀ k, F' k → F k ∨ w.heap.size ≤ k
theorem StkNext.of_below {w w' : World} {F : Nat → Prop} {b : Nat} {N : List GNode} (h : StkAt w F b N) (hb : Below w.heap.size w w') : StkNext w F b N w' :=
  ⟨F, h.upd (G := fun _ => False) (Upd.of_below hb _) (fun _ _ => id), Upd.of_below hb _, fun _ h => .inl h⟩

theorem law2 : Maps.Keyed Try.prog 27 := Maps.Keyed.of_law (deep_law_laid (by kernel_rfl) (m := 2) (by omega) (by decide +kernel) (by kernel_rfl) (by kernel_rfl))
theorem law3 : Maps.Keyed Try.prog 119 := Maps.Keyed.of_law (deep_law_laid (by kernel_rfl) (m := 3) (by omega) (by decide +kernel) (by kernel_rfl) (by kernel_rfl))

def NewPost (w : World) (e : Ending) (w' : World) : Prop := ∃ b F, e = .returned (.pointer (some ⟨b, 0, none⟩)) ∧ StkAt w' F b [] ∧ Below w.heap.size w w' ∧ ∀ k, F k → w.heap.size ≤ k

set_option maxHeartbeats 400000 in
theorem new_any (w : World) : Calls Try.prog 11 #[] w (NewPost w) := by
  have hmm := @run_makeMap Try.prog
  go_enter Try.func11, Try.ntmps11
  go_wp2
  go_ret
  refine ⟨_, _, rfl, ⟨fun k => if k = w.heap.size + 1 + 1 + 1 then some .stack else if k = w.heap.size then some .m1 else if k = w.heap.size + 1 then some .m2 else if k = w.heap.size + 1 + 1 then some .m3 else none,
    ⟨w.heap.size, w.heap.size + 1, w.heap.size + 1 + 1, .slice none 0 0, fun _ => .slice none 0 0, fun _ => .slice none 0 0, [], [], []⟩, ?_, rfl⟩, ?_, ?_⟩
  · have h1 := MapIs.made w Try.prog 27
    have h2 := MapIs.made (w.alloc (.map #[] 0)) Try.prog 119
    have h3 := MapIs.made ((w.alloc (.map #[] 0)).alloc (.map #[] 0)) Try.prog 27
    simp only [World.size_alloc] at h2 h3
    constructor
    · simpa using Blk.new (((w.alloc (.map #[] 0)).alloc (.map #[] 0)).alloc (.map #[] 0)) 108 #[.map (some w.heap.size), .map (some (w.heap.size + 1)), .map (some (w.heap.size + 1 + 1)), .slice none 0 0]
    · exact ((h1.alloc _).alloc _).alloc _
    · exact (h2.alloc _).alloc _
    · exact h3.alloc _
    all_goals first | exact World.ownsRow_nil _ _ _ _ | (simp [Value.ownBlock]; done) | (simp; grind)
  · exact ((((Below.refl _ _).alloc (Nat.le_refl _) _).alloc (by simp) _).alloc (by simp; omega) _).alloc (by simp; omega) _
  · grind

/-- Where a node with this mark and place stands. -/
def AtNode (N : List GNode) (m p : Int) (i : Nat) : Prop := ∃ x, N[i]? = some x ∧ x.mark = m ∧ x.place = p

theorem key2_inj {a b c d : Int} : key2 a b = key2 c d ↔ a = c ∧ b = d := by simp [key2]
theorem key3_inj {a b c d e f : Int} : key3 a b c = key3 d e f ↔ a = d ∧ b = e ∧ c = f := by simp [key3]
theorem typesSize : ∃ m, Try.prog.types.size = m + 3 := ⟨Try.prog.types.size - 3, by kernel_rfl⟩
theorem cells_int : Try.prog.cellsOf 3 = 1 := by kernel_rfl
theorem cells_key2 : Try.prog.cellsOf 27 = 2 := by kernel_rfl
theorem cells_key3 : Try.prog.cellsOf 119 = 3 := by kernel_rfl
theorem cells_frame : Try.prog.cellsOf 48 = 2 := by kernel_rfl
theorem ktype2 : Try.prog.keyType 27 = true := by kernel_rfl
theorem ktype3 : Try.prog.keyType 119 = true := by kernel_rfl
theorem keyOf2 {a b : Int} (ha : Wf a) (hb : Wf b) : ∃ l, keyOf Try.prog 27 (key2 a b) = some l := by
  unfold Wf at ha hb
  unfold keyOf key2
  obtain ⟨m, hm⟩ := typesSize
  rw [hm]
  clear hm
  simp [Try.underlying27, ktype2, Value.formed, Value.cells, cells_key2, cells_int, Program.keyLits, Try.underlying3, ha, hb, List.range_succ]
theorem keyOf3 {a b c : Int} (ha : Wf a) (hb : Wf b) (hc : Wf c) : ∃ l, keyOf Try.prog 119 (key3 a b c) = some l := by
  unfold Wf at ha hb hc
  unfold keyOf key3
  obtain ⟨m, hm⟩ := typesSize
  rw [hm]
  clear hm
  simp [Try.underlying119, Try.underlying48, ktype3, Value.formed, Value.cells, cells_key3, cells_frame, cells_int, Program.keyLits, Try.underlying3, ha, hb, hc]
  rw [if_pos (by decide)]
  simp

set_option maxHeartbeats 400000 in
theorem is_any (w : World) (b : Nat) (m : Nat) (h : w.cell? ⟨b, 0, none⟩ = some (.map (some m))) :
    Calls Try.prog 51 #[.pointer (some ⟨b, 0, none⟩)] w fun e w' => e = .returned (.bool true) ∧ w = w' := by
  have hmm := fun (r : Option Nat) (w : World) => run_neq_map_nil (P := Try.prog) w 104 27 3 r Try.underlying104
  go_enter Try.func51, Try.ntmps51
  go_wp2
  go_ret
  exact ⟨rfl, rfl⟩

set_option maxHeartbeats 400000 in
theorem node_old (w : World) (F : Nat → Prop) (b : Nat) (N : List GNode) (m p : Int) (i : Nat) (hm : Wf m) (hp : Wf p) (h : StkAt w F b N) (hi : AtNode N m p i) :
    Calls Try.prog 12 #[.pointer (some ⟨b, 0, none⟩), .int .i64 m, .int .i64 p] w fun e w' => e = .returned (.tuple #[.int .i64 i, .bool false]) ∧ Below w.heap.size w w' := by
  obtain ⟨O, D, hs, rfl⟩ := h
  have c0 : w.cell? ⟨b, 0, none⟩ = some (.map (some D.r1)) := hs.blk.cell 0
  have hb := hs.blk.lt
  go_enter Try.func12, Try.ntmps12
  go_wp2_with (go_at_call 51; refine (is_any _ _ _ c0).mono ?_; rintro e w' ⟨rfl, rfl⟩)
  have u1 := (Upd.refl (fun _ => False) w).alloc (.cells #[.int .i64 m, .int .i64 p] 27)
  have k0 := Blk.new w 27 #[.int .i64 m, .int .i64 p]
  have hB : Below w.heap.size w (w.alloc (.cells #[.int .i64 m, .int .i64 p] 27)) := (Below.refl _ _).alloc (Nat.le_refl _) _
  generalize w.alloc (.cells #[.int .i64 m, .int .i64 p] 27) = w1 at *
  have c1 : w1.cell? ⟨b, 0, none⟩ = some (.map (some D.r1)) := (hs.blk.upd u1 id).cell 0
  have c2 : w1.cell? ⟨w.heap.size, 0, none⟩ = some (.int .i64 m) := k0.cell 0
  have c3 : w1.cell? ⟨w.heap.size, 1, none⟩ = some (.int .i64 p) := k0.cell 1
  have hl : ∀ n, Sem.run Try.prog (Instr.lookup 104 (.map (some D.r1)) (.agg #[.int .i64 m, .int .i64 p]) true) (w1.drewN n) = .ok (.tuple #[.int .i64 i, .bool true]) (w1.drewN n) := fun n =>
    ((hs.map1.upd u1 id).drewN n).look_hit law2 Try.underlying104 (key := key2 m p) (v := .int .i64 i) (by
      obtain ⟨x, hx, rfl, rfl⟩ := hi
      rw [hs.e1]
      exact List.mem_map.2 ⟨(x, i), by rw [List.mem_zipIdx_iff_getElem?]; exact hx, rfl⟩) true
  have HB := Lib.hid hB
  clear hB u1 k0 hs hm hp hi c0
  go_quiet (fail)
  go_wp2
  go_ret2
  exact ⟨rfl, below_drewN HB.out _⟩
end Go.Proofs.Ytbppbgdmoihooaa
