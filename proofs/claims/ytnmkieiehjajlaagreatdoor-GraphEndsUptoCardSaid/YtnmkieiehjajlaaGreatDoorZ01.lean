/- Base words over memory for the proofs of this seat: which blocks may have turned (Upd), a block known whole (Blk), a map known by its entries (MapIs). Nothing here names the program. -/
import Derived.WalkKit
import Derived.WalkSpells
import Derived.Maps.OwnOps
import Derived.Maps.AppendAt
import Derived.Deep.Draws
set_option linter.unusedVariables false
set_option linter.unusedSimpArgs false
namespace Go.Proofs.YtnmkieiehjajlaaGreatDoor
open Go.RowKit

/-- Outside the blocks of F the world w' is as w was, but for new blocks. -/
structure Upd (F : Nat → Prop) (w w' : World) : Prop where
  os : w'.os = w.os
  tape : w'.tape = w.tape
  output : w'.output = w.output
  size : w.heap.size ≤ w'.heap.size
  block : ∀ k, k < w.heap.size → ¬ F k → w'.heap[k]? = w.heap[k]?

theorem Upd.refl (F : Nat → Prop) (w : World) : Upd F w w := ⟨rfl, rfl, rfl, Nat.le_refl _, fun _ _ _ => rfl⟩
theorem Upd.trans {F F' : Nat → Prop} {a b c : World} (h : Upd F a b) (k : Upd F' b c) (hF : ∀ i, F' i → F i ∨ a.heap.size ≤ i) : Upd F a c :=
  ⟨k.os.trans h.os, k.tape.trans h.tape, k.output.trans h.output, Nat.le_trans h.size k.size, fun i hi hn =>
    (k.block i (Nat.lt_of_lt_of_le hi h.size) (fun hf => by rcases hF i hf with h1 | h1; exact hn h1; omega)).trans (h.block i hi hn)⟩
theorem Upd.mono {F F' : Nat → Prop} {a b : World} (h : Upd F a b) (hF : ∀ i, i < a.heap.size → F i → F' i) : Upd F' a b :=
  ⟨h.os, h.tape, h.output, h.size, fun i hi hn => h.block i hi (fun hf => hn (hF i hi hf))⟩
theorem Upd.drew {F : Nat → Prop} {a w : World} (h : Upd F a w) : Upd F a w.drew := ⟨h.os, h.tape, h.output, h.size, h.block⟩
theorem Upd.drewN {F : Nat → Prop} {a w : World} (h : Upd F a w) (n : Nat) : Upd F a (w.drewN n) := ⟨h.os, h.tape, h.output, h.size, h.block⟩
theorem Upd.alloc {F : Nat → Prop} {a w : World} (h : Upd F a w) (o : Obj) : Upd F a (w.alloc o) :=
  ⟨h.os, h.tape, h.output, by have := h.size; simp; omega, fun i hi hn => (Below.heap_alloc w o i (by have := h.size; omega)).trans (h.block i hi hn)⟩
theorem Upd.setCell {F : Nat → Prop} {a w : World} (h : Upd F a w) {p : Addr} (hp : F p.block ∨ a.heap.size ≤ p.block) (u : Value) : Upd F a (w.setCell p u) :=
  ⟨h.os, h.tape, h.output, by have := h.size; simp [World.setCell]; omega, fun i hi hn => (Below.heap_setCell w p u i (by
    rintro rfl; rcases hp with h1 | h1; exact hn h1; omega)).trans (h.block i hi hn)⟩
theorem Upd.grown {F : Nat → Prop} {a w w' : World} {row : Option Nat} (h : Upd F a w) (hg : w.grownBy w' row) (hr : ∀ k, row = some k → F k ∨ a.heap.size ≤ k) : Upd F a w' :=
  ⟨hg.os.trans h.os, hg.tape.trans h.tape, hg.output.trans h.output, Nat.le_trans h.size hg.size, fun i hi hn =>
    (hg.block i (Nat.lt_of_lt_of_le hi h.size) (fun e => by rcases hr i e.symm with h1 | h1; exact hn h1; omega)).trans (h.block i hi hn)⟩
theorem Upd.below {F : Nat → Prop} {B : Nat} {w w' : World} (h : Upd F w w') (hF : ∀ i, i < w.heap.size → F i → B ≤ i) (hB : B ≤ w.heap.size) : Below B w w' :=
  ⟨h.os, h.tape, h.output, h.size, fun k hk => h.block k (by omega) (fun hf => by have := hF k (by omega) hf; omega)⟩
theorem Upd.of_below {w w' : World} (h : Below w.heap.size w w') (F : Nat → Prop) : Upd F w w' := ⟨h.os, h.tape, h.output, h.size, fun k hk _ => h.block k hk⟩
theorem Upd.of_grown {w w' : World} {row : Option Nat} (hg : w.grownBy w' row) : Upd (fun k => row = some k) w w' :=
  ⟨hg.os, hg.tape, hg.output, hg.size, fun i hi hn => hg.block i hi (fun e => hn e.symm)⟩
theorem Upd.cell {F : Nat → Prop} {w w' : World} (h : Upd F w w') {p : Addr} (hp : p.block < w.heap.size) (hn : ¬ F p.block) : w'.cell? p = w.cell? p :=
  World.cell?_of_block (w := w) (h.block p.block hp hn)
theorem Upd.to_grown {w w' : World} {F : Nat → Prop} {row : Option Nat} (h : Upd F w w') (hF : ∀ i, i < w.heap.size → F i → row = some i) : w.grownBy w' row :=
  ⟨h.os, h.tape, h.output, h.size, fun i hi hn => h.block i hi (fun hf => hn (hF i hi hf).symm)⟩

/-- Block g of w is just these cells, of element type t. -/
def Blk (w : World) (g : Nat) (t : TypeId) (cs : Array Value) : Prop := w.heap[g]? = some (.cells cs t (0, 0))
section
variable {w w' : World} {g : Nat} {t : TypeId} {cs : Array Value}
theorem Blk.lt (h : Blk w g t cs) : g < w.heap.size := (Array.getElem?_eq_some_iff.1 h).1
theorem Blk.cell (h : Blk w g t cs) (i : Nat) : w.cell? ⟨g, i, none⟩ = cs[i]? := cell_of_row w g i cs t (0, 0) h
theorem Blk.frozen (h : Blk w g t cs) (i : Nat) : w.frozen? ⟨g, i, none⟩ = false := by
  unfold Blk at h
  simp [World.frozen?, h]
theorem Blk.new (w : World) (t : TypeId) (cs : Array Value) : Blk (w.alloc (.cells cs t)) w.heap.size t cs := heap_alloc_new w _
theorem Blk.drew (h : Blk w g t cs) : Blk w.drew g t cs := h
theorem Blk.drewN (h : Blk w g t cs) (n : Nat) : Blk (w.drewN n) g t cs := h
theorem Blk.alloc (h : Blk w g t cs) (o : Obj) : Blk (w.alloc o) g t cs := (Below.heap_alloc w o g h.lt).trans h
theorem Blk.set (h : Blk w g t cs) (i : Nat) (u : Value) : Blk (w.setCell ⟨g, i, none⟩ u) g t (cs.setIfInBounds i u) := by
  unfold Blk at h ⊢
  simp [World.setCell, Array.getElem?_modify, h]
theorem Blk.far (h : Blk w g t cs) {p : Addr} (hp : g ≠ p.block) (u : Value) : Blk (w.setCell p u) g t cs := (Below.heap_setCell w p u g hp).trans h
theorem Blk.upd {F : Nat → Prop} (h : Blk w g t cs) (hb : Upd F w w') (hg : ¬ F g) : Blk w' g t cs := (hb.block g h.lt hg).trans h
theorem Blk.grown {row : Option Nat} (h : Blk w g t cs) (hb : w.grownBy w' row) (hg : some g ≠ row) : Blk w' g t cs := (hb.block g h.lt hg).trans h
end

theorem ownsRow_upd {w w' : World} {F : Nat → Prop} {base e size n : Nat} {v : Value} {xs : List Value} (h : w.ownsRow base e size v n xs) (hu : Upd F w w') (hn : ∀ k, v.ownBlock = some k → ¬ F k) : w'.ownsRow base e size v n xs := by
  refine ⟨h.1, ?_⟩
  rcases h.2 with h2 | ⟨g, cap, cur, rfl, hb, hg, r⟩
  · exact Or.inl h2
  · exact Or.inr ⟨g, cap, cur, rfl, hb, by rw [hu.block g (Array.getElem?_eq_some_iff.1 hg).1 (hn g rfl)]; exact hg, r⟩
theorem ownsRow_base {w : World} {base base' e size n : Nat} {v : Value} {xs : List Value} (h : w.ownsRow base e size v n xs) (hb : ∀ k, v.ownBlock = some k → base' ≤ k) : w.ownsRow base' e size v n xs := by
  refine ⟨h.1, ?_⟩
  rcases h.2 with h2 | ⟨g, cap, cur, rfl, _, hg, r⟩
  · exact Or.inl h2
  · exact Or.inr ⟨g, cap, cur, rfl, hb g rfl, hg, r⟩

/-- Block r of w is a map with these entries (key, value), in the order in which the keys came. -/
def MapIs (w : World) (P : Program) (k : TypeId) (r : Nat) (kv : List (Value × Value)) : Prop :=
  ∃ es clock, w.heap[r]? = some (.map es clock) ∧ es.toList.map (fun e => (e.key, e.val)) = kv ∧ (∀ p ∈ kv, ∃ l, keyOf P k p.1 = some l) ∧ (kv.map Prod.fst).Nodup

section
variable {w w' : World} {P : Program} {k : TypeId} {r : Nat} {kv : List (Value × Value)}
theorem MapIs.lt (h : MapIs w P k r kv) : r < w.heap.size := by
  obtain ⟨es, clock, hb, _⟩ := h
  exact (Array.getElem?_eq_some_iff.1 hb).1
theorem MapIs.made (w : World) (P : Program) (k : TypeId) : MapIs (w.alloc (.map #[] 0)) P k w.heap.size [] :=
  ⟨#[], 0, (MapKept.heap_alloc w _).1, rfl, by simp, by simp⟩
theorem MapIs.upd {F : Nat → Prop} (h : MapIs w P k r kv) (hb : Upd F w w') (hg : ¬ F r) : MapIs w' P k r kv := by
  have hlt := h.lt
  obtain ⟨es, clock, hh, rest⟩ := h
  exact ⟨es, clock, (hb.block r hlt hg).trans hh, rest⟩
theorem MapIs.alloc (h : MapIs w P k r kv) (o : Obj) : MapIs (w.alloc o) P k r kv := h.upd (F := fun _ => False) ((Upd.refl _ w).alloc o) id
theorem MapIs.drew (h : MapIs w P k r kv) : MapIs w.drew P k r kv := h
theorem MapIs.drewN (h : MapIs w P k r kv) (n : Nat) : MapIs (w.drewN n) P k r kv := h
theorem MapIs.keyOK (h : MapIs w P k r kv) : ∀ p ∈ kv, ∃ l, keyOf P k p.1 = some l := by obtain ⟨_, _, _, _, h, _⟩ := h; exact h
theorem MapIs.nodup (h : MapIs w P k r kv) : (kv.map Prod.fst).Nodup := by obtain ⟨_, _, _, _, _, h⟩ := h; exact h

theorem nodup_val {kv : List (Value × Value)} (h : (kv.map Prod.fst).Nodup) {key v v' : Value} (h1 : (key, v) ∈ kv) (h2 : (key, v') ∈ kv) : v = v' := by
  induction kv with
  | nil => cases h1
  | cons p kv ih =>
    simp only [List.map_cons, List.nodup_cons] at h
    rcases List.mem_cons.1 h1 with e1 | e1 <;> rcases List.mem_cons.1 h2 with e2 | e2
    · subst e1; injection e2 with _ e2; exact e2.symm
    · exact absurd (List.mem_map.2 ⟨_, e2, by rw [← e1]⟩) h.1
    · exact absurd (List.mem_map.2 ⟨_, e1, by rw [← e2]⟩) h.1
    · exact ih h.2 e1 e2

theorem MapIs.look_hit (h : MapIs w P k r kv) (K : Maps.Keyed P k) {t e : TypeId} (ht : P.underlying t = some (.map k e)) {key v : Value} (hm : (key, v) ∈ kv) (ok : Bool) :
    (Instr.lookup t (.map (some r)) key ok).run P w = .ok (if ok then .tuple #[v, .bool true] else v) w := by
  obtain ⟨es, clock, hb, rfl, hk, hn⟩ := h
  obtain ⟨l, hl⟩ := hk _ hm
  have hes : ∀ e ∈ es.toList, ∃ l, keyOf P k e.key = some l := fun e he => hk (e.key, e.val) (List.mem_map.2 ⟨e, he, rfl⟩)
  rcases K.find w hl es.toList hes with ⟨_, h2⟩ | ⟨j, e0, h1, h2, h3⟩
  · obtain ⟨e, he, heq⟩ := List.mem_map.1 hm
    exact absurd (by injection heq) (h2 e he)
  · have hv : e0.val = v := nodup_val hn (List.mem_map.2 ⟨e0, List.mem_of_getElem? h2, by rw [h3]⟩) hm
    subst hv
    cases ok <;> simp [Instr.lookup, run_underlying ht, MapKept.run_getObj_map hb, K.check w _ hl, h1, Result.andThen]

theorem MapIs.look_miss (h : MapIs w P k r kv) (K : Maps.Keyed P k) {t e : TypeId} (ht : P.underlying t = some (.map k e)) {key z : Value} (hkey : ∃ l, keyOf P k key = some l) (hm : ∀ p ∈ kv, p.1 ≠ key)
    (hz : (zeroValue e).run P w = .ok z w) (ok : Bool) :
    (Instr.lookup t (.map (some r)) key ok).run P w = .ok (if ok then .tuple #[z, .bool false] else z) w := by
  obtain ⟨es, clock, hb, rfl, hk, hn⟩ := h
  obtain ⟨l, hl⟩ := hkey
  have hes : ∀ e ∈ es.toList, ∃ l, keyOf P k e.key = some l := fun e he => hk (e.key, e.val) (List.mem_map.2 ⟨e, he, rfl⟩)
  rcases K.find w hl es.toList hes with ⟨h1, h2⟩ | ⟨j, e0, h1, h2, h3⟩
  · cases ok <;> simp [Instr.lookup, run_underlying ht, MapKept.run_getObj_map hb, K.check w _ hl, h1, hz, Result.andThen]
  · exact absurd h3 (hm (e0.key, e0.val) (List.mem_map.2 ⟨e0, List.mem_of_getElem? h2, rfl⟩))

theorem MapIs.put_miss (h : MapIs w P k r kv) (K : Maps.Keyed P k) {t e : TypeId} (ht : P.underlying t = some (.map k e)) {key : Value} (v : Value) (hkey : ∃ l, keyOf P k key = some l) (hm : ∀ p ∈ kv, p.1 ≠ key) :
    ∃ w', (Instr.mapUpdate t (.map (some r)) key v).run P w = .ok () w' ∧ MapIs w' P k r (kv ++ [(key, v)]) ∧ w.grownBy w' (some r) ∧ w'.heap.size = w.heap.size := by
  obtain ⟨es, clock, hb, rfl, hk, hn⟩ := h
  obtain ⟨l, hl⟩ := hkey
  have hes : ∀ e ∈ es.toList, ∃ l, keyOf P k e.key = some l := fun e he => hk (e.key, e.val) (List.mem_map.2 ⟨e, he, rfl⟩)
  rcases K.find w hl es.toList hes with ⟨h1, h2⟩ | ⟨j, e0, h1, h2, h3⟩
  · refine ⟨ChangeMaps.setBlock w r (.map (es.push ⟨key, v, clock⟩) (clock + 1)), by simp [Instr.mapUpdate, run_underlying ht, MapKept.run_getObj_map hb, K.check w false hl, h1, MapKept.run_setObj_map _ hb, Result.andThen, ChangeMaps.setBlock],
      ⟨_, _, ChangeMaps.heap_setBlock_same hb _, by simp, ?_, ?_⟩, ⟨rfl, rfl, rfl, by simp [ChangeMaps.setBlock], fun i _ hi => ChangeMaps.heap_setBlock_other hb _ (fun e => hi (by rw [e]))⟩, by simp [ChangeMaps.setBlock]⟩
    · intro p hp
      rcases List.mem_append.1 hp with hp | hp
      · exact hk p hp
      · obtain rfl := List.mem_singleton.1 hp
        exact ⟨l, hl⟩
    · rw [List.map_append, List.nodup_append]
      refine ⟨hn, by simp, ?_⟩
      intro a ha b hb' e
      simp only [List.map_cons, List.map_nil, List.mem_singleton] at hb'
      subst hb'
      obtain ⟨p, hp, rfl⟩ := List.mem_map.1 ha
      exact hm p hp e
  · exact absurd h3 (hm (e0.key, e0.val) (List.mem_map.2 ⟨e0, List.mem_of_getElem? h2, rfl⟩))
end

/-- Where an entry of a key stands, and what stands there when it is written anew. -/
theorem MapIs.put_hit {w : World} {P : Program} {k : TypeId} {r : Nat} {kv : List (Value × Value)} (h : MapIs w P k r kv) (K : Maps.Keyed P k) {t e : TypeId} (ht : P.underlying t = some (.map k e)) {key v0 : Value} (v : Value) (hm : (key, v0) ∈ kv) :
    ∃ w' j, (Instr.mapUpdate t (.map (some r)) key v).run P w = .ok () w' ∧ kv[j]? = some (key, v0) ∧ MapIs w' P k r (kv.set j (key, v)) ∧ w.grownBy w' (some r) ∧ w'.heap.size = w.heap.size := by
  obtain ⟨es, clock, hb, rfl, hk, hn⟩ := h
  obtain ⟨l, hl⟩ := hk _ hm
  have hes : ∀ e ∈ es.toList, ∃ l, keyOf P k e.key = some l := fun e he => hk (e.key, e.val) (List.mem_map.2 ⟨e, he, rfl⟩)
  rcases K.find w hl es.toList hes with ⟨_, h2⟩ | ⟨j, e0, h1, h2, h3⟩
  · obtain ⟨e, he, heq⟩ := List.mem_map.1 hm
    exact absurd (by injection heq) (h2 e he)
  · have hv : e0.val = v0 := nodup_val hn (List.mem_map.2 ⟨e0, List.mem_of_getElem? h2, by rw [h3]⟩) hm
    subst hv
    subst h3
    have hj : es[j]? = some e0 := by simpa using h2
    have hjl : j < es.size := (Array.getElem?_eq_some_iff.1 hj).1
    have hje : es[j] = e0 := (Array.getElem?_eq_some_iff.1 hj).2
    refine ⟨ChangeMaps.setBlock w r (.map (es.modify j fun e => { e with key := e0.key, val := v }) clock), j,
      by simp [Instr.mapUpdate, run_underlying ht, MapKept.run_getObj_map hb, K.check w false hl, h1, hj, K.stays w hl, MapKept.run_setObj_map _ hb, Result.andThen, ChangeMaps.setBlock], by simp [hj],
      ⟨_, _, ChangeMaps.heap_setBlock_same hb _, ?_, ?_, ?_⟩, ⟨rfl, rfl, rfl, by simp [ChangeMaps.setBlock], fun i _ hi => ChangeMaps.heap_setBlock_other hb _ (fun e => hi (by rw [e]))⟩, by simp [ChangeMaps.setBlock]⟩
    · apply List.ext_getElem?
      intro i
      simp only [List.getElem?_map, Array.getElem?_toList, Array.getElem?_modify, List.getElem?_set, List.length_map, Array.length_toList]
      by_cases hij : j = i
      · subst hij; simp [hjl]
      · simp [hij]
    · intro p hp
      rcases List.mem_or_eq_of_mem_set hp with hp | rfl
      · exact hk p hp
      · exact ⟨l, hl⟩
    · have : ((List.map (fun e => (e.key, e.val)) es.toList).set j (e0.key, v)).map Prod.fst = (List.map (fun e => (e.key, e.val)) es.toList).map Prod.fst := by
        apply List.ext_getElem?
        intro i
        simp only [List.getElem?_map, List.getElem?_set, Array.getElem?_toList, List.length_map, Array.length_toList]
        by_cases hij : j = i
        · subst hij; simp [hjl, hje]
        · simp [hij]
      rw [this]; exact hn

/-- append at the operation, by an equation on its run. -/
theorem wpList_append_run {P : Program} {ops : Array Oper} {rest : List Oper} {o : Oper} {a : Act} {Q : Exit → Act → World → Prop} {w w' : World} {v v2 v' : Value} (hgd : o.guard = none) (s x : Operand) (t : TypeId)
    (ho : o.op = .call { callee := .builtin .append, args := #[s, x], argTypes := #[t, t] }) (hs : a.eval s = v) (hx : a.eval x = v2)
    (hrun : (Builtin.append_ #[t, t] o.type #[v, v2]).run P w = .ok v' w') (h : wpList P ops Q rest (a.put o.dst v') w') : wpList P ops Q (o :: rest) a w := by
  refine wpList_plain hgd fun _ hK => ?_
  unfold Oper.wp execOp
  simp only [ho, resolve, invoke, builtin, Sem.run_bind, Sem.run_pure, Result.andThen_ok, List.map_toArray, List.map_cons, List.map_nil, hs, hx, hrun]
  exact hK _ _ h

/-- Chunks of one length. -/
theorem flat_get {α β : Type} (f : α → List β) (c : Nat) (hf : ∀ x, (f x).length = c) : ∀ (l : List α) (i j : Nat) (x : α), l[i]? = some x → j < c → (l.flatMap f)[i * c + j]? = (f x)[j]?
  | [], i, j, x, h, _ => by simp at h
  | y :: l, 0, j, x, h, hj => by
    simp at h
    subst h
    simp only [List.flatMap_cons, Nat.zero_mul, Nat.zero_add]
    rw [List.getElem?_append_left (by rw [hf]; exact hj)]
  | y :: l, i + 1, j, x, h, hj => by
    simp only [List.getElem?_cons_succ] at h
    simp only [List.flatMap_cons]
    rw [List.getElem?_append_right (by rw [hf, Nat.add_mul]; omega), hf, show (i + 1) * c + j - c = i * c + j by rw [Nat.add_mul]; omega]
    exact flat_get f c hf l i j x h hj
theorem flat_len {α β : Type} (f : α → List β) (c : Nat) (hf : ∀ x, (f x).length = c) : ∀ (l : List α), (l.flatMap f).length = l.length * c
  | [] => by simp
  | y :: l => by simp [hf, flat_len f c hf l, Nat.add_mul, Nat.add_comm]

theorem own_form {w : World} {base e size n : Nat} {v : Value} {xs : List Value} (h : w.ownsRow base e size v n xs) : ∃ A c, v = .slice A n c ∧ n ≤ c ∧ (A = none ∨ ∃ g, A = some ⟨g, 0, none⟩) := by
  rcases h.2 with ⟨rfl, rfl⟩ | ⟨g, cap, cur, rfl, _, _, hc, _⟩
  · exact ⟨none, 0, rfl, Nat.le_refl _, .inl rfl⟩
  · exact ⟨_, cap, rfl, hc, .inr ⟨g, rfl⟩⟩
/-- A row of the call's own that is not empty: where it lies, its cells. -/
theorem own_cells {w : World} {base e size n : Nat} {v : Value} {xs : List Value} (h : w.ownsRow base e size v n xs) (hn : 0 < n) :
    ∃ g c, v = .slice (some ⟨g, 0, none⟩) n c ∧ v.ownBlock = some g ∧ n ≤ c ∧ g < w.heap.size ∧ base ≤ g ∧ ∀ j u, xs[j]? = some u → w.cell? ⟨g, j, none⟩ = some u ∧ w.frozen? ⟨g, j, none⟩ = false := by
  have hc := fun g (hg : v.ownBlock = some g) => h.cells hg
  have hlt := h.lt
  rcases h.2 with ⟨_, rfl⟩ | ⟨g, cap, cur, rfl, _, hg, hcap, _⟩
  · omega
  · refine ⟨g, cap, rfl, rfl, hcap, (hlt g rfl).2, (hlt g rfl).1, fun j u hu => ⟨?_, by simp [World.frozen?, hg]⟩⟩
    have := hc g rfl j u hu
    rwa [Addr.add_lit, Nat.zero_add] at this
end Go.Proofs.YtnmkieiehjajlaaGreatDoor
