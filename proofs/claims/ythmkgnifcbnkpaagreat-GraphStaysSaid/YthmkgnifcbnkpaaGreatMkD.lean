/- Marks: a list of marks that is put together in a range over marks.All; marks.Scan. -/
import Derived.Test.YthmkgnifcbnkpaaGreatMkC
import Derived.OwnWalkIn
namespace Go.Proofs.YthmkgnifcbnkpaaGreat
open Go.RowKit Go.Shelf
attribute [local go_sem] Oper.semAt_some

theorem wpListIn_append_run {F : Fence} {nF : Nat} {P : Program} {ops : Array Oper} {rest : List Oper} {o : Oper} {a : Act} {Q : Exit → Act → World → Prop} {w w' : World} {v v2 v' : Value} (hgd : o.guard = none) (s x : Operand) (t : TypeId)
    (ho : o.op = .call { callee := .builtin .append, args := #[s, x], argTypes := #[t, t] }) (hs : a.eval s = v) (hx : a.eval x = v2)
    (hrun : (Builtin.append_ #[t, t] o.type #[v, v2]).run P w = .ok v' w') (h : wpListIn F nF P ops Q rest (a.put o.dst v') w') : wpListIn F nF P ops Q (o :: rest) a w := by
  refine wpListIn_plain hgd fun K hK => ?_
  unfold Oper.wpIn
  refine ⟨by simp [Oper.about, ho, resolve, Target.leads, Sem.run_pure], ?_⟩
  rw [Oper.semAt_plain F _ _ (by rw [ho]; intro c hc'; cases hc')]
  simp [execOp, ho, resolve, invoke, builtin, hs, hx, hrun, Result.andThen]
  exact hK _ _ h
theorem info_mark : (Tryz.prog.info? 72).map (fun i => (i.zero, i.size, i.bytes)) = some (some (.agg #[.int .i64 0, .int .i64 0, .string ByteArray.empty]), 3, 32) := by kernel_rfl
def mkCells (L : List Mk) : List Value := L.flatMap Mk.cells
theorem mkCells_len (L : List Mk) : (mkCells L).length = L.length * 3 := flat_len Mk.cells 3 (fun _ => rfl) L
theorem one_mk (m : Mk) : ∀ u ∈ m.cells, u.oneCell' = true := by
  intro u hf
  simp [Mk.cells] at hf
  rcases hf with rfl | rfl | rfl <;> rfl
theorem push_mark (W : World) (B0 lb : Nat) (v : Value) (L : List Mk) (m : Mk) (hb : Blk W lb 64 #[v]) (own : W.ownsRow B0 72 3 v L.length (mkCells L)) (hne : v.ownBlock ≠ some lb) (hl : (L.length + 1) * 32 ≤ 140737488355328) (hB : B0 ≤ W.heap.size) :
    ∃ v' W1, (Builtin.append_ #[64, 64] 64 #[v, .slice (some ⟨W.heap.size, 0, none⟩) 1 1]).run Tryz.prog (W.alloc (.cells m.cells.toArray 72)) = .ok v' W1 ∧
      Blk W1 lb 64 #[v] ∧ Upd (fun q => v.ownBlock = some q) W W1 ∧ Blk (W1.setCell ⟨lb, 0, none⟩ v') lb 64 #[v'] ∧ (W1.setCell ⟨lb, 0, none⟩ v').ownsRow B0 72 3 v' (L ++ [m]).length (mkCells (L ++ [m])) ∧ v'.ownBlock ≠ some lb ∧
      Upd (fun q => q = lb ∨ v.ownBlock = some q) W (W1.setCell ⟨lb, 0, none⟩ v') ∧ ∀ k, v'.ownBlock = some k → v.ownBlock = some k ∨ W.heap.size ≤ k := by
  obtain ⟨v', w', happ, own', up, pl⟩ := push_own W B0 64 72 3 32 _ Tryz.underlying64 info_mark rfl (by decide) v L.length _ own m.cells 1 rfl (one_mk m) hl (by unfold maxLen; omega) hB
  have hne' : v'.ownBlock ≠ some lb := by
    intro e
    rcases pl lb e with h | h
    · exact hne h
    · have := hb.lt; omega
  have kb := hb.upd up (fun e => hne e)
  have us : Upd (fun q => q = lb) w' (w'.setCell ⟨lb, 0, none⟩ v') := (Upd.refl (fun q => q = lb) w').setCell (p := ⟨lb, 0, none⟩) (.inl rfl) _
  refine ⟨v', w', happ, kb, up, kb.set 0 v', ?_, hne', (up.mono (fun i _ h => .inr h)).trans us (fun i h => .inl (.inl h)), pl⟩
  have h1 := ownsRow_upd own' us (fun k hk e => hne' (by rw [hk, e]))
  rw [List.length_append, mkCells, List.flatMap_append]
  simpa [mkCells] using h1
theorem own_keep {W W' : World} {base e size n : Nat} {v : Value} {xs : List Value} {row : Option Nat} {B : Nat} (h : W.ownsRow base e size v n xs) (hg : W.grownBy W' row) (hr : ∀ r, row = some r → B ≤ r ∧ ∃ o : Obj, W.heap[r]? = some o ∧ o.isCells = false) : W'.ownsRow base e size v n xs := by
  refine ⟨h.1, ?_⟩
  rcases h.2 with h2 | ⟨g, cap, cur, rfl, hb, hg', r⟩
  · exact Or.inl h2
  · refine Or.inr ⟨g, cap, cur, rfl, hb, ?_, r⟩
    rw [hg.block g (Array.getElem?_eq_some_iff.1 hg').1 (fun e => by
      obtain ⟨_, o, ho, hc⟩ := hr g e.symm
      rw [hg'] at ho
      cases ho
      cases hc)]
    exact hg'
theorem keeps_cells {B : Nat} {w w' : World} {F : Nat → Prop} (h : Upd F w w') (hF : ∀ q, F q → ∃ o : Obj, w.heap[q]? = some o ∧ o.isCells = true) : KeepsFrom B w w' :=
  ⟨h.size, fun k o hB hi ho => (h.block k (Array.getElem?_eq_some_iff.1 hi).1 (fun hf => by
    obtain ⟨o', ho', hc⟩ := hF k hf
    rw [hi] at ho'
    injection ho' with e
    subst e
    rw [ho] at hc
    cases hc)).trans hi⟩
theorem own_isCells {W : World} {base e size n : Nat} {v : Value} {xs : List Value} (h : W.ownsRow base e size v n xs) {q : Nat} (hq : v.ownBlock = some q) : ∃ o : Obj, W.heap[q]? = some o ∧ o.isCells = true := by
  rcases h.2 with ⟨rfl, _⟩ | ⟨g, cap, cur, rfl, _, hg, _⟩
  · cases hq
  · injection hq with e
    subst e
    exact ⟨_, hg, rfl⟩
theorem Blk.isCells {W : World} {g : Nat} {t : TypeId} {cs : Array Value} (h : Blk W g t cs) : ∃ o : Obj, W.heap[g]? = some o ∧ o.isCells = true := ⟨_, h, rfl⟩

/-- In the midst of the marks: the list so far, in block lb; w0 is the world ahead of the range. -/
structure LstI (w0 W : World) (lb lat : Nat) (L : List Mk) (v : Value) : Prop where
  b : Blk W lb 64 #[v]
  own : W.ownsRow w0.heap.size 72 3 v L.length (mkCells L)
  ne : v.ownBlock ≠ some lb
  u : Upd (fun q => q = lb ∨ q = lat) w0 W
theorem LstI.keep {w0 W W' : World} {lb lat : Nat} {L : List Mk} {v : Value} {row : Option Nat} (h : LstI w0 W lb lat L v) (hg : W.grownBy W' row) (hr : ∀ r, row = some r → w0.heap.size ≤ r ∧ ∃ o : Obj, W.heap[r]? = some o ∧ o.isCells = false) : LstI w0 W' lb lat L v :=
  ⟨h.b.keep hg hr, own_keep h.own hg hr, h.ne, h.u.keep hg (Nat.le_refl _) hr⟩
theorem LstI.rg {w0 W : World} {lb lat : Nat} {L : List Mk} {v : Value} (h : LstI w0 W lb lat L v) : RgL lb W := fun u q hu hq => by
  have := h.b.cell 0
  simp only [List.getElem?_toArray, List.getElem?_cons_zero] at this
  rw [this] at hu
  injection hu with e
  subst e
  exact (h.own.lt q hq).2
/-- What may be handed on. -/
theorem kp_of {lb : Nat} {F0 : Nat → Prop} {A B : World} {v v' : Value} (ha : A.cell? ⟨lb, 0, none⟩ = some v) (hb : B.cell? ⟨lb, 0, none⟩ = some v') (hu : Upd (fun q => F0 q ∨ v.ownBlock = some q) A B) (hl : ∀ q, v'.ownBlock = some q → q < B.heap.size) (pl : ∀ k, v'.ownBlock = some k → v.ownBlock = some k ∨ A.heap.size ≤ k) : KpL lb F0 A B := by
  intro _
  refine ⟨hu.mono (fun i _ h => h.imp id (fun h => .inl ⟨v, ha, h⟩)), fun u q h1 h2 => ?_⟩
  rw [hb] at h1
  injection h1 with e
  subst e
  refine ⟨hl q h2, fun hlt => ⟨v, ha, ?_⟩⟩
  rcases pl q h2 with h | h
  · exact h
  · omega
/-- A mark more: the world behind the append and the store. -/
theorem LstI.step {w0 W : World} {lb lat : Nat} {L : List Mk} {v : Value} (h : LstI w0 W lb lat L v) (m : Mk) (hl : (L.length + 1) * 32 ≤ 140737488355328) :
    ∃ v' W1, (Builtin.append_ #[64, 64] 64 #[v, .slice (some ⟨W.heap.size, 0, none⟩) 1 1]).run Tryz.prog (W.alloc (.cells #[.int .i64 m.kind, .int .i64 m.pl, .string (toTxt m.tx)] 72)) = .ok v' W1 ∧
      Blk W1 lb 64 #[v] ∧ LstI w0 (W1.setCell ⟨lb, 0, none⟩ v') lb lat (L ++ [m]) v' ∧ Upd (fun q => q = lb ∨ v.ownBlock = some q) W (W1.setCell ⟨lb, 0, none⟩ v') ∧ KpL lb (fun q => q = lb ∨ q = lat) W (W1.setCell ⟨lb, 0, none⟩ v') := by
  obtain ⟨v', W1, h1, h2, h3, h4, h5, h6, h7, h8⟩ := push_mark W w0.heap.size lb v L m h.b h.own h.ne hl h.u.size
  refine ⟨v', W1, h1, h2, ⟨h4, h5, h6, h.u.trans h7 ?_⟩, h7, kp_of (h.b.cell 0) (h4.cell 0) (h7.mono (fun i _ h => h.imp .inl id)) (fun q hq => (h5.lt q hq).2) h8⟩
  intro i hi
  rcases hi with hi | hi
  · exact .inl (.inl hi)
  · exact .inr (h.own.lt i hi).1
theorem marks_stops (n : Nat) (hn : 1 ≤ n) (bl lb : Nat) (F0 : Nat → Prop) (s : Txt) (hs : s.size ≤ 1000000) (w : World) (hbl : Blk w bl 9 #[.string s]) (hlb : lb < w.heap.size) (hr : RgL lb w) (hF : ∀ q, F0 q → q < w.heap.size ∧ q ≠ bl) (hrow : ∀ v, w.cell? ⟨lb, 0, none⟩ = some v → v.ownBlock ≠ some bl) :
    SeqStopsK Fence.wide n Tryz.prog 74 #[.pointer (some ⟨bl, 0, none⟩)] (encM (S := s.size)) (KpL lb F0) (fun ys => ys = msL s) (fun pre => ∃ k, k ≤ (msL s).length ∧ pre = (msL s).take k) (msL s).length w := fun l J Jx W hW hJ _ hY h0 => by
  have hc : W.cell? ⟨lb, 0, none⟩ = w.cell? ⟨lb, 0, none⟩ := hW.cell (p := ⟨lb, 0, none⟩) hlb
  refine marks_in n hn l bl lb F0 s hs J Jx W hJ hY (hbl.upd (Upd.of_below hW (fun _ => False)) id) (Nat.lt_of_lt_of_le hlb hW.size) ?_ (fun q hq => ⟨Nat.lt_of_lt_of_le (hF q hq).1 hW.size, (hF q hq).2⟩) ?_ h0
  · intro v q h1 h2
    rw [hc] at h1
    exact Nat.lt_of_lt_of_le (hr v q h1 h2) hW.size
  · intro v h1
    rw [hc] at h1
    exact hrow v h1
end Go.Proofs.YthmkgnifcbnkpaaGreat
