/- Rows: a row put behind a row of the call's own. -/
import Derived.Test.YtnmkieiehjajlaaGreatDoorZ17
set_option linter.unusedVariables false
set_option linter.unusedSimpArgs false
namespace Go.Proofs.YtnmkieiehjajlaaGreatDoor
open Go.RowKit

/-- append of a row to a row of the call's own: what it turns, where the new row lies. -/
theorem append_row2 (w : World) (base t e size bytes : Nat) (z : Value) (ht : Tryz.prog.underlying t = some (.slice e)) (hi : (Tryz.prog.info? e).map (fun i => (i.zero, i.size, i.bytes)) = some (some z, size, bytes)) (hzs : z.cells.size = size) (h0 : 0 < size) (h8 : 8 ≤ bytes)
    (B : Option Addr) (n c : Nat) (xs : List Value) (own : w.ownsRow base e size (.slice B n c) n xs) (A : Option Addr) (m d : Nat) (ys : List Value) (hr : RowR w A ys) (hl : ys.length = m * size) (h1 : ∀ u ∈ ys, u.oneCell' = true) (hn : (n + m) * bytes ≤ 140737488355328) (hb : base ≤ w.heap.size) :
    ∃ B' c' w', (Builtin.append_ #[t, t] t #[.slice B n c, .slice A m d]).run Tryz.prog w = .ok (.slice B' (n + m) c') w' ∧ w'.ownsRow base e size (.slice B' (n + m) c') (n + m) (xs ++ ys) ∧ Upd (fun k => (Value.slice B n c).ownBlock = some k) w w' ∧ ∀ k, (Value.slice B' (n + m) c').ownBlock = some k → (Value.slice B n c).ownBlock = some k ∨ w.heap.size ≤ k := by
  obtain ⟨i0, hi0, hz0, hz1, hz2⟩ := info_parts hi
  have hnm : n + m ≤ maxLen := by
    have : (n + m) * 8 ≤ (n + m) * bytes := Nat.mul_le_mul_left _ h8
    unfold maxLen; omega
  have hre := hr.reads hl h0
  rcases A with _ | ad
  · obtain ⟨rfl, rfl⟩ := hre.nil
    obtain ⟨A', c', hv, hc, -⟩ := own_form own
    injection hv with _ _ hcc
    exact ⟨B, c, w, append_none w t e ht i0 hi0 B n c d (by omega) (by unfold maxLen at hnm; omega), by simpa using own, Upd.refl _ _, fun k hk => .inl hk⟩
  · obtain ⟨v', w', happ, own', gr, -, pl⟩ := run_append_own_at (P := Tryz.prog) w base t t e i0 z size bytes ht hi0 hz0 hz1 hz2 hzs h0 (.slice B n c) n xs own ad m d ys hl (hre.2.2 ad rfl) h1 hnm (by simpa using hn) hb
    obtain ⟨B', c', rfl, -, -⟩ := own_form own'
    refine ⟨B', c', w', happ, own', (Upd.refl _ w).grown gr (fun k hk => .inl hk), fun k hk => ?_⟩
    rcases pl with h | h
    · exact .inl (by rw [← h]; exact hk)
    · rw [h] at hk
      injection hk with hk
      exact .inr (by omega)
theorem push_ed (w : World) (base : Nat) (v : Value) (L : List Ed) (own : w.ownsRow base 52 3 v L.length (edCells L)) (x : Ed) (hl : (L.length + 1) * 48 ≤ 140737488355328) (hb : base ≤ w.heap.size) :
    ∃ v' w', (Builtin.append_ #[23, 23] 23 #[v, .slice (some ⟨w.heap.size, 0, none⟩) 1 1]).run Tryz.prog (w.alloc (.cells #[.string x.fr, .string x.lb, .string x.to] 52)) = .ok v' w' ∧ w'.ownsRow base 52 3 v' (L ++ [x]).length (edCells (L ++ [x])) ∧ Upd (fun k => v.ownBlock = some k) w w' ∧ ∀ k, v'.ownBlock = some k → v.ownBlock = some k ∨ w.heap.size ≤ k := by
  obtain ⟨v', w', happ, own', up, pl⟩ := push_own w base 23 52 3 48 _ Tryz.underlying23 info_edge rfl (by decide) v L.length _ own [.string x.fr, .string x.lb, .string x.to] 1 rfl (by simp; exact ⟨rfl, rfl, rfl⟩) hl (by unfold maxLen; omega) hb
  refine ⟨v', w', happ, ?_, up, pl⟩
  rw [List.length_append, edCells, List.flatMap_append]
  exact own'
theorem txtCells_app (N M : List Txt) : txtCells (N ++ M) = txtCells N ++ txtCells M := by simp [txtCells]
theorem edCells_app (N M : List Ed) : edCells (N ++ M) = edCells N ++ edCells M := by simp [edCells]
theorem ForG.upd {w w' : World} {A B : Option Addr} {c d : Nat} {N : List Txt} {E : List Ed} {F : Nat → Prop} (h : ForG w A c B d N E) (hu : Upd F w w') (hA : ∀ b o s, A = some ⟨b, o, s⟩ → ¬ F b) (hB : ∀ b o s, B = some ⟨b, o, s⟩ → ¬ F b) : ForG w' A c B d N E :=
  ⟨h.rn.upd hu hA, h.re.upd hu hB, h.hc, h.hd, h.fit⟩
theorem own_blk {w : World} {base e size n m c : Nat} {A : Option Addr} {xs : List Value} (h : w.ownsRow base e size (.slice A m c) n xs) : ∀ b o s, A = some ⟨b, o, s⟩ → base ≤ b ∧ b < w.heap.size := fun b o s e => by
  subst e
  exact h.lt b rfl
end Go.Proofs.YtnmkieiehjajlaaGreatDoor
