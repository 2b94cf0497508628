/- Rows of cells in memory: read, copied, appended to. -/
import Derived.Test.YtnmkieiehjajlaaGreatDoorZ01
import Derived.Test.YtnmkieiehjajlaaGreatDoorZ05
import Derived.Test.YtnmkieiehjajlaaGreatDoorZ06
import Derived.Test.YtnmkieiehjajlaaGreatDoorProg
import Derived.WalkLawsBesides
import Derived.Deep.QuietTactic
import Derived.Deep.Cut
import Derived.WalkMore
import Derived.WalkSmall
import Derived.Laws.MakeOwn
import Derived.BigQuiet
import Derived.StillTailTactics
import Derived.Carry
import Derived.Lib.Hide
import Derived.DeepKeys4
import Derived.IntWalk
set_option linter.unusedVariables false
set_option linter.unusedSimpArgs false
namespace Go.Proofs.YtnmkieiehjajlaaGreatDoor
open Go.RowKit

/-- An int that fits. -/
def Wf (a : Int) : Prop := (Lit.int .i64 a).wf = true
/-- A slice at A of n elements of some cells each reads as these cells. -/
def Reads (w : World) (size : Nat) (A : Option Addr) (n : Nat) (xs : List Value) : Prop :=
  xs.length = n * size ∧ (A = none → n = 0) ∧ ∀ ad, A = some ad → ∀ j u, xs[j]? = some u → w.cell? (ad.add j) = some u
theorem Reads.nil {w : World} {size n : Nat} {xs : List Value} (h : Reads w size none n xs) : n = 0 ∧ xs = [] := by
  have hn := h.2.1 rfl
  subst hn
  exact ⟨rfl, List.eq_nil_of_length_eq_zero (by simpa using h.1)⟩
theorem info_int : (Tryz.prog.info? 3).map (fun i => (i.zero, i.size, i.bytes)) = some (some (.int .i64 0), 1, 8) := by kernel_rfl
theorem info_string : (Tryz.prog.info? 9).map (fun i => (i.zero, i.size, i.bytes)) = some (some (.string ByteArray.empty), 1, 16) := by kernel_rfl
theorem info_edge : (Tryz.prog.info? 52).map (fun i => (i.zero, i.size, i.bytes)) = some (some (.agg #[.string ByteArray.empty, .string ByteArray.empty, .string ByteArray.empty]), 3, 48) := by kernel_rfl
/-- It answers so, and nothing old has changed. -/
def Sam (w : World) (v : Value) (e : Ending) (w' : World) : Prop := e = .returned v ∧ Below w.heap.size w w'

/-- At A lie these cells. -/
def RowR (w : World) (A : Option Addr) (xs : List Value) : Prop := ∀ j u, xs[j]? = some u → ∃ b o, A = some ⟨b, o, none⟩ ∧ w.cell? ⟨b, o + j, none⟩ = some u
theorem RowR.upd {w w' : World} {A : Option Addr} {xs : List Value} {F : Nat → Prop} (h : RowR w A xs) (hu : Upd F w w') (hF : ∀ b o s, A = some ⟨b, o, s⟩ → ¬ F b) : RowR w' A xs := fun j u hj => by
  obtain ⟨b, o, rfl, hc⟩ := h j u hj
  exact ⟨b, o, rfl, (hu.cell (p := ⟨b, o + j, none⟩) (World.block_lt_of_cell? w _ hc) (hF b o none rfl)).trans hc⟩
theorem RowR.below {w w' : World} {A : Option Addr} {xs : List Value} (h : RowR w A xs) (hb : Below w.heap.size w w') : RowR w' A xs := h.upd (Upd.of_below hb (fun _ => False)) (fun _ _ _ _ => id)
theorem RowR.reads {w : World} {A : Option Addr} {xs : List Value} {n size : Nat} (h : RowR w A xs) (hl : xs.length = n * size) (h0 : 0 < size) : Reads w size A n xs := by
  refine ⟨hl, ?_, ?_⟩
  · rintro rfl
    rcases Nat.eq_zero_or_pos n with h1 | h1
    · exact h1
    · have : 0 < xs.length := by rw [hl]; exact Nat.mul_pos h1 h0
      obtain ⟨b, o, e, -⟩ := h 0 xs[0] (List.getElem?_eq_getElem this)
      cases e
  · rintro ad rfl j u hj
    obtain ⟨b, o, e, hc⟩ := h j u hj
    injection e with e
    subst e
    rw [Addr.add_lit]
    exact hc
theorem RowR.of_own {w : World} {base e size n c : Nat} {A : Option Addr} {xs : List Value} (h : w.ownsRow base e size (.slice A n c) n xs) : RowR w A xs := fun j u hj => by
  rcases h.2 with ⟨hv, h0⟩ | ⟨g, cap, cur, hv, _⟩
  · have hl : 0 < xs.length := Nat.lt_of_le_of_lt (Nat.zero_le _) (List.getElem?_eq_some_iff.1 hj).1
    rw [h.1, h0] at hl
    omega
  · injection hv with hv
    subst hv
    have := h.cells (g := g) rfl j u hj
    rw [Addr.add_lit, Nat.zero_add] at this
    exact ⟨g, 0, rfl, by rw [Nat.zero_add]; exact this⟩
/-- append of a whole row to none. -/
theorem append_fresh (w : World) (t e size bytes : Nat) (z : Value) (ht : Tryz.prog.underlying t = some (.slice e)) (hi : (Tryz.prog.info? e).map (fun i => (i.zero, i.size, i.bytes)) = some (some z, size, bytes)) (hzs : z.cells.size = size) (h0 : 0 < size) (h8 : 8 ≤ bytes)
    (hnil : ∀ (w : World) (c : Nat), (Builtin.append_ #[t, t] t #[.slice none 0 0, .slice none 0 c]).run Tryz.prog w = .ok (.slice none 0 0) w)
    (A : Option Addr) (n c : Nat) (xs : List Value) (h : RowR w A xs) (hl : xs.length = n * size) (h1 : ∀ u ∈ xs, u.oneCell' = true) (hn : n * bytes ≤ 140737488355328) :
    ∃ v' w', (Builtin.append_ #[t, t] t #[.slice none 0 0, .slice A n c]).run Tryz.prog w = .ok v' w' ∧ w'.ownsRow w.heap.size e size v' n xs ∧ Below w.heap.size w w' := by
  obtain ⟨i0, hi0, hz0, hz1, hz2⟩ := info_parts hi
  have hr := h.reads hl h0
  have hm : n ≤ maxLen := by
    have : n * 8 ≤ n * bytes := Nat.mul_le_mul_left _ h8
    unfold maxLen; omega
  have key : ∀ ad : Addr, (∀ j u, xs[j]? = some u → w.cell? (ad.add j) = some u) → ∃ v' w', (Builtin.append_ #[t, t] t #[.slice none 0 0, .slice (some ad) n c]).run Tryz.prog w = .ok v' w' ∧ w'.ownsRow w.heap.size e size v' n xs ∧ Below w.heap.size w w' := by
    intro ad hc
    obtain ⟨v', w', happ, own', gr, -, -⟩ := run_append_own_at (P := Tryz.prog) w w.heap.size t t e i0 z size bytes ht hi0 hz0 hz1 hz2 hzs h0 (.slice none 0 0) 0 [] (World.ownsRow_nil _ _ _ _) ad n c xs hl hc h1 (by omega) (by simpa using hn) (Nat.le_refl _)
    refine ⟨v', w', happ, by simpa using own', (Below.refl _ _).grown gr (Nat.le_refl _) ?_⟩
    intro k hk
    simp [Value.ownBlock] at hk
  rcases A with _ | ad
  · obtain ⟨rfl, rfl⟩ := hr.nil
    exact ⟨.slice none 0 0, w, hnil w c, World.ownsRow_nil _ _ _ _, Below.refl _ _⟩
  · exact key ad (hr.2.2 ad rfl)
theorem push_own (w : World) (base t e size bytes : Nat) (z : Value) (ht : Tryz.prog.underlying t = some (.slice e)) (hi : (Tryz.prog.info? e).map (fun i => (i.zero, i.size, i.bytes)) = some (some z, size, bytes)) (hzs : z.cells.size = size) (h0 : 0 < size)
    (v : Value) (n : Nat) (xs : List Value) (own : w.ownsRow base e size v n xs) (news : List Value) (m : Nat) (hl : news.length = m * size) (h1 : ∀ u ∈ news, u.oneCell' = true) (hn : (n + m) * bytes ≤ 140737488355328) (h63 : n + m ≤ maxLen) (hb : base ≤ w.heap.size) :
    ∃ v' w', (Builtin.append_ #[t, t] t #[v, .slice (some ⟨w.heap.size, 0, none⟩) m m]).run Tryz.prog (w.alloc (.cells news.toArray e)) = .ok v' w' ∧ w'.ownsRow base e size v' (n + m) (xs ++ news) ∧ Upd (fun k => v.ownBlock = some k) w w' ∧ ∀ k, v'.ownBlock = some k → v.ownBlock = some k ∨ w.heap.size ≤ k := by
  obtain ⟨i0, hi0, hz0, hz1, hz2⟩ := info_parts hi
  obtain ⟨v', w', happ, own', gr, -, pl⟩ := run_append_own_at (P := Tryz.prog) (w.alloc (.cells news.toArray e)) base t t e i0 z size bytes ht hi0 hz0 hz1 hz2 hzs h0 v n xs (own.alloc _) ⟨w.heap.size, 0, none⟩ m m news hl (fun j u hu => by
    have := (Blk.new w e news.toArray).cell j
    rw [Addr.add_lit, Nat.zero_add, this]
    simpa using hu) h1 h63 hn (by simp; omega)
  refine ⟨v', w', happ, own', ((Upd.refl _ w).alloc _).grown gr (fun k hk => .inl hk), fun k hk => ?_⟩
  rcases pl with h | h
  · exact .inl (by rw [← h]; exact hk)
  · rw [h] at hk
    injection hk with hk
    simp at hk
    exact .inr (by omega)

end Go.Proofs.YtnmkieiehjajlaaGreatDoor
