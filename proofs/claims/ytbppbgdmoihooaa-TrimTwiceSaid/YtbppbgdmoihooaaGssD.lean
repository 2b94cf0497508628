/- The shared stack (gss): copies of rows (slices.Clone, own). -/
import Derived.Test.YtbppbgdmoihooaaGssA
namespace Go.Proofs.Ytbppbgdmoihooaa
open Go.RowKit

/-- A slice at A of n elements of some cells each reads as these cells. -/
def Reads (w : World) (size : Nat) (A : Option Addr) (n : Nat) (xs : List Value) : Prop :=
  xs.length = n * size ∧ (A = none → n = 0) ∧ ∀ ad, A = some ad → ∀ j u, xs[j]? = some u → w.cell? (ad.add j) = some u
theorem Reads.nil {w : World} {size n : Nat} {xs : List Value} (h : Reads w size none n xs) : n = 0 ∧ xs = [] := by
  have hn := h.2.1 rfl
  subst hn
  exact ⟨rfl, List.eq_nil_of_length_eq_zero (by simpa using h.1)⟩
theorem Reads.of_own {w : World} {base e size n c : Nat} {A : Option Addr} {xs : List Value} (h : w.ownsRow base e size (.slice A n c) n xs) : Reads w size A n xs := by
  refine ⟨h.1, ?_, ?_⟩
  · rintro rfl
    rcases h.2 with ⟨_, h0⟩ | ⟨g, cap, cur, hv, _⟩
    · exact h0
    · injection hv with hv; cases hv
  · rintro ad rfl j u hu
    rcases h.2 with ⟨hv, _⟩ | ⟨g, cap, cur, hv, _⟩
    · injection hv with hv; cases hv
    · injection hv with hv
      injection hv with hv
      subst hv
      exact h.cells (g := g) rfl j u hu
/-- What comes back is a new row of these cells; nothing that was there has turned. -/
def NewRow (w : World) (e size n : Nat) (xs : List Value) (en : Ending) (w' : World) : Prop := ∃ v, en = .returned v ∧ w'.ownsRow w.heap.size e size v n xs ∧ Below w.heap.size w w'

theorem info_int : (Try.prog.info? 3).map (fun i => (i.zero, i.size, i.bytes)) = some (some (.int .i64 0), 1, 8) := by kernel_rfl

set_option maxHeartbeats 400000 in
set_option maxRecDepth 20000 in
theorem clone_int (w : World) (A : Option Addr) (n c : Nat) (xs : List Value) (h : Reads w 1 A n xs) (h1 : ∀ u ∈ xs, u.oneCell' = true) (hn : n * 8 ≤ 140737488355328) :
    Calls Try.prog 81 #[.slice A n c] w (NewRow w 3 1 n xs) := by
  have heq := fun (A : Option Addr) (n c n' c' : Nat) (w : World) => Lib.run_eql_slice_nil (P := Try.prog) w 44 3 A n c n' c' Try.underlying44
  rcases A with _ | ad
  · obtain ⟨rfl, rfl⟩ := h.nil
    clear h h1 hn
    go_enter Try.func81, Try.ntmps81
    go_wp2
    go_ret
    exact ⟨_, rfl, World.ownsRow_nil _ _ _ _, Below.refl _ _⟩
  · obtain ⟨i0, hi0, hz0, hz1, hz2⟩ := info_parts info_int
    have hm : n ≤ maxLen := by unfold maxLen; omega
    obtain ⟨v', w', happ, own', gr, -, -⟩ := run_append_own_at (P := Try.prog) (w.alloc (.cells #[] 3)) w.heap.size 44 44 3 i0 _ 1 8 Try.underlying44 hi0 hz0 hz1 hz2 rfl (by decide)
      (.slice (some ⟨w.heap.size, 0, none⟩) 0 0) 0 [] (World.ownsRow_made w #[] 0 (Nat.le_refl _) (Nat.zero_le _) (by simp)) ad n c xs h.1
      (fun j u hu => (World.cell?_alloc_lt w _ _ (World.block_lt_of_cell? w _ (h.2.2 ad rfl j u hu))).trans (h.2.2 ad rfl j u hu)) h1 (by simpa using hm) (by simpa using hn) (by simp)
    have fin : NewRow w 3 1 n xs (.returned v') w' := by
      refine ⟨v', rfl, by simpa using own', ((Below.refl _ _).alloc (Nat.le_refl _) _).grown gr (by simp) ?_⟩
      intro k hk
      simp [Value.ownBlock] at hk
      omega
    have FIN := Lib.hid fin
    clear fin own' gr hi0 hz0 hz1 hz2 h h1 hn hm
    go_enter Try.func81, Try.ntmps81
    go_wp2_with (at_builtin; refine wpList_append_run rfl _ _ _ rfl rfl rfl happ ?_)
    go_ret
    exact FIN.out

theorem info_frame : (Try.prog.info? 48).map (fun i => (i.zero, i.size, i.bytes)) = some (some (.agg #[.int .i64 0, .int .i64 0]), 2, 16) := by kernel_rfl

set_option maxHeartbeats 400000 in
set_option maxRecDepth 20000 in
theorem clone_frame (w : World) (A : Option Addr) (n c : Nat) (xs : List Value) (h : Reads w 2 A n xs) (h1 : ∀ u ∈ xs, u.oneCell' = true) (hn : n * 16 ≤ 140737488355328) :
    Calls Try.prog 80 #[.slice A n c] w (NewRow w 48 2 n xs) := by
  have heq := fun (A : Option Addr) (n c n' c' : Nat) (w : World) => Lib.run_eql_slice_nil (P := Try.prog) w 41 48 A n c n' c' Try.underlying41
  rcases A with _ | ad
  · obtain ⟨rfl, rfl⟩ := h.nil
    clear h h1 hn
    go_enter Try.func80, Try.ntmps80
    go_wp2
    go_ret
    exact ⟨_, rfl, World.ownsRow_nil _ _ _ _, Below.refl _ _⟩
  · obtain ⟨i0, hi0, hz0, hz1, hz2⟩ := info_parts info_frame
    have hm : n ≤ maxLen := by unfold maxLen; omega
    obtain ⟨v', w', happ, own', gr, -, -⟩ := run_append_own_at (P := Try.prog) (w.alloc (.cells #[] 48)) w.heap.size 41 41 48 i0 _ 2 16 Try.underlying41 hi0 hz0 hz1 hz2 rfl (by decide)
      (.slice (some ⟨w.heap.size, 0, none⟩) 0 0) 0 [] (World.ownsRow_made w #[] 0 (Nat.le_refl _) (Nat.zero_le _) (by simp)) ad n c xs h.1
      (fun j u hu => (World.cell?_alloc_lt w _ _ (World.block_lt_of_cell? w _ (h.2.2 ad rfl j u hu))).trans (h.2.2 ad rfl j u hu)) h1 (by simpa using hm) (by simpa using hn) (by simp)
    have fin : NewRow w 48 2 n xs (.returned v') w' := by
      refine ⟨v', rfl, by simpa using own', ((Below.refl _ _).alloc (Nat.le_refl _) _).grown gr (by simp) ?_⟩
      intro k hk
      simp [Value.ownBlock] at hk
      omega
    have FIN := Lib.hid fin
    clear fin own' gr hi0 hz0 hz1 hz2 h h1 hn hm
    go_enter Try.func80, Try.ntmps80
    go_wp2_with (at_builtin; refine wpList_append_run rfl _ _ _ rfl rfl rfl happ ?_)
    go_ret
    exact FIN.out

set_option maxHeartbeats 400000 in
set_option maxRecDepth 20000 in
theorem own_int (w : World) (v : Value) (base n : Nat) (xs : List Value) (h : w.ownsRow base 3 1 v n xs) (h1 : ∀ u ∈ xs, u.oneCell' = true) (hn : n * 8 ≤ 140737488355328) :
    Calls Try.prog 54 #[v] w (NewRow w 3 1 n xs) := by
  obtain ⟨A, c, rfl, hc, hA⟩ := own_form h
  have hr := Reads.of_own h
  have hc' : (n : Int) ≤ (c : Int) := by omega
  have hm : n ≤ 140737488355328 := by omega
  have HH := Lib.hid (And.intro hr (And.intro h1 (And.intro hn hm)))
  clear h hr h1 hn hm
  rcases hA with rfl | ⟨g, rfl⟩
  all_goals
    go_enter Try.func54, Try.ntmps54
    go_wp2_with (go_at_call 81; refine (clone_int _ _ _ _ xs HH.out.1 HH.out.2.1 HH.out.2.2.1).mono ?_; rintro e w' ⟨v', rfl, hq⟩)
    go_ret
    exact ⟨_, rfl, hq⟩

set_option maxHeartbeats 400000 in
set_option maxRecDepth 20000 in
theorem own_frame (w : World) (v : Value) (base n : Nat) (xs : List Value) (h : w.ownsRow base 48 2 v n xs) (h1 : ∀ u ∈ xs, u.oneCell' = true) (hn : n * 16 ≤ 140737488355328) :
    Calls Try.prog 53 #[v] w (NewRow w 48 2 n xs) := by
  obtain ⟨A, c, rfl, hc, hA⟩ := own_form h
  have hr := Reads.of_own h
  have hc' : (n : Int) ≤ (c : Int) := by omega
  have hm : n ≤ 140737488355328 := by omega
  have HH := Lib.hid (And.intro hr (And.intro h1 (And.intro hn hm)))
  clear h hr h1 hn hm
  rcases hA with rfl | ⟨g, rfl⟩
  all_goals
    go_enter Try.func53, Try.ntmps53
    go_wp2_with (go_at_call 80; refine (clone_frame _ _ _ _ xs HH.out.1 HH.out.2.1 HH.out.2.2.1).mono ?_; rintro e w' ⟨v', rfl, hq⟩)
    go_ret
    exact ⟨_, rfl, hq⟩
end Go.Proofs.Ytbppbgdmoihooaa
