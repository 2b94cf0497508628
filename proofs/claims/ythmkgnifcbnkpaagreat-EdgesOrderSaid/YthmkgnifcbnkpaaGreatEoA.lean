/- Edges: the order in which nodes and edges are told (the plain law). -/
import Derived.Test.YthmkgnifcbnkpaaGreatPbB
import Derived.Test.YthmkgnifcbnkpaaGreatJnA
namespace Go.Proofs.YthmkgnifcbnkpaaGreat
open Go.RowKit

theorem i64_and1023 (n : Int) : bits .and .i64 n 1023 = n % 1024 := by
  have h127 : (BitVec.ofInt 64 1023).toNat = 2 ^ 10 - 1 := by decide
  have key : (BitVec.ofInt 64 n &&& BitVec.ofInt 64 1023).toNat = (n % ((2 ^ 64 : Nat) : Int)).toNat % 2 ^ 10 := by
    rw [BitVec.toNat_and, BitVec.toNat_ofInt, h127, Nat.and_two_pow_sub_one_eq_mod]
  show IntKind.i64.wrap ((BitVec.ofInt 64 n &&& BitVec.ofInt 64 1023).toNat : Nat) = n % 1024
  rw [key, IntKind.wrap_i64]
  omega
/-- By how much the nodes are turned. -/
theorem turn_is (turn : Int) {n : Nat} (hn : 0 < n) : ∃ q : Nat, q < n ∧ (bits .and .i64 turn 1023).tmod (n : Int) = (q : Int) := by
  rw [i64_and1023]
  have h0 : 0 ≤ turn % 1024 := Int.emod_nonneg _ (by decide)
  rw [Int.tmod_eq_emod_of_nonneg h0]
  have h1 := Int.emod_nonneg (turn % 1024) (show (n : Int) ≠ 0 by omega)
  have h2 := Int.emod_lt_of_pos (turn % 1024) (show (0 : Int) < (n : Int) by omega)
  exact ⟨((turn % 1024) % (n : Int)).toNat, by omega, by omega⟩
def tellN (s : Txt) : List UInt8 := s.data.toList ++ [59]
def tellE (x : Ed) : List UInt8 := x.fr.data.toList ++ [32] ++ x.lb.data.toList ++ [9] ++ x.to.data.toList ++ [59]
theorem tells_tellN {s : Txt} (h : nameB s = true) : Tells (tellN s) [s] [] := fun p r e N0 E0 => by
  have hs : tellN s ++ r = s.data.toList ++ (59 :: r) := by simp [tellN]
  have hl : (tellN s).length = s.size + 1 := by simp [tellN]
  rw [hs, hl, scan_name h (stop_59 _), scan_semi]
  dsimp only
  rw [readM_node (mkW_word h) rfl, mkW_txt, List.append_nil]
  exact ⟨by simp only [Nat.add_assoc], by simp only [Nat.add_assoc]⟩
theorem tells_tellE {x : Ed} (h1 : nameB x.fr = true) (h2 : labelB x.lb = true) (h3 : nameB x.to = true) : Tells (tellE x) [] [x] := fun p r e N0 E0 => by
  have hs : tellE x ++ r = x.fr.data.toList ++ (32 :: (x.lb.data.toList ++ (9 :: (x.to.data.toList ++ (59 :: r))))) := by simp [tellE]
  have hl : (tellE x).length = x.fr.size + 1 + x.lb.size + 1 + x.to.size + 1 := by simp [tellE]; omega
  rw [hs, hl, scan_name h1 (stop_32 _), scan_blank (by decide), scan_name (labelB_name h2) (stop_9 _), scan_blank (by decide), scan_name h3 (stop_59 _), scan_semi]
  dsimp only
  rw [readM_edge (mkW_word h1) (mkW_low h2) (mkW_word h3) rfl, mkW_txt, mkW_txt, mkW_txt, List.append_nil]
  exact ⟨by simp only [Nat.add_assoc], by simp only [Nat.add_assoc]⟩
/-- What tells the same nodes and edges makes the same graph. -/
theorem same_of {N M : List Txt} {E F : List Ed} (h : checkI N E = 0) (hN : ∀ s, s ∈ M ↔ s ∈ N) (hE : ∀ x, x ∈ F ↔ x ∈ E) : ofI M F = 0 ∧ gN M F = N ∧ gE F = E := by
  obtain ⟨f1, f2, f3⟩ := form_iff (check_caps h).1
  obtain ⟨a, b, c⟩ := ofI_form h (M := N) (fun s => ⟨.inl, fun hs => by
    rcases hs with hs | ⟨x, hx, rfl | rfl⟩
    · exact hs
    · exact (f3 x hx).1
    · exact (f3 x hx).2⟩)
  have hends : ∀ s, (s ∈ M ∨ ∃ x ∈ F, s = x.fr ∨ s = x.to) ↔ (s ∈ N ∨ ∃ x ∈ E, s = x.fr ∨ s = x.to) := fun s => by
    constructor
    · rintro (hs | ⟨x, hx, hs⟩)
      · exact .inl ((hN s).1 hs)
      · exact .inr ⟨x, (hE x).1 hx, hs⟩
    · rintro (hs | ⟨x, hx, hs⟩)
      · exact .inl ((hN s).2 hs)
      · exact .inr ⟨x, (hE x).2 hx, hs⟩
  refine ⟨?_, by rw [gN_same hends, b], by rw [gE_same hE, c]⟩
  rw [ofI_same hends hE (fun s hs => .inl ((hN s).1 hs)) (fun s hs => .inl ((hN s).2 hs)), a]
/-- The text that tells them so, if it is none too long. -/
theorem told_text {N M : List Txt} {E F : List Ed} (h : checkI N E = 0) (hN : ∀ s, s ∈ M ↔ s ∈ N) (hE : ∀ x, x ∈ F ↔ x ∈ E) {T : Txt} (hT : T.data.toList = M.flatMap tellN ++ F.flatMap tellE) (hs : T.size ≤ 2048) : parseO T = ⟨N, E, 0, 0⟩ := by
  have hn := named_iff.1 (check_caps h).2.1
  obtain ⟨a, b, c⟩ := same_of h hN hE
  have t1 := Tells.flatN (f := tellN) (N := M) (fun s hs => tells_tellN (hn.1 s ((hN s).1 hs)))
  have t2 := Tells.flatE (f := tellE) (E := F) (fun x hx => tells_tellE (hn.2 x ((hE x).1 hx)).1 (hn.2 x ((hE x).1 hx)).2.1 (hn.2 x ((hE x).1 hx)).2.2)
  have t := t1.app t2
  rw [List.append_nil, List.nil_append, ← hT] at t
  rw [Tells.parse t hs, if_pos a, b, c]
/-- Join gives the same in either order. -/
theorem join_comm {N : List Txt} {E : List Ed} {M : List Txt} {F : List Ed} (h : checkI N E = 0) : joinI N E M F = joinI M F N E ∧ joinN N E M F = joinN M F N E ∧ joinE N E M F = joinE M F N E := by
  have hm : ∀ s : Txt, s ∈ N ++ M ↔ s ∈ M ++ N := fun s => by simp [or_comm]
  have he : ∀ x : Ed, x ∈ E ++ F ↔ x ∈ F ++ E := fun s => by simp [or_comm]
  have hends : ∀ s, (s ∈ N ++ M ∨ ∃ x ∈ E ++ F, s = x.fr ∨ s = x.to) ↔ (s ∈ M ++ N ∨ ∃ x ∈ F ++ E, s = x.fr ∨ s = x.to) := fun s => by
    constructor
    · rintro (hs | ⟨x, hx, hs⟩)
      · exact .inl ((hm s).1 hs)
      · exact .inr ⟨x, (he x).1 hx, hs⟩
    · rintro (hs | ⟨x, hx, hs⟩)
      · exact .inl ((hm s).2 hs)
      · exact .inr ⟨x, (he x).2 hx, hs⟩
  have e1 : ofI (N ++ M) (E ++ F) = ofI (M ++ N) (F ++ E) := ofI_same hends he (fun s hs => .inl ((hm s).1 hs)) (fun s hs => .inl ((hm s).2 hs))
  have e2 : joinI N E M F = joinI M F N E := by
    unfold joinI
    rw [if_neg (by rw [h]; simp)]
    by_cases hc : checkI M F ≠ 0
    · rw [if_pos hc, if_pos hc]
    · rw [if_neg hc, if_neg hc, if_neg (by rw [h]; simp), e1]
  refine ⟨e2, ?_, ?_⟩
  · unfold joinN
    rw [e2, gN_same hends]
  · unfold joinE
    rw [e2, gE_same he]
theorem join_self {N : List Txt} {E : List Ed} (h : checkI N E = 0) : joinI N E N E = 0 ∧ joinN N E N E = N ∧ joinE N E N E = E := by
  obtain ⟨a, b, c⟩ := same_of h (M := N ++ N) (F := E ++ E) (fun s => by simp) (fun x => by simp)
  have e : joinI N E N E = 0 := by rw [joinI, if_neg (by rw [h]; simp), if_neg (by rw [h]; simp), a]
  exact ⟨e, by rw [joinN, if_pos e, b], by rw [joinE, if_pos e, c]⟩
end Go.Proofs.YthmkgnifcbnkpaaGreat
