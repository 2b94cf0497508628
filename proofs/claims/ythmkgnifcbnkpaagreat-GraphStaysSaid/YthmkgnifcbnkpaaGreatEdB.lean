/- Edges: a name's letter, a name, a label; texts and edges held one against the other. -/
import Derived.Test.YthmkgnifcbnkpaaGreatEdA
import Derived.Test.YthmkgnifcbnkpaaGreatRow
import Derived.Laws.Externs
namespace Go.Proofs.YthmkgnifcbnkpaaGreat
open Go.RowKit

def letN (n : Nat) : Bool := decide ((97 ≤ n ∧ n ≤ 122) ∨ (65 ≤ n ∧ n ≤ 90) ∨ (48 ≤ n ∧ n ≤ 57) ∨ n = 95)
def nameB (s : Txt) : Bool := decide (1 ≤ s.size ∧ s.size ≤ 16) && s.data.toList.all fun b => letN b.toNat
def labelB (s : Txt) : Bool := nameB s && decide (97 ≤ (s.data.toList.headD 0).toNat ∧ (s.data.toList.headD 0).toNat ≤ 122)
/-- It only computes. -/
def Only (w : World) (v : Value) (e : Ending) (w' : World) : Prop := e = .returned v ∧ w' = w

theorem retb {a b : Bool} (h : a = b) : Ending.returned (.bool a) = .returned (.bool b) := by rw [h]
set_option maxHeartbeats 1000000 in
theorem letter_any (n : Nat) (w : World) : Calls Tryz.prog 110 #[.int .u8 (n : Int)] w (Only w (.bool (letN n))) := by
  have key : ∀ b, letN n = b → Calls Tryz.prog 110 #[.int .u8 (n : Int)] w (Only w (.bool b)) := by
    intro b hb
    have HB := Lib.hid hb
    clear hb
    go_enter Tryz.func110, Tryz.ntmps110
    go_wp2
    all_goals
      go_ret
      refine ⟨retb ?_, rfl⟩
      rw [← HB.out, Bool.eq_iff_iff]
      simp [letN]
      try omega
  exact key _ rfl

set_option maxHeartbeats 1000000 in
set_option maxRecDepth 100000 in
theorem compare_any (a b : Txt) (w : World) : Calls Tryz.prog 83 #[.string a, .string b] w (Only w (.int .i64 (cmpT a b))) := by
  have h1 : Calls Tryz.prog 112 #[.string a, .string b] w (Only w (.int .i64 (cmpT a b))) := by
    go_enter Tryz.func112, Tryz.ntmps112
    go_wp2
    rw [run_callFunc_extern Tryz.func123 (by kernel_rfl) (by kernel_rfl) (by kernel_rfl) (e := Extern.BytealgCompare.compare) (by kernel_rfl), Lib.run_compareString]
    simp only [Result.andThen]
    rw [Oper.upon_value]
    go_wp2
    go_ret
    exact ⟨rfl, rfl⟩
  generalize cmpT a b = x at h1 ⊢
  go_enter Tryz.func83, Tryz.ntmps83
  go_wp2_with fail
  refine h1.mono ?_
  rintro e w' ⟨rfl, rfl⟩
  go_wp2
  go_ret
  exact ⟨rfl, rfl⟩

theorem nameB_long {s : Txt} (h : ¬ (1 ≤ s.size ∧ s.size ≤ 16)) : nameB s = false := by simp only [nameB, decide_eq_false h, Bool.false_and]
theorem nameB_at {s : Txt} {k : Nat} (hk : k < s.size) (h : letN s[k].toNat = false) : nameB s = false := by
  unfold nameB
  rw [Bool.and_eq_false_iff]
  refine .inr ?_
  rw [List.all_eq_false]
  exact ⟨s[k], by simp [ByteArray.getElem_eq_getElem_data], by rw [h]; simp⟩
theorem nameB_all {s : Txt} (h : 1 ≤ s.size ∧ s.size ≤ 16) (ha : ∀ k (hk : k < s.size), letN s[k].toNat = true) : nameB s = true := by
  unfold nameB
  rw [decide_eq_true h, Bool.true_and, List.all_eq_true]
  intro b hb
  obtain ⟨i, hi, rfl⟩ := List.getElem_of_mem hb
  have := ha i (by simpa using hi)
  simpa [ByteArray.getElem_eq_getElem_data] using this

set_option maxHeartbeats 1000000 in
set_option maxRecDepth 100000 in
theorem name_any (s : Txt) (w : World) (hs : s.size ≤ 9223372036854775807) : Calls Tryz.prog 80 #[.string s] w (Only w (.bool (nameB s))) := by
  by_cases hl : 1 ≤ s.size ∧ s.size ≤ 16
  · have h1 : ¬ ((s.size : Int) < 1) := by omega
    have h2 : ¬ (16 < (s.size : Int)) := by omega
    have HL := Lib.hid hl
    clear hl
    go_enter Tryz.func80, Tryz.ntmps80
    go_wp2_with fail
    go_loop [3] (fun i => ∃ k : Nat, k ≤ s.size ∧ i = .int .i64 k ∧ Hid (∀ j (hj : j < s.size), j < k → letN s[j].toNat = true)) (fun i => s.size - (intOf i).toNat)
    case atStart => exact ⟨0, Nat.zero_le _, rfl, Lib.hid (fun j _ hj => by omega)⟩
    case round =>
      obtain ⟨k, hk, rfl, hall⟩ := hrel
      by_cases hlt : k < s.size
      · cases hb : letN s[k].toNat with
        | true =>
          have HB := Lib.hid hb
          go_wp2_with fail
          refine (letter_any _ _).mono ?_
          rintro e w' ⟨rfl, rfl⟩
          go_wp2
          go_round
          case rel => exact ⟨k + 1, by omega, by go_num, Lib.hid (fun j hj h => by
            rcases Nat.lt_succ_iff_lt_or_eq.1 h with h | rfl
            · exact hall.out j hj h
            · exact HB.out)⟩
          case measure => simp [intOf]; omega
        | false =>
          have HB := Lib.hid hb
          go_wp2_with fail
          refine (letter_any _ _).mono ?_
          rintro e w' ⟨rfl, rfl⟩
          go_wp2
          go_ret
          exact ⟨retb (nameB_at hlt HB.out).symm, rfl⟩
      · obtain rfl : k = s.size := by omega
        go_wp2
        go_ret
        exact ⟨retb (nameB_all HL.out (fun j hj => hall.out j hj hj)).symm, rfl⟩
  · rw [nameB_long hl]
    by_cases h1 : (s.size : Int) < 1
    · go_enter Tryz.func80, Tryz.ntmps80
      go_wp2
      go_ret
      exact ⟨rfl, rfl⟩
    · have h2 : 16 < (s.size : Int) := by omega
      go_enter Tryz.func80, Tryz.ntmps80
      go_wp2
      go_ret
      exact ⟨rfl, rfl⟩

theorem head_at {s : Txt} (h : 0 < s.size) : s.data.toList.headD 0 = s[0] := by
  obtain ⟨⟨l⟩⟩ := s
  cases l with
  | nil => simp [ByteArray.size] at h
  | cons a l => rfl
set_option maxHeartbeats 1000000 in
set_option maxRecDepth 100000 in
theorem label_any (s : Txt) (w : World) (hs : s.size ≤ 9223372036854775807) : Calls Tryz.prog 81 #[.string s] w (Only w (.bool (labelB s))) := by
  have key : ∀ b, labelB s = b → Calls Tryz.prog 81 #[.string s] w (Only w (.bool b)) := by
    intro b hb
    cases hn : nameB s with
    | false =>
      have e : b = false := by rw [← hb, labelB, hn, Bool.false_and]
      subst e
      have hcon := name_any s w hs
      rw [hn] at hcon
      clear hb hn
      go_enter Tryz.func81, Tryz.ntmps81
      go_wp2_with fail
      refine hcon.mono ?_
      rintro e w' ⟨rfl, rfl⟩
      go_wp2
      go_ret
      exact ⟨rfl, rfl⟩
    | true =>
      have h1 : 0 < s.size := by
        unfold nameB at hn
        simp at hn
        omega
      have hb' : decide (97 ≤ (s[0].toNat : Int) ∧ (s[0].toNat : Int) ≤ 122) = b := by
        rw [← hb, labelB, hn, Bool.true_and, head_at h1]
        exact decide_eq_decide.2 (by omega)
      have hcon := name_any s w hs
      rw [hn] at hcon
      have HB := Lib.hid hb'
      have h2 : (0 : Int) < (s.size : Int) := by omega
      clear hb hn hb'
      go_enter Tryz.func81, Tryz.ntmps81
      go_wp2_with fail
      refine hcon.mono ?_
      rintro e w' ⟨rfl, rfl⟩
      go_wp2
      all_goals
        go_ret
        refine ⟨retb ?_, rfl⟩
        rw [← HB.out, Bool.eq_iff_iff]
        simp
        try omega
  exact key _ rfl
end Go.Proofs.YthmkgnifcbnkpaaGreat
