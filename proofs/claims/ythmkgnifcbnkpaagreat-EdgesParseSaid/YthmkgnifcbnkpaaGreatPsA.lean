/- The document's answer of layer 6: a text cut into marks; may a mark stand there? -/
import Derived.Test.YthmkgnifcbnkpaaGreatRg3
import Derived.Test.YthmkgnifcbnkpaaGreatPbA
namespace Go.Proofs.YthmkgnifcbnkpaaGreat
open Go.RowKit

set_option maxHeartbeats 1000000 in
theorem refBlank_any (n : Nat) (w : World) : Calls Tryz.prog 77 #[.int .u8 (n : Int)] w (Only w (.bool (blankN n))) := by
  have key : ∀ b, blankN n = b → Calls Tryz.prog 77 #[.int .u8 (n : Int)] w (Only w (.bool b)) := by
    intro b hb
    have HB := Lib.hid hb
    clear hb
    go_enter Tryz.func77, Tryz.ntmps77
    go_wp2
    all_goals
      go_ret
      refine ⟨retb ?_, rfl⟩
      rw [← HB.out, Bool.eq_iff_iff]
      simp [blankN]
      try omega
  exact key _ rfl
def signL : List Nat := [61, 59, 124, 42, 43, 63, 40, 41, 37]
theorem kind_rest {n : Nat} (h : ∀ j, j < 9 → signL[j]? ≠ some n) : kindN n = if 65 ≤ n ∧ n ≤ 90 then 1 else if 97 ≤ n ∧ n ≤ 122 then 2 else if letN n then 3 else 0 := by
  have h0 : n ≠ 61 := fun e => h 0 (by decide) (by rw [e]; rfl)
  have h1 : n ≠ 59 := fun e => h 1 (by decide) (by rw [e]; rfl)
  have h2 : n ≠ 124 := fun e => h 2 (by decide) (by rw [e]; rfl)
  have h3 : n ≠ 42 := fun e => h 3 (by decide) (by rw [e]; rfl)
  have h4 : n ≠ 43 := fun e => h 4 (by decide) (by rw [e]; rfl)
  have h5 : n ≠ 63 := fun e => h 5 (by decide) (by rw [e]; rfl)
  have h6 : n ≠ 40 := fun e => h 6 (by decide) (by rw [e]; rfl)
  have h7 : n ≠ 41 := fun e => h 7 (by decide) (by rw [e]; rfl)
  have h8 : n ≠ 37 := fun e => h 8 (by decide) (by rw [e]; rfl)
  unfold kindN
  rw [if_neg h0, if_neg h1, if_neg h2, if_neg h3, if_neg h4, if_neg h5, if_neg h6, if_neg h7, if_neg h8]
set_option maxHeartbeats 2000000 in
set_option maxRecDepth 100000 in
theorem refBegins_any (n : Nat) (w : World) : Calls Tryz.prog 78 #[.int .u8 (n : Int)] w (Only w (.int .i64 (kindN n))) := by
  obtain ⟨z, hz⟩ : ∃ z, kindN n = z := ⟨_, rfl⟩
  rw [hz]
  have HZ := Lib.hid hz
  clear hz
  go_enter Tryz.func78, Tryz.ntmps78
  go_wp2_with fail
  go_loop [4] (fun i => ∃ k : Nat, k ≤ 9 ∧ i = .int .i64 k ∧ Hid (∀ j, j < k → signL[j]? ≠ some n)) (fun i => 9 - (intOf i).toNat)
  case atStart => exact ⟨0, Nat.zero_le _, rfl, Lib.hid (fun j hj => by omega)⟩
  case round =>
    obtain ⟨k, hk, rfl, hall⟩ := hrel
    have hk9 : k = 0 ∨ k = 1 ∨ k = 2 ∨ k = 3 ∨ k = 4 ∨ k = 5 ∨ k = 6 ∨ k = 7 ∨ k = 8 ∨ k = 9 := by omega
    rcases hk9 with rfl | rfl | rfl | rfl | rfl | rfl | rfl | rfl | rfl | rfl
    · have hsk : ((⟨#[61, 59, 124, 42, 43, 63, 40, 41, 37]⟩ : ByteArray)[0]'(by decide)).toNat = 61 := rfl
      by_cases hn : n = 61
      · subst hn
        have HE := Lib.hid (show (4 : Int) = (z : Int) by rw [← HZ.out]; rfl)
        clear hall
        go_wp2
        go_ret
        exact ⟨retk HE.out, rfl⟩
      · have hb : ((61 : Int) == (n : Int)) = false := by simp; omega
        have HN := Lib.hid (show ∀ j, j < 1 → signL[j]? ≠ some n from fun j hj => by
          rcases Nat.lt_succ_iff_lt_or_eq.1 hj with h | rfl
          · exact hall.out j h
          · intro e
            simp [signL] at e
            omega)
        clear hall hn
        go_wp2
        go_round
        case rel => exact ⟨1, by omega, by go_num, HN⟩
        case measure => simp [intOf]
    · have hsk : ((⟨#[61, 59, 124, 42, 43, 63, 40, 41, 37]⟩ : ByteArray)[1]'(by decide)).toNat = 59 := rfl
      by_cases hn : n = 59
      · subst hn
        have HE := Lib.hid (show (5 : Int) = (z : Int) by rw [← HZ.out]; rfl)
        clear hall
        go_wp2
        go_ret
        exact ⟨retk HE.out, rfl⟩
      · have hb : ((59 : Int) == (n : Int)) = false := by simp; omega
        have HN := Lib.hid (show ∀ j, j < 2 → signL[j]? ≠ some n from fun j hj => by
          rcases Nat.lt_succ_iff_lt_or_eq.1 hj with h | rfl
          · exact hall.out j h
          · intro e
            simp [signL] at e
            omega)
        clear hall hn
        go_wp2
        go_round
        case rel => exact ⟨2, by omega, by go_num, HN⟩
        case measure => simp [intOf]
    · have hsk : ((⟨#[61, 59, 124, 42, 43, 63, 40, 41, 37]⟩ : ByteArray)[2]'(by decide)).toNat = 124 := rfl
      by_cases hn : n = 124
      · subst hn
        have HE := Lib.hid (show (6 : Int) = (z : Int) by rw [← HZ.out]; rfl)
        clear hall
        go_wp2
        go_ret
        exact ⟨retk HE.out, rfl⟩
      · have hb : ((124 : Int) == (n : Int)) = false := by simp; omega
        have HN := Lib.hid (show ∀ j, j < 3 → signL[j]? ≠ some n from fun j hj => by
          rcases Nat.lt_succ_iff_lt_or_eq.1 hj with h | rfl
          · exact hall.out j h
          · intro e
            simp [signL] at e
            omega)
        clear hall hn
        go_wp2
        go_round
        case rel => exact ⟨3, by omega, by go_num, HN⟩
        case measure => simp [intOf]
    · have hsk : ((⟨#[61, 59, 124, 42, 43, 63, 40, 41, 37]⟩ : ByteArray)[3]'(by decide)).toNat = 42 := rfl
      by_cases hn : n = 42
      · subst hn
        have HE := Lib.hid (show (7 : Int) = (z : Int) by rw [← HZ.out]; rfl)
        clear hall
        go_wp2
        go_ret
        exact ⟨retk HE.out, rfl⟩
      · have hb : ((42 : Int) == (n : Int)) = false := by simp; omega
        have HN := Lib.hid (show ∀ j, j < 4 → signL[j]? ≠ some n from fun j hj => by
          rcases Nat.lt_succ_iff_lt_or_eq.1 hj with h | rfl
          · exact hall.out j h
          · intro e
            simp [signL] at e
            omega)
        clear hall hn
        go_wp2
        go_round
        case rel => exact ⟨4, by omega, by go_num, HN⟩
        case measure => simp [intOf]
    · have hsk : ((⟨#[61, 59, 124, 42, 43, 63, 40, 41, 37]⟩ : ByteArray)[4]'(by decide)).toNat = 43 := rfl
      by_cases hn : n = 43
      · subst hn
        have HE := Lib.hid (show (8 : Int) = (z : Int) by rw [← HZ.out]; rfl)
        clear hall
        go_wp2
        go_ret
        exact ⟨retk HE.out, rfl⟩
      · have hb : ((43 : Int) == (n : Int)) = false := by simp; omega
        have HN := Lib.hid (show ∀ j, j < 5 → signL[j]? ≠ some n from fun j hj => by
          rcases Nat.lt_succ_iff_lt_or_eq.1 hj with h | rfl
          · exact hall.out j h
          · intro e
            simp [signL] at e
            omega)
        clear hall hn
        go_wp2
        go_round
        case rel => exact ⟨5, by omega, by go_num, HN⟩
        case measure => simp [intOf]
    · have hsk : ((⟨#[61, 59, 124, 42, 43, 63, 40, 41, 37]⟩ : ByteArray)[5]'(by decide)).toNat = 63 := rfl
      by_cases hn : n = 63
      · subst hn
        have HE := Lib.hid (show (9 : Int) = (z : Int) by rw [← HZ.out]; rfl)
        clear hall
        go_wp2
        go_ret
        exact ⟨retk HE.out, rfl⟩
      · have hb : ((63 : Int) == (n : Int)) = false := by simp; omega
        have HN := Lib.hid (show ∀ j, j < 6 → signL[j]? ≠ some n from fun j hj => by
          rcases Nat.lt_succ_iff_lt_or_eq.1 hj with h | rfl
          · exact hall.out j h
          · intro e
            simp [signL] at e
            omega)
        clear hall hn
        go_wp2
        go_round
        case rel => exact ⟨6, by omega, by go_num, HN⟩
        case measure => simp [intOf]
    · have hsk : ((⟨#[61, 59, 124, 42, 43, 63, 40, 41, 37]⟩ : ByteArray)[6]'(by decide)).toNat = 40 := rfl
      by_cases hn : n = 40
      · subst hn
        have HE := Lib.hid (show (10 : Int) = (z : Int) by rw [← HZ.out]; rfl)
        clear hall
        go_wp2
        go_ret
        exact ⟨retk HE.out, rfl⟩
      · have hb : ((40 : Int) == (n : Int)) = false := by simp; omega
        have HN := Lib.hid (show ∀ j, j < 7 → signL[j]? ≠ some n from fun j hj => by
          rcases Nat.lt_succ_iff_lt_or_eq.1 hj with h | rfl
          · exact hall.out j h
          · intro e
            simp [signL] at e
            omega)
        clear hall hn
        go_wp2
        go_round
        case rel => exact ⟨7, by omega, by go_num, HN⟩
        case measure => simp [intOf]
    · have hsk : ((⟨#[61, 59, 124, 42, 43, 63, 40, 41, 37]⟩ : ByteArray)[7]'(by decide)).toNat = 41 := rfl
      by_cases hn : n = 41
      · subst hn
        have HE := Lib.hid (show (11 : Int) = (z : Int) by rw [← HZ.out]; rfl)
        clear hall
        go_wp2
        go_ret
        exact ⟨retk HE.out, rfl⟩
      · have hb : ((41 : Int) == (n : Int)) = false := by simp; omega
        have HN := Lib.hid (show ∀ j, j < 8 → signL[j]? ≠ some n from fun j hj => by
          rcases Nat.lt_succ_iff_lt_or_eq.1 hj with h | rfl
          · exact hall.out j h
          · intro e
            simp [signL] at e
            omega)
        clear hall hn
        go_wp2
        go_round
        case rel => exact ⟨8, by omega, by go_num, HN⟩
        case measure => simp [intOf]
    · have hsk : ((⟨#[61, 59, 124, 42, 43, 63, 40, 41, 37]⟩ : ByteArray)[8]'(by decide)).toNat = 37 := rfl
      by_cases hn : n = 37
      · subst hn
        have HE := Lib.hid (show (12 : Int) = (z : Int) by rw [← HZ.out]; rfl)
        clear hall
        go_wp2
        go_ret
        exact ⟨retk HE.out, rfl⟩
      · have hb : ((37 : Int) == (n : Int)) = false := by simp; omega
        have HN := Lib.hid (show ∀ j, j < 9 → signL[j]? ≠ some n from fun j hj => by
          rcases Nat.lt_succ_iff_lt_or_eq.1 hj with h | rfl
          · exact hall.out j h
          · intro e
            simp [signL] at e
            omega)
        clear hall hn
        go_wp2
        go_round
        case rel => exact ⟨9, by omega, by go_num, HN⟩
        case measure => simp [intOf]
    · have hr := kind_rest hall.out
      rw [HZ.out] at hr
      have HR := Lib.hid hr
      clear hr hall
      by_cases a1 : 65 ≤ n ∧ n ≤ 90
      · have b1 : (65 : Int) ≤ (n : Int) := by omega
        have b2 : (n : Int) ≤ 90 := by omega
        have HE := Lib.hid (show (1 : Int) = (z : Int) by rw [HR.out, if_pos a1]; rfl)
        clear a1
        go_wp2
        go_ret
        exact ⟨retk HE.out, rfl⟩
      by_cases a2 : 97 ≤ n ∧ n ≤ 122
      · have b1 : (65 : Int) ≤ (n : Int) := by omega
        have b2 : ¬ ((n : Int) ≤ 90) := by omega
        have b3 : (97 : Int) ≤ (n : Int) := by omega
        have b4 : (n : Int) ≤ 122 := by omega
        have HE := Lib.hid (show (2 : Int) = (z : Int) by rw [HR.out, if_neg a1, if_pos a2]; rfl)
        clear a1 a2
        go_wp2
        go_ret
        exact ⟨retk HE.out, rfl⟩
      have HA := Lib.hid (And.intro a1 a2)
      obtain ⟨lb, hlb⟩ : ∃ b, letN n = b := ⟨_, rfl⟩
      have HL := Lib.hid hlb
      have hfin : z = if lb then 3 else 0 := by rw [HR.out, if_neg a1, if_neg a2, hlb]
      have HF := Lib.hid hfin
      clear hlb hfin HR
      by_cases c1 : (65 : Int) ≤ (n : Int)
      · have c2 : ¬ ((n : Int) ≤ 90) := by omega
        by_cases c3 : (97 : Int) ≤ (n : Int)
        · have c4 : ¬ ((n : Int) ≤ 122) := by omega
          clear a1 a2
          go_wp2_with fail
          refine (refInner_any _ _).mono ?_
          rintro e w' ⟨rfl, hw⟩
          subst w'
          rw [HL.out]
          cases lb with
          | true =>
            have HE := Lib.hid (show (3 : Int) = (z : Int) by rw [HF.out]; rfl)
            go_wp2
            go_ret
            exact ⟨retk HE.out, rfl⟩
          | false =>
            have HE := Lib.hid (show (0 : Int) = (z : Int) by rw [HF.out]; rfl)
            go_wp2
            go_ret
            exact ⟨retk HE.out, rfl⟩
        · clear a1 a2
          go_wp2_with fail
          refine (refInner_any _ _).mono ?_
          rintro e w' ⟨rfl, hw⟩
          subst w'
          rw [HL.out]
          cases lb with
          | true =>
            have HE := Lib.hid (show (3 : Int) = (z : Int) by rw [HF.out]; rfl)
            go_wp2
            go_ret
            exact ⟨retk HE.out, rfl⟩
          | false =>
            have HE := Lib.hid (show (0 : Int) = (z : Int) by rw [HF.out]; rfl)
            go_wp2
            go_ret
            exact ⟨retk HE.out, rfl⟩
      · have c3 : ¬ ((97 : Int) ≤ (n : Int)) := by omega
        clear a1 a2
        go_wp2_with fail
        refine (refInner_any _ _).mono ?_
        rintro e w' ⟨rfl, hw⟩
        subst w'
        rw [HL.out]
        cases lb with
        | true =>
          have HE := Lib.hid (show (3 : Int) = (z : Int) by rw [HF.out]; rfl)
          go_wp2
          go_ret
          exact ⟨retk HE.out, rfl⟩
        | false =>
          have HE := Lib.hid (show (0 : Int) = (z : Int) by rw [HF.out]; rfl)
          go_wp2
          go_ret
          exact ⟨retk HE.out, rfl⟩

theorem push_mk (w : World) (base : Nat) (v : Value) (L : List Mk) (own : w.ownsRow base 72 3 v L.length (mkCells L)) (m : Mk) (hl : (L.length + 1) * 32 ≤ 140737488355328) (hb : base ≤ w.heap.size) :
    ∃ v' w', (Builtin.append_ #[64, 64] 64 #[v, .slice (some ⟨w.heap.size, 0, none⟩) 1 1]).run Tryz.prog (w.alloc (.cells m.cells.toArray 72)) = .ok v' w' ∧ w'.ownsRow base 72 3 v' (L ++ [m]).length (mkCells (L ++ [m])) ∧ Upd (fun k => v.ownBlock = some k) w w' ∧ ∀ k, v'.ownBlock = some k → v.ownBlock = some k ∨ w.heap.size ≤ k := by
  obtain ⟨v', w', happ, own', up, pl⟩ := push_own w base 64 72 3 32 _ Tryz.underlying64 info_mark rfl (by decide) v L.length _ own m.cells 1 rfl (one_mk m) hl (by unfold maxLen; omega) hb
  refine ⟨v', w', happ, ?_, up, pl⟩
  rw [List.length_append, mkCells, List.flatMap_append]
  simpa [mkCells] using own'
theorem Led.blank {L : List UInt8} {k p : Nat} {b : UInt8} (h : Led L k p) (hb : L.drop p = b :: L.drop (p + 1)) (hk : blankN b.toNat = true) (hp : p < L.length) : Led L k (p + 1) := by
  have e : scan p (L.drop p) = scan (p + 1) (L.drop (p + 1)) := by rw [hb, scan_blank hk]
  exact ⟨by rw [h.rest, e], by rw [h.fin, e], hp, h.lek⟩
def CutP (w : World) (s : Txt) (e : Ending) (w' : World) : Prop :=
  ∃ A c, e = .returned (.tuple #[.slice A (msOf s).length c, .int .i64 (enOf s)]) ∧ w'.ownsRow w.heap.size 72 3 (.slice A (msOf s).length c) (msOf s).length (mkCells (msOf s)) ∧ Below w.heap.size w w'
theorem cut_done {s : Txt} {k p : Nat} {w wr : World} {A : Option Addr} {c : Nat} (hL : Led s.data.toList k p) (hz : (nextL p (s.data.toList.drop p)).kind = 0) (hp : (nextL p (s.data.toList.drop p)).pl = p) (how : wr.ownsRow w.heap.size 72 3 (.slice A k c) k (mkCells ((msOf s).take k))) (hb : Below w.heap.size w wr) : CutP w s (.returned (.tuple #[.slice A k c, .int .i64 p])) wr := by
  obtain ⟨h1, h2⟩ := hL.done hz
  rw [hp] at h2
  have e1 : (msOf s).length = k := h1.symm
  have e2 : enOf s = p := h2
  rw [List.take_of_length_le (by rw [e1]; exact Nat.le_refl _)] at how
  exact ⟨A, c, by rw [e1, e2], by rw [e1]; exact how, hb⟩
set_option maxHeartbeats 4000000 in
set_option maxRecDepth 100000 in
theorem cut_any (s : Txt) (w : World) (hs : s.size ≤ 2048) : Calls Tryz.prog 42 #[.string s] w (CutP w s) := by
  go_enter Tryz.func42, Tryz.ntmps42
  go_wp2_with fail
  go_loopw [4, 5] (fun v i wr => ∃ p k : Nat, p ≤ s.size ∧ i = .int .i64 p ∧ Hid (Led s.data.toList k p) ∧ Hid (Below w.heap.size w wr) ∧ Hid (wr.ownsRow w.heap.size 72 3 v k (mkCells ((msOf s).take k)))) (fun _ i _ => s.size - (intOf i).toNat)
  case atStart => exact ⟨0, 0, Nat.zero_le _, rfl, Lib.hid (Led.start _), Lib.hid (Below.refl _ _), Lib.hid (by simpa [mkCells] using World.ownsRow_nil w w.heap.size 72 3)⟩
  case round =>
    obtain ⟨p, k, hp, rfl, hL, hbw, how⟩ := hrel
    by_cases hlt : p < s.size
    · have hpw : IntKind.i64.wrap ((p : Int) + 1) = (p : Int) + 1 := IntWalk.i64_in _ (by omega)
      obtain ⟨b, hb⟩ : ∃ b, s[p].toNat = b := ⟨_, rfl⟩
      have hdr := drop_at hlt
      cases hbl : blankN b with
      | true =>
        have HN := Lib.hid (hL.out.blank hdr (by rw [hb]; exact hbl) (by rw [size_data]; exact hlt))
        have HB := Lib.hid hbl
        clear hdr hbl hL
        go_wp2_with fail
        refine (refBlank_any _ _).mono ?_
        rintro e w' ⟨rfl, hw⟩
        subst w'
        rw [HB.out]
        go_wp2
        go_roundw
        case rel => exact ⟨p + 1, k, by omega, by go_num, HN, hbw, how⟩
        case measure => simp [intOf]; omega
      | false =>
        obtain ⟨q, hq⟩ : ∃ q, kindN b = q := ⟨_, rfl⟩
        have HB := Lib.hid (And.intro hbl hq)
        by_cases hq0 : q = 0
        · subst hq0
          obtain ⟨A5, c5, rfl, -, -⟩ := own_form how.out
          have hnx : nextL p (s.data.toList.drop p) = ⟨0, p, []⟩ := by rw [hdr, nextL, hb, if_neg (by rw [hbl]; simp), if_pos hq]
          have FIN := Lib.hid (cut_done hL.out (by rw [hnx]) (by rw [hnx]) how.out hbw.out)
          clear hdr hnx hbl hq hL how hbw
          go_wp2_with fail
          refine (refBlank_any _ _).mono ?_
          rintro e w' ⟨rfl, hw⟩
          subst w'
          rw [HB.out.1]
          go_wp2_with fail
          refine (refBegins_any _ _).mono ?_
          rintro e w' ⟨rfl, hw⟩
          subst w'
          rw [HB.out.2]
          go_wp2
          refine bodyPost_ret (v := .tuple #[.slice A5 k c5, .int .i64 p]) (by simp [results, Tryz.f42, go_sem]) rfl FIN.out
        · have HM := Lib.hid (show nextL p (s.data.toList.drop p) = ⟨q, p, s[p] :: (if q ≤ 3 then wordL (s.data.toList.drop (p + 1)) else [])⟩ by rw [hdr, nextL, hb, if_neg (by rw [hbl]; simp), hq, if_neg hq0])
          have hq1 : ((q : Int) == 0) = false := by simpa using hq0
          have HX0 : (s.extract p (p + 1)).data.toList ++ wordL (s.data.toList.drop (p + 1)) = s[p] :: wordL (s.data.toList.drop (p + 1)) := by
            rw [ext_list s p (p + 1) (by omega), hdr]
            simp
          have HX1 := Lib.hid HX0
          clear hdr hbl hq HX0
          go_wp2_with fail
          refine (refBlank_any _ _).mono ?_
          rintro e w' ⟨rfl, hw⟩
          subst w'
          rw [HB.out.1]
          go_wp2_with fail
          refine (refBegins_any _ _).mono ?_
          rintro e w' ⟨rfl, hw⟩
          subst w'
          rw [HB.out.2]
          go_wp2_with fail
          go_loop [7] (fun jv => ∃ j : Nat, p + 1 ≤ j ∧ j ≤ s.size ∧ jv = .int .i64 j ∧ (3 < q → j = p + 1) ∧ Hid ((s.extract p j).data.toList ++ wordL (s.data.toList.drop j) = s[p] :: wordL (s.data.toList.drop (p + 1)))) (fun jv => s.size - (intOf jv).toNat)
          case atStart => exact ⟨p + 1, Nat.le_refl _, by omega, by go_num, fun _ => rfl, HX1⟩
          case round =>
            obtain ⟨j, hpj1, hjs, rfl, hj3, hx⟩ := hrel
            have hjw : IntKind.i64.wrap ((j : Int) + 1) = (j : Int) + 1 := IntWalk.i64_in _ (by omega)
            by_cases hq3 : q ≤ 3
            · have hq3I : (q : Int) ≤ 3 := by omega
              by_cases hje : j < s.size
              · obtain ⟨dd, hdd⟩ : ∃ d, s[j].toNat = d := ⟨_, rfl⟩
                cases hlb : letN dd with
                | true =>
                  have HX2 := Lib.hid (show (s.extract p (j + 1)).data.toList ++ wordL (s.data.toList.drop (j + 1)) = s[p] :: wordL (s.data.toList.drop (p + 1)) by
                    have h := hx.out
                    rw [drop_at hje, word_step (by rw [hdd, hlb])] at h
                    rw [ext_step (by omega) hje, List.append_assoc]
                    exact h)
                  go_wp2_with fail
                  refine (refInner_any _ _).mono ?_
                  rintro e2 w2 ⟨rfl, hw⟩
                  subst w2
                  (try rw [hlb])
                  go_wp2
                  go_round
                  case rel => exact ⟨j + 1, by omega, by omega, by go_num, fun h => by omega, HX2⟩
                  case measure => simp [intOf]; omega
                | false =>
                  have HX := Lib.hid (show s[p] :: (if q ≤ 3 then wordL (s.data.toList.drop (p + 1)) else []) = (s.extract p j).data.toList by
                    have h := hx.out
                    rw [drop_at hje, word_stop (by rw [hdd, hlb]), List.append_nil] at h
                    rw [if_pos hq3]
                    exact h.symm)
                  go_wp2_with fail
                  refine (refInner_any _ _).mono ?_
                  rintro e2 w2 ⟨rfl, hw⟩
                  subst w2
                  (try rw [hlb])
                  clear hj3
                  have hmk : nextL p (s.data.toList.drop p) = ⟨q, p, (s.extract p j).data.toList⟩ := by rw [HM.out, HX.out]
                  have hq00 : (nextL p (s.data.toList.drop p)).kind ≠ 0 := by rw [hmk]; exact hq0
                  obtain ⟨hat, hled⟩ := hL.out.more hq00
                  rw [hmk] at hat hled
                  have hjl : (s.extract p j).data.toList.length = j - p := by rw [ext_list s p j hjs, List.length_take, List.length_drop, size_data]; omega
                  dsimp only at hled
                  rw [hjl, show p + (j - p) = j by omega] at hled
                  have hst : (msOf s).take (k + 1) = (msOf s).take k ++ [⟨q, p, (s.extract p j).data.toList⟩] := take_snoc' hat
                  have hkl : ((msOf s).take k).length = k := by
                    have := (List.getElem?_eq_some_iff.1 hat).1
                    rw [List.length_take]
                    exact Nat.min_eq_left (Nat.le_of_lt this)
                  have hk1 : k + 1 ≤ 2048 := by
                    have h1 := (List.getElem?_eq_some_iff.1 hat).1
                    have h2 := msOf_len s
                    show _ ≤ _
                    unfold msOf at h2
                    omega
                  obtain ⟨v6, w6, happ, own6, u6, -⟩ := push_mk wr w.heap.size _ ((msOf s).take k) (by rw [hkl]; exact how.out) ⟨q, p, (s.extract p j).data.toList⟩ (by rw [hkl]; omega) hbw.out.size
                  unfold Mk.cells at happ
                  dsimp only at happ
                  rw [toTxt_list] at happ
                  rw [← hst] at own6
                  have hkl1 : ((msOf s).take (k + 1)).length = k + 1 := by rw [hst, List.length_append, hkl, List.length_singleton]
                  rw [hkl1] at own6
                  have HN := Lib.hid (And.intro (hbw.out.trans (u6.below (fun g _ e => (how.out.lt g e).1) hbw.out.size)) (And.intro own6 hled))
                  have hpj : p ≤ j := by omega
                  have hpjI : (p : Int) ≤ (j : Int) := by omega
                  have hjsI : (j : Int) ≤ (s.size : Int) := by omega
                  clear hmk hq00 hat hled hst hkl hkl1 hjl own6 u6 hk1
                  go_wp2_with (at_builtin; refine wpList_append_run rfl _ _ _ rfl rfl rfl happ ?_)
                  go_roundw
                  case rel => exact ⟨j, k + 1, by omega, rfl, Lib.hid HN.out.2.2, Lib.hid HN.out.1, Lib.hid HN.out.2.1⟩
                  case measure => simp [intOf]; omega
              · have HX := Lib.hid (show s[p] :: (if q ≤ 3 then wordL (s.data.toList.drop (p + 1)) else []) = (s.extract p j).data.toList by
                  have h := hx.out
                  rw [List.drop_of_length_le (by rw [size_data]; omega), show wordL [] = [] from rfl, List.append_nil] at h
                  rw [if_pos hq3]
                  exact h.symm)
                have hjeI : ¬ ((j : Int) < (s.size : Int)) := by omega
                clear hj3
                have hmk : nextL p (s.data.toList.drop p) = ⟨q, p, (s.extract p j).data.toList⟩ := by rw [HM.out, HX.out]
                have hq00 : (nextL p (s.data.toList.drop p)).kind ≠ 0 := by rw [hmk]; exact hq0
                obtain ⟨hat, hled⟩ := hL.out.more hq00
                rw [hmk] at hat hled
                have hjl : (s.extract p j).data.toList.length = j - p := by rw [ext_list s p j hjs, List.length_take, List.length_drop, size_data]; omega
                dsimp only at hled
                rw [hjl, show p + (j - p) = j by omega] at hled
                have hst : (msOf s).take (k + 1) = (msOf s).take k ++ [⟨q, p, (s.extract p j).data.toList⟩] := take_snoc' hat
                have hkl : ((msOf s).take k).length = k := by
                  have := (List.getElem?_eq_some_iff.1 hat).1
                  rw [List.length_take]
                  exact Nat.min_eq_left (Nat.le_of_lt this)
                have hk1 : k + 1 ≤ 2048 := by
                  have h1 := (List.getElem?_eq_some_iff.1 hat).1
                  have h2 := msOf_len s
                  show _ ≤ _
                  unfold msOf at h2
                  omega
                obtain ⟨v6, w6, happ, own6, u6, -⟩ := push_mk wr w.heap.size _ ((msOf s).take k) (by rw [hkl]; exact how.out) ⟨q, p, (s.extract p j).data.toList⟩ (by rw [hkl]; omega) hbw.out.size
                unfold Mk.cells at happ
                dsimp only at happ
                rw [toTxt_list] at happ
                rw [← hst] at own6
                have hkl1 : ((msOf s).take (k + 1)).length = k + 1 := by rw [hst, List.length_append, hkl, List.length_singleton]
                rw [hkl1] at own6
                have HN := Lib.hid (And.intro (hbw.out.trans (u6.below (fun g _ e => (how.out.lt g e).1) hbw.out.size)) (And.intro own6 hled))
                have hpj : p ≤ j := by omega
                have hpjI : (p : Int) ≤ (j : Int) := by omega
                have hjsI : (j : Int) ≤ (s.size : Int) := by omega
                clear hmk hq00 hat hled hst hkl hkl1 hjl own6 u6 hk1
                go_wp2_with (at_builtin; refine wpList_append_run rfl _ _ _ rfl rfl rfl happ ?_)
                go_roundw
                case rel => exact ⟨j, k + 1, by omega, rfl, Lib.hid HN.out.2.2, Lib.hid HN.out.1, Lib.hid HN.out.2.1⟩
                case measure => simp [intOf]; omega
            · have hq3I : ¬ ((q : Int) ≤ 3) := by omega
              have hjp : j = p + 1 := hj3 (by omega)
              have HX := Lib.hid (show s[p] :: (if q ≤ 3 then wordL (s.data.toList.drop (p + 1)) else []) = (s.extract p j).data.toList by
                have h := HX1.out
                rw [if_neg hq3, hjp, ext_list s p (p + 1) (by omega), drop_at hlt]
                simp)
              clear hjp
              clear hj3
              have hmk : nextL p (s.data.toList.drop p) = ⟨q, p, (s.extract p j).data.toList⟩ := by rw [HM.out, HX.out]
              have hq00 : (nextL p (s.data.toList.drop p)).kind ≠ 0 := by rw [hmk]; exact hq0
              obtain ⟨hat, hled⟩ := hL.out.more hq00
              rw [hmk] at hat hled
              have hjl : (s.extract p j).data.toList.length = j - p := by rw [ext_list s p j hjs, List.length_take, List.length_drop, size_data]; omega
              dsimp only at hled
              rw [hjl, show p + (j - p) = j by omega] at hled
              have hst : (msOf s).take (k + 1) = (msOf s).take k ++ [⟨q, p, (s.extract p j).data.toList⟩] := take_snoc' hat
              have hkl : ((msOf s).take k).length = k := by
                have := (List.getElem?_eq_some_iff.1 hat).1
                rw [List.length_take]
                exact Nat.min_eq_left (Nat.le_of_lt this)
              have hk1 : k + 1 ≤ 2048 := by
                have h1 := (List.getElem?_eq_some_iff.1 hat).1
                have h2 := msOf_len s
                show _ ≤ _
                unfold msOf at h2
                omega
              obtain ⟨v6, w6, happ, own6, u6, -⟩ := push_mk wr w.heap.size _ ((msOf s).take k) (by rw [hkl]; exact how.out) ⟨q, p, (s.extract p j).data.toList⟩ (by rw [hkl]; omega) hbw.out.size
              unfold Mk.cells at happ
              dsimp only at happ
              rw [toTxt_list] at happ
              rw [← hst] at own6
              have hkl1 : ((msOf s).take (k + 1)).length = k + 1 := by rw [hst, List.length_append, hkl, List.length_singleton]
              rw [hkl1] at own6
              have HN := Lib.hid (And.intro (hbw.out.trans (u6.below (fun g _ e => (how.out.lt g e).1) hbw.out.size)) (And.intro own6 hled))
              have hpj : p ≤ j := by omega
              have hpjI : (p : Int) ≤ (j : Int) := by omega
              have hjsI : (j : Int) ≤ (s.size : Int) := by omega
              clear hmk hq00 hat hled hst hkl hkl1 hjl own6 u6 hk1
              go_wp2_with (at_builtin; refine wpList_append_run rfl _ _ _ rfl rfl rfl happ ?_)
              go_roundw
              case rel => exact ⟨j, k + 1, by omega, rfl, Lib.hid HN.out.2.2, Lib.hid HN.out.1, Lib.hid HN.out.2.1⟩
              case measure => simp [intOf]; omega
    · obtain rfl : p = s.size := by omega
      obtain ⟨A5, c5, rfl, -, -⟩ := own_form how.out
      have hnx : nextL s.size (s.data.toList.drop s.size) = ⟨0, s.size, []⟩ := by rw [List.drop_of_length_le (by rw [size_data]; exact Nat.le_refl _)]; rfl
      have FIN := Lib.hid (cut_done hL.out (by rw [hnx]) (by rw [hnx]) how.out hbw.out)
      clear hnx hL how hbw
      go_wp2
      refine bodyPost_ret (v := .tuple #[.slice A5 k c5, .int .i64 s.size]) (by simp [results, Tryz.f42, go_sem]) rfl FIN.out

/-- May a mark stand as the number k of a statement? -/
def goesB (m : Mk) (k : Nat) : Bool := if k = 1 then decide (m.kind = 2 ∨ m.kind = 5) else if k = 3 then decide (m.kind = 5) else wordK m
set_option maxHeartbeats 2000000 in
set_option maxRecDepth 100000 in
theorem goes_any2 (m : Mk) (k : Nat) (w : World) (hk : k ≤ 3) : Calls Tryz.prog 43 #[m.agg, .int .i64 (k : Int)] w (Sam w (.bool (goesB m k))) := by
  obtain ⟨r, hr⟩ : ∃ r, goesB m k = r := ⟨_, rfl⟩
  rw [hr]
  obtain ⟨q, p, t⟩ := m
  have HR := Lib.hid hr
  clear hr
  have k0 := Blk.new w 72 #[.int .i64 q, .int .i64 p, .string (toTxt t)]
  have u0 : Below w.heap.size w (w.alloc (.cells #[.int .i64 q, .int .i64 p, .string (toTxt t)] 72)) := (Below.refl _ _).alloc (Nat.le_refl _) _
  have H := Lib.hid (And.intro k0 u0)
  clear k0 u0
  unfold Mk.agg
  dsimp only
  go_enter Tryz.func43, Tryz.ntmps43
  go_upto_region 1 with (fail)
  generalize w.alloc (.cells #[.int .i64 q, .int .i64 p, .string (toTxt t)] 72) = W0 at H ⊢
  have c0 : W0.cell? ⟨w.heap.size, 0, none⟩ = some (.int .i64 q) := H.out.1.cell 0
  have hk4 : k = 0 ∨ k = 1 ∨ k = 2 ∨ k = 3 := by omega
  rcases hk4 with rfl | rfl | rfl | rfl
  all_goals
    go_wp2
    all_goals
      go_ret
      refine ⟨retb ?_, H.out.2⟩
      rw [← HR.out]
      simp only [goesB, wordK]
      first
        | (rw [Bool.eq_iff_iff]; simp; omega)
        | (simp; omega)
        | simp
end Go.Proofs.YthmkgnifcbnkpaaGreat
