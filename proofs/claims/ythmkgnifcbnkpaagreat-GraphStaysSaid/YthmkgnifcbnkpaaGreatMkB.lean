/- Marks: a blank, a byte of a word, a mark's kind; the next mark. -/
import Derived.Test.YthmkgnifcbnkpaaGreatMkA
namespace Go.Proofs.YthmkgnifcbnkpaaGreat
open Go.RowKit

set_option maxHeartbeats 1000000 in
theorem size_data (s : Txt) : s.data.toList.length = s.size := by rw [Array.length_toList]; rfl
def Mk.cells (m : Mk) : List Value := [.int .i64 m.kind, .int .i64 m.pl, .string (toTxt m.tx)]
def Mk.agg (m : Mk) : Value := .agg #[.int .i64 m.kind, .int .i64 m.pl, .string (toTxt m.tx)]
/-- It tells that mark, and has laid new blocks alone. -/
def NextP (w : World) (m : Mk) (e : Ending) (w' : World) : Prop := e = .returned m.agg ∧ Below w.heap.size w w'
set_option maxHeartbeats 1000000 in
theorem blank_any (n : Nat) (w : World) : Calls Tryz.prog 107 #[.int .u8 (n : Int)] w (Only w (.bool (blankN n))) := by
  have key : ∀ b, blankN n = b → Calls Tryz.prog 107 #[.int .u8 (n : Int)] w (Only w (.bool b)) := by
    intro b hb
    have HB := Lib.hid hb
    clear hb
    go_enter Tryz.func107, Tryz.ntmps107
    go_wp2
    all_goals
      go_ret
      refine ⟨retb ?_, rfl⟩
      rw [← HB.out, Bool.eq_iff_iff]
      simp [blankN]
      try omega
  exact key _ rfl
set_option maxHeartbeats 1000000 in
theorem inner_any (n : Nat) (w : World) : Calls Tryz.prog 109 #[.int .u8 (n : Int)] w (Only w (.bool (letN n))) := by
  have key : ∀ b, letN n = b → Calls Tryz.prog 109 #[.int .u8 (n : Int)] w (Only w (.bool b)) := by
    intro b hb
    have HB := Lib.hid hb
    clear hb
    go_enter Tryz.func109, Tryz.ntmps109
    go_wp2
    all_goals
      go_ret
      refine ⟨retb ?_, rfl⟩
      rw [← HB.out, Bool.eq_iff_iff]
      simp [letN]
      try omega
  exact key _ rfl
theorem retk {a b : Int} (h : a = b) : Ending.returned (.int .i64 a) = .returned (.int .i64 b) := by rw [h]
theorem kind_lit (n : Nat) (k : Nat) (w : World) (h : (n, k) ∈ [(61, 4), (59, 5), (124, 6), (42, 7), (43, 8), (63, 9), (40, 10), (41, 11), (37, 12)]) : Calls Tryz.prog 108 #[.int .u8 (n : Int)] w (Only w (.int .i64 k)) := by
  simp only [List.mem_cons, Prod.mk.injEq, List.not_mem_nil, or_false] at h
  rcases h with ⟨rfl, rfl⟩ | ⟨rfl, rfl⟩ | ⟨rfl, rfl⟩ | ⟨rfl, rfl⟩ | ⟨rfl, rfl⟩ | ⟨rfl, rfl⟩ | ⟨rfl, rfl⟩ | ⟨rfl, rfl⟩ | ⟨rfl, rfl⟩
  all_goals
    go_enter Tryz.func108, Tryz.ntmps108
    go_wp2
    go_ret
    exact ⟨rfl, rfl⟩
set_option maxHeartbeats 2000000 in
set_option maxRecDepth 20000 in
theorem kind_any (n : Nat) (w : World) : Calls Tryz.prog 108 #[.int .u8 (n : Int)] w (Only w (.int .i64 (kindN n))) := by
  by_cases h9 : n = 61 ∨ n = 59 ∨ n = 124 ∨ n = 42 ∨ n = 43 ∨ n = 63 ∨ n = 40 ∨ n = 41 ∨ n = 37
  · refine kind_lit n (kindN n) w ?_
    rcases h9 with rfl | rfl | rfl | rfl | rfl | rfl | rfl | rfl | rfl <;> decide
  have e1 : ((n : Int) == 61) = false := by simp; omega
  have e2 : ((n : Int) == 59) = false := by simp; omega
  have e3 : ((n : Int) == 124) = false := by simp; omega
  have e4 : ((n : Int) == 42) = false := by simp; omega
  have e5 : ((n : Int) == 43) = false := by simp; omega
  have e6 : ((n : Int) == 63) = false := by simp; omega
  have e7 : ((n : Int) == 40) = false := by simp; omega
  have e8 : ((n : Int) == 41) = false := by simp; omega
  have e9 : ((n : Int) == 37) = false := by simp; omega
  have hk : kindN n = if 65 ≤ n ∧ n ≤ 90 then 1 else if 97 ≤ n ∧ n ≤ 122 then 2 else if letN n then 3 else 0 := by
    unfold kindN
    rw [if_neg (by omega), if_neg (by omega), if_neg (by omega), if_neg (by omega), if_neg (by omega), if_neg (by omega), if_neg (by omega), if_neg (by omega), if_neg (by omega)]
  rw [hk]
  clear hk h9
  by_cases hu : 65 ≤ n ∧ n ≤ 90
  · rw [if_pos hu]
    have u1 : (65 : Int) ≤ (n : Int) := by omega
    have u2 : (n : Int) ≤ 90 := by omega
    clear hu
    go_enter Tryz.func108, Tryz.ntmps108
    go_wp2
    go_ret
    exact ⟨rfl, rfl⟩
  rw [if_neg hu]
  have a1 : decide ((65 : Int) ≤ (n : Int) ∧ (n : Int) ≤ 90) = false := by simp; omega
  by_cases hl : 97 ≤ n ∧ n ≤ 122
  · rw [if_pos hl]
    have u1 : (97 : Int) ≤ (n : Int) := by omega
    have u2 : (n : Int) ≤ 122 := by omega
    have u3 : decide ((n : Int) ≤ 90) = false := by simp; omega
    clear hu hl a1
    go_enter Tryz.func108, Tryz.ntmps108
    go_wp2
    go_ret
    exact ⟨rfl, rfl⟩
  rw [if_neg hl]
  have hcon := inner_any n w
  obtain ⟨b, hb⟩ : ∃ b, letN n = b := ⟨_, rfl⟩
  rw [hb] at hcon
  rw [hb]
  clear hb
  have h3 : (90 < (n : Int) ∧ (n : Int) < 97) ∨ (n : Int) < 65 ∨ 122 < (n : Int) := by omega
  clear hu hl a1
  rcases h3 with ⟨h3, h4⟩ | h3 | h3
  · have u1 : decide ((n : Int) ≤ 90) = false := by simp; omega
    have u2 : decide ((97 : Int) ≤ (n : Int)) = false := by simp; omega
    have u3 : (65 : Int) ≤ (n : Int) := by omega
    clear h3 h4
    go_enter Tryz.func108, Tryz.ntmps108
    go_wp2_with fail
    all_goals
      refine hcon.mono ?_
      rintro e w' ⟨rfl, rfl⟩
      clear hcon
      cases b
    all_goals
      go_wp2
      try
        go_ret
        exact ⟨rfl, rfl⟩
  · have u1 : decide ((65 : Int) ≤ (n : Int)) = false := by simp; omega
    have u2 : decide ((97 : Int) ≤ (n : Int)) = false := by simp; omega
    clear h3
    go_enter Tryz.func108, Tryz.ntmps108
    go_wp2_with fail
    all_goals
      refine hcon.mono ?_
      rintro e w' ⟨rfl, rfl⟩
      clear hcon
      cases b
    all_goals
      go_wp2
      try
        go_ret
        exact ⟨rfl, rfl⟩
  · have u1 : decide ((n : Int) ≤ 90) = false := by simp; omega
    have u2 : decide ((n : Int) ≤ 122) = false := by simp; omega
    have u3 : (65 : Int) ≤ (n : Int) := by omega
    have u4 : (97 : Int) ≤ (n : Int) := by omega
    clear h3
    go_enter Tryz.func108, Tryz.ntmps108
    go_wp2_with fail
    all_goals
      refine hcon.mono ?_
      rintro e w' ⟨rfl, rfl⟩
      clear hcon
      cases b
    all_goals
      go_wp2
      try
        go_ret
        exact ⟨rfl, rfl⟩
/-! The next mark. -/
theorem drop_at {s : Txt} {k : Nat} (hk : k < s.size) : s.data.toList.drop k = s[k] :: s.data.toList.drop (k + 1) := by
  have h : k < s.data.toList.length := by rw [size_data]; exact hk
  rw [List.drop_eq_getElem_cons h]
  simp [ByteArray.getElem_eq_getElem_data]
theorem fill3 {w8 : World} {b : Nat} {t : TypeId} {cs : Array Value} (k : Blk w8 b t cs) (hs : cs.size = 3) (v0 v1 v2 : Value) :
    Blk (((w8.setCell ⟨b, 0, none⟩ v0).setCell ⟨b, 1, none⟩ v1).setCell ⟨b, 2, none⟩ v2) b t #[v0, v1, v2] ∧ Upd (fun q => q = b) w8 (((w8.setCell ⟨b, 0, none⟩ v0).setCell ⟨b, 1, none⟩ v1).setCell ⟨b, 2, none⟩ v2) := by
  refine ⟨?_, (((Upd.refl (fun q => q = b) w8).setCell (p := ⟨b, 0, none⟩) (.inl rfl) v0).setCell (p := ⟨b, 1, none⟩) (.inl rfl) v1).setCell (p := ⟨b, 2, none⟩) (.inl rfl) v2⟩
  have h := ((k.set 0 v0).set 1 v1).set 2 v2
  obtain ⟨l⟩ := cs
  match l, hs with
  | [a, b, c], _ => exact h
theorem word_step {l : List UInt8} {b : UInt8} (h : letN b.toNat = true) : wordL (b :: l) = b :: wordL l := by
  unfold wordL
  rw [List.takeWhile_cons, if_pos h]
theorem word_stop {l : List UInt8} {b : UInt8} (h : letN b.toNat = false) : wordL (b :: l) = [] := by
  unfold wordL
  rw [List.takeWhile_cons, if_neg (by rw [h]; simp)]
theorem ext_list (s : Txt) (k e : Nat) (_he : e ≤ s.size) : (s.extract k e).data.toList = (s.data.toList.drop k).take (e - k) := by
  rw [ByteArray.data_extract, Array.toList_extract, List.extract_eq_take_drop]
theorem ext_step {s : Txt} {k e : Nat} (hk : k ≤ e) (he : e < s.size) : (s.extract k (e + 1)).data.toList = (s.extract k e).data.toList ++ [s[e]] := by
  rw [ext_list s k (e + 1) (by omega), ext_list s k e (by omega), show e + 1 - k = (e - k) + 1 by omega, List.take_add_one, List.getElem?_drop, show k + (e - k) = e by omega]
  have h : e < s.data.toList.length := by rw [size_data]; exact he
  rw [List.getElem?_eq_getElem h]
  simp [ByteArray.getElem_eq_getElem_data]
set_option maxHeartbeats 4000000 in
set_option maxRecDepth 20000 in
theorem next_any (s : Txt) (p : Nat) (w : World) (hp : p ≤ s.size) (hs : s.size ≤ 1000000) :
    Calls Tryz.prog 73 #[.string s, .int .i64 (p : Int)] w (NextP w (nextL p (s.data.toList.drop p))) := by
  have key : ∀ m, nextL p (s.data.toList.drop p) = m → Calls Tryz.prog 73 #[.string s, .int .i64 (p : Int)] w (NextP w m) := by
    intro m hm
    have HM := Lib.hid hm
    clear hm
    have k0 := Blk.new w 72 #[.int .i64 0, .int .i64 0, .string ⟨#[]⟩]
    have u0 : Below w.heap.size w (w.alloc (.cells #[.int .i64 0, .int .i64 0, .string ⟨#[]⟩] 72)) := (Below.refl _ _).alloc (Nat.le_refl _) _
    have H := Lib.hid (And.intro k0 u0)
    clear k0 u0
    go_enter Tryz.func73, Tryz.ntmps73
    go_upto_region 1 with (fail)
    generalize w.alloc (.cells #[.int .i64 0, .int .i64 0, .string ⟨#[]⟩] 72) = W0 at H ⊢
    have hz0 : w.heap.size + 1 ≤ W0.heap.size := H.out.1.lt
    go_wp2_with fail
    go_loop [1] (fun i => ∃ k : Nat, k ≤ s.size ∧ i = .int .i64 k ∧ Hid (nextL k (s.data.toList.drop k) = m)) (fun i => s.size - (intOf i).toNat)
    case atStart => exact ⟨p, hp, rfl, HM⟩
    case round =>
      obtain ⟨k, hk, rfl, hn⟩ := hrel
      by_cases hlt : k < s.size
      · obtain ⟨c, hc⟩ : ∃ c, s[k].toNat = c := ⟨_, rfl⟩
        have hd : nextL k (s[k] :: s.data.toList.drop (k + 1)) = m := by rw [← drop_at hlt]; exact hn.out
        have HC := Lib.hid (And.intro hc hd)
        clear hd
        cases hb : blankN c with
        | true =>
          go_wp2_with fail
          refine (blank_any _ _).mono ?_
          rintro e w' ⟨rfl, hw'⟩; subst w'
          go_wp2
          go_round
          case rel => exact ⟨k + 1, by omega, by go_num, Lib.hid (by have h := HC.out.2; unfold nextL at h; rw [HC.out.1, hb] at h; exact h)⟩
          case measure => simp [intOf]; omega
        | false =>
          obtain ⟨q, hq⟩ : ∃ q, kindN c = q := ⟨_, rfl⟩
          by_cases hq0 : q = 0
          · subst hq0
            have HZ := Lib.hid (show (⟨0, k, []⟩ : Mk) = m by have h := HC.out.2; unfold nextL at h; rw [HC.out.1, hb, hq] at h; exact h)
            go_wp2_with fail
            refine (blank_any _ _).mono ?_
            rintro e w' ⟨rfl, hw'⟩; subst w'
            go_wp2_with fail
            refine (kind_any _ _).mono ?_
            rintro e w' ⟨rfl, hw'⟩; subst w'
            rw [hq]
            have c0 : W0.cell? ⟨w.heap.size, 0, none⟩ = some (.int .i64 0) := H.out.1.cell 0
            have c1 : W0.cell? ⟨w.heap.size, 1, none⟩ = some (.int .i64 0) := H.out.1.cell 1
            have c2 : W0.cell? ⟨w.heap.size, 2, none⟩ = some (.string ⟨#[]⟩) := H.out.1.cell 2
            have f0 := H.out.1.frozen 0
            have f1 := H.out.1.frozen 1
            have f2 := H.out.1.frozen 2
            obtain ⟨kF, uF⟩ := fill3 H.out.1 rfl (.int .i64 0) (.int .i64 k) (.string ⟨#[]⟩)
            have e0 := kF.cell 0
            have e1 := kF.cell 1
            have e2 := kF.cell 2
            simp only [List.getElem?_toArray, List.getElem?_cons_succ, List.getElem?_cons_zero] at e0 e1 e2
            have FIN := Lib.hid (show NextP w m (.returned (.agg #[.int .i64 0, .int .i64 k, .string ⟨#[]⟩])) _ from ⟨by rw [← HZ.out]; rfl, H.out.2.trans (uF.below (fun q _ e => by omega) H.out.2.size)⟩)
            clear kF uF
            go_wp2
            refine bodyPost_ret (v := .agg #[.int .i64 0, .int .i64 k, .string ⟨#[]⟩]) (by simp [results, Tryz.f73, go_sem, e0, e1, e2]) rfl FIN.out
          · have HM2 := Lib.hid (show (⟨q, k, s[k] :: (if q ≤ 3 then wordL (s.data.toList.drop (k + 1)) else [])⟩ : Mk) = m by have h := HC.out.2; unfold nextL at h; rw [HC.out.1, hb, hq, if_neg (by simp), if_neg hq0] at h; exact h)
            have hq1 : ((q : Int) == 0) = false := by simpa using hq0
            have k1 := Blk.new W0 72 #[.int .i64 q, .int .i64 k, .string ⟨#[]⟩]
            have k2 := H.out.1.alloc (.cells #[.int .i64 q, .int .i64 k, .string ⟨#[]⟩] 72)
            have k3 := H.out.2.alloc H.out.2.size (.cells #[.int .i64 q, .int .i64 k, .string ⟨#[]⟩] 72)
            have H1 := Lib.hid (And.intro k1 (And.intro k2 k3))
            clear k1 k2 k3
            go_wp2_with fail
            refine (blank_any _ _).mono ?_
            rintro e w' ⟨rfl, hw'⟩; subst w'
            go_wp2_with fail
            refine (kind_any _ _).mono ?_
            rintro e w' ⟨rfl, hw'⟩; subst w'
            rw [hq]
            go_wp2_with fail
            refine (kind_any _ _).mono ?_
            rintro e w' ⟨rfl, hw'⟩; subst w'
            rw [hq]
            go_upto_region 6 with (fail)
            generalize W0.alloc (.cells #[.int .i64 q, .int .i64 k, .string ⟨#[]⟩] 72) = W1 at H1 ⊢
            have z1 : W0.heap.size + 1 ≤ W1.heap.size := H1.out.1.lt
            have c0 : W1.cell? ⟨W0.heap.size, 0, none⟩ = some (.int .i64 q) := H1.out.1.cell 0
            by_cases hq3 : q ≤ 3
            · have hq3I : (q : Int) ≤ 3 := by omega
              have HX0 : (s.extract k (k + 1)).data.toList ++ wordL (s.data.toList.drop (k + 1)) = s[k] :: wordL (s.data.toList.drop (k + 1)) := by
                rw [ext_list s k (k + 1) (by omega), drop_at hlt]
                simp
              have HX1 := Lib.hid HX0
              clear HX0
              go_wp2
              go_step3
              go_wp2
              go_step3
              go_wp2_with fail
              go_loop [6] (fun j => ∃ e : Nat, k + 1 ≤ e ∧ e ≤ s.size ∧ j = .int .i64 e ∧ Hid ((s.extract k e).data.toList ++ wordL (s.data.toList.drop e) = s[k] :: wordL (s.data.toList.drop (k + 1)))) (fun j => s.size - (intOf j).toNat)
              case atStart => exact ⟨k + 1, Nat.le_refl _, by omega, by go_num, HX1⟩
              case round =>
                obtain ⟨e, hke', hes, rfl, hx⟩ := hrel
                have hke : k ≤ e := by omega
                by_cases hle : e < s.size
                · obtain ⟨d, hd⟩ : ∃ d, s[e].toNat = d := ⟨_, rfl⟩
                  cases hlb : letN d with
                  | true =>
                    have HX2 := Lib.hid (show (s.extract k (e + 1)).data.toList ++ wordL (s.data.toList.drop (e + 1)) = s[k] :: wordL (s.data.toList.drop (k + 1)) by
                      have h := hx.out
                      rw [drop_at hle, word_step (by rw [hd, hlb])] at h
                      rw [ext_step hke hle, List.append_assoc]
                      exact h)
                    go_wp2_with fail
                    refine (inner_any _ _).mono ?_
                    rintro e2 w2 ⟨rfl, hw'⟩; subst w2
                    go_wp2
                    go_round
                    case rel => exact ⟨e + 1, by omega, by omega, by go_num, HX2⟩
                    case measure => simp [intOf]; omega
                  | false =>
                    have HX := Lib.hid (show (s.extract k e).data.toList = s[k] :: (if q ≤ 3 then wordL (s.data.toList.drop (k + 1)) else []) by
                      have h := hx.out
                      rw [drop_at hle, word_stop (by rw [hd, hlb]), List.append_nil] at h
                      rw [if_pos hq3]
                      exact h)
                    go_wp2_with fail
                    refine (inner_any _ _).mono ?_
                    rintro e2 w2 ⟨rfl, hw'⟩; subst w2
                    go_wp2_with fail
                    rw [Exit.noGoto_normal]
                    have hex : (s.extract k e).data.toList = s[k] :: (if q ≤ 3 then wordL (s.data.toList.drop (k + 1)) else []) := HX.out
                    have hmx : (⟨q, k, (s.extract k e).data.toList⟩ : Mk) = m := by rw [hex, ← HM2.out]
                    have HMX := Lib.hid hmx
                    clear hex hmx
                    have c0 : W1.cell? ⟨W0.heap.size, 0, none⟩ = some (.int .i64 q) := H1.out.1.cell 0
                    have c1 : W1.cell? ⟨W0.heap.size, 1, none⟩ = some (.int .i64 k) := H1.out.1.cell 1
                    have c2 : W1.cell? ⟨W0.heap.size, 2, none⟩ = some (.string ⟨#[]⟩) := H1.out.1.cell 2
                    have g2 := H1.out.1.frozen 2
                    go_upto_region 12 with (fail)
                    have kx := H1.out.1.set 2 (.string (s.extract k e))
                    have ux : Upd (fun q => q = W0.heap.size) W1 (W1.setCell ⟨W0.heap.size, 2, none⟩ (.string (s.extract k e))) := (Upd.refl (fun q => q = W0.heap.size) W1).setCell (p := ⟨W0.heap.size, 2, none⟩) (.inl rfl) _
                    have ky := H1.out.2.1.upd ux (by omega)
                    have uy := H1.out.2.2.trans (ux.below (fun q _ e => by have := H.out.2.size; omega) (Nat.le_trans H.out.2.size (by have := H1.out.1.lt; omega)))
                    generalize W1.setCell ⟨W0.heap.size, 2, none⟩ (.string (s.extract k e)) = W2 at kx ky uy ⊢
                    obtain ⟨kF, uF⟩ := fill3 ky rfl (.int .i64 q) (.int .i64 k) (.string (s.extract k e))
                    have x0 : W2.cell? ⟨W0.heap.size, 0, none⟩ = some (.int .i64 q) := kx.cell 0
                    have x1 : W2.cell? ⟨W0.heap.size, 1, none⟩ = some (.int .i64 k) := kx.cell 1
                    have x2 : W2.cell? ⟨W0.heap.size, 2, none⟩ = some (.string (s.extract k e)) := kx.cell 2
                    have y0 : W2.cell? ⟨w.heap.size, 0, none⟩ = some (.int .i64 0) := ky.cell 0
                    have y1 : W2.cell? ⟨w.heap.size, 1, none⟩ = some (.int .i64 0) := ky.cell 1
                    have y2 : W2.cell? ⟨w.heap.size, 2, none⟩ = some (.string ⟨#[]⟩) := ky.cell 2
                    have f0 := ky.frozen 0
                    have f1 := ky.frozen 1
                    have f2 := ky.frozen 2
                    have e0 := kF.cell 0
                    have e1 := kF.cell 1
                    have e2 := kF.cell 2
                    simp only [List.getElem?_toArray, List.getElem?_cons_succ, List.getElem?_cons_zero] at e0 e1 e2
                    have FIN := Lib.hid (show NextP w m (.returned (.agg #[.int .i64 q, .int .i64 k, .string (s.extract k e)])) _ from ⟨by rw [← HMX.out, Mk.agg, toTxt_list], uy.trans (uF.below (fun q _ e => by omega) uy.size)⟩)
                    clear kF uF kx ky uy ux c0 c1 c2 g2
                    go_wp2
                    refine bodyPost_ret (v := .agg #[.int .i64 q, .int .i64 k, .string (s.extract k e)]) (by simp [results, Tryz.f73, go_sem, e0, e1, e2]) rfl FIN.out
                · have hse : s.size = e := by omega
                  have HX := Lib.hid (show (s.extract k e).data.toList = s[k] :: (if q ≤ 3 then wordL (s.data.toList.drop (k + 1)) else []) by
                    have h := hx.out
                    rw [List.drop_eq_nil_of_le (by rw [size_data, hse]; exact Nat.le_refl _), wordL, List.takeWhile_nil, List.append_nil] at h
                    rw [if_pos hq3]
                    exact h)
                  have hex : (s.extract k e).data.toList = s[k] :: (if q ≤ 3 then wordL (s.data.toList.drop (k + 1)) else []) := HX.out
                  have hmx : (⟨q, k, (s.extract k e).data.toList⟩ : Mk) = m := by rw [hex, ← HM2.out]
                  have HMX := Lib.hid hmx
                  clear hex hmx
                  have c0 : W1.cell? ⟨W0.heap.size, 0, none⟩ = some (.int .i64 q) := H1.out.1.cell 0
                  have c1 : W1.cell? ⟨W0.heap.size, 1, none⟩ = some (.int .i64 k) := H1.out.1.cell 1
                  have c2 : W1.cell? ⟨W0.heap.size, 2, none⟩ = some (.string ⟨#[]⟩) := H1.out.1.cell 2
                  have g2 := H1.out.1.frozen 2
                  go_upto_region 12 with (fail)
                  have kx := H1.out.1.set 2 (.string (s.extract k e))
                  have ux : Upd (fun q => q = W0.heap.size) W1 (W1.setCell ⟨W0.heap.size, 2, none⟩ (.string (s.extract k e))) := (Upd.refl (fun q => q = W0.heap.size) W1).setCell (p := ⟨W0.heap.size, 2, none⟩) (.inl rfl) _
                  have ky := H1.out.2.1.upd ux (by omega)
                  have uy := H1.out.2.2.trans (ux.below (fun q _ e => by have := H.out.2.size; omega) (Nat.le_trans H.out.2.size (by have := H1.out.1.lt; omega)))
                  generalize W1.setCell ⟨W0.heap.size, 2, none⟩ (.string (s.extract k e)) = W2 at kx ky uy ⊢
                  obtain ⟨kF, uF⟩ := fill3 ky rfl (.int .i64 q) (.int .i64 k) (.string (s.extract k e))
                  have x0 : W2.cell? ⟨W0.heap.size, 0, none⟩ = some (.int .i64 q) := kx.cell 0
                  have x1 : W2.cell? ⟨W0.heap.size, 1, none⟩ = some (.int .i64 k) := kx.cell 1
                  have x2 : W2.cell? ⟨W0.heap.size, 2, none⟩ = some (.string (s.extract k e)) := kx.cell 2
                  have y0 : W2.cell? ⟨w.heap.size, 0, none⟩ = some (.int .i64 0) := ky.cell 0
                  have y1 : W2.cell? ⟨w.heap.size, 1, none⟩ = some (.int .i64 0) := ky.cell 1
                  have y2 : W2.cell? ⟨w.heap.size, 2, none⟩ = some (.string ⟨#[]⟩) := ky.cell 2
                  have f0 := ky.frozen 0
                  have f1 := ky.frozen 1
                  have f2 := ky.frozen 2
                  have e0 := kF.cell 0
                  have e1 := kF.cell 1
                  have e2 := kF.cell 2
                  simp only [List.getElem?_toArray, List.getElem?_cons_succ, List.getElem?_cons_zero] at e0 e1 e2
                  have FIN := Lib.hid (show NextP w m (.returned (.agg #[.int .i64 q, .int .i64 k, .string (s.extract k e)])) _ from ⟨by rw [← HMX.out, Mk.agg, toTxt_list], uy.trans (uF.below (fun q _ e => by omega) uy.size)⟩)
                  clear kF uF kx ky uy ux c0 c1 c2 g2
                  go_wp2
                  refine bodyPost_ret (v := .agg #[.int .i64 q, .int .i64 k, .string (s.extract k e)]) (by simp [results, Tryz.f73, go_sem, e0, e1, e2]) rfl FIN.out
            · have hq3I : ¬ ((q : Int) ≤ 3) := by omega
              obtain ⟨e, he⟩ : ∃ e, k + 1 = e := ⟨_, rfl⟩
              have hke : k ≤ e := by omega
              have hes : e ≤ s.size := by omega
              have hkI : (k : Int) + 1 = (e : Int) := by omega
              have HX := Lib.hid (show (s.extract k e).data.toList = s[k] :: (if q ≤ 3 then wordL (s.data.toList.drop (k + 1)) else []) by
                subst he
                rw [ext_list s k (k + 1) (by omega), drop_at hlt, if_neg hq3]
                simp)
              clear he
              have hex : (s.extract k e).data.toList = s[k] :: (if q ≤ 3 then wordL (s.data.toList.drop (k + 1)) else []) := HX.out
              have hmx : (⟨q, k, (s.extract k e).data.toList⟩ : Mk) = m := by rw [hex, ← HM2.out]
              have HMX := Lib.hid hmx
              clear hex hmx
              have c0 : W1.cell? ⟨W0.heap.size, 0, none⟩ = some (.int .i64 q) := H1.out.1.cell 0
              have c1 : W1.cell? ⟨W0.heap.size, 1, none⟩ = some (.int .i64 k) := H1.out.1.cell 1
              have c2 : W1.cell? ⟨W0.heap.size, 2, none⟩ = some (.string ⟨#[]⟩) := H1.out.1.cell 2
              have g2 := H1.out.1.frozen 2
              go_upto_region 12 with (fail)
              have kx := H1.out.1.set 2 (.string (s.extract k e))
              have ux : Upd (fun q => q = W0.heap.size) W1 (W1.setCell ⟨W0.heap.size, 2, none⟩ (.string (s.extract k e))) := (Upd.refl (fun q => q = W0.heap.size) W1).setCell (p := ⟨W0.heap.size, 2, none⟩) (.inl rfl) _
              have ky := H1.out.2.1.upd ux (by omega)
              have uy := H1.out.2.2.trans (ux.below (fun q _ e => by have := H.out.2.size; omega) (Nat.le_trans H.out.2.size (by have := H1.out.1.lt; omega)))
              generalize W1.setCell ⟨W0.heap.size, 2, none⟩ (.string (s.extract k e)) = W2 at kx ky uy ⊢
              obtain ⟨kF, uF⟩ := fill3 ky rfl (.int .i64 q) (.int .i64 k) (.string (s.extract k e))
              have x0 : W2.cell? ⟨W0.heap.size, 0, none⟩ = some (.int .i64 q) := kx.cell 0
              have x1 : W2.cell? ⟨W0.heap.size, 1, none⟩ = some (.int .i64 k) := kx.cell 1
              have x2 : W2.cell? ⟨W0.heap.size, 2, none⟩ = some (.string (s.extract k e)) := kx.cell 2
              have y0 : W2.cell? ⟨w.heap.size, 0, none⟩ = some (.int .i64 0) := ky.cell 0
              have y1 : W2.cell? ⟨w.heap.size, 1, none⟩ = some (.int .i64 0) := ky.cell 1
              have y2 : W2.cell? ⟨w.heap.size, 2, none⟩ = some (.string ⟨#[]⟩) := ky.cell 2
              have f0 := ky.frozen 0
              have f1 := ky.frozen 1
              have f2 := ky.frozen 2
              have e0 := kF.cell 0
              have e1 := kF.cell 1
              have e2 := kF.cell 2
              simp only [List.getElem?_toArray, List.getElem?_cons_succ, List.getElem?_cons_zero] at e0 e1 e2
              have FIN := Lib.hid (show NextP w m (.returned (.agg #[.int .i64 q, .int .i64 k, .string (s.extract k e)])) _ from ⟨by rw [← HMX.out, Mk.agg, toTxt_list], uy.trans (uF.below (fun q _ e => by omega) uy.size)⟩)
              clear kF uF kx ky uy ux c0 c1 c2 g2
              go_wp2
              refine bodyPost_ret (v := .agg #[.int .i64 q, .int .i64 k, .string (s.extract k e)]) (by simp [results, Tryz.f73, go_sem, e0, e1, e2]) rfl FIN.out
      · have hks : s.size = k := by omega
        have HZ := Lib.hid (show (⟨0, k, []⟩ : Mk) = m by have h := hn.out; rw [List.drop_eq_nil_of_le (by rw [size_data, hks]; exact Nat.le_refl _)] at h; exact h)
        have c0 : W0.cell? ⟨w.heap.size, 0, none⟩ = some (.int .i64 0) := H.out.1.cell 0
        have c1 : W0.cell? ⟨w.heap.size, 1, none⟩ = some (.int .i64 0) := H.out.1.cell 1
        have c2 : W0.cell? ⟨w.heap.size, 2, none⟩ = some (.string ⟨#[]⟩) := H.out.1.cell 2
        have f0 := H.out.1.frozen 0
        have f1 := H.out.1.frozen 1
        have f2 := H.out.1.frozen 2
        obtain ⟨kF, uF⟩ := fill3 H.out.1 rfl (.int .i64 0) (.int .i64 k) (.string ⟨#[]⟩)
        have e0 := kF.cell 0
        have e1 := kF.cell 1
        have e2 := kF.cell 2
        simp only [List.getElem?_toArray, List.getElem?_cons_succ, List.getElem?_cons_zero] at e0 e1 e2
        have FIN := Lib.hid (show NextP w m (.returned (.agg #[.int .i64 0, .int .i64 k, .string ⟨#[]⟩])) _ from ⟨by rw [← HZ.out]; rfl, H.out.2.trans (uF.below (fun q _ e => by omega) H.out.2.size)⟩)
        clear kF uF
        go_wp2
        refine bodyPost_ret (v := .agg #[.int .i64 0, .int .i64 k, .string ⟨#[]⟩]) (by simp [results, Tryz.f73, go_sem, e0, e1, e2]) rfl FIN.out
  exact key _ rfl
end Go.Proofs.YthmkgnifcbnkpaaGreat
