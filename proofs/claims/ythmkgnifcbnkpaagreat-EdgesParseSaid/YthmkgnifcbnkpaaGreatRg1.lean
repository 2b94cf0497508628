/- The document's answer of layer 16, first part: rows; two rising lists as one; names, labels; named, form; Same (merged by merge.py of RwA, RwB, RfA, RfK, RfB, RfC, RfD, RfE). -/
import Derived.Test.YthmkgnifcbnkpaaGreatEdD
import Derived.Test.YthmkgnifcbnkpaaGreatCcA
import Derived.Test.YthmkgnifcbnkpaaGreatEdA
import Derived.Test.YthmkgnifcbnkpaaGreatEdK
import Derived.Test.YthmkgnifcbnkpaaGreatEdE
import Derived.Test.YthmkgnifcbnkpaaGreatEdF
import Derived.Test.YthmkgnifcbnkpaaGreatEdQ
namespace Go.Proofs.YthmkgnifcbnkpaaGreat
open Go.RowKit

theorem add_okk (a b : Txt) (h : a.size + b.size ≤ 100000) : ∀ w, (Op.stringOp .add a b).run Tryz.prog w = .ok (.string (a ++ b)) w := fun w => run_string_add_sum w a b (by omega)
theorem RowR.txt_at {w : World} {b o : Nat} {N : List Txt} (h : RowR w (some ⟨b, o, none⟩) (txtCells N)) {k : Nat} {s : Txt} (hk : N[k]? = some s) : w.cell? ⟨b, o + k, none⟩ = some (.string s) := by
  obtain ⟨b', o', e, x⟩ := h.txt hk
  injection e with e
  injection e with e1 e2
  subst e1; subst e2
  exact x
theorem RowR.ed_at {w : World} {b o : Nat} {E : List Ed} (h : RowR w (some ⟨b, o, none⟩) (edCells E)) {k : Nat} {x : Ed} (hk : E[k]? = some x) : w.cell? ⟨b, o + k * 3, none⟩ = some (.string x.fr) ∧ w.cell? ⟨b, o + k * 3 + 1, none⟩ = some (.string x.lb) ∧ w.cell? ⟨b, o + k * 3 + 2, none⟩ = some (.string x.to) := by
  obtain ⟨b', o', e, x1, x2, x3⟩ := h.ed hk
  injection e with e
  injection e with e1 e2
  subst e1; subst e2
  exact ⟨x1, x2, x3⟩
end Go.Proofs.YthmkgnifcbnkpaaGreat
namespace Go.Proofs.YthmkgnifcbnkpaaGreat
open Go.RowKit

/-- append of a row to a row of the call's own: what it turns, where the new row lies. -/
theorem append_row2 (w : World) (base t e size bytes : Nat) (z : Value) (ht : Tryz.prog.underlying t = some (.slice e)) (hi : (Tryz.prog.info? e).map (fun i => (i.zero, i.size, i.bytes)) = some (some z, size, bytes)) (hzs : z.cells.size = size) (h0 : 0 < size) (h8 : 8 ≤ bytes)
    (B : Option Addr) (n c : Nat) (xs : List Value) (own : w.ownsRow base e size (.slice B n c) n xs) (A : Option Addr) (m d : Nat) (ys : List Value) (hr : RowR w A ys) (hl : ys.length = m * size) (h1 : ∀ u ∈ ys, u.oneCell' = true) (hn : (n + m) * bytes ≤ 140737488355328) (hb : base ≤ w.heap.size) :
    ∃ B' c' w', (Builtin.append_ #[t, t] t #[.slice B n c, .slice A m d]).run Tryz.prog w = .ok (.slice B' (n + m) c') w' ∧ w'.ownsRow base e size (.slice B' (n + m) c') (n + m) (xs ++ ys) ∧ Upd (fun k => (Value.slice B n c).ownBlock = some k) w w' ∧ ∀ k, (Value.slice B' (n + m) c').ownBlock = some k → (Value.slice B n c).ownBlock = some k ∨ w.heap.size ≤ k := by
  obtain ⟨i0, hi0, hz0, hz1, hz2⟩ := info_parts hi
  have hnm : n + m ≤ maxLen := by
    have : (n + m) * 8 ≤ (n + m) * bytes := Nat.mul_le_mul_left _ h8
    unfold maxLen; omega
  have hre := hr.reads hl h0
  rcases A with _ | ad
  · obtain ⟨rfl, rfl⟩ := hre.nil
    obtain ⟨A', c', hv, hc, -⟩ := own_form own
    injection hv with _ _ hcc
    exact ⟨B, c, w, append_none w t e ht i0 hi0 B n c d (by omega) (by unfold maxLen at hnm; omega), by simpa using own, Upd.refl _ _, fun k hk => .inl hk⟩
  · obtain ⟨v', w', happ, own', gr, -, pl⟩ := run_append_own_at (P := Tryz.prog) w base t t e i0 z size bytes ht hi0 hz0 hz1 hz2 hzs h0 (.slice B n c) n xs own ad m d ys hl (hre.2.2 ad rfl) h1 hnm (by simpa using hn) hb
    obtain ⟨B', c', rfl, -, -⟩ := own_form own'
    refine ⟨B', c', w', happ, own', (Upd.refl _ w).grown gr (fun k hk => .inl hk), fun k hk => ?_⟩
    rcases pl with h | h
    · exact .inl (by rw [← h]; exact hk)
    · rw [h] at hk
      injection hk with hk
      exact .inr (by omega)
theorem push_ed (w : World) (base : Nat) (v : Value) (L : List Ed) (own : w.ownsRow base 39 3 v L.length (edCells L)) (x : Ed) (hl : (L.length + 1) * 48 ≤ 140737488355328) (hb : base ≤ w.heap.size) :
    ∃ v' w', (Builtin.append_ #[23, 23] 23 #[v, .slice (some ⟨w.heap.size, 0, none⟩) 1 1]).run Tryz.prog (w.alloc (.cells #[.string x.fr, .string x.lb, .string x.to] 39)) = .ok v' w' ∧ w'.ownsRow base 39 3 v' (L ++ [x]).length (edCells (L ++ [x])) ∧ Upd (fun k => v.ownBlock = some k) w w' ∧ ∀ k, v'.ownBlock = some k → v.ownBlock = some k ∨ w.heap.size ≤ k := by
  obtain ⟨v', w', happ, own', up, pl⟩ := push_own w base 23 39 3 48 _ Tryz.underlying23 info_edge rfl (by decide) v L.length _ own [.string x.fr, .string x.lb, .string x.to] 1 rfl (by simp; exact ⟨rfl, rfl, rfl⟩) hl (by unfold maxLen; omega) hb
  refine ⟨v', w', happ, ?_, up, pl⟩
  rw [List.length_append, edCells, List.flatMap_append]
  exact own'
theorem txtCells_app (N M : List Txt) : txtCells (N ++ M) = txtCells N ++ txtCells M := by simp [txtCells]
theorem edCells_app (N M : List Ed) : edCells (N ++ M) = edCells N ++ edCells M := by simp [edCells]
theorem ForG.upd {w w' : World} {A B : Option Addr} {c d : Nat} {N : List Txt} {E : List Ed} {F : Nat → Prop} (h : ForG w A c B d N E) (hu : Upd F w w') (hA : ∀ b o s, A = some ⟨b, o, s⟩ → ¬ F b) (hB : ∀ b o s, B = some ⟨b, o, s⟩ → ¬ F b) : ForG w' A c B d N E :=
  ⟨h.rn.upd hu hA, h.re.upd hu hB, h.hc, h.hd, h.fit⟩
theorem own_blk {w : World} {base e size n m c : Nat} {A : Option Addr} {xs : List Value} (h : w.ownsRow base e size (.slice A m c) n xs) : ∀ b o s, A = some ⟨b, o, s⟩ → base ≤ b ∧ b < w.heap.size := fun b o s e => by
  subst e
  exact h.lt b rfl
end Go.Proofs.YthmkgnifcbnkpaaGreat
namespace Go.Proofs.YthmkgnifcbnkpaaGreat
open Go.RowKit

section
variable {α : Type} [DecidableEq α] {lt : α → α → Bool}
/-- Two rising lists as one, each once. -/
def mrg (lt : α → α → Bool) (A B : List α) : List α :=
  match A, B with
  | [], B => B
  | A, [] => A
  | x :: a, y :: b => if lt x y = true then x :: mrg lt a (y :: b) else if x = y then y :: mrg lt a b else y :: mrg lt (x :: a) b
termination_by A.length + B.length
theorem mrg_nilL (B : List α) : mrg lt [] B = B := by rw [mrg]
theorem mrg_nilR (A : List α) : mrg lt A [] = A := by
  cases A with
  | nil => rw [mrg]
  | cons x a => rw [mrg]; simp
theorem mrg_cons (x : α) (a : List α) (y : α) (b : List α) : mrg lt (x :: a) (y :: b) = if lt x y = true then x :: mrg lt a (y :: b) else if x = y then y :: mrg lt a b else y :: mrg lt (x :: a) b := by rw [mrg]
theorem mrg_spec (hs : Sto lt) : ∀ (n : Nat) (A B : List α), A.length + B.length ≤ n → Rises lt A → Rises lt B → Rises lt (mrg lt A B) ∧ (∀ z, z ∈ mrg lt A B ↔ z ∈ A ∨ z ∈ B) ∧ (mrg lt A B).length ≤ A.length + B.length
  | n, [], B, _, _, hB => by rw [mrg_nilL]; exact ⟨hB, by simp, by simp⟩
  | n, x :: a, [], _, hA, _ => by rw [mrg_nilR]; exact ⟨hA, by simp, by simp⟩
  | 0, x :: a, y :: b, h, _, _ => by simp at h
  | n + 1, x :: a, y :: b, h, hA, hB => by
    obtain ⟨hA1, hA2⟩ := List.pairwise_cons.1 hA
    obtain ⟨hB1, hB2⟩ := List.pairwise_cons.1 hB
    rw [mrg_cons]
    simp only [List.length_cons] at h
    by_cases hxy : lt x y = true
    · rw [if_pos hxy]
      obtain ⟨r, m, l⟩ := mrg_spec hs n a (y :: b) (by simp; omega) hA2 hB
      refine ⟨List.pairwise_cons.2 ⟨fun z hz => ?_, r⟩, fun z => by rw [List.mem_cons, m, List.mem_cons (a := z) (b := x)]; simp only [or_assoc], by simp only [List.length_cons] at l ⊢; omega⟩
      rcases (m z).1 hz with hz | hz
      · exact hA1 z hz
      · rcases List.mem_cons.1 hz with rfl | hz
        · exact hxy
        · exact hs.tr _ _ _ hxy (hB1 z hz)
    · rw [if_neg hxy]
      by_cases he : x = y
      · subst he
        rw [if_pos rfl]
        obtain ⟨r, m, l⟩ := mrg_spec hs n a b (by omega) hA2 hB2
        refine ⟨List.pairwise_cons.2 ⟨fun z hz => ?_, r⟩, fun z => ?_, by simp only [List.length_cons] at l ⊢; omega⟩
        · rcases (m z).1 hz with hz | hz
          · exact hA1 z hz
          · exact hB1 z hz
        · rw [List.mem_cons, m, List.mem_cons, List.mem_cons]
          constructor
          · rintro (h | h | h)
            · exact .inl (.inl h)
            · exact .inl (.inr h)
            · exact .inr (.inr h)
          · rintro ((h | h) | (h | h))
            · exact .inl h
            · exact .inr (.inl h)
            · exact .inl h
            · exact .inr (.inr h)
      · rw [if_neg he]
        obtain ⟨r, m, l⟩ := mrg_spec hs n (x :: a) b (by simp; omega) hA hB2
        have hyx : lt y x = true := by
          cases e : lt y x
          · exact (he (hs.tri _ _ (by simpa using hxy) e)).elim
          · rfl
        refine ⟨List.pairwise_cons.2 ⟨fun z hz => ?_, r⟩, fun z => ?_, by simp only [List.length_cons] at l ⊢; omega⟩
        · rcases (m z).1 hz with hz | hz
          · rcases List.mem_cons.1 hz with rfl | hz
            · exact hyx
            · exact hs.tr _ _ _ hyx (hA1 z hz)
          · exact hB1 z hz
        · rw [List.mem_cons, m, List.mem_cons (a := z) (b := y)]
          constructor
          · rintro (h | h | h)
            · exact .inr (.inl h)
            · exact .inl h
            · exact .inr (.inr h)
          · rintro (h | h | h)
            · exact .inr (.inl h)
            · exact .inl h
            · exact .inr (.inr h)
omit [DecidableEq α] in
theorem drop_cons_at {l : List α} {k : Nat} {x : α} (h : l[k]? = some x) : l.drop k = x :: l.drop (k + 1) := by
  obtain ⟨hk, rfl⟩ := List.getElem?_eq_some_iff.1 h
  exact List.drop_eq_getElem_cons hk
theorem mrg_takeA {A B : List α} {i j : Nat} {x : α} (hx : A[i]? = some x) (h : B.length ≤ j ∨ ∃ y, B[j]? = some y ∧ lt x y = true) : mrg lt (A.drop i) (B.drop j) = x :: mrg lt (A.drop (i + 1)) (B.drop j) := by
  rw [drop_cons_at hx]
  rcases h with h | ⟨y, hy, hl⟩
  · rw [List.drop_of_length_le h, mrg_nilR, mrg_nilR]
  · rw [drop_cons_at hy, mrg_cons, if_pos hl]
theorem mrg_takeB {A B : List α} {i j : Nat} {y : α} (hy : B[j]? = some y) (h : A.length ≤ i ∨ ∃ x, A[i]? = some x ∧ lt x y = false ∧ x ≠ y) : mrg lt (A.drop i) (B.drop j) = y :: mrg lt (A.drop i) (B.drop (j + 1)) := by
  rw [drop_cons_at hy]
  rcases h with h | ⟨x, hx, hl, hne⟩
  · rw [List.drop_of_length_le h, mrg_nilL, mrg_nilL]
  · rw [drop_cons_at hx, mrg_cons, if_neg (by rw [hl]; simp), if_neg hne]
theorem mrg_both (hs : Sto lt) {A B : List α} {i j : Nat} {y : α} (hx : A[i]? = some y) (hy : B[j]? = some y) : mrg lt (A.drop i) (B.drop j) = y :: mrg lt (A.drop (i + 1)) (B.drop (j + 1)) := by
  rw [drop_cons_at hy, drop_cons_at hx, mrg_cons, if_neg (by rw [hs.irr]; simp), if_pos rfl]
theorem mrg_end {A B : List α} {i j : Nat} (h1 : A.length ≤ i) (h2 : B.length ≤ j) : mrg lt (A.drop i) (B.drop j) = [] := by
  rw [List.drop_of_length_le h1, List.drop_of_length_le h2, mrg_nilL]
end
end Go.Proofs.YthmkgnifcbnkpaaGreat
namespace Go.Proofs.YthmkgnifcbnkpaaGreat
open Go.RowKit

section
variable {α : Type} [DecidableEq α] {lt : α → α → Bool}
theorem mrg_set (hs : Sto lt) (A B : List α) : mrg lt (setOf lt A) (setOf lt B) = setOf lt (A ++ B) := by
  obtain ⟨a1, a2⟩ := setOf_is hs A
  obtain ⟨b1, b2⟩ := setOf_is hs B
  obtain ⟨r, m, -⟩ := mrg_spec hs _ (setOf lt A) (setOf lt B) (Nat.le_refl _) a1 b1
  exact SetOf.is hs ⟨r, fun z => by rw [m, List.mem_append, a2, b2]⟩
theorem setOf_len (_hs : Sto lt) : ∀ (L : List α), (setOf lt L).length ≤ L.length := fun L => by
  have h : ∀ (l : List α), (cpt l).length ≤ l.length := by
    intro l
    induction l using cpt.induct with
    | case1 => simp [cpt]
    | case2 => simp [cpt]
    | case3 => simp_all [cpt]; omega
    | case4 => simp_all [cpt]
  have := h (L.mergeSort fun x y => !lt y x)
  rwa [List.length_mergeSort] at this
theorem setOf_short (hs : Sto lt) {L : List α} (h : L.length < 2) : setOf lt L = L := by
  refine (SetOf.is hs (SetOf.self ?_)).symm
  match L, h with
  | [], _ => exact List.Pairwise.nil
  | [x], _ => exact List.pairwise_singleton _ _
theorem setOf_half (hs : Sto lt) (L : List α) (k : Nat) : mrg lt (setOf lt (L.take k)) (setOf lt (L.drop k)) = setOf lt L := by rw [mrg_set hs, List.take_append_drop]
end
end Go.Proofs.YthmkgnifcbnkpaaGreat
namespace Go.Proofs.YthmkgnifcbnkpaaGreat
open Go.RowKit

set_option maxHeartbeats 1000000 in
theorem refInner_any (n : Nat) (w : World) : Calls Tryz.prog 79 #[.int .u8 (n : Int)] w (Only w (.bool (letN n))) := by
  have key : ∀ b, letN n = b → Calls Tryz.prog 79 #[.int .u8 (n : Int)] w (Only w (.bool b)) := by
    intro b hb
    have HB := Lib.hid hb
    clear hb
    go_enter Tryz.func79, Tryz.ntmps79
    go_wp2
    all_goals
      go_ret
      refine ⟨retb ?_, rfl⟩
      rw [← HB.out, Bool.eq_iff_iff]
      simp [letN]
      try omega
  exact key _ rfl

set_option maxHeartbeats 1000000 in
set_option maxRecDepth 100000 in
theorem refName_any (s : Txt) (w : World) (hs : s.size ≤ 9223372036854775807) : Calls Tryz.prog 86 #[.string s] w (Only w (.bool (nameB s))) := by
  obtain ⟨b, hb⟩ : ∃ b, nameB s = b := ⟨_, rfl⟩
  rw [hb]
  have HB0 := Lib.hid hb
  clear hb
  go_enter Tryz.func86, Tryz.ntmps86
  go_wp2_with fail
  go_loop [3] (fun i => ∃ k : Nat, k ≤ s.size ∧ i = .int .i64 k ∧ Hid (∀ j (hj : j < s.size), j < k → letN s[j].toNat = true)) (fun i => s.size - (intOf i).toNat)
  case atStart => exact ⟨0, Nat.zero_le _, rfl, Lib.hid (fun j _ hj => by omega)⟩
  case round =>
    obtain ⟨k, hk, rfl, hall⟩ := hrel
    by_cases hlt : k < s.size
    · cases hb : letN s[k].toNat with
      | true =>
        have HB := Lib.hid hb
        go_wp2_with fail
        refine (refInner_any _ _).mono ?_
        rintro e w' ⟨rfl, rfl⟩
        go_wp2
        go_round
        case rel => exact ⟨k + 1, by omega, by go_num, Lib.hid (fun j hj h => by
          rcases Nat.lt_succ_iff_lt_or_eq.1 h with h | rfl
          · exact hall.out j hj h
          · exact HB.out)⟩
        case measure => simp [intOf]; omega
      | false =>
        have HB := Lib.hid hb
        go_wp2_with fail
        refine (refInner_any _ _).mono ?_
        rintro e w' ⟨rfl, rfl⟩
        go_wp2
        go_ret
        exact ⟨retb (by rw [← HB0.out, nameB_at hlt HB.out]), rfl⟩
    · obtain rfl : k = s.size := by omega
      by_cases hl : 1 ≤ s.size ∧ s.size ≤ 16
      · have h1 : (1 : Int) ≤ (s.size : Int) := by omega
        have h2 : (s.size : Int) ≤ 16 := by omega
        have HL := Lib.hid hl
        clear hl
        go_wp2
        go_ret
        exact ⟨retb (by rw [← HB0.out, nameB_all HL.out (fun j hj => hall.out j hj hj)]), rfl⟩
      · have HL := Lib.hid (nameB_long hl)
        by_cases h1 : (1 : Int) ≤ (s.size : Int)
        · have h2 : ¬ ((s.size : Int) ≤ 16) := by omega
          clear hl
          go_wp2
          go_ret
          exact ⟨retb (by rw [← HB0.out, HL.out]), rfl⟩
        · clear hl
          go_wp2
          go_ret
          exact ⟨retb (by rw [← HB0.out, HL.out]), rfl⟩

set_option maxHeartbeats 1000000 in
set_option maxRecDepth 100000 in
theorem refLabel_any (s : Txt) (w : World) (hs : s.size ≤ 9223372036854775807) : Calls Tryz.prog 87 #[.string s] w (Only w (.bool (labelB s))) := by
  have key : ∀ b, labelB s = b → Calls Tryz.prog 87 #[.string s] w (Only w (.bool b)) := by
    intro b hb
    cases hn : nameB s with
    | false =>
      have e : b = false := by rw [← hb, labelB, hn, Bool.false_and]
      subst e
      have hcon := refName_any s w hs
      rw [hn] at hcon
      clear hb hn
      go_enter Tryz.func87, Tryz.ntmps87
      go_wp2_with fail
      refine hcon.mono ?_
      rintro e w' ⟨rfl, rfl⟩
      go_wp2
      go_ret
      exact ⟨rfl, rfl⟩
    | true =>
      have h1 : 0 < s.size := by
        unfold nameB at hn
        simp at hn
        omega
      have hb' : decide (97 ≤ (s[0].toNat : Int) ∧ (s[0].toNat : Int) ≤ 122) = b := by
        rw [← hb, labelB, hn, Bool.true_and, head_at h1]
        exact decide_eq_decide.2 (by omega)
      have hcon := refName_any s w hs
      rw [hn] at hcon
      have HB := Lib.hid hb'
      have h2 : (0 : Int) < (s.size : Int) := by omega
      clear hb hn hb'
      go_enter Tryz.func87, Tryz.ntmps87
      go_wp2_with fail
      refine hcon.mono ?_
      rintro e w' ⟨rfl, rfl⟩
      go_wp2
      all_goals
        go_ret
        refine ⟨retb ?_, rfl⟩
        rw [← HB.out, Bool.eq_iff_iff]
        simp
        try omega
  exact key _ rfl

theorem txt_beq (a b : Txt) : (ByteArray.toList a == ByteArray.toList b) = decide (a = b) := by
  rw [Bool.eq_iff_iff, beq_iff_eq, decide_eq_true_iff, txt_list, txt_list]
  exact ⟨txt_ext, fun h => by rw [h]⟩
theorem ltE_if (x y : Ed) : ltE x y = if x.fr = y.fr then (if x.lb = y.lb then ltT x.to y.to else ltT x.lb y.lb) else ltT x.fr y.fr := rfl
set_option maxHeartbeats 2000000 in
set_option maxRecDepth 100000 in
theorem before_any (x y : Ed) (w : World) : Calls Tryz.prog 96 #[x.agg, y.agg] w (Sam w (.bool (ltE x y))) := by
  obtain ⟨a0, a1, a2⟩ := x
  obtain ⟨b0, b1, b2⟩ := y
  rw [ltE_if]
  dsimp only
  obtain ⟨v0, e0⟩ : ∃ v, ltT a0 b0 = v := ⟨_, rfl⟩
  obtain ⟨v1, e1⟩ : ∃ v, ltT a1 b1 = v := ⟨_, rfl⟩
  obtain ⟨v2, e2⟩ : ∃ v, ltT a2 b2 = v := ⟨_, rfl⟩
  rw [e0, e1, e2]
  unfold ltT at e0 e1 e2
  obtain ⟨r, hr⟩ : ∃ r, (if a0 = b0 then (if a1 = b1 then v2 else v1) else v0) = r := ⟨_, rfl⟩
  rw [hr]
  have HR := Lib.hid hr
  clear hr
  have k0 := (Blk.new w 39 #[.string a0, .string a1, .string a2]).alloc (.cells #[.string b0, .string b1, .string b2] 39)
  have k1 := Blk.new (w.alloc (.cells #[.string a0, .string a1, .string a2] 39)) 39 #[.string b0, .string b1, .string b2]
  simp only [World.size_alloc] at k1
  have bb : Below w.heap.size w ((w.alloc (.cells #[.string a0, .string a1, .string a2] 39)).alloc (.cells #[.string b0, .string b1, .string b2] 39)) := by (repeat (first | exact Below.refl _ _ | apply Below.drew | refine Below.alloc ?_ (by first | exact Nat.le_refl _ | (simp; done) | (simp; omega)) _ | refine Below.setCell ?_ (by first | exact Nat.le_refl _ | (simp; done) | (simp; omega)) _))
  have HK := Lib.hid (And.intro k0 (And.intro k1 bb))
  clear k0 k1 bb
  unfold Ed.agg
  go_enter Tryz.func96, Tryz.ntmps96
  go_upto_region 1 with (fail)
  generalize (w.alloc (.cells #[.string a0, .string a1, .string a2] 39)).alloc (.cells #[.string b0, .string b1, .string b2] 39) = W0 at HK ⊢
  have c00 : W0.cell? ⟨w.heap.size, 0, none⟩ = some (.string a0) := HK.out.1.cell 0
  have c01 : W0.cell? ⟨w.heap.size, 1, none⟩ = some (.string a1) := HK.out.1.cell 1
  have c02 : W0.cell? ⟨w.heap.size, 2, none⟩ = some (.string a2) := HK.out.1.cell 2
  have c10 : W0.cell? ⟨w.heap.size + 1, 0, none⟩ = some (.string b0) := HK.out.2.1.cell 0
  have c11 : W0.cell? ⟨w.heap.size + 1, 1, none⟩ = some (.string b1) := HK.out.2.1.cell 1
  have c12 : W0.cell? ⟨w.heap.size + 1, 2, none⟩ = some (.string b2) := HK.out.2.1.cell 2
  go_wp2
  all_goals
    go_ret
    refine ⟨retb ?_, HK.out.2.2⟩
    rw [← HR.out]
    simp only [txt_beq] at *
    simp_all

set_option maxHeartbeats 2000000 in
set_option maxRecDepth 100000 in
theorem among_any (w : World) (A : Option Addr) (c : Nat) (N : List Txt) (s : Txt) (h : RowR w A (txtCells N)) (hup : Rises ltT N) (hl : N.length * 16 ≤ 140737488355328) :
    Calls Tryz.prog 97 #[.slice A N.length c, .string s] w (Only w (.bool (inB s N))) := by
  obtain ⟨b, hb⟩ : ∃ b, inB s N = b := ⟨_, rfl⟩
  rw [hb]
  obtain ⟨n, hn⟩ : ∃ n, N.length = n := ⟨_, rfl⟩
  rw [hn] at hl ⊢
  have H := Lib.hid (And.intro h (And.intro hup (And.intro hb hn)))
  clear h hup hb hn
  go_enter Tryz.func97, Tryz.ntmps97
  go_wp2_with fail
  go_loop [5, 6, 7] (fun lo hi _ => ∃ i j : Nat, i ≤ j ∧ j ≤ n ∧ lo = .int .i64 i ∧ hi = .int .i64 j ∧ Hid ((∀ k x, k < i → N[k]? = some x → ltT x s = true) ∧ ∀ k x, j ≤ k → N[k]? = some x → ltT x s = false)) (fun lo hi _ => (intOf hi).toNat - (intOf lo).toNat)
  case atStart => exact ⟨0, n, Nat.zero_le _, Nat.le_refl _, rfl, rfl, Lib.hid ⟨fun k x hk => by omega, fun k x hk hx => by have := (List.getElem?_eq_some_iff.1 hx).1; have := H.out.2.2.2; omega⟩⟩
  case round =>
    obtain ⟨i, j, hij, hjn, rfl, rfl, hs⟩ := hrel
    by_cases hlt : i < j
    · have hltI : (i : Int) < (j : Int) := by omega
      have hw1 : IntKind.i64.wrap ((i : Int) + (j : Int)) = (i : Int) + (j : Int) := IntWalk.i64_in _ (by omega)
      obtain ⟨k, hk⟩ : ∃ k, (i + j) / 2 = k := ⟨_, rfl⟩
      have hq : ((i : Int) + (j : Int)).tdiv 2 = (k : Int) := by
        rw [Int.tdiv_eq_ediv_of_nonneg (by omega), ← hk]
        omega
      have hkj : k < j := by omega
      have hik : i ≤ k := by omega
      have hkn : k < n := by omega
      have hw2 : IntKind.i64.wrap ((k : Int) + 1) = (k : Int) + 1 := IntWalk.i64_in _ (by omega)
      have hw3 : IntKind.i64.wrap (k : Int) = (k : Int) := IntWalk.i64_in _ (by omega)
      obtain ⟨x, hx⟩ : ∃ x, N[k]? = some x := ⟨N[k]'(by rw [H.out.2.2.2]; exact hkn), List.getElem?_eq_getElem _⟩
      obtain ⟨ab, ao, rfl, x0⟩ := H.out.1.txt hx
      cases hlx : ltT x s with
      | true =>
        have HX := Lib.hid (And.intro hx hlx)
        unfold ltT at hlx
        clear hx hk
        go_wp2
        go_round
        case rel => exact ⟨k + 1, j, by omega, hjn, by go_num, rfl, Lib.hid ⟨fun k' x' hk' hx' => by
            rcases Nat.lt_succ_iff_lt_or_eq.1 hk' with h | rfl
            · have hr : ltT x' x = true := (List.pairwise_iff_getElem.1 H.out.2.1) k' k (List.getElem?_eq_some_iff.1 hx').1 (List.getElem?_eq_some_iff.1 HX.out.1).1 h |> fun h => by
                rw [(List.getElem?_eq_some_iff.1 hx').2, (List.getElem?_eq_some_iff.1 HX.out.1).2] at h
                exact h
              exact stoT.tr _ _ _ hr HX.out.2
            · rw [HX.out.1] at hx'
              injection hx' with e
              rw [← e]
              exact HX.out.2, hs.out.2⟩⟩
        case measure => simp [intOf]; omega
      | false =>
        have HX := Lib.hid (And.intro hx hlx)
        unfold ltT at hlx
        clear hx hk
        go_wp2
        go_round
        case rel => exact ⟨i, k, hik, by omega, rfl, rfl, Lib.hid ⟨hs.out.1, fun k' x' hk' hx' => by
            rcases Nat.lt_or_eq_of_le hk' with h | rfl
            · have hr : ltT x x' = true := (List.pairwise_iff_getElem.1 H.out.2.1) k k' (List.getElem?_eq_some_iff.1 HX.out.1).1 (List.getElem?_eq_some_iff.1 hx').1 h |> fun h => by
                rw [(List.getElem?_eq_some_iff.1 hx').2, (List.getElem?_eq_some_iff.1 HX.out.1).2] at h
                exact h
              cases e : ltT x' s
              · rfl
              · have := stoT.tr _ _ _ hr e
                rw [HX.out.2] at this
                cases this
            · rw [HX.out.1] at hx'
              injection hx' with e
              rw [← e]
              exact HX.out.2⟩⟩
        case measure => simp [intOf]; omega
    · obtain rfl : i = j := by omega
      by_cases hin : i < n
      · have hinI : (i : Int) < (n : Int) := by omega
        obtain ⟨x, hx⟩ : ∃ x, N[i]? = some x := ⟨N[i]'(by rw [H.out.2.2.2]; exact hin), List.getElem?_eq_getElem _⟩
        obtain ⟨ab, ao, rfl, x0⟩ := H.out.1.txt hx
        have key : b = decide (x = s) := by
          rw [← H.out.2.2.1, Bool.eq_iff_iff, inB_iff, decide_eq_true_iff]
          constructor
          · intro hm
            obtain ⟨k, hk, e⟩ := List.getElem_of_mem hm
            have hk' : N[k]? = some s := by rw [List.getElem?_eq_getElem hk, e]
            rcases Nat.lt_trichotomy k i with h | rfl | h
            · have := hs.out.1 k s h hk'
              rw [stoT.irr] at this
              cases this
            · rw [hx] at hk'
              injection hk'
            · have h1 := hs.out.2 i x (Nat.le_refl _) hx
              have hr : ltT x s = true := (List.pairwise_iff_getElem.1 H.out.2.1) i k (List.getElem?_eq_some_iff.1 hx).1 hk h |> fun h => by
                rw [(List.getElem?_eq_some_iff.1 hx).2, e] at h
                exact h
              rw [h1] at hr
              cases hr
          · rintro rfl
            exact List.mem_of_getElem? hx
        have HK := Lib.hid key
        clear key hx
        go_wp2
        all_goals
          go_ret
          refine ⟨retb ?_, rfl⟩
          rw [HK.out]
          exact txt_beq _ _
      · obtain rfl : i = n := by omega
        have key : b = false := by
          cases b with
          | false => rfl
          | true =>
            obtain ⟨k, hk, e⟩ := List.getElem_of_mem (inB_iff.1 H.out.2.2.1)
            have := hs.out.1 k s (by have := H.out.2.2.2; omega) (by rw [List.getElem?_eq_getElem hk, e])
            rw [stoT.irr] at this
            cases this
        have HK := Lib.hid key
        clear key
        go_wp2
        all_goals
          go_ret
          exact ⟨retb HK.out.symm, rfl⟩
end Go.Proofs.YthmkgnifcbnkpaaGreat
namespace Go.Proofs.YthmkgnifcbnkpaaGreat
open Go.RowKit

set_option maxHeartbeats 8000000 in
set_option maxRecDepth 100000 in
theorem merge_any (W2 : World) (A1 : Option Addr) (c1 : Nat) (A2 : Option Addr) (c2 : Nat) (P Q : List Txt) (hA : RowR W2 A1 (txtCells P)) (hB : RowR W2 A2 (txtCells Q)) (hl : (P.length + Q.length) * 16 ≤ 140737488355328) :
    Calls Tryz.prog 116 #[.slice A1 P.length c1, .slice A2 Q.length c2] W2 (NewT W2 (mrg ltT P Q)) := by
  obtain ⟨n, hn⟩ : ∃ n, P.length = n := ⟨_, rfl⟩
  obtain ⟨m, hm⟩ : ∃ m, Q.length = m := ⟨_, rfl⟩
  rw [hn, hm] at hl ⊢
  have HR := Lib.hid (And.intro hA hB)
  have HL := Lib.hid (And.intro hn hm)
  clear hA hB hn hm
  go_enter Tryz.func116, Tryz.ntmps116
  go_wp2_with fail
  go_loopw [5, 6, 7] (fun v i j wr => ∃ (p q : Nat) (L : List Txt), p ≤ n ∧ q ≤ m ∧ i = .int .i64 p ∧ j = .int .i64 q ∧ L.length ≤ p + q ∧ Hid (L ++ mrg ltT (P.drop p) (Q.drop q) = mrg ltT P Q) ∧ Hid (Below W2.heap.size W2 wr) ∧ Hid (wr.ownsRow W2.heap.size 9 1 v L.length (txtCells L))) (fun _ i j _ => (n - (intOf i).toNat) + (m - (intOf j).toNat))
  case atStart => exact ⟨0, 0, [], Nat.zero_le _, Nat.zero_le _, rfl, rfl, Nat.le_refl _, Lib.hid (by simp), Lib.hid (Below.refl _ _), Lib.hid (World.ownsRow_nil _ _ _ _)⟩
  case round =>
    obtain ⟨p, q, L, hp, hq, rfl, rfl, hL, hI, hbw, how⟩ := hrel
    have hpw : IntKind.i64.wrap ((p : Int) + 1) = (p : Int) + 1 := IntWalk.i64_in _ (by omega)
    have hqw : IntKind.i64.wrap ((q : Int) + 1) = (q : Int) + 1 := IntWalk.i64_in _ (by omega)
    by_cases hpn : p < n
    · have hpI : (p : Int) < (n : Int) := by omega
      obtain ⟨x, hx⟩ : ∃ z, P[p]? = some z := ⟨P[p]'(by rw [HL.out.1]; assumption), List.getElem?_eq_getElem _⟩
      obtain ⟨ab, ao, rfl, xa⟩ := (HR.out.1.below hbw.out).txt hx
      by_cases hqm : q < m
      · have hqI : (q : Int) < (m : Int) := by omega
        have hqne : ((q : Int) == (m : Int)) = false := by simp; omega
        obtain ⟨y, hy⟩ : ∃ z, Q[q]? = some z := ⟨Q[q]'(by rw [HL.out.2]; assumption), List.getElem?_eq_getElem _⟩
        obtain ⟨bb, bo, rfl, ya⟩ := (HR.out.2.below hbw.out).txt hy
        obtain ⟨v0, hv⟩ : ∃ b, ltT x y = b := ⟨_, rfl⟩
        have HV := Lib.hid hv
        have hv2 : Op.bytesLess (ByteArray.toList x) (ByteArray.toList y) = v0 := hv
        clear hv
        have hS : wr.drew.cell? ⟨ab, ao + p, none⟩ = some (.string x) ∧ wr.drew.cell? ⟨bb, bo + q, none⟩ = some (.string y) := ⟨xa, ya⟩
        go_upto_region 4 with (fail)
        refine wp_region_ord (fun w' => w'.cell? ⟨ab, ao + p, none⟩ = some (.string x) ∧ w'.cell? ⟨bb, bo + q, none⟩ = some (.string y)) 21 [(0, true), (1, true), (2, true), (3, true), (4, true), (5, true), (6, true), (7, true), (8, true), (9, true), (10, true), (11, true), (12, true), (13, true), (14, true), (15, true), (16, true), (17, true), (18, true), (19, true), (20, true)] (by kernel_rfl) (by kernel_rfl) (fun _ _ d _ _ h => by cases d <;> exact h) hS ?_
        iterate 18 (refine ord_take (v := ?_) rfl (by first | with_reducible rfl | kernel_rfl) ?_ ?_; rotate_left; (focus (intro wS hS; (try dsimp only at hS); go_split_ands; go_simp; (try with_reducible rfl); done)); (try simp only [Act.put, List.getElem_toArray, List.getElem_cons_succ, List.getElem_cons_zero, List.setIfInBounds_toArray, List.set_cons_zero, List.set_cons_succ]))
        cases v0 with
        | true =>
          iterate 3 (refine ord_take (v := ?_) rfl (by first | with_reducible rfl | kernel_rfl) ?_ ?_; rotate_left; (focus (intro wS hS; (try dsimp only at hS); go_split_ands; go_simp; (try with_reducible rfl); done)); (try simp only [Act.put, List.getElem_toArray, List.getElem_cons_succ, List.getElem_cons_zero, List.setIfInBounds_toArray, List.set_cons_zero, List.set_cons_succ]))
          refine ord_done ?_
          clear hS
          obtain ⟨W5, hW5⟩ : ∃ W, W = wr.drew := ⟨_, rfl⟩
          have bW5 : Below wr.heap.size wr W5 := by rw [hW5]; exact (Below.refl _ _).drew
          rw [← hW5]
          have xa5 := (bW5.cell (World.block_lt_of_cell? _ _ xa)).trans xa
          have ya5 := (bW5.cell (World.block_lt_of_cell? _ _ ya)).trans ya
          have own5 := ownsRow_upd how.out (Upd.of_below bW5 (fun _ => False)) (fun _ _ h => h)
          have bb5 := hbw.out.trans (bW5.mono hbw.out.size)
          obtain ⟨v6, w6, happ, own6, b6⟩ := push_txt W5 W2.heap.size _ L own5 x (by omega) bb5.size
          have HN := Lib.hid (And.intro (bb5.trans (b6.1.below (fun k _ e => b6.2 k e) bb5.size)) own6)
          have HI := Lib.hid (show (L ++ [x]) ++ mrg ltT (P.drop (p + 1)) (Q.drop (q)) = mrg ltT P Q by
            rw [← hI.out, mrg_takeA hx (.inr ⟨_, hy, HV.out⟩)]
            simp)
          clear hI hx hy own6 own5 bb5 b6 hW5 bW5
          clear xa ya
          clear ya5
          go_wp2_with (at_builtin; refine wpList_append_run rfl _ _ _ rfl rfl rfl happ ?_)
          go_roundw
          case rel => exact ⟨p + 1, q, L ++ [x], by omega, by omega, by go_num, by go_num, by simp; omega, HI, Lib.hid HN.out.1, Lib.hid HN.out.2⟩
          case measure => simp [intOf]; omega
        | false =>
          iterate 3 (refine ord_take (v := ?_) rfl (by first | with_reducible rfl | kernel_rfl) ?_ ?_; rotate_left; (focus (intro wS hS; (try dsimp only at hS); go_split_ands; go_simp; (try with_reducible rfl); done)); (try simp only [Act.put, List.getElem_toArray, List.getElem_cons_succ, List.getElem_cons_zero, List.setIfInBounds_toArray, List.set_cons_zero, List.set_cons_succ]))
          refine ord_done ?_
          clear hS
          obtain ⟨W5, hW5⟩ : ∃ W, W = wr.drew := ⟨_, rfl⟩
          have bW5 : Below wr.heap.size wr W5 := by rw [hW5]; exact (Below.refl _ _).drew
          rw [← hW5]
          have xa5 := (bW5.cell (World.block_lt_of_cell? _ _ xa)).trans xa
          have ya5 := (bW5.cell (World.block_lt_of_cell? _ _ ya)).trans ya
          have own5 := ownsRow_upd how.out (Upd.of_below bW5 (fun _ => False)) (fun _ _ h => h)
          have bb5 := hbw.out.trans (bW5.mono hbw.out.size)
          by_cases he : x = y
          · have heq : (ByteArray.toList x == ByteArray.toList y) = true := by rw [txt_beq, decide_eq_true he]
            have HE := Lib.hid he
            clear he
            have hS : W5.drew.cell? ⟨ab, ao + p, none⟩ = some (.string x) ∧ W5.drew.cell? ⟨bb, bo + q, none⟩ = some (.string y) := ⟨xa5, ya5⟩
            go_upto_region 7 with (fail)
            refine wp_region_ord (fun w' => w'.cell? ⟨ab, ao + p, none⟩ = some (.string x) ∧ w'.cell? ⟨bb, bo + q, none⟩ = some (.string y)) 15 [(0, true), (1, true), (2, true), (3, true), (4, true), (5, true), (6, true), (7, true), (8, true), (9, true), (10, true), (11, true), (12, true), (13, true), (14, true)] (by kernel_rfl) (by kernel_rfl) (fun _ _ d _ _ h => by cases d <;> exact h) hS ?_
            iterate 15 (refine ord_take (v := ?_) rfl (by first | with_reducible rfl | kernel_rfl) ?_ ?_; rotate_left; (focus (intro wS hS; (try dsimp only at hS); go_split_ands; go_simp; (try with_reducible rfl); done)); (try simp only [Act.put, List.getElem_toArray, List.getElem_cons_succ, List.getElem_cons_zero, List.setIfInBounds_toArray, List.set_cons_zero, List.set_cons_succ]))
            refine ord_done ?_
            clear hS
            obtain ⟨W6, hW6⟩ : ∃ W, W = W5.drew := ⟨_, rfl⟩
            have bW6 : Below W5.heap.size W5 W6 := by rw [hW6]; exact (Below.refl _ _).drew
            rw [← hW6]
            have ya7 := (bW6.cell (World.block_lt_of_cell? _ _ ya5)).trans ya5
            have own7 := ownsRow_upd own5 (Upd.of_below bW6 (fun _ => False)) (fun _ _ h => h)
            have bb7 := bb5.trans (bW6.mono bb5.size)
            obtain ⟨v6, w6, happ, own6, b6⟩ := push_txt W6 W2.heap.size _ L own7 y (by omega) bb7.size
            have HN := Lib.hid (And.intro (bb7.trans (b6.1.below (fun k _ e => b6.2 k e) bb7.size)) own6)
            have HI := Lib.hid (show (L ++ [y]) ++ mrg ltT (P.drop (p + 1)) (Q.drop (q + 1)) = mrg ltT P Q by
              rw [← hI.out, mrg_both stoT (by rw [← HE.out]; exact hx) hy]
              simp)
            clear hI hx hy own6 own5 bb5 own7 bb7 hW6 bW6 heq b6 hW5 bW5
            clear xa ya
            clear xa5 ya5
            go_wp2_with (at_builtin; refine wpList_append_run rfl _ _ _ rfl rfl rfl happ ?_)
            go_roundw
            case rel => exact ⟨p + 1, q + 1, L ++ [y], by omega, by omega, by go_num, by go_num, by simp; omega, HI, Lib.hid HN.out.1, Lib.hid HN.out.2⟩
            case measure => simp [intOf]; omega
          · have heq : (ByteArray.toList x == ByteArray.toList y) = false := by rw [txt_beq, decide_eq_false he]
            have HE := Lib.hid he
            clear he
            have hS : W5.drew.cell? ⟨ab, ao + p, none⟩ = some (.string x) ∧ W5.drew.cell? ⟨bb, bo + q, none⟩ = some (.string y) := ⟨xa5, ya5⟩
            go_upto_region 7 with (fail)
            refine wp_region_ord (fun w' => w'.cell? ⟨ab, ao + p, none⟩ = some (.string x) ∧ w'.cell? ⟨bb, bo + q, none⟩ = some (.string y)) 15 [(0, true), (1, true), (2, true), (3, true), (4, true), (5, true), (6, true), (7, true), (8, true), (9, true), (10, true), (11, true), (12, true), (13, true), (14, true)] (by kernel_rfl) (by kernel_rfl) (fun _ _ d _ _ h => by cases d <;> exact h) hS ?_
            iterate 15 (refine ord_take (v := ?_) rfl (by first | with_reducible rfl | kernel_rfl) ?_ ?_; rotate_left; (focus (intro wS hS; (try dsimp only at hS); go_split_ands; go_simp; (try with_reducible rfl); done)); (try simp only [Act.put, List.getElem_toArray, List.getElem_cons_succ, List.getElem_cons_zero, List.setIfInBounds_toArray, List.set_cons_zero, List.set_cons_succ]))
            refine ord_done ?_
            clear hS
            obtain ⟨W6, hW6⟩ : ∃ W, W = W5.drew := ⟨_, rfl⟩
            have bW6 : Below W5.heap.size W5 W6 := by rw [hW6]; exact (Below.refl _ _).drew
            rw [← hW6]
            have ya7 := (bW6.cell (World.block_lt_of_cell? _ _ ya5)).trans ya5
            have own7 := ownsRow_upd own5 (Upd.of_below bW6 (fun _ => False)) (fun _ _ h => h)
            have bb7 := bb5.trans (bW6.mono bb5.size)
            obtain ⟨v6, w6, happ, own6, b6⟩ := push_txt W6 W2.heap.size _ L own7 y (by omega) bb7.size
            have HN := Lib.hid (And.intro (bb7.trans (b6.1.below (fun k _ e => b6.2 k e) bb7.size)) own6)
            have HI := Lib.hid (show (L ++ [y]) ++ mrg ltT (P.drop (p)) (Q.drop (q + 1)) = mrg ltT P Q by
              rw [← hI.out, mrg_takeB hy (.inr ⟨_, hx, HV.out, HE.out⟩)]
              simp)
            clear hI hx hy own6 own5 bb5 own7 bb7 hW6 bW6 heq b6 hW5 bW5
            clear xa ya
            clear xa5 ya5
            go_wp2_with (at_builtin; refine wpList_append_run rfl _ _ _ rfl rfl rfl happ ?_)
            go_roundw
            case rel => exact ⟨p, q + 1, L ++ [y], by omega, by omega, by go_num, by go_num, by simp; omega, HI, Lib.hid HN.out.1, Lib.hid HN.out.2⟩
            case measure => simp [intOf]; omega
      · obtain rfl : q = m := by omega
        have hqe : ((q : Int) == (q : Int)) = true := by simp
        have hS : wr.drew.cell? ⟨ab, ao + p, none⟩ = some (.string x) := xa
        go_upto_region 4 with (fail)
        refine wp_region_ord (fun w' => w'.cell? ⟨ab, ao + p, none⟩ = some (.string x)) 21 [(0, true), (1, true), (2, true), (3, true), (4, true), (5, true), (6, true), (7, true), (8, true), (9, true), (10, true), (11, true), (12, true), (13, true), (14, true), (15, true), (16, true), (17, true), (18, true), (19, true), (20, true)] (by kernel_rfl) (by kernel_rfl) (fun _ _ d _ _ h => by cases d <;> exact h) hS ?_
        iterate 5 (refine ord_take (v := ?_) rfl (by first | with_reducible rfl | kernel_rfl) ?_ ?_; rotate_left; (focus (intro wS hS; (try dsimp only at hS); go_split_ands; go_simp; (try with_reducible rfl); done)); (try simp only [Act.put, List.getElem_toArray, List.getElem_cons_succ, List.getElem_cons_zero, List.setIfInBounds_toArray, List.set_cons_zero, List.set_cons_succ]))
        iterate 13 (refine ord_skip rfl (by kernel_rfl) ?_; (try simp only [Act.put, List.getElem_toArray, List.getElem_cons_succ, List.getElem_cons_zero, List.setIfInBounds_toArray, List.set_cons_zero, List.set_cons_succ]))
        (refine ord_skip rfl (by kernel_rfl) ?_; (try simp only [Act.put, List.getElem_toArray, List.getElem_cons_succ, List.getElem_cons_zero, List.setIfInBounds_toArray, List.set_cons_zero, List.set_cons_succ]))
        (refine ord_skip rfl (by kernel_rfl) ?_; (try simp only [Act.put, List.getElem_toArray, List.getElem_cons_succ, List.getElem_cons_zero, List.setIfInBounds_toArray, List.set_cons_zero, List.set_cons_succ]))
        (refine ord_take (v := ?_) rfl (by first | with_reducible rfl | kernel_rfl) ?_ ?_; rotate_left; (focus (intro wS hS; (try dsimp only at hS); go_split_ands; go_simp; (try with_reducible rfl); done)); (try simp only [Act.put, List.getElem_toArray, List.getElem_cons_succ, List.getElem_cons_zero, List.setIfInBounds_toArray, List.set_cons_zero, List.set_cons_succ]))
        refine ord_done ?_
        clear hS
        obtain ⟨W5, hW5⟩ : ∃ W, W = wr.drew := ⟨_, rfl⟩
        have bW5 : Below wr.heap.size wr W5 := by rw [hW5]; exact (Below.refl _ _).drew
        rw [← hW5]
        have xa5 := (bW5.cell (World.block_lt_of_cell? _ _ xa)).trans xa
        have own5 := ownsRow_upd how.out (Upd.of_below bW5 (fun _ => False)) (fun _ _ h => h)
        have bb5 := hbw.out.trans (bW5.mono hbw.out.size)
        obtain ⟨v6, w6, happ, own6, b6⟩ := push_txt W5 W2.heap.size _ L own5 x (by omega) bb5.size
        have HN := Lib.hid (And.intro (bb5.trans (b6.1.below (fun k _ e => b6.2 k e) bb5.size)) own6)
        have HI := Lib.hid (show (L ++ [x]) ++ mrg ltT (P.drop (p + 1)) (Q.drop (q)) = mrg ltT P Q by
          rw [← hI.out, mrg_takeA hx (.inl (by rw [HL.out.2]; exact Nat.le_refl _))]
          simp)
        clear hI hx own6 own5 bb5 hW5 bW5 b6
        clear xa
        go_wp2_with (at_builtin; refine wpList_append_run rfl _ _ _ rfl rfl rfl happ ?_)
        go_roundw
        case rel => exact ⟨p + 1, q, L ++ [x], by omega, by omega, by go_num, by go_num, by simp; omega, HI, Lib.hid HN.out.1, Lib.hid HN.out.2⟩
        case measure => simp [intOf]; omega
    · obtain rfl : p = n := by omega
      by_cases hqm : q < m
      · have hqI : (q : Int) < (m : Int) := by omega
        have hqne : ((q : Int) == (m : Int)) = false := by simp; omega
        obtain ⟨y, hy⟩ : ∃ z, Q[q]? = some z := ⟨Q[q]'(by rw [HL.out.2]; assumption), List.getElem?_eq_getElem _⟩
        obtain ⟨bb, bo, rfl, ya⟩ := (HR.out.2.below hbw.out).txt hy
        have hS : wr.drew.cell? ⟨bb, bo + q, none⟩ = some (.string y) := ya
        go_upto_region 4 with (fail)
        refine wp_region_ord (fun w' => w'.cell? ⟨bb, bo + q, none⟩ = some (.string y)) 21 [(0, true), (1, true), (2, true), (3, true), (4, true), (5, true), (6, true), (7, true), (8, true), (9, true), (10, true), (11, true), (12, true), (13, true), (14, true), (15, true), (16, true), (17, true), (18, true), (19, true), (20, true)] (by kernel_rfl) (by kernel_rfl) (fun _ _ d _ _ h => by cases d <;> exact h) hS ?_
        iterate 10 (refine ord_take (v := ?_) rfl (by first | with_reducible rfl | kernel_rfl) ?_ ?_; rotate_left; (focus (intro wS hS; (try dsimp only at hS); go_split_ands; go_simp; (try with_reducible rfl); done)); (try simp only [Act.put, List.getElem_toArray, List.getElem_cons_succ, List.getElem_cons_zero, List.setIfInBounds_toArray, List.set_cons_zero, List.set_cons_succ]))
        iterate 8 (refine ord_skip rfl (by kernel_rfl) ?_; (try simp only [Act.put, List.getElem_toArray, List.getElem_cons_succ, List.getElem_cons_zero, List.setIfInBounds_toArray, List.set_cons_zero, List.set_cons_succ]))
        (refine ord_skip rfl (by kernel_rfl) ?_; (try simp only [Act.put, List.getElem_toArray, List.getElem_cons_succ, List.getElem_cons_zero, List.setIfInBounds_toArray, List.set_cons_zero, List.set_cons_succ]))
        (refine ord_take (v := ?_) rfl (by first | with_reducible rfl | kernel_rfl) ?_ ?_; rotate_left; (focus (intro wS hS; (try dsimp only at hS); go_split_ands; go_simp; (try with_reducible rfl); done)); (try simp only [Act.put, List.getElem_toArray, List.getElem_cons_succ, List.getElem_cons_zero, List.setIfInBounds_toArray, List.set_cons_zero, List.set_cons_succ]))
        (refine ord_take (v := ?_) rfl (by first | with_reducible rfl | kernel_rfl) ?_ ?_; rotate_left; (focus (intro wS hS; (try dsimp only at hS); go_split_ands; go_simp; (try with_reducible rfl); done)); (try simp only [Act.put, List.getElem_toArray, List.getElem_cons_succ, List.getElem_cons_zero, List.setIfInBounds_toArray, List.set_cons_zero, List.set_cons_succ]))
        refine ord_done ?_
        clear hS
        obtain ⟨W5, hW5⟩ : ∃ W, W = wr.drew := ⟨_, rfl⟩
        have bW5 : Below wr.heap.size wr W5 := by rw [hW5]; exact (Below.refl _ _).drew
        rw [← hW5]
        have ya5 := (bW5.cell (World.block_lt_of_cell? _ _ ya)).trans ya
        have own5 := ownsRow_upd how.out (Upd.of_below bW5 (fun _ => False)) (fun _ _ h => h)
        have bb5 := hbw.out.trans (bW5.mono hbw.out.size)
        have hS : W5.drew.cell? ⟨bb, bo + q, none⟩ = some (.string y) := ya5
        go_upto_region 7 with (fail)
        refine wp_region_ord (fun w' => w'.cell? ⟨bb, bo + q, none⟩ = some (.string y)) 15 [(0, true), (1, true), (2, true), (3, true), (4, true), (5, true), (6, true), (7, true), (8, true), (9, true), (10, true), (11, true), (12, true), (13, true), (14, true)] (by kernel_rfl) (by kernel_rfl) (fun _ _ d _ _ h => by cases d <;> exact h) hS ?_
        iterate 5 (refine ord_take (v := ?_) rfl (by first | with_reducible rfl | kernel_rfl) ?_ ?_; rotate_left; (focus (intro wS hS; (try dsimp only at hS); go_split_ands; go_simp; (try with_reducible rfl); done)); (try simp only [Act.put, List.getElem_toArray, List.getElem_cons_succ, List.getElem_cons_zero, List.setIfInBounds_toArray, List.set_cons_zero, List.set_cons_succ]))
        iterate 9 (refine ord_skip rfl (by kernel_rfl) ?_; (try simp only [Act.put, List.getElem_toArray, List.getElem_cons_succ, List.getElem_cons_zero, List.setIfInBounds_toArray, List.set_cons_zero, List.set_cons_succ]))
        (refine ord_take (v := ?_) rfl (by first | with_reducible rfl | kernel_rfl) ?_ ?_; rotate_left; (focus (intro wS hS; (try dsimp only at hS); go_split_ands; go_simp; (try with_reducible rfl); done)); (try simp only [Act.put, List.getElem_toArray, List.getElem_cons_succ, List.getElem_cons_zero, List.setIfInBounds_toArray, List.set_cons_zero, List.set_cons_succ]))
        refine ord_done ?_
        clear hS
        obtain ⟨W6, hW6⟩ : ∃ W, W = W5.drew := ⟨_, rfl⟩
        have bW6 : Below W5.heap.size W5 W6 := by rw [hW6]; exact (Below.refl _ _).drew
        rw [← hW6]
        have yy := True.intro
        have ya7 := (bW6.cell (World.block_lt_of_cell? _ _ ya5)).trans ya5
        have own7 := ownsRow_upd own5 (Upd.of_below bW6 (fun _ => False)) (fun _ _ h => h)
        have bb7 := bb5.trans (bW6.mono bb5.size)
        obtain ⟨v6, w6, happ, own6, b6⟩ := push_txt W6 W2.heap.size _ L own7 y (by omega) bb7.size
        have HN := Lib.hid (And.intro (bb7.trans (b6.1.below (fun k _ e => b6.2 k e) bb7.size)) own6)
        have HI := Lib.hid (show (L ++ [y]) ++ mrg ltT (P.drop (p)) (Q.drop (q + 1)) = mrg ltT P Q by
          rw [← hI.out, mrg_takeB hy (.inl (by rw [HL.out.1]; exact Nat.le_refl _))]
          simp)
        clear hI hy own6 own5 bb5 own7 bb7 hW5 bW5 hW6 bW6 yy b6
        clear ya
        clear ya5
        go_wp2_with (at_builtin; refine wpList_append_run rfl _ _ _ rfl rfl rfl happ ?_)
        go_roundw
        case rel => exact ⟨p, q + 1, L ++ [y], by omega, by omega, by go_num, by go_num, by simp; omega, HI, Lib.hid HN.out.1, Lib.hid HN.out.2⟩
        case measure => simp [intOf]; omega
      · obtain rfl : q = m := by omega
        obtain ⟨A9, c9, rfl, -, -⟩ := own_form how.out
        have FIN := Lib.hid (show NewT W2 (mrg ltT P Q) (.returned (.slice A9 L.length c9)) wr from ⟨_, rfl, by
          have hI := hI.out
          rw [mrg_end (by rw [HL.out.1]; exact Nat.le_refl _) (by rw [HL.out.2]; exact Nat.le_refl _), List.append_nil] at hI
          rw [← hI]
          exact how.out, hbw.out⟩)
        clear hI how
        go_wp2
        go_ret
        exact FIN.out
end Go.Proofs.YthmkgnifcbnkpaaGreat
namespace Go.Proofs.YthmkgnifcbnkpaaGreat
open Go.RowKit

set_option maxHeartbeats 2000000 in
set_option maxRecDepth 100000 in
theorem refNamed_any (w : World) (A : Option Addr) (c : Nat) (B : Option Addr) (d : Nat) (N : List Txt) (E : List Ed) (h : ForG w A c B d N E) :
    Calls Tryz.prog 46 #[.slice A N.length c, .slice B E.length d] w (Sam w (.bool (namedB N E))) := by
  have hn : N.length ≤ 140737488355328 := by have := h.fit.n; omega
  have hd : E.length ≤ 140737488355328 := by have := h.fit.e; omega
  have HA := Lib.hid (And.intro h.fit.tn h.fit.te)
  have H := Lib.hid (And.intro h (And.intro h (Below.refl w.heap.size w)))
  clear h
  obtain ⟨W0, hW0⟩ : ∃ W, W = w := ⟨_, rfl⟩
  subst hW0
  go_enter Tryz.func46, Tryz.ntmps46
  go_wp2_with fail
  go_loop [5] (fun i => ∃ k : Nat, k ≤ N.length ∧ i = .int .i64 k ∧ Hid (∀ j, j < k → ∀ x, N[j]? = some x → nameB x = true)) (fun i => N.length - (intOf i).toNat)
  case atStart => exact ⟨0, Nat.zero_le _, rfl, Lib.hid (fun j hj => by omega)⟩
  case round =>
    obtain ⟨k, hk, rfl, hall⟩ := hrel
    by_cases hlt : k < N.length
    · have hltI : (k : Int) < (N.length : Int) := by omega
      have hkw : IntKind.i64.wrap ((k : Int) + 1) = (k : Int) + 1 := IntWalk.i64_in _ (by omega)
      obtain ⟨x, hx⟩ : ∃ x, N[k]? = some x := ⟨N[k], List.getElem?_eq_getElem _⟩
      obtain ⟨ab, ao, rfl, x0⟩ := H.out.1.rn.txt hx
      have hcon := fun w => refName_any x w (HA.out.1 x (List.mem_of_getElem? hx))
      obtain ⟨b, hb⟩ : ∃ b, nameB x = b := ⟨_, rfl⟩
      rw [hb] at hcon
      have HX := Lib.hid (And.intro hx hb)
      clear hx hb
      cases b
      · go_wp2_with fail
        refine (hcon _).mono ?_
        rintro e w' ⟨rfl, rfl⟩
        go_wp2
        go_ret
        refine ⟨retb ?_, H.out.2.2⟩
        rw [namedB, all_false_at HX.out.1 HX.out.2, Bool.false_and]
      · go_wp2_with fail
        refine (hcon _).mono ?_
        rintro e w' ⟨rfl, rfl⟩
        go_wp2
        go_round
        case rel => exact ⟨k + 1, by omega, by go_num, Lib.hid (fun j hj y hy => by
          rcases Nat.lt_succ_iff_lt_or_eq.1 hj with h | rfl
          · exact hall.out j h y hy
          · rw [HX.out.1] at hy
            injection hy with hy
            rw [← hy]
            exact HX.out.2)⟩
        case measure => simp [intOf]; omega
    · obtain rfl : k = N.length := by omega
      have hN : N.all nameB = true := all_true_at (fun j x hx => hall.out j (List.getElem?_eq_some_iff.1 hx).1 x hx)
      have HN := Lib.hid hN
      clear hN hall hk hlt
      go_wp2_with fail
      go_loopw [7] (fun i wr => ∃ k : Nat, k ≤ E.length ∧ i = .int .i64 k ∧ Hid (Below W0.heap.size W0 wr) ∧ Hid (∀ j, j < k → ∀ x, E[j]? = some x → edNamed x = true)) (fun i _ => E.length - (intOf i).toNat)
      case atStart => exact ⟨0, Nat.zero_le _, rfl, Lib.hid (Below.refl _ _), Lib.hid (fun j hj => by omega)⟩
      case round =>
        obtain ⟨k, hk, rfl, hb, hall⟩ := hrel
        by_cases hlt : k < E.length
        · have hltI : (k : Int) < (E.length : Int) := by omega
          have hkw : IntKind.i64.wrap ((k : Int) + 1) = (k : Int) + 1 := IntWalk.i64_in _ (by omega)
          obtain ⟨⟨s0, s1, s2⟩, hx⟩ : ∃ x, E[k]? = some x := ⟨E[k], List.getElem?_eq_getElem _⟩
          obtain ⟨ab, ao, rfl, x0, x1, x2⟩ := (H.out.1.below hb.out).re.ed hx
          dsimp only at x0 x1 x2
          have hok := HA.out.2 _ (List.mem_of_getElem? hx)
          have c0 := fun w => refName_any s0 w hok.1
          have c1 := fun w => refLabel_any s1 w hok.2.1
          have c2 := fun w => refName_any s2 w hok.2.2
          obtain ⟨v0, e0⟩ : ∃ b, nameB s0 = b := ⟨_, rfl⟩
          obtain ⟨v1, e1⟩ : ∃ b, labelB s1 = b := ⟨_, rfl⟩
          obtain ⟨v2, e2⟩ : ∃ b, nameB s2 = b := ⟨_, rfl⟩
          rw [e0] at c0
          rw [e1] at c1
          rw [e2] at c2
          have hv : edNamed ⟨s0, s1, s2⟩ = (v0 && (v1 && v2)) := by rw [edNamed, e0, e1, e2]
          have kx := Blk.new wr 39 #[.string s0, .string s1, .string s2]
          have bx : Below wr.heap.size wr (wr.alloc (.cells #[.string s0, .string s1, .string s2] 39)) := (Below.refl _ _).alloc (Nat.le_refl _) _
          have HX := Lib.hid (And.intro hx (And.intro hv (And.intro kx (hb.out.trans (bx.mono hb.out.size)))))
          clear hx hok e0 e1 e2 hv kx bx
          go_upto_region 11 with (fail)
          generalize wr.alloc (.cells #[.string s0, .string s1, .string s2] 39) = W1 at HX ⊢
          clear x0 x1 x2
          have x0 : W1.cell? ⟨wr.heap.size, 0, none⟩ = some (.string s0) := HX.out.2.2.1.cell 0
          have x1 : W1.cell? ⟨wr.heap.size, 1, none⟩ = some (.string s1) := HX.out.2.2.1.cell 1
          have x2 : W1.cell? ⟨wr.heap.size, 2, none⟩ = some (.string s2) := HX.out.2.2.1.cell 2
          go_wp2_with fail
          refine (c0 _).mono ?_
          rintro e w' ⟨rfl, rfl⟩
          cases v0
          · go_wp2
            go_ret
            refine ⟨retb ?_, H.out.2.2.trans (HX.out.2.2.2.mono H.out.2.2.size)⟩
            rw [namedB, all_false_at (p := edNamed) HX.out.1 HX.out.2.1, Bool.and_false]
          · go_wp2_with fail
            refine (c1 _).mono ?_
            rintro e w' ⟨rfl, rfl⟩
            cases v1
            · go_wp2
              go_ret
              refine ⟨retb ?_, H.out.2.2.trans (HX.out.2.2.2.mono H.out.2.2.size)⟩
              rw [namedB, all_false_at (p := edNamed) HX.out.1 HX.out.2.1, Bool.and_false]
            · go_wp2_with fail
              refine (c2 _).mono ?_
              rintro e w' ⟨rfl, rfl⟩
              cases v2
              · go_wp2
                go_ret
                refine ⟨retb ?_, H.out.2.2.trans (HX.out.2.2.2.mono H.out.2.2.size)⟩
                rw [namedB, all_false_at (p := edNamed) HX.out.1 HX.out.2.1, Bool.and_false]
              · go_wp2
                go_roundw
                case rel => exact ⟨k + 1, by omega, by go_num, Lib.hid HX.out.2.2.2, Lib.hid (fun j hj y hy => by
                  rcases Nat.lt_succ_iff_lt_or_eq.1 hj with h | rfl
                  · exact hall.out j h y hy
                  · rw [HX.out.1] at hy
                    injection hy with hy
                    rw [← hy]
                    exact HX.out.2.1)⟩
                case measure => simp [intOf]; omega
        · obtain rfl : k = E.length := by omega
          go_wp2
          go_ret
          refine ⟨retb ?_, H.out.2.2.trans (hb.out.mono H.out.2.2.size)⟩
          rw [namedB, HN.out, Bool.true_and]
          exact (all_true_at (fun j x hx => hall.out j (List.getElem?_eq_some_iff.1 hx).1 x hx)).symm


set_option maxHeartbeats 4000000 in
set_option maxRecDepth 100000 in
theorem refForm_any (w : World) (A : Option Addr) (c : Nat) (B : Option Addr) (d : Nat) (N : List Txt) (E : List Ed) (h : ForG w A c B d N E) :
    Calls Tryz.prog 56 #[twoV A N.length c B E.length d] w (Sam w (.bool (formB N E))) := by
  have k0 := Blk.new w 25 #[.slice A N.length c, .slice B E.length d]
  have u0 : Below w.heap.size w (w.alloc (.cells #[.slice A N.length c, .slice B E.length d] 25)) := (Below.refl _ _).alloc (Nat.le_refl _) _
  have hn : N.length * 16 ≤ 140737488355328 := h.fit.n
  have hd : E.length ≤ 140737488355328 := by have := h.fit.e; omega
  have H := Lib.hid (And.intro (h.below u0) (And.intro k0 u0))
  clear h k0 u0
  obtain ⟨n, hn1⟩ : ∃ n, N.length = n := ⟨_, rfl⟩
  obtain ⟨m, hm1⟩ : ∃ n, E.length = n := ⟨_, rfl⟩
  rw [hn1, hm1] at H
  rw [hn1] at hn
  rw [hm1] at hd
  rw [hn1, hm1]
  have HL := Lib.hid (And.intro hn1 hm1)
  clear hn1 hm1
  unfold twoV
  go_enter Tryz.func56, Tryz.ntmps56
  go_upto_region 1 with (fail)
  generalize w.alloc (.cells #[.slice A n c, .slice B m d] 25) = W0 at H ⊢
  have q0 : W0.cell? ⟨w.heap.size, 0, none⟩ = some (.slice A n c) := H.out.2.1.cell 0
  go_wp2_with fail
  go_loopw [3] (fun i wr => ∃ k : Nat, 1 ≤ k ∧ (k ≤ n ∨ k = 1) ∧ i = .int .i64 k ∧ Hid (Below W0.heap.size W0 wr) ∧ Hid (∀ j, j + 1 < k → ∀ a b, N[j]? = some a → N[j + 1]? = some b → ltT a b = true)) (fun i _ => n - (intOf i).toNat)
  case atStart => exact ⟨1, Nat.le_refl _, .inr rfl, rfl, Lib.hid (Below.refl _ _), Lib.hid (fun j hj => by omega)⟩
  case round =>
    obtain ⟨k, hk1, hk, rfl, hbw, hall⟩ := hrel
    have q0 : wr.cell? ⟨w.heap.size, 0, none⟩ = some (.slice A n c) := (H.out.2.1.upd (Upd.of_below hbw.out (fun _ => False)) id).cell 0
    by_cases hlt : k < n
    · have hltI : (k : Int) < (n : Int) := by omega
      have hkw : IntKind.i64.wrap ((k : Int) + 1) = (k : Int) + 1 := IntWalk.i64_in _ (by omega)
      obtain ⟨k', rfl⟩ : ∃ k', k = k' + 1 := ⟨k - 1, by omega⟩
      have hkm : IntKind.i64.wrap (k' : Int) = (k' : Int) := IntWalk.i64_in _ (by omega)
      have h0k : (0 : Int) ≤ (k' : Int) + 1 := by omega
      obtain ⟨x, hx⟩ : ∃ x, N[k']? = some x := ⟨N[k']'(by rw [HL.out.1]; omega), List.getElem?_eq_getElem _⟩
      obtain ⟨y, hy⟩ : ∃ y, N[k' + 1]? = some y := ⟨N[k' + 1]'(by rw [HL.out.1]; omega), List.getElem?_eq_getElem _⟩
      have h0 := H.out.1.rn.below hbw.out
      obtain ⟨ab, ao, rfl, x0⟩ := h0.txt hx
      have y0 := h0.txt_at hy
      have HXY := Lib.hid (And.intro hx hy)
      have hk2 : (k' : Int) < (n : Int) := by omega
      clear h0 hx hy
      have S : ∀ w', Below wr.heap.size wr w' → w'.cell? ⟨w.heap.size, 0, none⟩ = some (.slice (some ⟨ab, ao, none⟩) n c) ∧ w'.cell? ⟨ab, ao + k', none⟩ = some (.string x) ∧ w'.cell? ⟨ab, ao + (k' + 1), none⟩ = some (.string y) := fun w' hb => ⟨(hb.cell (World.block_lt_of_cell? _ _ q0)).trans q0, (hb.cell (World.block_lt_of_cell? _ _ x0)).trans x0, (hb.cell (World.block_lt_of_cell? _ _ y0)).trans y0⟩
      have hS := S wr.drew (Below.refl _ _).drew
      clear S
      cases hl : ltT x y with
      | true =>
        have hl2 : Op.bytesLess (ByteArray.toList x) (ByteArray.toList y) = true := hl
        have HLT := Lib.hid hl
        clear hl
        go_upto_region 4 with (fail)
        refine wp_region_ord (fun w' => w'.cell? ⟨w.heap.size, 0, none⟩ = some (.slice (some ⟨ab, ao, none⟩) n c) ∧ w'.cell? ⟨ab, ao + k', none⟩ = some (.string x) ∧ w'.cell? ⟨ab, ao + (k' + 1), none⟩ = some (.string y)) 12 [(0, true), (1, true), (2, true), (3, true), (4, true), (5, true), (6, true), (7, true), (8, true), (9, true), (10, true), (11, true)] (by kernel_rfl) (by kernel_rfl) (fun _ _ d _ _ h => by cases d <;> exact h) hS ?_
        iterate 12 (refine ord_take (v := ?_) rfl (by first | with_reducible rfl | kernel_rfl) ?_ ?_; rotate_left; (focus (intro wS hS; (try dsimp only at hS); go_split_ands; go_simp; (try with_reducible rfl); done)); (try simp only [Act.put, List.getElem_toArray, List.getElem_cons_succ, List.getElem_cons_zero, List.setIfInBounds_toArray, List.set_cons_zero, List.set_cons_succ]))
        refine ord_done ?_
        go_wp2
        go_roundw
        case rel => exact ⟨k' + 1 + 1, by omega, .inl (by omega), by go_num, Lib.hid hbw.out.drew, Lib.hid (fun j hj a b ha hb => by
          rcases Nat.lt_succ_iff_lt_or_eq.1 (Nat.lt_of_succ_lt_succ hj) with h | rfl
          · exact hall.out j (by omega) a b ha hb
          · rw [HXY.out.1] at ha
            rw [HXY.out.2] at hb
            injection ha with ha
            injection hb with hb
            rw [← ha, ← hb]
            exact HLT.out)⟩
        case measure => simp [intOf]; omega
      | false =>
        have hl2 : Op.bytesLess (ByteArray.toList x) (ByteArray.toList y) = false := hl
        have HLT := Lib.hid hl
        clear hl
        go_upto_region 4 with (fail)
        refine wp_region_ord (fun w' => w'.cell? ⟨w.heap.size, 0, none⟩ = some (.slice (some ⟨ab, ao, none⟩) n c) ∧ w'.cell? ⟨ab, ao + k', none⟩ = some (.string x) ∧ w'.cell? ⟨ab, ao + (k' + 1), none⟩ = some (.string y)) 12 [(0, true), (1, true), (2, true), (3, true), (4, true), (5, true), (6, true), (7, true), (8, true), (9, true), (10, true), (11, true)] (by kernel_rfl) (by kernel_rfl) (fun _ _ d _ _ h => by cases d <;> exact h) hS ?_
        iterate 12 (refine ord_take (v := ?_) rfl (by first | with_reducible rfl | kernel_rfl) ?_ ?_; rotate_left; (focus (intro wS hS; (try dsimp only at hS); go_split_ands; go_simp; (try with_reducible rfl); done)); (try simp only [Act.put, List.getElem_toArray, List.getElem_cons_succ, List.getElem_cons_zero, List.setIfInBounds_toArray, List.set_cons_zero, List.set_cons_succ]))
        refine ord_done ?_
        go_wp2
        go_ret
        refine ⟨retb ?_, H.out.2.2.trans (hbw.out.drew.mono H.out.2.2.size)⟩
        rw [formB, up_false HXY.out.1 HXY.out.2 HLT.out, Bool.false_and]
    · have hup : upB ltT N = true := (upB_iff N).2 (fun i a b ha hb => hall.out i (by have := (List.getElem?_eq_some_iff.1 hb).1; have := HL.out.1; omega) a b ha hb)
      have hltI : ¬ ((k : Int) < (n : Int)) := by omega
      obtain ⟨W2, hW2⟩ : ∃ W, W = wr := ⟨_, rfl⟩
      subst hW2
      have HUP := Lib.hid (And.intro hup (And.intro (rises_of_up stoT hup) hbw.out))
      clear hup hall hlt
      have q1 : W2.cell? ⟨w.heap.size, 1, none⟩ = some (.slice B m d) := (H.out.2.1.upd (Upd.of_below hbw.out (fun _ => False)) id).cell 1
      go_wp2_with fail
      clear q0 q1 hltI
      go_loopw [4] (fun i wr => ∃ k : Nat, k ≤ m ∧ i = .int .i64 k ∧ Hid (Below W0.heap.size W0 wr) ∧ Hid (∀ j, j < k → ∀ a, E[j]? = some a → endsIn N a = true ∧ ∀ b, 0 < j → E[j - 1]? = some b → ltE b a = true)) (fun i _ => m - (intOf i).toNat)
      case atStart => exact ⟨0, Nat.zero_le _, rfl, Lib.hid HUP.out.2.2, Lib.hid (fun j hj => by omega)⟩
      case round =>
        obtain ⟨k, hk, rfl, hb, hall⟩ := hrel
        have K := H.out.2.1.upd (Upd.of_below hb.out (fun _ => False)) id
        have q0 : wr.cell? ⟨w.heap.size, 0, none⟩ = some (.slice A n c) := K.cell 0
        have q1 : wr.cell? ⟨w.heap.size, 1, none⟩ = some (.slice B m d) := K.cell 1
        clear K
        by_cases hlt : k < m
        · have hltI : (k : Int) < (m : Int) := by omega
          have hkw : IntKind.i64.wrap ((k : Int) + 1) = (k : Int) + 1 := IntWalk.i64_in _ (by omega)
          obtain ⟨⟨y1, y2, y3⟩, hy⟩ : ∃ x, E[k]? = some x := ⟨E[k]'(by rw [HL.out.2]; exact hlt), List.getElem?_eq_getElem _⟩
          have h0 := H.out.1.re.below hb.out
          obtain ⟨ab, ao, rfl, b0, b1, b2⟩ := h0.ed hy
          dsimp only at b0 b1 b2
          have HY := Lib.hid hy
          have HAM := Lib.hid (show ∀ (W : World) (s : Txt), Below W0.heap.size W0 W → Calls Tryz.prog 97 #[.slice A n c, .string s] W (Only W (.bool (inB s N))) from fun W s hb => by
            have := among_any W A c N s (H.out.1.rn.below hb) HUP.out.2.1 (by rw [HL.out.1]; exact hn)
            rwa [HL.out.1] at this)
          have hend : endsIn N ⟨y1, y2, y3⟩ = (inB y1 N && inB y3 N) := rfl
          obtain ⟨e1, he1⟩ : ∃ b, inB y1 N = b := ⟨_, rfl⟩
          obtain ⟨e2, he2⟩ : ∃ b, inB y3 N = b := ⟨_, rfl⟩
          rw [he1, he2] at hend
          have HE := Lib.hid (And.intro he1 (And.intro he2 hend))
          have SR := Lib.hid (show ∀ W, Below wr.heap.size wr W → W.cell? ⟨w.heap.size, 0, none⟩ = some (.slice A n c) ∧ W.cell? ⟨w.heap.size, 1, none⟩ = some (.slice (some ⟨ab, ao, none⟩) m d) ∧ W.cell? ⟨ab, ao + k * 3, none⟩ = some (.string y1) ∧ W.cell? ⟨ab, ao + k * 3 + 1, none⟩ = some (.string y2) ∧ W.cell? ⟨ab, ao + k * 3 + 2, none⟩ = some (.string y3) from fun W h => by
            have g : ∀ {p : Addr} {u : Value}, wr.cell? p = some u → W.cell? p = some u := fun {p u} h2 => (h.cell (World.block_lt_of_cell? wr _ h2)).trans h2
            exact ⟨g q0, g q1, g b0, g b1, g b2⟩)
          clear hend he1 he2 hy h0
          by_cases hk0 : k = 0
          · subst hk0
            have hz : ¬ ((0 : Int) < ((0 : Nat) : Int)) := by omega
            have hS := SR.out wr.drew (Below.refl _ _).drew
            go_upto_region 9 with (fail)
            refine wp_region_ord (fun w' => w'.cell? ⟨w.heap.size, 0, none⟩ = some (.slice A n c) ∧ w'.cell? ⟨w.heap.size, 1, none⟩ = some (.slice (some ⟨ab, ao, none⟩) m d) ∧ w'.cell? ⟨ab, ao, none⟩ = some (.string y1) ∧ w'.cell? ⟨ab, ao + 1, none⟩ = some (.string y2) ∧ w'.cell? ⟨ab, ao + 2, none⟩ = some (.string y3)) 17 [(0, true), (1, true), (2, true), (3, true), (4, true), (5, true), (6, true), (7, true), (8, true), (9, true), (10, true), (11, true), (12, true), (13, true), (14, false), (15, true), (16, true)] (by kernel_rfl) (by kernel_rfl) (fun _ _ d _ _ h => by cases d <;> exact h) hS ?_
            iterate 3 (refine ord_take (v := ?_) rfl (by first | with_reducible rfl | kernel_rfl) ?_ ?_; rotate_left; (focus (intro wS hS; (try dsimp only at hS); go_split_ands; go_simp; (try with_reducible rfl); done)); (try simp only [Act.put, List.getElem_toArray, List.getElem_cons_succ, List.getElem_cons_zero, List.setIfInBounds_toArray, List.set_cons_zero, List.set_cons_succ]))
            iterate 11 (refine ord_skip rfl (by kernel_rfl) ?_; (try simp only [Act.put, List.getElem_toArray, List.getElem_cons_succ, List.getElem_cons_zero, List.setIfInBounds_toArray, List.set_cons_zero, List.set_cons_succ]))
            (refine ord_skipf rfl (by kernel_rfl) (by first | assumption | trivial | exact UP.out _ H5.out) ?_; (try simp only [Act.put, List.getElem_toArray, List.getElem_cons_succ, List.getElem_cons_zero, List.setIfInBounds_toArray, List.set_cons_zero, List.set_cons_succ]))
            (refine ord_skip rfl (by kernel_rfl) ?_; (try simp only [Act.put, List.getElem_toArray, List.getElem_cons_succ, List.getElem_cons_zero, List.setIfInBounds_toArray, List.set_cons_zero, List.set_cons_succ]))
            (refine ord_take (v := ?_) rfl (by first | with_reducible rfl | kernel_rfl) ?_ ?_; rotate_left; (focus (intro wS hS; (try dsimp only at hS); go_split_ands; go_simp; (try with_reducible rfl); done)); (try simp only [Act.put, List.getElem_toArray, List.getElem_cons_succ, List.getElem_cons_zero, List.setIfInBounds_toArray, List.set_cons_zero, List.set_cons_succ]))
            refine ord_done ?_
            obtain ⟨W5, hW5⟩ : ∃ W, W = wr.drew := ⟨_, rfl⟩
            have HB5 := Lib.hid (show Below wr.heap.size wr W5 by rw [hW5]; exact (Below.refl _ _).drew)
            rw [← hW5] at hS ⊢
            clear hW5 hS q0 q1 b0 b1 b2
            have hk00 : ∀ b, 0 < (0 : Nat) → E[0 - 1]? = some b → ltE b ⟨y1, y2, y3⟩ = true := fun b h => by omega
            have HLT := Lib.hid hk00
            clear hk00 hz
            have hbw5 := hb.out.trans (HB5.out.mono hb.out.size)
            have HB6 := Lib.hid hbw5
            have hS := SR.out W5.drew HB5.out.drew
            clear hbw5
            go_upto_region 11 with (fail)
            refine wp_region_ord (fun w' => w'.cell? ⟨w.heap.size, 0, none⟩ = some (.slice A n c) ∧ w'.cell? ⟨w.heap.size, 1, none⟩ = some (.slice (some ⟨ab, ao, none⟩) m d) ∧ w'.cell? ⟨ab, ao, none⟩ = some (.string y1) ∧ w'.cell? ⟨ab, ao + 1, none⟩ = some (.string y2) ∧ w'.cell? ⟨ab, ao + 2, none⟩ = some (.string y3)) 20 [(0, true), (1, true), (2, true), (3, true), (4, true), (5, true), (6, true), (7, true), (9, true), (10, true), (11, true), (12, true), (13, true), (14, true), (15, true), (16, true), (8, false), (17, false), (18, true), (19, true)] (by kernel_rfl) (by kernel_rfl) (fun _ _ d _ _ h => by cases d <;> exact h) hS ?_
            iterate 16 (refine ord_take (v := ?_) rfl (by first | with_reducible rfl | kernel_rfl) ?_ ?_; rotate_left; (focus (intro wS hS; (try dsimp only at hS); go_split_ands; go_simp; (try with_reducible rfl); done)); (try simp only [Act.put, List.getElem_toArray, List.getElem_cons_succ, List.getElem_cons_zero, List.setIfInBounds_toArray, List.set_cons_zero, List.set_cons_succ]))
            refine ord_do rfl rfl (fun K hK => ?_)
            go_simp
            refine (HAM.out W5.drew y1 HB6.out.drew).mono ?_
            rintro e w' ⟨rfl, hw⟩
            subst w'
            rw [HE.out.1]
            refine hK _ _ (fun _ => hS) ?_
            clear hK K
            (try simp only [Act.put, List.getElem_toArray, List.getElem_cons_succ, List.getElem_cons_zero, List.setIfInBounds_toArray, List.set_cons_zero, List.set_cons_succ])
            refine ord_do rfl rfl (fun K hK => ?_)
            go_simp
            refine (HAM.out W5.drew y3 HB6.out.drew).mono ?_
            rintro e w' ⟨rfl, hw⟩
            subst w'
            rw [HE.out.2.1]
            refine hK _ _ (fun _ => hS) ?_
            clear hK K
            (try simp only [Act.put, List.getElem_toArray, List.getElem_cons_succ, List.getElem_cons_zero, List.setIfInBounds_toArray, List.set_cons_zero, List.set_cons_succ])
            (refine ord_take (v := ?_) rfl (by first | with_reducible rfl | kernel_rfl) ?_ ?_; rotate_left; (focus (intro wS hS; (try dsimp only at hS); go_split_ands; go_simp; (try with_reducible rfl); done)); (try simp only [Act.put, List.getElem_toArray, List.getElem_cons_succ, List.getElem_cons_zero, List.setIfInBounds_toArray, List.set_cons_zero, List.set_cons_succ]))
            (refine ord_take (v := ?_) rfl (by first | with_reducible rfl | kernel_rfl) ?_ ?_; rotate_left; (focus (intro wS hS; (try dsimp only at hS); go_split_ands; go_simp; (try with_reducible rfl); done)); (try simp only [Act.put, List.getElem_toArray, List.getElem_cons_succ, List.getElem_cons_zero, List.setIfInBounds_toArray, List.set_cons_zero, List.set_cons_succ]))
            refine ord_done ?_
            clear hS
            have HB7 := Lib.hid HB6.out.drew
            cases e1 with
            | false =>
              go_wp2
              go_ret
              refine ⟨retb ?_, H.out.2.2.trans (HB7.out.mono H.out.2.2.size)⟩
              rw [formB, all_false_at (p := endsIn N) HY.out HE.out.2.2, Bool.and_false, Bool.and_false]
            | true =>
              cases e2 with
              | false =>
                go_wp2
                go_ret
                refine ⟨retb ?_, H.out.2.2.trans (HB7.out.mono H.out.2.2.size)⟩
                rw [formB, all_false_at (p := endsIn N) HY.out HE.out.2.2, Bool.and_false, Bool.and_false]
              | true =>
                go_wp2
                go_roundw
                case rel => exact ⟨0 + 1, by omega, by go_num, HB7, Lib.hid (fun j hj a ha => by
                  rcases Nat.lt_succ_iff_lt_or_eq.1 hj with h | rfl
                  · exact hall.out j h a ha
                  · rw [HY.out] at ha
                    injection ha with ha
                    rw [← ha]
                    exact ⟨HE.out.2.2, HLT.out⟩)⟩
                case measure => simp [intOf]; omega
          · obtain ⟨k', rfl⟩ : ∃ k', k = k' + 1 := ⟨k - 1, by omega⟩
            have hz : (0 : Int) < ((k' + 1 : Nat) : Int) := by omega
            have hkm : IntKind.i64.wrap (k' : Int) = (k' : Int) := IntWalk.i64_in _ (by omega)
            have h0k : (0 : Int) ≤ (k' : Int) + 1 := by omega
            have hk2 : (k' : Int) < (m : Int) := by omega
            obtain ⟨⟨x1, x2, x3⟩, hx⟩ : ∃ x, E[k']? = some x := ⟨E[k']'(by rw [HL.out.2]; omega), List.getElem?_eq_getElem _⟩
            obtain ⟨a0, a1, a2⟩ := (H.out.1.re.below hb.out).ed_at hx
            dsimp only at a0 a1 a2
            have hbf := fun W => before_any ⟨x1, x2, x3⟩ ⟨y1, y2, y3⟩ W
            obtain ⟨v, hv⟩ : ∃ b, ltE ⟨x1, x2, x3⟩ ⟨y1, y2, y3⟩ = b := ⟨_, rfl⟩
            rw [hv] at hbf
            unfold Ed.agg at hbf
            dsimp only at hbf
            have HV := Lib.hid (And.intro hx hv)
            have HBF := Lib.hid hbf
            have SX := Lib.hid (show ∀ W, Below wr.heap.size wr W → (fun w' => w'.cell? ⟨w.heap.size, 1, none⟩ = some (.slice (some ⟨ab, ao, none⟩) m d) ∧ w'.cell? ⟨ab, ao + (k' + 1) * 3, none⟩ = some (.string y1) ∧ w'.cell? ⟨ab, ao + (k' + 1) * 3 + 1, none⟩ = some (.string y2) ∧ w'.cell? ⟨ab, ao + (k' + 1) * 3 + 2, none⟩ = some (.string y3) ∧ w'.cell? ⟨ab, ao + k' * 3, none⟩ = some (.string x1) ∧ w'.cell? ⟨ab, ao + k' * 3 + 1, none⟩ = some (.string x2) ∧ w'.cell? ⟨ab, ao + k' * 3 + 2, none⟩ = some (.string x3)) W from fun W h => by
              have g : ∀ {p : Addr} {u : Value}, wr.cell? p = some u → W.cell? p = some u := fun {p u} h2 => (h.cell (World.block_lt_of_cell? wr _ h2)).trans h2
              exact ⟨g q1, g b0, g b1, g b2, g a0, g a1, g a2⟩)
            have hS := SX.out wr.drew (Below.refl _ _).drew
            clear hx hv hk0 hbf
            go_upto_region 9 with (fail)
            refine wp_region_ord (fun w' => w'.cell? ⟨w.heap.size, 1, none⟩ = some (.slice (some ⟨ab, ao, none⟩) m d) ∧ w'.cell? ⟨ab, ao + (k' + 1) * 3, none⟩ = some (.string y1) ∧ w'.cell? ⟨ab, ao + (k' + 1) * 3 + 1, none⟩ = some (.string y2) ∧ w'.cell? ⟨ab, ao + (k' + 1) * 3 + 2, none⟩ = some (.string y3) ∧ w'.cell? ⟨ab, ao + k' * 3, none⟩ = some (.string x1) ∧ w'.cell? ⟨ab, ao + k' * 3 + 1, none⟩ = some (.string x2) ∧ w'.cell? ⟨ab, ao + k' * 3 + 2, none⟩ = some (.string x3)) 17 [(0, true), (1, true), (2, true), (3, true), (4, true), (5, true), (6, true), (7, true), (8, true), (9, true), (10, true), (11, true), (12, true), (13, true), (14, false), (15, true), (16, true)] (by kernel_rfl) (by kernel_rfl) (fun _ _ d _ _ h => by cases d <;> exact h) hS ?_
            iterate 14 (refine ord_take (v := ?_) rfl (by first | with_reducible rfl | kernel_rfl) ?_ ?_; rotate_left; (focus (intro wS hS; (try dsimp only at hS); go_split_ands; go_simp; (try with_reducible rfl); done)); (try simp only [Act.put, List.getElem_toArray, List.getElem_cons_succ, List.getElem_cons_zero, List.setIfInBounds_toArray, List.set_cons_zero, List.set_cons_succ]))
            (refine ord_dog rfl (by first | with_reducible rfl | kernel_rfl) (fun K hK => ?_); go_simp)
            refine (HBF.out wr.drew).mono ?_
            rintro e W5 ⟨rfl, b5⟩
            have HB5 := Lib.hid (show Below wr.heap.size wr W5 from (Below.refl wr.heap.size wr).drew.trans b5)
            refine hK _ _ (fun _ => SX.out _ HB5.out) ?_
            clear hK K hS q0 q1 b0 b1 b2 a0 a1 a2 b5
            (try simp only [Act.put, List.getElem_toArray, List.getElem_cons_succ, List.getElem_cons_zero, List.setIfInBounds_toArray, List.set_cons_zero, List.set_cons_succ])
            cases v with
            | false =>
              (refine ord_take (v := ?_) rfl (by first | with_reducible rfl | kernel_rfl) ?_ ?_; rotate_left; (focus (intro wS hS; (try dsimp only at hS); go_split_ands; go_simp; (try with_reducible rfl); done)); (try simp only [Act.put, List.getElem_toArray, List.getElem_cons_succ, List.getElem_cons_zero, List.setIfInBounds_toArray, List.set_cons_zero, List.set_cons_succ]))
              (refine ord_take (v := ?_) rfl (by first | with_reducible rfl | kernel_rfl) ?_ ?_; rotate_left; (focus (intro wS hS; (try dsimp only at hS); go_split_ands; go_simp; (try with_reducible rfl); done)); (try simp only [Act.put, List.getElem_toArray, List.getElem_cons_succ, List.getElem_cons_zero, List.setIfInBounds_toArray, List.set_cons_zero, List.set_cons_succ]))
              refine ord_done ?_
              go_wp2
              go_ret
              refine ⟨retb ?_, H.out.2.2.trans ((hb.out.trans (HB5.out.mono hb.out.size)).mono H.out.2.2.size)⟩
              rw [formB, up_false HV.out.1 HY.out HV.out.2, Bool.false_and, Bool.and_false]
            | true =>
              (refine ord_take (v := ?_) rfl (by first | with_reducible rfl | kernel_rfl) ?_ ?_; rotate_left; (focus (intro wS hS; (try dsimp only at hS); go_split_ands; go_simp; (try with_reducible rfl); done)); (try simp only [Act.put, List.getElem_toArray, List.getElem_cons_succ, List.getElem_cons_zero, List.setIfInBounds_toArray, List.set_cons_zero, List.set_cons_succ]))
              (refine ord_take (v := ?_) rfl (by first | with_reducible rfl | kernel_rfl) ?_ ?_; rotate_left; (focus (intro wS hS; (try dsimp only at hS); go_split_ands; go_simp; (try with_reducible rfl); done)); (try simp only [Act.put, List.getElem_toArray, List.getElem_cons_succ, List.getElem_cons_zero, List.setIfInBounds_toArray, List.set_cons_zero, List.set_cons_succ]))
              refine ord_done ?_
              have HLT := Lib.hid (show ∀ b, 0 < k' + 1 → E[k' + 1 - 1]? = some b → ltE b ⟨y1, y2, y3⟩ = true from fun b _ h => by
                rw [Nat.add_sub_cancel, HV.out.1] at h
                injection h with h
                rw [← h]
                exact HV.out.2)
              clear hz hkm hk2
              have hbw5 := hb.out.trans (HB5.out.mono hb.out.size)
              have HB6 := Lib.hid hbw5
              have hS := SR.out W5.drew HB5.out.drew
              clear hbw5
              go_upto_region 11 with (fail)
              refine wp_region_ord (fun w' => w'.cell? ⟨w.heap.size, 0, none⟩ = some (.slice A n c) ∧ w'.cell? ⟨w.heap.size, 1, none⟩ = some (.slice (some ⟨ab, ao, none⟩) m d) ∧ w'.cell? ⟨ab, ao + (k' + 1) * 3, none⟩ = some (.string y1) ∧ w'.cell? ⟨ab, ao + (k' + 1) * 3 + 1, none⟩ = some (.string y2) ∧ w'.cell? ⟨ab, ao + (k' + 1) * 3 + 2, none⟩ = some (.string y3)) 20 [(0, true), (1, true), (2, true), (3, true), (4, true), (5, true), (6, true), (7, true), (9, true), (10, true), (11, true), (12, true), (13, true), (14, true), (15, true), (16, true), (8, false), (17, false), (18, true), (19, true)] (by kernel_rfl) (by kernel_rfl) (fun _ _ d _ _ h => by cases d <;> exact h) hS ?_
              iterate 16 (refine ord_take (v := ?_) rfl (by first | with_reducible rfl | kernel_rfl) ?_ ?_; rotate_left; (focus (intro wS hS; (try dsimp only at hS); go_split_ands; go_simp; (try with_reducible rfl); done)); (try simp only [Act.put, List.getElem_toArray, List.getElem_cons_succ, List.getElem_cons_zero, List.setIfInBounds_toArray, List.set_cons_zero, List.set_cons_succ]))
              refine ord_do rfl rfl (fun K hK => ?_)
              go_simp
              refine (HAM.out W5.drew y1 HB6.out.drew).mono ?_
              rintro e w' ⟨rfl, hw⟩
              subst w'
              rw [HE.out.1]
              refine hK _ _ (fun _ => hS) ?_
              clear hK K
              (try simp only [Act.put, List.getElem_toArray, List.getElem_cons_succ, List.getElem_cons_zero, List.setIfInBounds_toArray, List.set_cons_zero, List.set_cons_succ])
              refine ord_do rfl rfl (fun K hK => ?_)
              go_simp
              refine (HAM.out W5.drew y3 HB6.out.drew).mono ?_
              rintro e w' ⟨rfl, hw⟩
              subst w'
              rw [HE.out.2.1]
              refine hK _ _ (fun _ => hS) ?_
              clear hK K
              (try simp only [Act.put, List.getElem_toArray, List.getElem_cons_succ, List.getElem_cons_zero, List.setIfInBounds_toArray, List.set_cons_zero, List.set_cons_succ])
              (refine ord_take (v := ?_) rfl (by first | with_reducible rfl | kernel_rfl) ?_ ?_; rotate_left; (focus (intro wS hS; (try dsimp only at hS); go_split_ands; go_simp; (try with_reducible rfl); done)); (try simp only [Act.put, List.getElem_toArray, List.getElem_cons_succ, List.getElem_cons_zero, List.setIfInBounds_toArray, List.set_cons_zero, List.set_cons_succ]))
              (refine ord_take (v := ?_) rfl (by first | with_reducible rfl | kernel_rfl) ?_ ?_; rotate_left; (focus (intro wS hS; (try dsimp only at hS); go_split_ands; go_simp; (try with_reducible rfl); done)); (try simp only [Act.put, List.getElem_toArray, List.getElem_cons_succ, List.getElem_cons_zero, List.setIfInBounds_toArray, List.set_cons_zero, List.set_cons_succ]))
              refine ord_done ?_
              clear hS
              have HB7 := Lib.hid HB6.out.drew
              cases e1 with
              | false =>
                go_wp2
                go_ret
                refine ⟨retb ?_, H.out.2.2.trans (HB7.out.mono H.out.2.2.size)⟩
                rw [formB, all_false_at (p := endsIn N) HY.out HE.out.2.2, Bool.and_false, Bool.and_false]
              | true =>
                cases e2 with
                | false =>
                  go_wp2
                  go_ret
                  refine ⟨retb ?_, H.out.2.2.trans (HB7.out.mono H.out.2.2.size)⟩
                  rw [formB, all_false_at (p := endsIn N) HY.out HE.out.2.2, Bool.and_false, Bool.and_false]
                | true =>
                  go_wp2
                  go_roundw
                  case rel => exact ⟨(k' + 1) + 1, by omega, by go_num, HB7, Lib.hid (fun j hj a ha => by
                    rcases Nat.lt_succ_iff_lt_or_eq.1 hj with h | rfl
                    · exact hall.out j h a ha
                    · rw [HY.out] at ha
                      injection ha with ha
                      rw [← ha]
                      exact ⟨HE.out.2.2, HLT.out⟩)⟩
                  case measure => simp [intOf]; omega
        · obtain rfl : k = m := by omega
          have hue : upB ltE E = true := (upB_iff E).2 (fun i a b ha hb' => by
            have h1 := (List.getElem?_eq_some_iff.1 hb').1
            exact (hall.out (i + 1) (by have := HL.out.2; omega) b hb').2 a (by omega) (by rw [Nat.add_sub_cancel]; exact ha))
          have hal : E.all (endsIn N) = true := all_true_at (fun j x hx => (hall.out j (by have := (List.getElem?_eq_some_iff.1 hx).1; have := HL.out.2; omega) x hx).1)
          have HF := Lib.hid (show formB N E = true by rw [formB, HUP.out.1, hue, hal]; rfl)
          clear hue hal hall
          go_wp2
          go_ret
          exact ⟨retb HF.out.symm, H.out.2.2.trans (hb.out.mono H.out.2.2.size)⟩
end Go.Proofs.YthmkgnifcbnkpaaGreat
namespace Go.Proofs.YthmkgnifcbnkpaaGreat
open Go.RowKit

set_option maxHeartbeats 1000000 in
set_option maxRecDepth 20000 in
theorem refSameTexts_any (w : World) (A : Option Addr) (c : Nat) (B : Option Addr) (d : Nat) (N M : List Txt) (h : RowR w A (txtCells N)) (k : RowR w B (txtCells M)) (hc : N.length ≤ c) (hd : M.length ≤ d) (hl : N.length * 16 ≤ 140737488355328) (hl2 : M.length * 16 ≤ 140737488355328) :
    Calls Tryz.prog 27 #[.slice A N.length c, .slice B M.length d] w (Sam w (.bool (decide (N = M)))) := by
  have HH := Lib.hid (And.intro h k)
  clear h k
  by_cases hlen : N.length = M.length
  · obtain ⟨n, hn⟩ : ∃ n, M.length = n := ⟨_, rfl⟩
    rw [hn] at hlen hd hl2 ⊢
    have HN := Lib.hid (And.intro hn hlen)
    have hNn : N.length ≤ n := by omega
    have hnN : n ≤ N.length := by omega
    have hnM : n ≤ M.length := by omega
    rw [hlen] at hc hl ⊢
    clear hn hlen
    go_enter Tryz.func27, Tryz.ntmps27
    go_wp2_with fail
    go_loopw [5] (fun iv wr => ∃ k q : Nat, k ≤ n ∧ iv = .int .i64 k ∧ wr = w.drewN q ∧ Hid (∀ j, j < k → N[j]? = M[j]?)) (fun iv _ => n - (intOf iv).toNat)
    case atStart => exact ⟨0, 0, Nat.zero_le _, rfl, rfl, Lib.hid (fun j hj => by omega)⟩
    case round =>
      obtain ⟨k, q, hk, rfl, rfl, hall⟩ := hrel
      have hkw : IntKind.i64.wrap ((k : Int) + 1) = (k : Int) + 1 := IntWalk.i64_in _ (by omega)
      by_cases hlt : k < n
      · have hltI : (k : Int) < (n : Int) := by omega
        obtain ⟨x, hx⟩ : ∃ x, N[k]? = some x := ⟨N[k], List.getElem?_eq_getElem _⟩
        obtain ⟨y, hy⟩ : ∃ y, M[k]? = some y := ⟨M[k]'(by omega), List.getElem?_eq_getElem _⟩
        obtain ⟨ab, ao, rfl, x0⟩ := HH.out.1.txt hx
        obtain ⟨bb, bo, rfl, y0⟩ := HH.out.2.txt hy
        have hneq : (!(x.toList == y.toList)) = !decide (x = y) := by rw [eql_txt]
        have HXY := Lib.hid (And.intro hx hy)
        clear hx hy
        by_cases he : x = y
        · rw [decide_eq_true he] at hneq
          have HE := Lib.hid he
          clear he
          go_upto_region 6 with (fail)
          refine wp_region_ord (fun w' => w'.cell? ⟨ab, ao + k, none⟩ = some (.string x) ∧ w'.cell? ⟨bb, bo + k, none⟩ = some (.string y)) 9 [(0, true), (1, true), (2, true), (3, true), (4, true), (5, true), (6, true), (7, true), (8, true)] (by kernel_rfl) (by kernel_rfl) (fun _ _ d _ _ h => by cases d <;> exact h) ⟨x0, y0⟩ ?_
          iterate 9 (refine ord_take (v := ?_) rfl (by first | with_reducible rfl | kernel_rfl) ?_ ?_; rotate_left; (focus (intro wS hS; (try dsimp only at hS); go_split_ands; go_simp; (try with_reducible rfl); done)); (try simp only [Act.put, List.getElem_toArray, List.getElem_cons_succ, List.getElem_cons_zero, List.setIfInBounds_toArray, List.set_cons_zero, List.set_cons_succ]))
          refine ord_done ?_
          go_wp2
          go_roundw
          case rel => exact ⟨k + 1, q + 1, by omega, by go_num, rfl, Lib.hid (fun j hj => by
            rcases Nat.lt_succ_iff_lt_or_eq.1 hj with h | rfl
            · exact hall.out j h
            · rw [HXY.out.1, HXY.out.2, HE.out])⟩
          case measure => simp [intOf]; omega
        · rw [decide_eq_false he] at hneq
          have HE := Lib.hid he
          clear he
          go_upto_region 6 with (fail)
          refine wp_region_ord (fun w' => w'.cell? ⟨ab, ao + k, none⟩ = some (.string x) ∧ w'.cell? ⟨bb, bo + k, none⟩ = some (.string y)) 9 [(0, true), (1, true), (2, true), (3, true), (4, true), (5, true), (6, true), (7, true), (8, true)] (by kernel_rfl) (by kernel_rfl) (fun _ _ d _ _ h => by cases d <;> exact h) ⟨x0, y0⟩ ?_
          iterate 9 (refine ord_take (v := ?_) rfl (by first | with_reducible rfl | kernel_rfl) ?_ ?_; rotate_left; (focus (intro wS hS; (try dsimp only at hS); go_split_ands; go_simp; (try with_reducible rfl); done)); (try simp only [Act.put, List.getElem_toArray, List.getElem_cons_succ, List.getElem_cons_zero, List.setIfInBounds_toArray, List.set_cons_zero, List.set_cons_succ]))
          refine ord_done ?_
          go_wp2
          go_ret
          refine ⟨retb ?_, (below_drewN (Below.refl _ _) _).drew⟩
          refine (decide_eq_false (fun e => HE.out ?_)).symm
          have h1 := HXY.out.1
          rw [e, HXY.out.2] at h1
          injection h1 with h1
          exact h1.symm
      · obtain rfl : k = n := by omega
        have he : N = M := by
          apply List.ext_getElem?
          intro j
          by_cases hj : j < k
          · exact hall.out j hj
          · rw [List.getElem?_eq_none (by rw [HN.out.2]; omega), List.getElem?_eq_none (by rw [HN.out.1]; omega)]
        have HE := Lib.hid he
        clear he hall
        go_wp2
        go_ret
        exact ⟨retb (decide_eq_true HE.out).symm, below_drewN (Below.refl _ _) _⟩
  · have hne : N ≠ M := fun e => hlen (by rw [e])
    have HE := Lib.hid hne
    clear hne
    obtain ⟨n, hn⟩ : ∃ n, N.length = n := ⟨_, rfl⟩
    obtain ⟨m, hm⟩ : ∃ m, M.length = m := ⟨_, rfl⟩
    rw [hn, hm] at hlen
    rw [hn, hm]
    have hd1 : (n == m) = false := by simpa using hlen
    clear hn hm HH
    go_enter Tryz.func27, Tryz.ntmps27
    go_wp2
    go_ret
    exact ⟨retb (decide_eq_false HE.out).symm, Below.refl _ _⟩


set_option maxHeartbeats 4000000 in
set_option maxRecDepth 100000 in
theorem refSame_any (w : World) (A : Option Addr) (c : Nat) (B : Option Addr) (d : Nat) (N : List Txt) (E : List Ed) (A' : Option Addr) (c' : Nat) (B' : Option Addr) (d' : Nat) (N' : List Txt) (E' : List Ed) (h : ForG w A c B d N E) (h' : ForG w A' c' B' d' N' E') :
    Calls Tryz.prog 11 #[twoV A N.length c B E.length d, twoV A' N'.length c' B' E'.length d'] w (Sam w (.bool (sameB N E N' E'))) := by
  have k0 := (Blk.new w 25 #[.slice A N.length c, .slice B E.length d]).alloc (.cells #[.slice A' N'.length c', .slice B' E'.length d'] 25)
  have k1 := Blk.new (w.alloc (.cells #[.slice A N.length c, .slice B E.length d] 25)) 25 #[.slice A' N'.length c', .slice B' E'.length d']
  simp only [World.size_alloc] at k1
  have u0 : Below w.heap.size w ((w.alloc (.cells #[.slice A N.length c, .slice B E.length d] 25)).alloc (.cells #[.slice A' N'.length c', .slice B' E'.length d'] 25)) := by (repeat (first | exact Below.refl _ _ | apply Below.drew | refine Below.alloc ?_ (by first | exact Nat.le_refl _ | (simp; done) | (simp; omega)) _ | refine Below.setCell ?_ (by first | exact Nat.le_refl _ | (simp; done) | (simp; omega)) _))
  have H := Lib.hid (And.intro (h.below u0) (And.intro (h'.below u0) (And.intro k0 (And.intro k1 u0))))
  clear h h' k0 k1 u0
  obtain ⟨b0, hb0⟩ : ∃ b, decide (N = N') = b := ⟨_, rfl⟩
  have HB := Lib.hid hb0
  clear hb0
  obtain ⟨n, hn⟩ : ∃ n, N.length = n := ⟨_, rfl⟩
  obtain ⟨m, hm⟩ : ∃ m, E.length = m := ⟨_, rfl⟩
  obtain ⟨n', hn'⟩ : ∃ n, N'.length = n := ⟨_, rfl⟩
  obtain ⟨m', hm'⟩ : ∃ m, E'.length = m := ⟨_, rfl⟩
  have hcon := fun (W : World) (_b : Below w.heap.size w W) (h : ForG W A c B d N E) (h' : ForG W A' c' B' d' N' E') => refSameTexts_any W A c A' c' N N' h.rn h'.rn h.hc h'.hc h.fit.n h'.fit.n
  have hm47 : m ≤ 140737488355328 := by have := H.out.1.fit.e; omega
  rw [hn, hn'] at hcon
  rw [hn, hm, hn', hm'] at H
  rw [hn, hm, hn', hm']
  rw [HB.out] at hcon
  have HL := Lib.hid (And.intro hm hm')
  have HC := Lib.hid hcon
  clear hn hm hn' hm' hcon
  unfold twoV
  go_enter Tryz.func11, Tryz.ntmps11
  go_upto_region 1 with (fail)
  generalize (w.alloc (.cells #[.slice A n c, .slice B m d] 25)).alloc (.cells #[.slice A' n' c', .slice B' m' d'] 25) = W0 at H ⊢
  have q1 : W0.cell? ⟨w.heap.size, 1, none⟩ = some (.slice B m d) := H.out.2.2.1.cell 1
  have q3 : W0.cell? ⟨w.heap.size + 1, 1, none⟩ = some (.slice B' m' d') := H.out.2.2.2.1.cell 1
  by_cases hmm : m = m'
  · subst hmm
    go_wp2_with fail
    go_loopw [5] (fun iv wr => ∃ k : Nat, k ≤ m ∧ iv = .int .i64 k ∧ Hid (Below W0.heap.size W0 wr) ∧ Hid (∀ j, j < k → E[j]? = E'[j]?)) (fun iv _ => m - (intOf iv).toNat)
    case atStart => exact ⟨0, Nat.zero_le _, rfl, Lib.hid (Below.refl _ _), Lib.hid (fun j hj => by omega)⟩
    case round =>
      obtain ⟨k, hk, rfl, hbw, hall⟩ := hrel
      have K1 := H.out.2.2.1.upd (Upd.of_below hbw.out (fun _ => False)) id
      have K2 := H.out.2.2.2.1.upd (Upd.of_below hbw.out (fun _ => False)) id
      have q1 : wr.cell? ⟨w.heap.size, 1, none⟩ = some (.slice B m d) := K1.cell 1
      have q3 : wr.cell? ⟨w.heap.size + 1, 1, none⟩ = some (.slice B' m d') := K2.cell 1
      by_cases hlt : k < m
      · have hltI : (k : Int) < (m : Int) := by omega
        have hkw : IntKind.i64.wrap ((k : Int) + 1) = (k : Int) + 1 := IntWalk.i64_in _ (by omega)
        clear K1 K2
        obtain ⟨⟨x0, x1, x2⟩, hx⟩ : ∃ x, E[k]? = some x := ⟨E[k]'(by rw [HL.out.1]; exact hlt), List.getElem?_eq_getElem _⟩
        obtain ⟨⟨y0, y1, y2⟩, hy⟩ : ∃ y, E'[k]? = some y := ⟨E'[k]'(by rw [HL.out.2]; exact hlt), List.getElem?_eq_getElem _⟩
        obtain ⟨ab, ao, rfl, a0, a1, a2⟩ := (H.out.1.re.below hbw.out).ed hx
        obtain ⟨bb, bo, rfl, b0', b1', b2'⟩ := (H.out.2.1.re.below hbw.out).ed hy
        dsimp only at a0 a1 a2 b0' b1' b2'
        have hneq := fun W => ed_neq W ⟨x0, x1, x2⟩ ⟨y0, y1, y2⟩
        unfold Ed.agg at hneq
        dsimp only at hneq
        have HXY := Lib.hid (And.intro hx hy)
        clear hx hy
        by_cases he : (⟨x0, x1, x2⟩ : Ed) = ⟨y0, y1, y2⟩
        · rw [decide_eq_true he] at hneq
          have HE := Lib.hid he
          clear he
          go_upto_region 6 with (fail)
          refine wp_region_ord (fun w' => w'.cell? ⟨w.heap.size, 1, none⟩ = some (.slice (some ⟨ab, ao, none⟩) m d) ∧ w'.cell? ⟨w.heap.size + 1, 1, none⟩ = some (.slice (some ⟨bb, bo, none⟩) m d') ∧ w'.cell? ⟨ab, ao + k * 3, none⟩ = some (.string x0) ∧ w'.cell? ⟨ab, ao + k * 3 + 1, none⟩ = some (.string x1) ∧ w'.cell? ⟨ab, ao + k * 3 + 2, none⟩ = some (.string x2) ∧ w'.cell? ⟨bb, bo + k * 3, none⟩ = some (.string y0) ∧ w'.cell? ⟨bb, bo + k * 3 + 1, none⟩ = some (.string y1) ∧ w'.cell? ⟨bb, bo + k * 3 + 2, none⟩ = some (.string y2)) 11 [(0, true), (1, true), (2, true), (3, true), (4, true), (5, true), (6, true), (7, true), (8, true), (9, true), (10, true)] (by kernel_rfl) (by kernel_rfl) (fun _ _ d _ _ h => by cases d <;> exact h) ⟨q1, q3, a0, a1, a2, b0', b1', b2'⟩ ?_
          iterate 11 (refine ord_take (v := ?_) rfl (by first | with_reducible rfl | kernel_rfl) ?_ ?_; rotate_left; (focus (intro wS hS; (try dsimp only at hS); go_split_ands; go_simp; (try with_reducible rfl); done)); (try simp only [Act.put, List.getElem_toArray, List.getElem_cons_succ, List.getElem_cons_zero, List.setIfInBounds_toArray, List.set_cons_zero, List.set_cons_succ]))
          refine ord_done ?_
          go_wp2
          go_roundw
          case rel => exact ⟨k + 1, by omega, by go_num, Lib.hid hbw.out.drew, Lib.hid (fun j hj => by
            rcases Nat.lt_succ_iff_lt_or_eq.1 hj with h | rfl
            · exact hall.out j h
            · rw [HXY.out.1, HXY.out.2, HE.out])⟩
          case measure => simp [intOf]; omega
        · rw [decide_eq_false he] at hneq
          have HE := Lib.hid he
          clear he
          go_upto_region 6 with (fail)
          refine wp_region_ord (fun w' => w'.cell? ⟨w.heap.size, 1, none⟩ = some (.slice (some ⟨ab, ao, none⟩) m d) ∧ w'.cell? ⟨w.heap.size + 1, 1, none⟩ = some (.slice (some ⟨bb, bo, none⟩) m d') ∧ w'.cell? ⟨ab, ao + k * 3, none⟩ = some (.string x0) ∧ w'.cell? ⟨ab, ao + k * 3 + 1, none⟩ = some (.string x1) ∧ w'.cell? ⟨ab, ao + k * 3 + 2, none⟩ = some (.string x2) ∧ w'.cell? ⟨bb, bo + k * 3, none⟩ = some (.string y0) ∧ w'.cell? ⟨bb, bo + k * 3 + 1, none⟩ = some (.string y1) ∧ w'.cell? ⟨bb, bo + k * 3 + 2, none⟩ = some (.string y2)) 11 [(0, true), (1, true), (2, true), (3, true), (4, true), (5, true), (6, true), (7, true), (8, true), (9, true), (10, true)] (by kernel_rfl) (by kernel_rfl) (fun _ _ d _ _ h => by cases d <;> exact h) ⟨q1, q3, a0, a1, a2, b0', b1', b2'⟩ ?_
          iterate 11 (refine ord_take (v := ?_) rfl (by first | with_reducible rfl | kernel_rfl) ?_ ?_; rotate_left; (focus (intro wS hS; (try dsimp only at hS); go_split_ands; go_simp; (try with_reducible rfl); done)); (try simp only [Act.put, List.getElem_toArray, List.getElem_cons_succ, List.getElem_cons_zero, List.setIfInBounds_toArray, List.set_cons_zero, List.set_cons_succ]))
          refine ord_done ?_
          go_wp2
          go_ret
          refine ⟨retb ?_, H.out.2.2.2.2.trans (hbw.out.drew.mono H.out.2.2.2.2.size)⟩
          rw [sameB, decide_eq_false (p := E = E') (fun e => HE.out ?_), Bool.and_false]
          have h1 := HXY.out.1
          rw [e, HXY.out.2] at h1
          injection h1 with h1
          exact h1.symm
      · obtain rfl : k = m := by omega
        have he : E = E' := by
          apply List.ext_getElem?
          intro j
          by_cases hj : j < k
          · exact hall.out j hj
          · rw [List.getElem?_eq_none (by rw [HL.out.1]; omega), List.getElem?_eq_none (by rw [HL.out.2]; omega)]
        have HE := Lib.hid he
        clear he hall
        have q0 : wr.cell? ⟨w.heap.size, 0, none⟩ = some (.slice A n c) := K1.cell 0
        have q2 : wr.cell? ⟨w.heap.size + 1, 0, none⟩ = some (.slice A' n' c') := K2.cell 0
        clear K1 K2
        go_wp2_with fail
        refine (HC.out wr (H.out.2.2.2.2.trans (hbw.out.mono H.out.2.2.2.2.size)) (H.out.1.below hbw.out) (H.out.2.1.below hbw.out)).mono ?_
        rintro e w1 ⟨rfl, u1⟩
        have b1 := H.out.2.2.2.2.trans (hbw.out.mono H.out.2.2.2.2.size)
        have FIN := Lib.hid (b1.trans (u1.mono b1.size))
        clear u1 b1
        go_wp2
        go_ret
        exact ⟨retb (by rw [sameB, HB.out, decide_eq_true HE.out, Bool.and_true]), FIN.out⟩
  · have hne : E ≠ E' := fun e => hmm (by rw [← HL.out.1, ← HL.out.2, e])
    have HE := Lib.hid hne
    have hd1 : (m == m') = false := by simpa using hmm
    clear hne hmm
    go_wp2
    go_ret
    exact ⟨retb (by rw [sameB, decide_eq_false HE.out, Bool.and_false]), H.out.2.2.2.2⟩
end Go.Proofs.YthmkgnifcbnkpaaGreat
