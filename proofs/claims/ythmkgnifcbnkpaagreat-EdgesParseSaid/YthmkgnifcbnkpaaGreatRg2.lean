/- The document's answer of layer 16, second part: texts and edges, rising, each once; labels, lone nodes, the text (merged of RfG, RfF, RfH). -/
import Derived.Test.YthmkgnifcbnkpaaGreatRg1
import Derived.Test.YthmkgnifcbnkpaaGreatCcA
import Derived.Test.YthmkgnifcbnkpaaGreatEdO
namespace Go.Proofs.YthmkgnifcbnkpaaGreat
open Go.RowKit

theorem own_zero (w : World) (e size : Nat) : (w.alloc (.cells #[] e)).ownsRow w.heap.size e size (.slice (some ⟨w.heap.size, 0, none⟩) 0 0) 0 [] :=
  ⟨by simp, .inr ⟨w.heap.size, 0, #[], rfl, Nat.le_refl _, heap_alloc_new w _, Nat.le_refl _, Nat.zero_le _, by simp, by simp⟩⟩
theorem own_le3 {w : World} {base e size n : Nat} {v : Value} {xs : List Value} (h : w.ownsRow base e size v n xs) : ∃ A c, v = .slice A n c ∧ n ≤ c ∧ RowR w A xs := by
  obtain ⟨A, c, rfl, hc, -⟩ := own_form h
  exact ⟨A, c, rfl, hc, RowR.of_own h⟩

theorem RowR.take_txt {w : World} {A : Option Addr} {N : List Txt} (h : RowR w A (txtCells N)) (k : Nat) : RowR w A (txtCells (N.take k)) := fun j u hj => by
  refine h j u ?_
  rw [txtCells, List.map_take, List.getElem?_take] at hj
  split at hj
  · exact hj
  · cases hj
theorem RowR.drop_txt {w : World} {ab ao : Nat} {N : List Txt} (h : RowR w (some ⟨ab, ao, none⟩) (txtCells N)) (k : Nat) : RowR w (some ⟨ab, ao + k, none⟩) (txtCells (N.drop k)) := fun j u hj => by
  rw [txtCells, List.map_drop, List.getElem?_drop] at hj
  obtain ⟨b, o, e, x⟩ := h (k + j) u hj
  injection e with e
  injection e with e1 e2
  subst e1; subst e2
  exact ⟨ab, ao + k, rfl, by rw [Nat.add_assoc]; exact x⟩
set_option maxHeartbeats 4000000 in
set_option maxRecDepth 100000 in
theorem texts_short (w : World) (A : Option Addr) (c : Nat) (N : List Txt) (h2 : N.length < 2) (h : RowR w A (txtCells N)) : Calls Tryz.prog 88 #[.slice A N.length c] w (NewT w (setOf ltT N)) := by
  rw [setOf_short stoT h2]
  obtain ⟨n, hn⟩ : ∃ n, N.length = n := ⟨_, rfl⟩
  rw [hn] at h2 ⊢
  have b0 : Below w.heap.size w (w.alloc (.cells #[] 9)) := (Below.refl _ _).alloc (Nat.le_refl _) _
  obtain ⟨B6, c6, w6, happ, own6, b6⟩ := append_row (w.alloc (.cells #[] 9)) w.heap.size 22 9 1 16 _ Tryz.underlying22 info_string rfl (by decide) (by decide) (some ⟨w.heap.size, 0, none⟩) 0 0 [] (own_zero w _ 1) A n c (txtCells N) (h.below b0) (by rw [txtCells_len, hn]) (one_txt N) (by omega) (by simp)
  rw [Nat.zero_add] at happ own6
  rw [List.nil_append] at own6
  have HN := Lib.hid (show NewT w N (.returned (.slice B6 n c6)) w6 from ⟨_, rfl, by rw [hn]; exact own6, b0.trans b6⟩)
  have hI : (n : Int) < 2 := by omega
  clear own6 b6 b0 h hn
  go_enter Tryz.func88, Tryz.ntmps88
  go_wp2_with (at_builtin; refine wpList_append_run rfl _ _ _ rfl rfl rfl happ ?_)
  go_ret
  exact HN.out
set_option maxHeartbeats 4000000 in
set_option maxRecDepth 100000 in
theorem texts_any : ∀ (k : Nat) (w : World) (A : Option Addr) (c : Nat) (N : List Txt), N.length ≤ k → RowR w A (txtCells N) → N.length ≤ c → N.length * 16 ≤ 140737488355328 →
    Calls Tryz.prog 88 #[.slice A N.length c] w (NewT w (setOf ltT N)) := by
  intro k
  induction k with
  | zero => exact fun w A c N hk h _ _ => texts_short w A c N (by omega) h
  | succ k ih =>
    intro w A c N hk h hc hl
    by_cases h2 : N.length < 2
    · exact texts_short w A c N h2 h
    obtain ⟨x, hx⟩ : ∃ x, N[0]? = some x := ⟨N[0]'(by omega), List.getElem?_eq_getElem _⟩
    obtain ⟨ab, ao, rfl, -⟩ := h.txt hx
    obtain ⟨n, hn⟩ : ∃ n, N.length = n := ⟨_, rfl⟩
    obtain ⟨q, hq⟩ : ∃ q, n / 2 = q := ⟨_, rfl⟩
    rw [hn] at hk hc hl h2 ⊢
    have hq1 : 1 ≤ q := by omega
    have hqn : q < n := by omega
    have hqI : (n : Int).tdiv 2 = (q : Int) := by
      rw [Int.tdiv_eq_ediv_of_nonneg (by omega), ← hq]
      omega
    have hq2 : q ≤ n := by omega
    have hqc : q ≤ c := by omega
    have hqw : IntKind.i64.wrap (q : Int) = (q : Int) := IntWalk.i64_in _ (by omega)
    have hcq : ¬ (c = q) := by omega
    have lt : (N.take q).length = q := by rw [List.length_take, hn]; omega
    have ld : (N.drop q).length = n - q := by rw [List.length_drop, hn]
    have c1 : ∀ W, Below w.heap.size w W → Calls Tryz.prog 88 #[.slice (some ⟨ab, ao, none⟩) q c] W (NewT W (setOf ltT (N.take q))) := fun W hb => by
      have := ih W (some ⟨ab, ao, none⟩) c (N.take q) (by omega) ((h.below hb).take_txt q) (by omega) (by omega)
      rwa [lt] at this
    have c2 : ∀ W, Below w.heap.size w W → Calls Tryz.prog 88 #[.slice (some ⟨ab, ao + q, none⟩) (n - q) (c - q)] W (NewT W (setOf ltT (N.drop q))) := fun W hb => by
      have := ih W (some ⟨ab, ao + q, none⟩) (c - q) (N.drop q) (by omega) ((h.below hb).drop_txt q) (by omega) (by omega)
      rwa [ld] at this
    have l1 := setOf_len stoT (N.take q)
    have l2 := setOf_len stoT (N.drop q)
    rw [lt] at l1
    rw [ld] at l2
    have H := Lib.hid (And.intro c1 (And.intro c2 (And.intro l1 (And.intro l2 hn))))
    have h2I : ¬ ((n : Int) < 2) := by omega
    clear c1 c2 l1 l2 hn ih h hx lt ld hq x
    go_enter Tryz.func88, Tryz.ntmps88
    go_upto_region 3 with (fail)
    refine wp_region_ord (fun _ => True) 14 [(0, true), (1, true), (2, true), (3, true), (4, true), (6, true), (7, true), (8, true), (9, true), (10, true), (5, false), (11, false), (12, false), (13, true)] (by kernel_rfl) (by kernel_rfl) (fun _ _ d _ _ h => by cases d <;> exact h) trivial ?_
    iterate 10 (refine ord_take (v := ?_) rfl (by first | with_reducible rfl | kernel_rfl) ?_ ?_; rotate_left; (focus (intro wS hS; (try dsimp only at hS); go_split_ands; go_simp; (try with_reducible rfl); done)); (try simp only [Act.put, List.getElem_toArray, List.getElem_cons_succ, List.getElem_cons_zero, List.setIfInBounds_toArray, List.set_cons_zero, List.set_cons_succ]))
    refine ord_do rfl rfl (fun K hK => ?_)
    go_simp
    refine (H.out.1 w.drew (Below.refl _ _).drew).mono ?_
    rintro e w1 ⟨v1, rfl, own1, b1⟩
    have bb1 : Below w.heap.size w w1 := (Below.refl w.heap.size w).drew.trans b1
    have HB1 := Lib.hid bb1
    have HO1 := Lib.hid own1
    refine hK _ _ (fun _ => trivial) ?_
    clear hK K own1 b1 bb1
    (try simp only [Act.put, List.getElem_toArray, List.getElem_cons_succ, List.getElem_cons_zero, List.setIfInBounds_toArray, List.set_cons_zero, List.set_cons_succ])
    refine ord_do rfl rfl (fun K hK => ?_)
    go_simp
    refine (H.out.2.1 w1 HB1.out).mono ?_
    rintro e w2 ⟨v2, rfl, own2, b2⟩
    obtain ⟨A1, c1, rfl, hc1, r1⟩ := own_le3 HO1.out
    obtain ⟨A2, c2, rfl, hc2, r2⟩ := own_le3 own2
    have HR := Lib.hid (And.intro (r1.below b2) (And.intro r2 (HB1.out.trans (b2.mono HB1.out.size))))
    refine hK _ _ (fun _ => trivial) ?_
    clear hK K own2 b2 r1 r2
    (try simp only [Act.put, List.getElem_toArray, List.getElem_cons_succ, List.getElem_cons_zero, List.setIfInBounds_toArray, List.set_cons_zero, List.set_cons_succ])
    refine ord_do rfl rfl (fun K hK => ?_)
    go_simp
    refine (merge_any w2 A1 c1 A2 c2 _ _ HR.out.1 HR.out.2.1 (by have := H.out.2.2.1; have := H.out.2.2.2.1; omega)).mono ?_
    rw [setOf_half stoT]
    rintro e w3 ⟨v3, rfl, own3, b3⟩
    have FIN := Lib.hid (show NewT w (setOf ltT N) (.returned v3) w3 from ⟨v3, rfl, ownsRow_base own3 (fun q hq => by have := (own3.lt q hq).1; have := HR.out.2.2.size; omega), HR.out.2.2.trans (b3.mono HR.out.2.2.size)⟩)
    refine hK _ _ (fun _ => trivial) ?_
    clear hK K own3 b3
    (try simp only [Act.put, List.getElem_toArray, List.getElem_cons_succ, List.getElem_cons_zero, List.setIfInBounds_toArray, List.set_cons_zero, List.set_cons_succ])
    (refine ord_take (v := ?_) rfl (by first | with_reducible rfl | kernel_rfl) ?_ ?_; rotate_left; (focus (intro wS hS; (try dsimp only at hS); go_split_ands; go_simp; (try with_reducible rfl); done)); (try simp only [Act.put, List.getElem_toArray, List.getElem_cons_succ, List.getElem_cons_zero, List.setIfInBounds_toArray, List.set_cons_zero, List.set_cons_succ]))
    refine ord_done ?_
    go_wp2
    go_ret
    exact FIN.out
end Go.Proofs.YthmkgnifcbnkpaaGreat
namespace Go.Proofs.YthmkgnifcbnkpaaGreat
open Go.RowKit

theorem RowR.take_ed {w : World} {A : Option Addr} {N : List Ed} (h : RowR w A (edCells N)) (k : Nat) : RowR w A (edCells (N.take k)) := fun j u hj => by
  refine h j u ?_
  have e : edCells N = edCells (N.take k) ++ edCells (N.drop k) := by rw [edCells, edCells, edCells, ← List.flatMap_append, List.take_append_drop]
  rw [e, List.getElem?_append_left (List.getElem?_eq_some_iff.1 hj).1]
  exact hj
theorem RowR.drop_ed {w : World} {ab ao : Nat} {N : List Ed} (h : RowR w (some ⟨ab, ao, none⟩) (edCells N)) (k : Nat) (hk : k ≤ N.length) : RowR w (some ⟨ab, ao + k * 3, none⟩) (edCells (N.drop k)) := fun j u hj => by
  have e : edCells N = edCells (N.take k) ++ edCells (N.drop k) := by rw [edCells, edCells, edCells, ← List.flatMap_append, List.take_append_drop]
  have l : (edCells (N.take k)).length = k * 3 := by rw [edCells_len, List.length_take]; omega
  obtain ⟨b, o, e2, x⟩ := h (k * 3 + j) u (by rw [e, List.getElem?_append_right (by rw [l]; omega), l, Nat.add_sub_cancel_left]; exact hj)
  injection e2 with e2
  injection e2 with e1 e3
  subst e1; subst e3
  exact ⟨ab, ao + k * 3, rfl, by rw [Nat.add_assoc]; exact x⟩
set_option maxHeartbeats 4000000 in
set_option maxRecDepth 100000 in
theorem sortedR_short (w : World) (A : Option Addr) (c : Nat) (N : List Ed) (h2 : N.length < 2) (h : RowR w A (edCells N)) : Calls Tryz.prog 89 #[.slice A N.length c] w (NewE w (setOf ltE N)) := by
  rw [setOf_short stoE h2]
  obtain ⟨n, hn⟩ : ∃ n, N.length = n := ⟨_, rfl⟩
  rw [hn] at h2 ⊢
  have b0 : Below w.heap.size w (w.alloc (.cells #[] 39)) := (Below.refl _ _).alloc (Nat.le_refl _) _
  obtain ⟨B6, c6, w6, happ, own6, b6⟩ := append_row (w.alloc (.cells #[] 39)) w.heap.size 23 39 3 48 _ Tryz.underlying23 info_edge rfl (by decide) (by decide) (some ⟨w.heap.size, 0, none⟩) 0 0 [] (own_zero w _ 3) A n c (edCells N) (h.below b0) (by rw [edCells_len, hn]) (one_ed N) (by omega) (by simp)
  rw [Nat.zero_add] at happ own6
  rw [List.nil_append] at own6
  have HN := Lib.hid (show NewE w N (.returned (.slice B6 n c6)) w6 from ⟨_, rfl, by rw [hn]; exact own6, b0.trans b6⟩)
  have hI : (n : Int) < 2 := by omega
  clear own6 b6 b0 h hn
  go_enter Tryz.func89, Tryz.ntmps89
  go_wp2_with (at_builtin; refine wpList_append_run rfl _ _ _ rfl rfl rfl happ ?_)
  go_ret
  exact HN.out
set_option maxHeartbeats 16000000 in
set_option maxRecDepth 100000 in
theorem sortedR_any : ∀ (k : Nat) (w : World) (A : Option Addr) (c : Nat) (N : List Ed), N.length ≤ k → RowR w A (edCells N) → N.length ≤ c → N.length * 48 ≤ 140737488355328 →
    Calls Tryz.prog 89 #[.slice A N.length c] w (NewE w (setOf ltE N)) := by
  intro k
  induction k with
  | zero => exact fun w A c N hk h _ _ => sortedR_short w A c N (by omega) h
  | succ k ih =>
    intro w A c N hk h hc hl
    by_cases h2 : N.length < 2
    · exact sortedR_short w A c N h2 h
    obtain ⟨x, hx⟩ : ∃ x, N[0]? = some x := ⟨N[0]'(by omega), List.getElem?_eq_getElem _⟩
    obtain ⟨ab, ao, rfl, -⟩ := h.ed hx
    obtain ⟨n0, hn⟩ : ∃ n, N.length = n := ⟨_, rfl⟩
    obtain ⟨q, hq⟩ : ∃ q, n0 / 2 = q := ⟨_, rfl⟩
    rw [hn] at hk hc hl h2 ⊢
    have hq1 : 1 ≤ q := by omega
    have hqn : q < n0 := by omega
    have hqI : (n0 : Int).tdiv 2 = (q : Int) := by
      rw [Int.tdiv_eq_ediv_of_nonneg (by omega), ← hq]
      omega
    have hq2 : q ≤ n0 := by omega
    have hqc : q ≤ c := by omega
    have hqw : IntKind.i64.wrap (q : Int) = (q : Int) := IntWalk.i64_in _ (by omega)
    have hcq : ¬ (c = q) := by omega
    have lt : (N.take q).length = q := by rw [List.length_take, hn]; omega
    have ld : (N.drop q).length = n0 - q := by rw [List.length_drop, hn]
    have c1 : ∀ W, Below w.heap.size w W → Calls Tryz.prog 89 #[.slice (some ⟨ab, ao, none⟩) q c] W (NewE W (setOf ltE (N.take q))) := fun W hb => by
      have := ih W (some ⟨ab, ao, none⟩) c (N.take q) (by omega) ((h.below hb).take_ed q) (by omega) (by omega)
      rwa [lt] at this
    have c2 : ∀ W, Below w.heap.size w W → Calls Tryz.prog 89 #[.slice (some ⟨ab, ao + q * 3, none⟩) (n0 - q) (c - q)] W (NewE W (setOf ltE (N.drop q))) := fun W hb => by
      have := ih W (some ⟨ab, ao + q * 3, none⟩) (c - q) (N.drop q) (by omega) ((h.below hb).drop_ed q (by omega)) (by omega) (by omega)
      rwa [ld] at this
    have l1 := setOf_len stoE (N.take q)
    have l2 := setOf_len stoE (N.drop q)
    rw [lt] at l1
    rw [ld] at l2
    have H := Lib.hid (And.intro c1 (And.intro c2 (And.intro l1 (And.intro l2 hn))))
    have h2I : ¬ ((n0 : Int) < 2) := by omega
    clear c1 c2 l1 l2 hn ih h hx lt ld hq x
    go_enter Tryz.func89, Tryz.ntmps89
    go_upto_region 3 with (fail)
    refine wp_region_ord (fun _ => True) 14 [(0, true), (1, true), (2, true), (3, true), (4, true), (6, true), (7, true), (8, true), (9, true), (10, true), (5, false), (11, false), (12, true), (13, true)] (by kernel_rfl) (by kernel_rfl) (fun _ _ d _ _ h => by cases d <;> exact h) trivial ?_
    iterate 10 (refine ord_take (v := ?_) rfl (by first | with_reducible rfl | kernel_rfl) ?_ ?_; rotate_left; (focus (intro wS hS; (try dsimp only at hS); go_split_ands; go_simp; (try with_reducible rfl); done)); (try simp only [Act.put, List.getElem_toArray, List.getElem_cons_succ, List.getElem_cons_zero, List.setIfInBounds_toArray, List.set_cons_zero, List.set_cons_succ]))
    refine ord_do rfl rfl (fun K hK => ?_)
    go_simp
    refine (H.out.1 w.drew (Below.refl _ _).drew).mono ?_
    rintro e w1 ⟨v1, rfl, own1, b1⟩
    have bb1 : Below w.heap.size w w1 := (Below.refl w.heap.size w).drew.trans b1
    have HB1 := Lib.hid bb1
    have HO1 := Lib.hid own1
    refine hK _ _ (fun _ => trivial) ?_
    clear hK K own1 b1 bb1
    (try simp only [Act.put, List.getElem_toArray, List.getElem_cons_succ, List.getElem_cons_zero, List.setIfInBounds_toArray, List.set_cons_zero, List.set_cons_succ])
    refine ord_do rfl rfl (fun K hK => ?_)
    go_simp
    refine (H.out.2.1 w1 HB1.out).mono ?_
    rintro e W2 ⟨v2, rfl, own2, b2⟩
    obtain ⟨A1, c1, rfl, hc1, r1⟩ := own_le3 HO1.out
    obtain ⟨A2, c2, rfl, hc2, r2⟩ := own_le3 own2
    obtain ⟨P, hP⟩ : ∃ P, setOf ltE (N.take q) = P := ⟨_, rfl⟩
    obtain ⟨Q, hQ⟩ : ∃ P, setOf ltE (N.drop q) = P := ⟨_, rfl⟩
    have hPQ : mrg ltE P Q = setOf ltE N := by rw [← hP, ← hQ, setOf_half stoE]
    have HH := H.out
    rw [hP, hQ] at HH
    rw [hP] at hc1 r1 ⊢
    rw [hQ] at hc2 r2 ⊢
    obtain ⟨n, hn⟩ : ∃ n, P.length = n := ⟨_, rfl⟩
    obtain ⟨m, hm⟩ : ∃ n, Q.length = n := ⟨_, rfl⟩
    rw [hn, hm] at HH
    rw [hn] at hc1 ⊢
    rw [hm] at hc2 ⊢
    have hnm : (n + m) * 48 ≤ 140737488355328 := by have := HH.2.2.1; have := HH.2.2.2.1; omega
    have HR := Lib.hid (And.intro (r1.below b2) r2)
    have HL := Lib.hid (And.intro hn hm)
    have HB2 := Lib.hid (And.intro (HB1.out.trans (b2.mono HB1.out.size)) hPQ)
    refine hK _ _ (fun _ => trivial) ?_
    clear hK K own2 b2 r1 r2 HH hP hQ hn hm HO1 hPQ
    (try simp only [Act.put, List.getElem_toArray, List.getElem_cons_succ, List.getElem_cons_zero, List.setIfInBounds_toArray, List.set_cons_zero, List.set_cons_succ])
    (refine ord_take (v := ?_) rfl (by first | with_reducible rfl | kernel_rfl) ?_ ?_; rotate_left; (focus (intro wS hS; (try dsimp only at hS); go_split_ands; go_simp; (try with_reducible rfl); done)); (try simp only [Act.put, List.getElem_toArray, List.getElem_cons_succ, List.getElem_cons_zero, List.setIfInBounds_toArray, List.set_cons_zero, List.set_cons_succ]))
    (refine ord_take (v := ?_) rfl (by first | with_reducible rfl | kernel_rfl) ?_ ?_; rotate_left; (focus (intro wS hS; (try dsimp only at hS); go_split_ands; go_simp; (try with_reducible rfl); done)); (try simp only [Act.put, List.getElem_toArray, List.getElem_cons_succ, List.getElem_cons_zero, List.setIfInBounds_toArray, List.set_cons_zero, List.set_cons_succ]))
    refine ord_done ?_
    clear hqI h2I hq1 hqn hq2 hqc hl hk hc h2 H HB1
    go_wp2_with fail
    go_loopw [5, 6, 7] (fun v i j wr => ∃ (p q : Nat) (L : List Ed), p ≤ n ∧ q ≤ m ∧ i = .int .i64 p ∧ j = .int .i64 q ∧ L.length ≤ p + q ∧ Hid (L ++ mrg ltE (P.drop p) (Q.drop q) = mrg ltE P Q) ∧ Hid (Below W2.heap.size W2 wr) ∧ Hid (wr.ownsRow W2.heap.size 39 3 v L.length (edCells L))) (fun _ i j _ => (n - (intOf i).toNat) + (m - (intOf j).toNat))
    case atStart => exact ⟨0, 0, [], Nat.zero_le _, Nat.zero_le _, rfl, rfl, Nat.le_refl _, Lib.hid (by simp), Lib.hid (Below.refl _ _), Lib.hid (World.ownsRow_nil _ _ _ _)⟩
    case round =>
      obtain ⟨p, q, L, hp, hq, rfl, rfl, hL, hI, hbw, how⟩ := hrel
      have hpw : IntKind.i64.wrap ((p : Int) + 1) = (p : Int) + 1 := IntWalk.i64_in _ (by omega)
      have hqw : IntKind.i64.wrap ((q : Int) + 1) = (q : Int) + 1 := IntWalk.i64_in _ (by omega)
      by_cases hpn : p < n
      · have hpI : (p : Int) < (n : Int) := by omega
        obtain ⟨⟨x1, x2, x3⟩, hx⟩ : ∃ z, P[p]? = some z := ⟨P[p]'(by rw [HL.out.1]; assumption), List.getElem?_eq_getElem _⟩
        obtain ⟨ab, ao, rfl, xa, xb, xc⟩ := (HR.out.1.below hbw.out).ed hx
        dsimp only at xa xb xc
        by_cases hqm : q < m
        · have hqI : (q : Int) < (m : Int) := by omega
          have hqne : ((q : Int) == (m : Int)) = false := by simp; omega
          obtain ⟨⟨y1, y2, y3⟩, hy⟩ : ∃ z, Q[q]? = some z := ⟨Q[q]'(by rw [HL.out.2]; assumption), List.getElem?_eq_getElem _⟩
          obtain ⟨bb, bo, rfl, ya, yb, yc⟩ := (HR.out.2.below hbw.out).ed hy
          dsimp only at ya yb yc
          have hbf := fun W => before_any ⟨x1, x2, x3⟩ ⟨y1, y2, y3⟩ W
          obtain ⟨v0, hv⟩ : ∃ b, ltE ⟨x1, x2, x3⟩ ⟨y1, y2, y3⟩ = b := ⟨_, rfl⟩
          rw [hv] at hbf
          unfold Ed.agg at hbf
          dsimp only at hbf
          have HBF := Lib.hid hbf
          have HV := Lib.hid hv
          clear hbf hv
          have hS : wr.drew.cell? ⟨ab, ao + p * 3, none⟩ = some (.string x1) ∧ wr.drew.cell? ⟨ab, ao + p * 3 + 1, none⟩ = some (.string x2) ∧ wr.drew.cell? ⟨ab, ao + p * 3 + 2, none⟩ = some (.string x3) ∧ wr.drew.cell? ⟨bb, bo + q * 3, none⟩ = some (.string y1) ∧ wr.drew.cell? ⟨bb, bo + q * 3 + 1, none⟩ = some (.string y2) ∧ wr.drew.cell? ⟨bb, bo + q * 3 + 2, none⟩ = some (.string y3) := ⟨xa, xb, xc, ya, yb, yc⟩
          go_upto_region 7 with (fail)
          refine wp_region_ord (fun w' => w'.cell? ⟨ab, ao + p * 3, none⟩ = some (.string x1) ∧ w'.cell? ⟨ab, ao + p * 3 + 1, none⟩ = some (.string x2) ∧ w'.cell? ⟨ab, ao + p * 3 + 2, none⟩ = some (.string x3) ∧ w'.cell? ⟨bb, bo + q * 3, none⟩ = some (.string y1) ∧ w'.cell? ⟨bb, bo + q * 3 + 1, none⟩ = some (.string y2) ∧ w'.cell? ⟨bb, bo + q * 3 + 2, none⟩ = some (.string y3)) 21 [(0, true), (1, true), (2, true), (3, true), (4, true), (5, true), (6, true), (7, true), (8, true), (9, true), (10, true), (11, true), (12, true), (13, true), (14, true), (15, true), (16, true), (17, true), (18, false), (19, true), (20, true)] (by kernel_rfl) (by kernel_rfl) (fun _ _ d _ _ h => by cases d <;> exact h) hS ?_
          iterate 18 (refine ord_take (v := ?_) rfl (by first | with_reducible rfl | kernel_rfl) ?_ ?_; rotate_left; (focus (intro wS hS; (try dsimp only at hS); go_split_ands; go_simp; (try with_reducible rfl); done)); (try simp only [Act.put, List.getElem_toArray, List.getElem_cons_succ, List.getElem_cons_zero, List.setIfInBounds_toArray, List.set_cons_zero, List.set_cons_succ]))
          (refine ord_dog rfl (by first | with_reducible rfl | kernel_rfl) (fun K hK => ?_); go_simp)
          refine (HBF.out wr.drew).mono ?_
          rintro e W5 ⟨rfl, b5⟩
          have bW5 : Below wr.heap.size wr W5 := (Below.refl wr.heap.size wr).drew.trans b5
          have xa5 := (bW5.cell (World.block_lt_of_cell? _ _ xa)).trans xa
          have xb5 := (bW5.cell (World.block_lt_of_cell? _ _ xb)).trans xb
          have xc5 := (bW5.cell (World.block_lt_of_cell? _ _ xc)).trans xc
          have ya5 := (bW5.cell (World.block_lt_of_cell? _ _ ya)).trans ya
          have yb5 := (bW5.cell (World.block_lt_of_cell? _ _ yb)).trans yb
          have yc5 := (bW5.cell (World.block_lt_of_cell? _ _ yc)).trans yc
          have own5 := ownsRow_upd how.out (Upd.of_below bW5 (fun _ => False)) (fun _ _ h => h)
          have bb5 := hbw.out.trans (bW5.mono hbw.out.size)
          have HB5 := Lib.hid (And.intro bW5 (And.intro own5 bb5))
          clear own5 bb5 bW5 b5
          refine hK _ _ (fun _ => ⟨xa5, xb5, xc5, ya5, yb5, yc5⟩) ?_
          clear hK K hS
          (try simp only [Act.put, List.getElem_toArray, List.getElem_cons_succ, List.getElem_cons_zero, List.setIfInBounds_toArray, List.set_cons_zero, List.set_cons_succ])
          cases v0 with
          | true =>
            (refine ord_take (v := ?_) rfl (by first | with_reducible rfl | kernel_rfl) ?_ ?_; rotate_left; (focus (intro wS hS; (try dsimp only at hS); go_split_ands; go_simp; (try with_reducible rfl); done)); (try simp only [Act.put, List.getElem_toArray, List.getElem_cons_succ, List.getElem_cons_zero, List.setIfInBounds_toArray, List.set_cons_zero, List.set_cons_succ]))
            (refine ord_take (v := ?_) rfl (by first | with_reducible rfl | kernel_rfl) ?_ ?_; rotate_left; (focus (intro wS hS; (try dsimp only at hS); go_split_ands; go_simp; (try with_reducible rfl); done)); (try simp only [Act.put, List.getElem_toArray, List.getElem_cons_succ, List.getElem_cons_zero, List.setIfInBounds_toArray, List.set_cons_zero, List.set_cons_succ]))
            refine ord_done ?_
            have bb5 := HB5.out.2.2
            have own5 := HB5.out.2.1
            obtain ⟨v6, w6, happ, own6, u6, -⟩ := push_ed W5 W2.heap.size _ L own5 ⟨x1, x2, x3⟩ (by omega) bb5.size
            have HN := Lib.hid (And.intro (bb5.trans (u6.below (fun k _ e => (own5.lt k e).1) bb5.size)) own6)
            dsimp only at happ
            have HI := Lib.hid (show (L ++ [(⟨x1, x2, x3⟩ : Ed)]) ++ mrg ltE (P.drop (p + 1)) (Q.drop (q)) = mrg ltE P Q by
              rw [← hI.out, mrg_takeA hx (.inr ⟨_, hy, HV.out⟩)]
              simp)
            clear hI hx hy own6 own5 bb5 u6
            clear xa xb xc ya yb yc
            clear ya5 yb5 yc5
            go_wp2_with (at_builtin; refine wpList_append_run rfl _ _ _ rfl rfl rfl happ ?_)
            go_roundw
            case rel => exact ⟨p + 1, q, L ++ [(⟨x1, x2, x3⟩ : Ed)], by omega, by omega, by go_num, by go_num, by simp; omega, HI, Lib.hid HN.out.1, Lib.hid HN.out.2⟩
            case measure => simp [intOf]; omega
          | false =>
            (refine ord_take (v := ?_) rfl (by first | with_reducible rfl | kernel_rfl) ?_ ?_; rotate_left; (focus (intro wS hS; (try dsimp only at hS); go_split_ands; go_simp; (try with_reducible rfl); done)); (try simp only [Act.put, List.getElem_toArray, List.getElem_cons_succ, List.getElem_cons_zero, List.setIfInBounds_toArray, List.set_cons_zero, List.set_cons_succ]))
            (refine ord_take (v := ?_) rfl (by first | with_reducible rfl | kernel_rfl) ?_ ?_; rotate_left; (focus (intro wS hS; (try dsimp only at hS); go_split_ands; go_simp; (try with_reducible rfl); done)); (try simp only [Act.put, List.getElem_toArray, List.getElem_cons_succ, List.getElem_cons_zero, List.setIfInBounds_toArray, List.set_cons_zero, List.set_cons_succ]))
            refine ord_done ?_
            have bb5 := HB5.out.2.2
            have own5 := HB5.out.2.1
            have heq := fun W => ed_eql W ⟨x1, x2, x3⟩ ⟨y1, y2, y3⟩
            unfold Ed.agg at heq
            dsimp only at heq
            by_cases he : (⟨x1, x2, x3⟩ : Ed) = (⟨y1, y2, y3⟩ : Ed)
            · rw [decide_eq_true he] at heq
              have HE := Lib.hid he
              clear he
              have hS : W5.drew.cell? ⟨ab, ao + p * 3, none⟩ = some (.string x1) ∧ W5.drew.cell? ⟨ab, ao + p * 3 + 1, none⟩ = some (.string x2) ∧ W5.drew.cell? ⟨ab, ao + p * 3 + 2, none⟩ = some (.string x3) ∧ W5.drew.cell? ⟨bb, bo + q * 3, none⟩ = some (.string y1) ∧ W5.drew.cell? ⟨bb, bo + q * 3 + 1, none⟩ = some (.string y2) ∧ W5.drew.cell? ⟨bb, bo + q * 3 + 2, none⟩ = some (.string y3) := ⟨xa5, xb5, xc5, ya5, yb5, yc5⟩
              go_upto_region 10 with (fail)
              refine wp_region_ord (fun w' => w'.cell? ⟨ab, ao + p * 3, none⟩ = some (.string x1) ∧ w'.cell? ⟨ab, ao + p * 3 + 1, none⟩ = some (.string x2) ∧ w'.cell? ⟨ab, ao + p * 3 + 2, none⟩ = some (.string x3) ∧ w'.cell? ⟨bb, bo + q * 3, none⟩ = some (.string y1) ∧ w'.cell? ⟨bb, bo + q * 3 + 1, none⟩ = some (.string y2) ∧ w'.cell? ⟨bb, bo + q * 3 + 2, none⟩ = some (.string y3)) 15 [(0, true), (1, true), (2, true), (3, true), (4, true), (5, true), (6, true), (7, true), (8, true), (9, true), (10, true), (11, true), (12, true), (13, true), (14, true)] (by kernel_rfl) (by kernel_rfl) (fun _ _ d _ _ h => by cases d <;> exact h) hS ?_
              iterate 15 (refine ord_take (v := ?_) rfl (by first | with_reducible rfl | kernel_rfl) ?_ ?_; rotate_left; (focus (intro wS hS; (try dsimp only at hS); go_split_ands; go_simp; (try with_reducible rfl); done)); (try simp only [Act.put, List.getElem_toArray, List.getElem_cons_succ, List.getElem_cons_zero, List.setIfInBounds_toArray, List.set_cons_zero, List.set_cons_succ]))
              refine ord_done ?_
              clear hS
              obtain ⟨W6, hW6⟩ : ∃ W, W = W5.drew := ⟨_, rfl⟩
              have bW6 : Below W5.heap.size W5 W6 := by rw [hW6]; exact (Below.refl _ _).drew
              rw [← hW6]
              have ya7 := (bW6.cell (World.block_lt_of_cell? _ _ ya5)).trans ya5
              have yb7 := (bW6.cell (World.block_lt_of_cell? _ _ yb5)).trans yb5
              have yc7 := (bW6.cell (World.block_lt_of_cell? _ _ yc5)).trans yc5
              have own7 := ownsRow_upd own5 (Upd.of_below bW6 (fun _ => False)) (fun _ _ h => h)
              have bb7 := bb5.trans (bW6.mono bb5.size)
              obtain ⟨v6, w6, happ, own6, u6, -⟩ := push_ed W6 W2.heap.size _ L own7 ⟨y1, y2, y3⟩ (by omega) bb7.size
              have HN := Lib.hid (And.intro (bb7.trans (u6.below (fun k _ e => (own7.lt k e).1) bb7.size)) own6)
              dsimp only at happ
              have HI := Lib.hid (show (L ++ [(⟨y1, y2, y3⟩ : Ed)]) ++ mrg ltE (P.drop (p + 1)) (Q.drop (q + 1)) = mrg ltE P Q by
                rw [← hI.out, mrg_both stoE (by rw [← HE.out]; exact hx) hy]
                simp)
              clear hI hx hy own6 own5 bb5 own7 bb7 hW6 bW6 heq u6
              clear xa xb xc ya yb yc
              clear xa5 xb5 xc5 ya5 yb5 yc5
              go_wp2_with (at_builtin; refine wpList_append_run rfl _ _ _ rfl rfl rfl happ ?_)
              go_roundw
              case rel => exact ⟨p + 1, q + 1, L ++ [(⟨y1, y2, y3⟩ : Ed)], by omega, by omega, by go_num, by go_num, by simp; omega, HI, Lib.hid HN.out.1, Lib.hid HN.out.2⟩
              case measure => simp [intOf]; omega
            · rw [decide_eq_false he] at heq
              have HE := Lib.hid he
              clear he
              have hS : W5.drew.cell? ⟨ab, ao + p * 3, none⟩ = some (.string x1) ∧ W5.drew.cell? ⟨ab, ao + p * 3 + 1, none⟩ = some (.string x2) ∧ W5.drew.cell? ⟨ab, ao + p * 3 + 2, none⟩ = some (.string x3) ∧ W5.drew.cell? ⟨bb, bo + q * 3, none⟩ = some (.string y1) ∧ W5.drew.cell? ⟨bb, bo + q * 3 + 1, none⟩ = some (.string y2) ∧ W5.drew.cell? ⟨bb, bo + q * 3 + 2, none⟩ = some (.string y3) := ⟨xa5, xb5, xc5, ya5, yb5, yc5⟩
              go_upto_region 10 with (fail)
              refine wp_region_ord (fun w' => w'.cell? ⟨ab, ao + p * 3, none⟩ = some (.string x1) ∧ w'.cell? ⟨ab, ao + p * 3 + 1, none⟩ = some (.string x2) ∧ w'.cell? ⟨ab, ao + p * 3 + 2, none⟩ = some (.string x3) ∧ w'.cell? ⟨bb, bo + q * 3, none⟩ = some (.string y1) ∧ w'.cell? ⟨bb, bo + q * 3 + 1, none⟩ = some (.string y2) ∧ w'.cell? ⟨bb, bo + q * 3 + 2, none⟩ = some (.string y3)) 15 [(0, true), (1, true), (2, true), (3, true), (4, true), (5, true), (6, true), (7, true), (8, true), (9, true), (10, true), (11, true), (12, true), (13, true), (14, true)] (by kernel_rfl) (by kernel_rfl) (fun _ _ d _ _ h => by cases d <;> exact h) hS ?_
              iterate 15 (refine ord_take (v := ?_) rfl (by first | with_reducible rfl | kernel_rfl) ?_ ?_; rotate_left; (focus (intro wS hS; (try dsimp only at hS); go_split_ands; go_simp; (try with_reducible rfl); done)); (try simp only [Act.put, List.getElem_toArray, List.getElem_cons_succ, List.getElem_cons_zero, List.setIfInBounds_toArray, List.set_cons_zero, List.set_cons_succ]))
              refine ord_done ?_
              clear hS
              obtain ⟨W6, hW6⟩ : ∃ W, W = W5.drew := ⟨_, rfl⟩
              have bW6 : Below W5.heap.size W5 W6 := by rw [hW6]; exact (Below.refl _ _).drew
              rw [← hW6]
              have ya7 := (bW6.cell (World.block_lt_of_cell? _ _ ya5)).trans ya5
              have yb7 := (bW6.cell (World.block_lt_of_cell? _ _ yb5)).trans yb5
              have yc7 := (bW6.cell (World.block_lt_of_cell? _ _ yc5)).trans yc5
              have own7 := ownsRow_upd own5 (Upd.of_below bW6 (fun _ => False)) (fun _ _ h => h)
              have bb7 := bb5.trans (bW6.mono bb5.size)
              obtain ⟨v6, w6, happ, own6, u6, -⟩ := push_ed W6 W2.heap.size _ L own7 ⟨y1, y2, y3⟩ (by omega) bb7.size
              have HN := Lib.hid (And.intro (bb7.trans (u6.below (fun k _ e => (own7.lt k e).1) bb7.size)) own6)
              dsimp only at happ
              have HI := Lib.hid (show (L ++ [(⟨y1, y2, y3⟩ : Ed)]) ++ mrg ltE (P.drop (p)) (Q.drop (q + 1)) = mrg ltE P Q by
                rw [← hI.out, mrg_takeB hy (.inr ⟨_, hx, HV.out, HE.out⟩)]
                simp)
              clear hI hx hy own6 own5 bb5 own7 bb7 hW6 bW6 heq u6
              clear xa xb xc ya yb yc
              clear xa5 xb5 xc5 ya5 yb5 yc5
              go_wp2_with (at_builtin; refine wpList_append_run rfl _ _ _ rfl rfl rfl happ ?_)
              go_roundw
              case rel => exact ⟨p, q + 1, L ++ [(⟨y1, y2, y3⟩ : Ed)], by omega, by omega, by go_num, by go_num, by simp; omega, HI, Lib.hid HN.out.1, Lib.hid HN.out.2⟩
              case measure => simp [intOf]; omega
        · obtain rfl : q = m := by omega
          have hqe : ((q : Int) == (q : Int)) = true := by simp
          have hS : wr.drew.cell? ⟨ab, ao + p * 3, none⟩ = some (.string x1) ∧ wr.drew.cell? ⟨ab, ao + p * 3 + 1, none⟩ = some (.string x2) ∧ wr.drew.cell? ⟨ab, ao + p * 3 + 2, none⟩ = some (.string x3) := ⟨xa, xb, xc⟩
          go_upto_region 7 with (fail)
          refine wp_region_ord (fun w' => w'.cell? ⟨ab, ao + p * 3, none⟩ = some (.string x1) ∧ w'.cell? ⟨ab, ao + p * 3 + 1, none⟩ = some (.string x2) ∧ w'.cell? ⟨ab, ao + p * 3 + 2, none⟩ = some (.string x3)) 21 [(0, true), (1, true), (2, true), (3, true), (4, true), (5, true), (6, true), (7, true), (8, true), (9, true), (10, true), (11, true), (12, true), (13, true), (14, true), (15, true), (16, true), (17, true), (18, false), (19, true), (20, true)] (by kernel_rfl) (by kernel_rfl) (fun _ _ d _ _ h => by cases d <;> exact h) hS ?_
          iterate 5 (refine ord_take (v := ?_) rfl (by first | with_reducible rfl | kernel_rfl) ?_ ?_; rotate_left; (focus (intro wS hS; (try dsimp only at hS); go_split_ands; go_simp; (try with_reducible rfl); done)); (try simp only [Act.put, List.getElem_toArray, List.getElem_cons_succ, List.getElem_cons_zero, List.setIfInBounds_toArray, List.set_cons_zero, List.set_cons_succ]))
          iterate 13 (refine ord_skip rfl (by kernel_rfl) ?_; (try simp only [Act.put, List.getElem_toArray, List.getElem_cons_succ, List.getElem_cons_zero, List.setIfInBounds_toArray, List.set_cons_zero, List.set_cons_succ]))
          (refine ord_skipf rfl (by kernel_rfl) (by first | assumption | trivial | exact UP.out _ H5.out) ?_; (try simp only [Act.put, List.getElem_toArray, List.getElem_cons_succ, List.getElem_cons_zero, List.setIfInBounds_toArray, List.set_cons_zero, List.set_cons_succ]))
          (refine ord_skip rfl (by kernel_rfl) ?_; (try simp only [Act.put, List.getElem_toArray, List.getElem_cons_succ, List.getElem_cons_zero, List.setIfInBounds_toArray, List.set_cons_zero, List.set_cons_succ]))
          (refine ord_take (v := ?_) rfl (by first | with_reducible rfl | kernel_rfl) ?_ ?_; rotate_left; (focus (intro wS hS; (try dsimp only at hS); go_split_ands; go_simp; (try with_reducible rfl); done)); (try simp only [Act.put, List.getElem_toArray, List.getElem_cons_succ, List.getElem_cons_zero, List.setIfInBounds_toArray, List.set_cons_zero, List.set_cons_succ]))
          refine ord_done ?_
          clear hS
          obtain ⟨W5, hW5⟩ : ∃ W, W = wr.drew := ⟨_, rfl⟩
          have bW5 : Below wr.heap.size wr W5 := by rw [hW5]; exact (Below.refl _ _).drew
          rw [← hW5]
          have xa5 := (bW5.cell (World.block_lt_of_cell? _ _ xa)).trans xa
          have xb5 := (bW5.cell (World.block_lt_of_cell? _ _ xb)).trans xb
          have xc5 := (bW5.cell (World.block_lt_of_cell? _ _ xc)).trans xc
          have own5 := ownsRow_upd how.out (Upd.of_below bW5 (fun _ => False)) (fun _ _ h => h)
          have bb5 := hbw.out.trans (bW5.mono hbw.out.size)
          obtain ⟨v6, w6, happ, own6, u6, -⟩ := push_ed W5 W2.heap.size _ L own5 ⟨x1, x2, x3⟩ (by omega) bb5.size
          have HN := Lib.hid (And.intro (bb5.trans (u6.below (fun k _ e => (own5.lt k e).1) bb5.size)) own6)
          dsimp only at happ
          have HI := Lib.hid (show (L ++ [(⟨x1, x2, x3⟩ : Ed)]) ++ mrg ltE (P.drop (p + 1)) (Q.drop (q)) = mrg ltE P Q by
            rw [← hI.out, mrg_takeA hx (.inl (by rw [HL.out.2]; exact Nat.le_refl _))]
            simp)
          clear hI hx own6 own5 bb5 hW5 bW5 u6
          clear xa xb xc
          go_wp2_with (at_builtin; refine wpList_append_run rfl _ _ _ rfl rfl rfl happ ?_)
          go_roundw
          case rel => exact ⟨p + 1, q, L ++ [(⟨x1, x2, x3⟩ : Ed)], by omega, by omega, by go_num, by go_num, by simp; omega, HI, Lib.hid HN.out.1, Lib.hid HN.out.2⟩
          case measure => simp [intOf]; omega
      · obtain rfl : p = n := by omega
        by_cases hqm : q < m
        · have hqI : (q : Int) < (m : Int) := by omega
          have hqne : ((q : Int) == (m : Int)) = false := by simp; omega
          obtain ⟨⟨y1, y2, y3⟩, hy⟩ : ∃ z, Q[q]? = some z := ⟨Q[q]'(by rw [HL.out.2]; assumption), List.getElem?_eq_getElem _⟩
          obtain ⟨bb, bo, rfl, ya, yb, yc⟩ := (HR.out.2.below hbw.out).ed hy
          dsimp only at ya yb yc
          have hS : wr.drew.cell? ⟨bb, bo + q * 3, none⟩ = some (.string y1) ∧ wr.drew.cell? ⟨bb, bo + q * 3 + 1, none⟩ = some (.string y2) ∧ wr.drew.cell? ⟨bb, bo + q * 3 + 2, none⟩ = some (.string y3) := ⟨ya, yb, yc⟩
          go_upto_region 7 with (fail)
          refine wp_region_ord (fun w' => w'.cell? ⟨bb, bo + q * 3, none⟩ = some (.string y1) ∧ w'.cell? ⟨bb, bo + q * 3 + 1, none⟩ = some (.string y2) ∧ w'.cell? ⟨bb, bo + q * 3 + 2, none⟩ = some (.string y3)) 21 [(0, true), (1, true), (2, true), (3, true), (4, true), (5, true), (6, true), (7, true), (8, true), (9, true), (10, true), (11, true), (12, true), (13, true), (14, true), (15, true), (16, true), (17, true), (18, false), (19, true), (20, true)] (by kernel_rfl) (by kernel_rfl) (fun _ _ d _ _ h => by cases d <;> exact h) hS ?_
          iterate 10 (refine ord_take (v := ?_) rfl (by first | with_reducible rfl | kernel_rfl) ?_ ?_; rotate_left; (focus (intro wS hS; (try dsimp only at hS); go_split_ands; go_simp; (try with_reducible rfl); done)); (try simp only [Act.put, List.getElem_toArray, List.getElem_cons_succ, List.getElem_cons_zero, List.setIfInBounds_toArray, List.set_cons_zero, List.set_cons_succ]))
          iterate 8 (refine ord_skip rfl (by kernel_rfl) ?_; (try simp only [Act.put, List.getElem_toArray, List.getElem_cons_succ, List.getElem_cons_zero, List.setIfInBounds_toArray, List.set_cons_zero, List.set_cons_succ]))
          (refine ord_skipf rfl (by kernel_rfl) (by first | assumption | trivial | exact UP.out _ H5.out) ?_; (try simp only [Act.put, List.getElem_toArray, List.getElem_cons_succ, List.getElem_cons_zero, List.setIfInBounds_toArray, List.set_cons_zero, List.set_cons_succ]))
          (refine ord_take (v := ?_) rfl (by first | with_reducible rfl | kernel_rfl) ?_ ?_; rotate_left; (focus (intro wS hS; (try dsimp only at hS); go_split_ands; go_simp; (try with_reducible rfl); done)); (try simp only [Act.put, List.getElem_toArray, List.getElem_cons_succ, List.getElem_cons_zero, List.setIfInBounds_toArray, List.set_cons_zero, List.set_cons_succ]))
          (refine ord_take (v := ?_) rfl (by first | with_reducible rfl | kernel_rfl) ?_ ?_; rotate_left; (focus (intro wS hS; (try dsimp only at hS); go_split_ands; go_simp; (try with_reducible rfl); done)); (try simp only [Act.put, List.getElem_toArray, List.getElem_cons_succ, List.getElem_cons_zero, List.setIfInBounds_toArray, List.set_cons_zero, List.set_cons_succ]))
          refine ord_done ?_
          clear hS
          obtain ⟨W5, hW5⟩ : ∃ W, W = wr.drew := ⟨_, rfl⟩
          have bW5 : Below wr.heap.size wr W5 := by rw [hW5]; exact (Below.refl _ _).drew
          rw [← hW5]
          have ya5 := (bW5.cell (World.block_lt_of_cell? _ _ ya)).trans ya
          have yb5 := (bW5.cell (World.block_lt_of_cell? _ _ yb)).trans yb
          have yc5 := (bW5.cell (World.block_lt_of_cell? _ _ yc)).trans yc
          have own5 := ownsRow_upd how.out (Upd.of_below bW5 (fun _ => False)) (fun _ _ h => h)
          have bb5 := hbw.out.trans (bW5.mono hbw.out.size)
          have hS : W5.drew.cell? ⟨bb, bo + q * 3, none⟩ = some (.string y1) ∧ W5.drew.cell? ⟨bb, bo + q * 3 + 1, none⟩ = some (.string y2) ∧ W5.drew.cell? ⟨bb, bo + q * 3 + 2, none⟩ = some (.string y3) := ⟨ya5, yb5, yc5⟩
          go_upto_region 10 with (fail)
          refine wp_region_ord (fun w' => w'.cell? ⟨bb, bo + q * 3, none⟩ = some (.string y1) ∧ w'.cell? ⟨bb, bo + q * 3 + 1, none⟩ = some (.string y2) ∧ w'.cell? ⟨bb, bo + q * 3 + 2, none⟩ = some (.string y3)) 15 [(0, true), (1, true), (2, true), (3, true), (4, true), (5, true), (6, true), (7, true), (8, true), (9, true), (10, true), (11, true), (12, true), (13, true), (14, true)] (by kernel_rfl) (by kernel_rfl) (fun _ _ d _ _ h => by cases d <;> exact h) hS ?_
          iterate 5 (refine ord_take (v := ?_) rfl (by first | with_reducible rfl | kernel_rfl) ?_ ?_; rotate_left; (focus (intro wS hS; (try dsimp only at hS); go_split_ands; go_simp; (try with_reducible rfl); done)); (try simp only [Act.put, List.getElem_toArray, List.getElem_cons_succ, List.getElem_cons_zero, List.setIfInBounds_toArray, List.set_cons_zero, List.set_cons_succ]))
          iterate 9 (refine ord_skip rfl (by kernel_rfl) ?_; (try simp only [Act.put, List.getElem_toArray, List.getElem_cons_succ, List.getElem_cons_zero, List.setIfInBounds_toArray, List.set_cons_zero, List.set_cons_succ]))
          (refine ord_take (v := ?_) rfl (by first | with_reducible rfl | kernel_rfl) ?_ ?_; rotate_left; (focus (intro wS hS; (try dsimp only at hS); go_split_ands; go_simp; (try with_reducible rfl); done)); (try simp only [Act.put, List.getElem_toArray, List.getElem_cons_succ, List.getElem_cons_zero, List.setIfInBounds_toArray, List.set_cons_zero, List.set_cons_succ]))
          refine ord_done ?_
          clear hS
          obtain ⟨W6, hW6⟩ : ∃ W, W = W5.drew := ⟨_, rfl⟩
          have bW6 : Below W5.heap.size W5 W6 := by rw [hW6]; exact (Below.refl _ _).drew
          rw [← hW6]
          have yy := True.intro
          have ya7 := (bW6.cell (World.block_lt_of_cell? _ _ ya5)).trans ya5
          have yb7 := (bW6.cell (World.block_lt_of_cell? _ _ yb5)).trans yb5
          have yc7 := (bW6.cell (World.block_lt_of_cell? _ _ yc5)).trans yc5
          have own7 := ownsRow_upd own5 (Upd.of_below bW6 (fun _ => False)) (fun _ _ h => h)
          have bb7 := bb5.trans (bW6.mono bb5.size)
          obtain ⟨v6, w6, happ, own6, u6, -⟩ := push_ed W6 W2.heap.size _ L own7 ⟨y1, y2, y3⟩ (by omega) bb7.size
          have HN := Lib.hid (And.intro (bb7.trans (u6.below (fun k _ e => (own7.lt k e).1) bb7.size)) own6)
          dsimp only at happ
          have HI := Lib.hid (show (L ++ [(⟨y1, y2, y3⟩ : Ed)]) ++ mrg ltE (P.drop (p)) (Q.drop (q + 1)) = mrg ltE P Q by
            rw [← hI.out, mrg_takeB hy (.inl (by rw [HL.out.1]; exact Nat.le_refl _))]
            simp)
          clear hI hy own6 own5 bb5 own7 bb7 hW5 bW5 hW6 bW6 yy u6
          clear ya yb yc
          clear ya5 yb5 yc5
          go_wp2_with (at_builtin; refine wpList_append_run rfl _ _ _ rfl rfl rfl happ ?_)
          go_roundw
          case rel => exact ⟨p, q + 1, L ++ [(⟨y1, y2, y3⟩ : Ed)], by omega, by omega, by go_num, by go_num, by simp; omega, HI, Lib.hid HN.out.1, Lib.hid HN.out.2⟩
          case measure => simp [intOf]; omega
        · obtain rfl : q = m := by omega
          have hI2 := hI.out
          rw [mrg_end (by rw [HL.out.1]; exact Nat.le_refl _) (by rw [HL.out.2]; exact Nat.le_refl _), List.append_nil] at hI2
          obtain ⟨A9, c9, rfl, -, -⟩ := own_form how.out
          have FIN := Lib.hid (show NewE w (setOf ltE N) (.returned (.slice A9 L.length c9)) wr from ⟨_, rfl, by
            rw [← HB2.out.2, ← hI2]
            exact ownsRow_base how.out (fun q hq => by have := (how.out.lt q hq).1; have := HB2.out.1.size; omega), HB2.out.1.trans (hbw.out.mono HB2.out.1.size)⟩)
          clear hI hI2 how
          go_wp2
          go_ret
          exact FIN.out
end Go.Proofs.YthmkgnifcbnkpaaGreat
namespace Go.Proofs.YthmkgnifcbnkpaaGreat
open Go.RowKit

set_option maxHeartbeats 4000000 in
set_option maxRecDepth 100000 in
theorem refLabels_any (w : World) (B : Option Addr) (d : Nat) (E : List Ed) (h : RowR w B (edCells E)) (hl : E.length * 48 ≤ 140737488355328) :
    Calls Tryz.prog 60 #[.slice B E.length d] w (NewT w (setOf ltT (lbs E))) := by
  obtain ⟨m, hm⟩ : ∃ m, E.length = m := ⟨_, rfl⟩
  rw [hm] at hl ⊢
  have H := Lib.hid (And.intro h hm)
  clear h hm
  go_enter Tryz.func60, Tryz.ntmps60
  go_wp2_with fail
  go_loopw [3, 4] (fun v i wr => ∃ k : Nat, k ≤ m ∧ i = .int .i64 k ∧ Hid (Below w.heap.size w wr) ∧ Hid (wr.ownsRow w.heap.size 9 1 v k (txtCells (lbs (E.take k))))) (fun _ i _ => m - (intOf i).toNat)
  case atStart => exact ⟨0, Nat.zero_le _, rfl, Lib.hid (Below.refl _ _), Lib.hid (by simpa [lbs, txtCells] using World.ownsRow_nil w w.heap.size 9 1)⟩
  case round =>
    obtain ⟨k, hk, rfl, hbw, how⟩ := hrel
    by_cases hlt : k < m
    · have hltI : (k : Int) < (m : Int) := by omega
      have hkw : IntKind.i64.wrap ((k : Int) + 1) = (k : Int) + 1 := IntWalk.i64_in _ (by omega)
      obtain ⟨⟨s0, s1, s2⟩, hx⟩ : ∃ x, E[k]? = some x := ⟨E[k]'(by rw [H.out.2]; exact hlt), List.getElem?_eq_getElem _⟩
      obtain ⟨ab, ao, rfl, x0, x1, x2⟩ := (H.out.1.below hbw.out).ed hx
      dsimp only at x0 x1 x2
      have hlk : (lbs (E.take k)).length = k := by rw [lbs_len, List.length_take, H.out.2]; omega
      obtain ⟨v6, w6, happ, own6, b6⟩ := push_txt wr w.heap.size _ (lbs (E.take k)) (by rw [hlk]; exact how.out) s1 (by rw [hlk]; omega) hbw.out.size
      have hst := lbs_take hx
      dsimp only at hst
      have hlk1 : (lbs (E.take (k + 1))).length = k + 1 := by rw [hst, List.length_append, hlk, List.length_singleton]
      rw [← hst, hlk1] at own6
      have HN := Lib.hid (And.intro (hbw.out.trans (b6.1.below (fun k _ e => b6.2 k e) hbw.out.size)) own6)
      clear own6 b6 hst hlk hlk1 hx
      go_wp2_with (at_builtin; refine wpList_append_run rfl _ _ _ rfl rfl rfl happ ?_)
      go_roundw
      case rel => exact ⟨k + 1, by omega, by go_num, Lib.hid HN.out.1, Lib.hid HN.out.2⟩
      case measure => simp [intOf]; omega
    · obtain rfl : k = m := by omega
      obtain ⟨A5, c5, rfl, hc5, r5⟩ := own_le3 how.out
      rw [List.take_of_length_le (by rw [H.out.2]; exact Nat.le_refl _)] at r5
      have hcon := texts_any k wr A5 c5 (lbs E) (by rw [lbs_len, H.out.2]; exact Nat.le_refl _) r5 (by rw [lbs_len, H.out.2]; exact hc5) (by rw [lbs_len, H.out.2]; omega)
      rw [lbs_len, H.out.2] at hcon
      have HC := Lib.hid hcon
      have HB := Lib.hid hbw.out
      clear hcon r5 hc5 how hbw
      go_wp2_with fail
      refine HC.out.mono ?_
      intro e w9 hN
      have hN' := hN.base HB.out
      obtain ⟨v, rfl, -⟩ := hN
      have FIN := Lib.hid hN'
      clear hN'
      go_wp2
      go_ret
      exact FIN.out

theorem ends_in {E : List Ed} (s : Txt) : inB s (setOf ltT (E.flatMap endsL)) = inB s (endsTo E E.length) := by
  rw [Bool.eq_iff_iff, inB_iff, inB_iff, (setOf_is stoT _).mem, List.mem_flatMap, endsTo_iff]
  constructor
  · rintro ⟨x, hx, h⟩
    obtain ⟨i, hi, e⟩ := List.getElem_of_mem hx
    refine ⟨i, x, hi, by rw [List.getElem?_eq_getElem hi, e], ?_⟩
    simpa [endsL] using h
  · rintro ⟨i, x, _, hx, h⟩
    exact ⟨x, List.mem_of_getElem? hx, by simpa [endsL] using h⟩
theorem endsL_len (E : List Ed) : (E.flatMap endsL).length = E.length * 2 := flat_len endsL 2 (fun _ => rfl) E
set_option maxHeartbeats 2000000 in
set_option maxRecDepth 100000 in
theorem refLone_any (w : World) (A : Option Addr) (c : Nat) (B : Option Addr) (d : Nat) (N : List Txt) (E : List Ed) (h : ForG w A c B d N E) :
    Calls Tryz.prog 61 #[twoV A N.length c B E.length d] w (NewT w (loneL N E)) := by
  have k0 := Blk.new w 25 #[.slice A N.length c, .slice B E.length d]
  have u0 : Below w.heap.size w (w.alloc (.cells #[.slice A N.length c, .slice B E.length d] 25)) := (Below.refl _ _).alloc (Nat.le_refl _) _
  have hn47 : N.length * 16 ≤ 140737488355328 := h.fit.n
  have hm47 : E.length * 48 ≤ 140737488355328 := h.fit.e
  have H := Lib.hid (And.intro (h.below u0) (And.intro k0 u0))
  clear h k0 u0
  obtain ⟨n, hn⟩ : ∃ n, N.length = n := ⟨_, rfl⟩
  obtain ⟨m, hm⟩ : ∃ n, E.length = n := ⟨_, rfl⟩
  rw [hn, hm] at H
  rw [hn] at hn47
  rw [hm] at hm47
  rw [hn, hm]
  have HL := Lib.hid (And.intro hn hm)
  clear hn hm
  unfold twoV
  go_enter Tryz.func61, Tryz.ntmps61
  go_upto_region 1 with (fail)
  generalize w.alloc (.cells #[.slice A n c, .slice B m d] 25) = W0 at H ⊢
  have UP := Lib.hid (show ∀ W, Below W0.heap.size W0 W → Blk W w.heap.size 25 #[.slice A n c, .slice B m d] ∧ ForG W A c B d N E ∧ Below w.heap.size w W from fun W hb => ⟨H.out.2.1.upd (Upd.of_below hb (fun _ => False)) id, H.out.1.below hb, H.out.2.2.trans (hb.mono H.out.2.2.size)⟩)
  go_wp2_with fail
  go_loopw [3, 4] (fun v i wr => ∃ k : Nat, k ≤ m ∧ i = .int .i64 k ∧ Hid (Below W0.heap.size W0 wr) ∧ Hid (wr.ownsRow W0.heap.size 9 1 v ((E.take k).flatMap endsL).length (txtCells ((E.take k).flatMap endsL)))) (fun _ i _ => m - (intOf i).toNat)
  case atStart => exact ⟨0, Nat.zero_le _, rfl, Lib.hid (Below.refl _ _), Lib.hid (World.ownsRow_nil _ _ _ _)⟩
  case round =>
    obtain ⟨k, hk, rfl, hbw, how⟩ := hrel
    have q1 : wr.cell? ⟨w.heap.size, 1, none⟩ = some (.slice B m d) := (UP.out _ hbw.out).1.cell 1
    by_cases hlt : k < m
    · have hltI : (k : Int) < (m : Int) := by omega
      have hkw : IntKind.i64.wrap ((k : Int) + 1) = (k : Int) + 1 := IntWalk.i64_in _ (by omega)
      obtain ⟨⟨s0, s1, s2⟩, hx⟩ : ∃ x, E[k]? = some x := ⟨E[k]'(by rw [HL.out.2]; exact hlt), List.getElem?_eq_getElem _⟩
      obtain ⟨ab, ao, rfl, x0, x1, x2⟩ := (UP.out _ hbw.out).2.1.re.ed hx
      dsimp only at x0 x1 x2
      have hlk := endsL_len (E.take k)
      rw [List.length_take, HL.out.2, Nat.min_eq_left (by omega)] at hlk
      obtain ⟨v6, w6, happ, own6, b6⟩ := push_two wr.drew W0.heap.size _ ((E.take k).flatMap endsL) how.out s0 s2 (by omega) hbw.out.size
      have hst : (E.take (k + 1)).flatMap endsL = (E.take k).flatMap endsL ++ [s0, s2] := by rw [take_snoc' hx, List.flatMap_append]; rfl
      rw [← hst] at own6
      have b06 := hbw.out.drew.trans b6
      have HN := Lib.hid (And.intro b06 own6)
      have SR := Lib.hid (show ∀ W, Below W0.heap.size W0 W → W.cell? ⟨w.heap.size, 1, none⟩ = some (.slice (some ⟨ab, ao, none⟩) m d) ∧ W.cell? ⟨ab, ao + k * 3, none⟩ = some (.string s0) ∧ W.cell? ⟨ab, ao + k * 3 + 2, none⟩ = some (.string s2) from fun W hb => by
        obtain ⟨y0, y1, y2⟩ := (UP.out _ hb).2.1.re.ed_at hx
        exact ⟨(UP.out _ hb).1.cell 1, y0, y2⟩)
      have hS := SR.out _ hbw.out.drew
      have HBW := Lib.hid hbw.out
      clear own6 b6 b06 hst hlk hx
      go_upto_region 5 with (fail)
      refine wp_region_ord (fun W => W.cell? ⟨w.heap.size, 1, none⟩ = some (.slice (some ⟨ab, ao, none⟩) m d) ∧ W.cell? ⟨ab, ao + k * 3, none⟩ = some (.string s0) ∧ W.cell? ⟨ab, ao + k * 3 + 2, none⟩ = some (.string s2)) 16 [(0, true), (1, true), (2, true), (3, true), (4, true), (5, true), (6, true), (7, true), (8, true), (9, true), (10, true), (11, true), (12, true), (13, false), (14, false), (15, true)] (by kernel_rfl) (by kernel_rfl) (fun _ _ d _ _ h => by cases d <;> exact h) hS ?_
      iterate 13 (refine ord_take (v := ?_) rfl (by first | with_reducible rfl | kernel_rfl) ?_ ?_; rotate_left; (focus (intro wS hS; (try dsimp only at hS); go_split_ands; go_simp; (try with_reducible rfl); done)); (try simp only [Act.put, List.getElem_toArray, List.getElem_cons_succ, List.getElem_cons_zero, List.setIfInBounds_toArray, List.set_cons_zero, List.set_cons_succ]))
      refine ord_do rfl rfl (fun K hK => ?_)
      go_simp
      refine hK _ _ (fun _ => SR.out _ (HBW.out.drew.alloc HBW.out.size _)) ?_
      clear hK K
      (try simp only [Act.put, List.getElem_toArray, List.getElem_cons_succ, List.getElem_cons_zero, List.setIfInBounds_toArray, List.set_cons_zero, List.set_cons_succ])
      refine ord_do rfl rfl (fun K hK => ?_)
      refine wp_append_run _ _ _ rfl rfl rfl happ ?_
      refine hK _ _ (fun _ => SR.out _ HN.out.1) ?_
      clear hK K happ
      (try simp only [Act.put, List.getElem_toArray, List.getElem_cons_succ, List.getElem_cons_zero, List.setIfInBounds_toArray, List.set_cons_zero, List.set_cons_succ])
      (refine ord_take (v := ?_) rfl (by first | with_reducible rfl | kernel_rfl) ?_ ?_; rotate_left; (focus (intro wS hS; (try dsimp only at hS); go_split_ands; go_simp; (try with_reducible rfl); done)); (try simp only [Act.put, List.getElem_toArray, List.getElem_cons_succ, List.getElem_cons_zero, List.setIfInBounds_toArray, List.set_cons_zero, List.set_cons_succ]))
      refine ord_done ?_
      clear hS q1 x0 x1 x2
      go_wp2
      go_roundw
      case rel => exact ⟨k + 1, by omega, by go_num, Lib.hid HN.out.1, Lib.hid HN.out.2⟩
      case measure => simp [intOf]; omega
    · obtain rfl : k = m := by omega
      obtain ⟨W2, hW2⟩ : ∃ W, W = wr := ⟨_, rfl⟩
      subst hW2
      obtain ⟨L, hL⟩ : ∃ L, (E.take k).flatMap endsL = L := ⟨_, rfl⟩
      have ho := how.out
      rw [hL] at ho
      rw [List.take_of_length_le (by rw [HL.out.2]; exact Nat.le_refl _)] at hL
      have hLl : L.length = k * 2 := by rw [← hL, endsL_len, HL.out.2]
      obtain ⟨l2, hl2⟩ : ∃ l, L.length = l := ⟨_, rfl⟩
      rw [hl2] at ho
      obtain ⟨A5, c5, rfl, hc5, r5⟩ := own_le3 ho
      have hcon := texts_any l2 W2 A5 c5 L (by omega) r5 (by omega) (by omega)
      rw [hl2] at hcon
      have HC := Lib.hid (And.intro hcon hL)
      have HB := Lib.hid hbw.out
      have HL3 := Lib.hid (show l2 = k * 2 by omega)
      clear hcon r5 hc5 how hbw ho hL hlt hLl hl2
      go_wp2_with fail
      refine HC.out.1.mono ?_
      rintro e W3 ⟨v3, rfl, own3, b3⟩
      obtain ⟨P, hP⟩ : ∃ P, setOf ltT L = P := ⟨_, rfl⟩
      rw [hP] at own3
      obtain ⟨p, hp⟩ : ∃ p, P.length = p := ⟨_, rfl⟩
      rw [hp] at own3
      obtain ⟨A6, c6, rfl, hc6, r6⟩ := own_le3 own3
      have hup : Rises ltT P := by rw [← hP]; exact (setOf_is stoT L).up
      have hin : ∀ s, inB s P = inB s (endsTo E E.length) := fun s => by rw [← hP, ← HC.out.2]; exact ends_in s
      have hpl : p ≤ l2 := by
        have h1 := setOf_len stoT L
        rw [hP, hp] at h1
        have h2 : L.length = k * 2 := by rw [← HC.out.2, endsL_len, HL.out.2]
        have h3 := HL3.out
        omega
      have HAM := Lib.hid (show ∀ (W : World) (s : Txt), Below W3.heap.size W3 W → Calls Tryz.prog 97 #[.slice A6 p c6, .string s] W (Only W (.bool (inB s (endsTo E E.length)))) from fun W s hb => by
        have := among_any W A6 c6 P s (r6.below hb) hup (by rw [hp]; have := HL3.out; omega)
        rw [hin, hp] at this
        exact this)
      have HB3 := Lib.hid (HB.out.trans (b3.mono HB.out.size))
      have hz3 : W0.heap.size ≤ W3.heap.size := HB3.out.size
      clear own3 b3 r6 hc6 hup hin hP hp HC
      go_wp2_with fail
      clear q1
      go_loopw [5, 6, 7] (fun v i _ wr => ∃ q : Nat, q ≤ n ∧ i = .int .i64 q ∧ Hid (Below W3.heap.size W3 wr) ∧ Hid (wr.ownsRow W3.heap.size 9 1 v (loneTo N E q).length (txtCells (loneTo N E q)))) (fun _ i _ _ => n - (intOf i).toNat)
      case atStart => exact ⟨0, Nat.zero_le _, rfl, Lib.hid (Below.refl _ _), Lib.hid (World.ownsRow_nil _ _ _ _)⟩
      case round =>
        obtain ⟨q, hq, rfl, hbw, how⟩ := hrel
        have b0 := HB3.out.trans (hbw.out.mono hz3)
        have q0 : wr.cell? ⟨w.heap.size, 0, none⟩ = some (.slice A n c) := (UP.out _ b0).1.cell 0
        by_cases hlt : q < n
        · have hltI : (q : Int) < (n : Int) := by omega
          have hkw : IntKind.i64.wrap ((q : Int) + 1) = (q : Int) + 1 := IntWalk.i64_in _ (by omega)
          obtain ⟨x, hx⟩ : ∃ x, N[q]? = some x := ⟨N[q]'(by rw [HL.out.1]; exact hlt), List.getElem?_eq_getElem _⟩
          obtain ⟨ab, ao, rfl, x0⟩ := (UP.out _ b0).2.1.rn.txt hx
          have hle := loneTo_le N E q
          cases hb : inB x (endsTo E E.length) with
          | true =>
            have hst := loneTo_miss hx hb
            have ham := HAM.out wr x hbw.out
            rw [hb] at ham
            have HN := Lib.hid (show wr.ownsRow W3.heap.size 9 1 _ (loneTo N E (q + 1)).length (txtCells (loneTo N E (q + 1))) by rw [hst]; exact how.out)
            have HM := Lib.hid ham
            clear ham hst hb hx b0
            go_wp2_with fail
            refine HM.out.mono ?_
            rintro e w' ⟨rfl, hw⟩
            subst w'
            go_wp2
            go_roundw
            case rel => exact ⟨q + 1, by omega, by go_num, hbw, HN⟩
            case measure => simp [intOf]; omega
          | false =>
            have hst := loneTo_hit hx hb
            have ham := HAM.out wr x hbw.out
            rw [hb] at ham
            obtain ⟨v6, w6, happ, own6, b6⟩ := push_txt wr W3.heap.size _ (loneTo N E q) how.out x (by omega) hbw.out.size
            rw [← hst] at own6
            have HN := Lib.hid (And.intro (hbw.out.trans (b6.1.below (fun k _ e => b6.2 k e) hbw.out.size)) own6)
            have HM := Lib.hid ham
            clear ham hst hb hx b0 own6 b6
            go_wp2_with fail
            refine HM.out.mono ?_
            rintro e w' ⟨rfl, hw⟩
            subst w'
            go_wp2_with (at_builtin; refine wpList_append_run rfl _ _ _ rfl rfl rfl happ ?_)
            go_roundw
            case rel => exact ⟨q + 1, by omega, by go_num, Lib.hid HN.out.1, Lib.hid HN.out.2⟩
            case measure => simp [intOf]; omega
        · obtain rfl : q = n := by omega
          obtain ⟨A9, c9, rfl, -, -⟩ := own_form how.out
          have ho := how.out
          have e1 : loneTo N E q = loneL N E := by rw [← HL.out.1]; exact loneTo_all N E
          rw [e1] at ho
          have bw := (UP.out _ b0).2.2
          have FIN := Lib.hid (show NewT w (loneL N E) (.returned (.slice A9 (loneL N E).length c9)) wr from ⟨_, by rfl, by rw [e1] at *; exact ownsRow_base ho (fun q hq => by have := (ho.lt q hq).1; have := H.out.2.2.size; omega), bw⟩)
          rw [e1]
          clear ho e1 bw b0 how
          go_wp2
          go_ret
          exact FIN.out

/-- The text so far. -/
theorem lineN_list (s : Txt) : lineN s = s.data.toList ++ [32, 59, 10] := rfl
set_option maxHeartbeats 2000000 in
set_option maxRecDepth 100000 in
theorem refText_any (w : World) (A : Option Addr) (c : Nat) (B : Option Addr) (d : Nat) (N : List Txt) (E : List Ed) (h : ForG w A c B d N E) (hs : Short N E) (hN : N.length ≤ 32) (hE : E.length ≤ 256) :
    Calls Tryz.prog 55 #[twoV A N.length c B E.length d] w (Sam w (.string ⟨(textL N E).toArray⟩)) := by
  have k0 := Blk.new w 25 #[.slice A N.length c, .slice B E.length d]
  have u0 : Below w.heap.size w (w.alloc (.cells #[.slice A N.length c, .slice B E.length d] 25)) := (Below.refl _ _).alloc (Nat.le_refl _) _
  have hlo := fun (W : World) (h : ForG W A c B d N E) => refLone_any W A c B d N E h
  have H := Lib.hid (And.intro (h.below u0) (And.intro k0 (And.intro u0 hs)))
  clear h k0 u0 hs
  obtain ⟨n, hn⟩ : ∃ n, N.length = n := ⟨_, rfl⟩
  obtain ⟨m, hm⟩ : ∃ n, E.length = n := ⟨_, rfl⟩
  rw [hn, hm] at hlo
  rw [hn, hm] at H
  rw [hn] at hN
  rw [hm] at hE
  rw [hn, hm]
  have HL := Lib.hid (And.intro hn hm)
  have HLO := Lib.hid hlo
  clear hn hm hlo
  unfold twoV at HLO ⊢
  go_enter Tryz.func55, Tryz.ntmps55
  go_upto_region 1 with (fail)
  generalize w.alloc (.cells #[.slice A n c, .slice B m d] 25) = W0 at H ⊢
  have UP := Lib.hid (show ∀ W, Below W0.heap.size W0 W → Blk W w.heap.size 25 #[.slice A n c, .slice B m d] ∧ ForG W A c B d N E ∧ Below w.heap.size w W from fun W hb => ⟨H.out.2.1.upd (Upd.of_below hb (fun _ => False)) id, H.out.1.below hb, H.out.2.2.1.trans (hb.mono H.out.2.2.1.size)⟩)
  have q0 : W0.cell? ⟨w.heap.size, 0, none⟩ = some (.slice A n c) := H.out.2.1.cell 0
  have q1 : W0.cell? ⟨w.heap.size, 1, none⟩ = some (.slice B m d) := H.out.2.1.cell 1
  go_wp2_with fail
  refine (HLO.out W0 H.out.1).mono ?_
  rintro e W1 ⟨v, rfl, own1, b1⟩
  obtain ⟨l, hl⟩ : ∃ l, (loneL N E).length = l := ⟨_, rfl⟩
  rw [hl] at own1
  obtain ⟨A1, c1, rfl, hc1, r1⟩ := own_le3 own1
  have hl32 : l ≤ 32 := by have := loneL_len N E; have := HL.out.1; omega
  have H1 := Lib.hid (And.intro r1 (And.intro b1 hl))
  clear own1 r1 hl q0 q1 hc1 b1
  go_wp2_with fail
  go_loopw [3, 5] (fun s i wr => ∃ (k : Nat) (T : Txt), k ≤ l ∧ i = .int .i64 k ∧ s = .string T ∧ wr = W1 ∧ Hid (T.data.toList = ((loneL N E).take k).flatMap lineN)) (fun _ i _ => l - (intOf i).toNat)
  case atStart => exact ⟨0, ⟨#[]⟩, Nat.zero_le _, rfl, rfl, rfl, Lib.hid rfl⟩
  case round =>
    obtain ⟨k, T, hk, rfl, rfl, hwr, hT⟩ := hrel
    subst wr
    have hTs : T.size ≤ 32 * 19 := by
      have h1 := flat_le (f := lineN) (c := 19) (l := (loneL N E).take k) (fun x hx => lineN_le (H.out.2.2.2.n x (loneL_sub (List.mem_of_mem_take hx))))
      rw [← hT.out, size_list] at h1
      have h3 : ((loneL N E).take k).length ≤ k := by rw [List.length_take]; omega
      have := Nat.mul_le_mul_right 19 h3
      omega
    by_cases hlt : k < l
    · have hltI : (k : Int) < (l : Int) := by omega
      have hkw : IntKind.i64.wrap ((k : Int) + 1) = (k : Int) + 1 := IntWalk.i64_in _ (by omega)
      obtain ⟨x, hx⟩ : ∃ x, (loneL N E)[k]? = some x := ⟨(loneL N E)[k]'(by rw [H1.out.2.2]; exact hlt), List.getElem?_eq_getElem _⟩
      obtain ⟨ab, ao, rfl, x0⟩ := H1.out.1.txt hx
      have hx16 : x.size ≤ 16 := H.out.2.2.2.n x (loneL_sub (List.mem_of_getElem? hx))
      have a1 := add_okk T x (by omega)
      obtain ⟨T1, hT1⟩ : ∃ t, T ++ x = t := ⟨_, rfl⟩
      rw [hT1] at a1
      have hs1 : T1.size ≤ 32 * 19 + 16 := by rw [← hT1, size_app]; omega
      have a2 := add_okk T1 ⟨#[32, 59, 10]⟩ (by show T1.size + 3 ≤ 100000; omega)
      obtain ⟨T2, hT2⟩ : ∃ t, T1 ++ ⟨#[32, 59, 10]⟩ = t := ⟨_, rfl⟩
      rw [hT2] at a2
      have HT2 := Lib.hid (show T2.data.toList = ((loneL N E).take (k + 1)).flatMap lineN by
        rw [take_snoc' hx, ← hT2, ← hT1, data_app, data_app, hT.out, List.flatMap_append, List.append_assoc]
        congr 1
        simp [lineN, sepL])
      clear hs1 hT1 hT2 hx hx16 hTs
      go_wp2
      go_roundw
      case rel => exact ⟨k + 1, T2, by omega, by go_num, rfl, by first | rfl | trivial, HT2⟩
      case measure => simp [intOf]; omega
    · obtain rfl : k = l := by omega
      obtain ⟨S1, hS1⟩ : ∃ S, S = T := ⟨_, rfl⟩
      subst hS1
      have hT2 := hT.out
      rw [List.take_of_length_le (by rw [H1.out.2.2]; exact Nat.le_refl _)] at hT2
      have HT := Lib.hid hT2
      have q1 : W1.cell? ⟨w.heap.size, 1, none⟩ = some (.slice B m d) := (UP.out _ H1.out.2.1).1.cell 1
      have hz1 : W0.heap.size ≤ W1.heap.size := H1.out.2.1.size
      clear hT hT2 hlt
      go_wp2_with fail
      clear q1
      go_loopw [3, 6] (fun s i wr => ∃ (j : Nat) (T : Txt), j ≤ m ∧ i = .int .i64 j ∧ s = .string T ∧ Hid (Below W1.heap.size W1 wr) ∧ Hid (T.data.toList = (loneL N E).flatMap lineN ++ (E.take j).flatMap lineE)) (fun _ i _ => m - (intOf i).toNat)
      case atStart => exact ⟨0, S1, Nat.zero_le _, rfl, rfl, Lib.hid (Below.refl _ _), Lib.hid (by simpa using HT.out)⟩
      case round =>
        obtain ⟨j, T, hj, rfl, rfl, hbw, hT⟩ := hrel
        have b0 := H1.out.2.1.trans (hbw.out.mono hz1)
        have q1 : wr.cell? ⟨w.heap.size, 1, none⟩ = some (.slice B m d) := (UP.out _ b0).1.cell 1
        by_cases hlt : j < m
        · have hltI : (j : Int) < (m : Int) := by omega
          have hkw : IntKind.i64.wrap ((j : Int) + 1) = (j : Int) + 1 := IntWalk.i64_in _ (by omega)
          have hT17 : T.size ≤ 32 * 19 + 256 * 53 := by
            have h1 := flat_le (f := lineN) (c := 19) (l := loneL N E) (fun x hx => lineN_le (H.out.2.2.2.n x (loneL_sub hx)))
            have h2 := flat_le (f := lineE) (c := 53) (l := E.take j) (fun x hx => lineE_le (H.out.2.2.2.e x (List.mem_of_mem_take hx)))
            have h3 : (E.take j).length * 53 ≤ 256 * 53 := Nat.mul_le_mul_right _ (by rw [List.length_take]; omega)
            have h4 := congrArg List.length hT.out
            rw [size_list, List.length_append] at h4
            have h5 := H1.out.2.2
            have h6 : (loneL N E).length * 19 ≤ 32 * 19 := Nat.mul_le_mul_right _ (by omega)
            omega
          obtain ⟨⟨s0, s1, s2⟩, hx⟩ : ∃ x, E[j]? = some x := ⟨E[j]'(by rw [HL.out.2]; exact hlt), List.getElem?_eq_getElem _⟩
          obtain ⟨ab, ao, rfl, x0, x1, x2⟩ := (UP.out _ b0).2.1.re.ed hx
          dsimp only at x0 x1 x2
          have hx16 := H.out.2.2.2.e _ (List.mem_of_getElem? hx)
          dsimp only at hx16
          have a1 := add_okk T s0 (by omega)
          obtain ⟨T1, hT1⟩ : ∃ t, T ++ s0 = t := ⟨_, rfl⟩
          rw [hT1] at a1
          have hs1' : T1.size ≤ 32 * 19 + 256 * 53 + 16 := by rw [← hT1, size_app]; omega
          have a2 := add_okk T1 ⟨#[32]⟩ (by show T1.size + 1 ≤ 100000; omega)
          obtain ⟨T2, hT2⟩ : ∃ t, T1 ++ ⟨#[32]⟩ = t := ⟨_, rfl⟩
          rw [hT2] at a2
          have hs2' : T2.size ≤ 32 * 19 + 256 * 53 + 17 := by rw [← hT2, size_app]; show T1.size + 1 ≤ _; omega
          have a3 := add_okk T2 s1 (by omega)
          obtain ⟨T3, hT3⟩ : ∃ t, T2 ++ s1 = t := ⟨_, rfl⟩
          rw [hT3] at a3
          have hs3' : T3.size ≤ 32 * 19 + 256 * 53 + 33 := by rw [← hT3, size_app]; omega
          have a4 := add_okk T3 ⟨#[32]⟩ (by show T3.size + 1 ≤ 100000; omega)
          obtain ⟨T4, hT4⟩ : ∃ t, T3 ++ ⟨#[32]⟩ = t := ⟨_, rfl⟩
          rw [hT4] at a4
          have hs4' : T4.size ≤ 32 * 19 + 256 * 53 + 34 := by rw [← hT4, size_app]; show T3.size + 1 ≤ _; omega
          have a5 := add_okk T4 s2 (by omega)
          obtain ⟨T5, hT5⟩ : ∃ t, T4 ++ s2 = t := ⟨_, rfl⟩
          rw [hT5] at a5
          have hs5' : T5.size ≤ 32 * 19 + 256 * 53 + 50 := by rw [← hT5, size_app]; omega
          have a6 := add_okk T5 ⟨#[32, 59, 10]⟩ (by show T5.size + 3 ≤ 100000; omega)
          obtain ⟨T6, hT6⟩ : ∃ t, T5 ++ ⟨#[32, 59, 10]⟩ = t := ⟨_, rfl⟩
          rw [hT6] at a6
          have HT6 := Lib.hid (show T6.data.toList = (loneL N E).flatMap lineN ++ (E.take (j + 1)).flatMap lineE by
            rw [take_snoc' hx, ← hT6, ← hT5, ← hT4, ← hT3, ← hT2, ← hT1, data_app, data_app, data_app, data_app, data_app, data_app, hT.out, List.flatMap_append]
            simp [lineE, sepL])
          clear hs1' hs2' hs3' hs4' hs5' hT17 hx16 hT1 hT2 hT3 hT4 hT5 hT6
          have kx := Blk.new wr 39 #[.string s0, .string s1, .string s2]
          have bx : Below W1.heap.size W1 (wr.alloc (.cells #[.string s0, .string s1, .string s2] 39)) := hbw.out.alloc hbw.out.size _
          have HX := Lib.hid (And.intro kx bx)
          clear kx bx hx b0
          go_upto_region 11 with (fail)
          generalize wr.alloc (.cells #[.string s0, .string s1, .string s2] 39) = W5 at HX ⊢
          clear x0 x1 x2 q1
          have x0 : W5.cell? ⟨wr.heap.size, 0, none⟩ = some (.string s0) := HX.out.1.cell 0
          have x1 : W5.cell? ⟨wr.heap.size, 1, none⟩ = some (.string s1) := HX.out.1.cell 1
          have x2 : W5.cell? ⟨wr.heap.size, 2, none⟩ = some (.string s2) := HX.out.1.cell 2
          go_wp2
          go_roundw
          case rel => exact ⟨j + 1, T6, by omega, by go_num, rfl, Lib.hid HX.out.2, HT6⟩
          case measure => simp [intOf]; omega
        · obtain rfl : j = m := by omega
          have ht := hT.out
          rw [List.take_of_length_le (by rw [HL.out.2]; exact Nat.le_refl _)] at ht
          have e : (⟨(textL N E).toArray⟩ : Txt) = T := txt_ext (by rw [ht]; rfl)
          have FIN := Lib.hid (And.intro e (UP.out _ b0).2.2)
          clear ht e b0 hT
          go_wp2
          go_ret
          exact ⟨by rw [FIN.out.1]; rfl, FIN.out.2⟩
end Go.Proofs.YthmkgnifcbnkpaaGreat
