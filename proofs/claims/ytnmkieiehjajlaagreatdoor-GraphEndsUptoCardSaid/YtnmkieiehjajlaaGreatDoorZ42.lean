/- How many edges a graph has, counted by their ends and by their labels (plain). -/
import Derived.Test.YtnmkieiehjajlaaGreatDoorZ41
import Derived.Test.YtnmkieiehjajlaaGreatDoorZ40
set_option linter.unusedVariables false
set_option linter.unusedSimpArgs false
namespace Go.Proofs.YtnmkieiehjajlaaGreatDoor

theorem len_same {α : Type} [DecidableEq α] {L M : List α} (hl : L.Nodup) (hm : M.Nodup) (h : ∀ x, x ∈ L ↔ x ∈ M) : L.length = M.length :=
  Nat.le_antisymm (len_sub hl (fun x hx => (h x).1 hx)) (len_sub hm (fun x hx => (h x).2 hx))
theorem nodup_map {α β : Type} {f : α → β} {l : List α} (h : l.Nodup) (hf : ∀ a ∈ l, ∀ b ∈ l, f a = f b → a = b) : (l.map f).Nodup := by
  unfold List.Nodup
  rw [List.pairwise_map]
  exact List.Pairwise.imp_of_mem (fun {a b} ha hb hn e => hn (hf a ha b hb e)) h
/-- How many edges bear a key. -/
def cntK (key : Ed → Txt) (X : List Ed) (s : Txt) : Nat := (X.filter (fun x => decide (key x = s))).length
theorem sum_zero {α : Type} : ∀ (N : List α), (N.map (fun _ => 0)).sum = 0
  | [] => rfl
  | _ :: N => by rw [List.map_cons, List.sum_cons, sum_zero N]
theorem sum_add {α : Type} (f g : α → Nat) : ∀ (N : List α), (N.map (fun s => f s + g s)).sum = (N.map f).sum + (N.map g).sum
  | [] => rfl
  | s :: N => by simp only [List.map_cons, List.sum_cons, sum_add f g N]; omega
theorem sum_one {s : Txt} : ∀ {N : List Txt}, N.Nodup → s ∈ N → (N.map (fun t => if s = t then 1 else 0)).sum = 1
  | t :: N, hn, hs => by
    rw [List.nodup_cons] at hn
    rw [List.map_cons, List.sum_cons]
    by_cases e : s = t
    · subst e
      have : (N.map (fun t => if s = t then 1 else 0)) = N.map (fun _ => 0) := List.map_congr_left (fun t ht => if_neg (fun e => hn.1 (by rw [e]; exact ht)))
      rw [if_pos rfl, this, sum_zero]
    · rw [if_neg e, sum_one hn.2 ((List.mem_cons.1 hs).resolve_left e)]
theorem cnt_all (key : Ed → Txt) {N : List Txt} (hn : N.Nodup) : ∀ (X : List Ed), (∀ x ∈ X, key x ∈ N) → (N.map (cntK key X)).sum = X.length
  | [], _ => sum_zero N
  | x :: X, h => by
    have ih := cnt_all key hn X (fun y hy => h y (List.mem_cons_of_mem _ hy))
    have e : N.map (cntK key (x :: X)) = N.map (fun s => (if key x = s then 1 else 0) + cntK key X s) := List.map_congr_left (fun s _ => by
      unfold cntK
      rw [List.filter_cons]
      by_cases hk : key x = s
      · rw [if_pos (decide_eq_true hk), if_pos hk, List.length_cons]; omega
      · rw [if_neg (by simpa using hk), if_neg hk]; omega)
    rw [e, sum_add, sum_one hn (h x List.mem_cons_self), ih, List.length_cons]
    omega
def sumK (key : Ed → Txt) (X : List Ed) (N : List Txt) (i : Nat) : Nat := ((N.take i).map (cntK key X)).sum
theorem sumK_succ {key : Ed → Txt} {X : List Ed} {N : List Txt} {i : Nat} {s : Txt} (h : N[i]? = some s) : sumK key X N (i + 1) = sumK key X N i + cntK key X s := by
  unfold sumK
  rw [List.take_add_one, h, List.map_append, List.sum_append]
  simp
theorem sumK_all {key : Ed → Txt} {N : List Txt} {X : List Ed} (hn : N.Nodup) (h : ∀ x ∈ X, key x ∈ N) : sumK key X N N.length = X.length := by
  unfold sumK
  rw [List.take_length]
  exact cnt_all key hn X h
theorem sumK_le {key : Ed → Txt} {N : List Txt} {X : List Ed} (hn : N.Nodup) (h : ∀ x ∈ X, key x ∈ N) (i : Nat) : sumK key X N i ≤ X.length := by
  rw [← sumK_all hn h]
  unfold sumK
  rw [List.take_length]
  conv => rhs; rw [← List.take_append_drop i N, List.map_append, List.sum_append]
  exact Nat.le_add_right _ _
theorem out_len {G : Gr} (ok : GOk G) {k : Nat} {s : Txt} (hk : G.N[k]? = some s) {L : List Hp} (h : OutOf G k L) : L.length = cntK Ed.fr G.X s := by
  have e : L.length = ((G.X.filter (fun x => decide (x.fr = s))).map (fun x => (⟨x.lb, (idxT G.N x.to : Int)⟩ : Hp))).length := by
    refine len_same (h.up.imp (fun {a b} hab => stoH.ne hab)) (nodup_map (ok.xd.filter _) ?_) (fun y => ?_)
    · intro a ha b hb e
      rw [List.mem_filter] at ha hb
      injection e with e1 e2
      have := idxT_inj (ok.ends a ha.1).2 (ok.ends b hb.1).2 e2
      have e3 := of_decide_eq_true ha.2
      have e4 := of_decide_eq_true hb.2
      obtain ⟨a1, a2, a3⟩ := a
      obtain ⟨b1, b2, b3⟩ := b
      dsimp only at *
      rw [e3, e4, e1, this]
    · rw [h.mem, List.mem_map]
      constructor
      · rintro ⟨x, hx, h1, rfl⟩
        rw [hk] at h1
        injection h1 with h1
        exact ⟨x, List.mem_filter.2 ⟨hx, decide_eq_true h1.symm⟩, rfl⟩
      · rintro ⟨x, hx, rfl⟩
        rw [List.mem_filter] at hx
        exact ⟨x, hx.1, by rw [hk, of_decide_eq_true hx.2], rfl⟩
  rw [e, List.length_map]
  rfl
theorem in_len {G : Gr} (ok : GOk G) {k : Nat} {s : Txt} (hk : G.N[k]? = some s) {L : List Hp} (h : InOf G k L) : L.length = cntK Ed.to G.X s := by
  have e : L.length = ((G.X.filter (fun x => decide (x.to = s))).map (fun x => (⟨x.lb, (idxT G.N x.fr : Int)⟩ : Hp))).length := by
    refine len_same (h.up.imp (fun {a b} hab => stoH.ne hab)) (nodup_map (ok.xd.filter _) ?_) (fun y => ?_)
    · intro a ha b hb e
      rw [List.mem_filter] at ha hb
      injection e with e1 e2
      have := idxT_inj (ok.ends a ha.1).1 (ok.ends b hb.1).1 e2
      have e3 := of_decide_eq_true ha.2
      have e4 := of_decide_eq_true hb.2
      obtain ⟨a1, a2, a3⟩ := a
      obtain ⟨b1, b2, b3⟩ := b
      dsimp only at *
      rw [e3, e4, e1, this]
    · rw [h.mem, List.mem_map]
      constructor
      · rintro ⟨x, hx, h1, rfl⟩
        rw [hk] at h1
        injection h1 with h1
        exact ⟨x, List.mem_filter.2 ⟨hx, decide_eq_true h1.symm⟩, rfl⟩
      · rintro ⟨x, hx, rfl⟩
        rw [List.mem_filter] at hx
        exact ⟨x, hx.1, by rw [hk, of_decide_eq_true hx.2], rfl⟩
  rw [e, List.length_map]
  rfl
/-- A label's matrix has a cell for each of its edges. -/
theorem mat_len {G : Gr} (ok : GOk G) {lb : Txt} {b : Option (List Nat)} (hw : Wd (oldW b)) (h : MatOf G lb b) : (qcL b).length = cntK Ed.lb G.X lb := by
  have e : (qcL b).length = ((G.X.filter (fun x => decide (x.lb = lb))).map (fun x => (idxT G.N x.fr, idxT G.N x.to))).length := by
    refine len_same (qcL_nodup b) (nodup_map (ok.xd.filter _) ?_) (fun y => ?_)
    · intro a ha b hb e
      rw [List.mem_filter] at ha hb
      injection e with e1 e2
      have k1 := idxT_inj (ok.ends a ha.1).1 (ok.ends b hb.1).1 (by rw [e1])
      have k2 := idxT_inj (ok.ends a ha.1).2 (ok.ends b hb.1).2 (by rw [e2])
      have e3 := of_decide_eq_true ha.2
      have e4 := of_decide_eq_true hb.2
      obtain ⟨a1, a2, a3⟩ := a
      obtain ⟨b1, b2, b3⟩ := b
      dsimp only at *
      rw [k1, k2, e3, e4]
    · obtain ⟨i, j⟩ := y
      rw [qcL_mem hw, List.mem_map]
      have hf := ok.few.1
      constructor
      · rintro ⟨hi, hj, hb⟩
        obtain ⟨x, hx, h1, h2, h3⟩ := (h i j hi hj).1 hb
        exact ⟨x, List.mem_filter.2 ⟨hx, decide_eq_true h1⟩, by rw [idxT_is ok.nd h2, idxT_is ok.nd h3]⟩
      · rintro ⟨x, hx, e⟩
        injection e with e1 e2
        rw [List.mem_filter] at hx
        have h1 := idxT_at (ok.ends x hx.1).1
        have h2 := idxT_at (ok.ends x hx.1).2
        have l1 := idxT_lt (ok.ends x hx.1).1
        have l2 := idxT_lt (ok.ends x hx.1).2
        rw [e1] at h1 l1
        rw [e2] at h2 l2
        exact ⟨by omega, by omega, (h i j (by omega) (by omega)).2 ⟨x, hx.1, of_decide_eq_true hx.2, h1, h2⟩⟩
  rw [e, List.length_map]
  rfl
theorem mat_in {G : Gr} (ok : GOk G) {lb : Txt} {b : Option (List Nat)} (hw : Wd (oldW b)) (h : MatOf G lb b) {i j : Nat} (hm : (i, j) ∈ qcL b) : ∃ x ∈ G.X, x.lb = lb ∧ G.N[i]? = some x.fr ∧ G.N[j]? = some x.to := by
  obtain ⟨hi, hj, hb⟩ := (qcL_mem hw).1 hm
  exact (h i j hi hj).1 hb
theorem cnt_pos {X : List Ed} {s : Txt} {key : Ed → Txt} (h : ∃ x ∈ X, key x = s) : 0 < cntK key X s := by
  obtain ⟨x, hx, e⟩ := h
  exact List.length_pos_of_mem (List.mem_filter.2 ⟨hx, decide_eq_true e⟩)
end Go.Proofs.YtnmkieiehjajlaaGreatDoor
