/- Edges: the labels of a graph. -/
import Derived.Test.YthmkgnifcbnkpaaGreatEdH
import Derived.Test.YthmkgnifcbnkpaaGreatLayS
namespace Go.Proofs.YthmkgnifcbnkpaaGreat
open Go.RowKit Go.Sort Go.Shelf

theorem stoL : Sto Op.bytesLess := by
  refine ⟨less_irr, less_tr, fun a b h k => ?_⟩
  rcases compare_cases a b with ⟨_, d⟩ | ⟨_, d⟩ | ⟨_, d⟩
  · rw [h] at d; cases d
  · exact d
  · rw [k] at d; cases d
theorem less_lt : ∀ (a b : List UInt8), Op.bytesLess a b = true ↔ a < b
  | a, [] => by cases a <;> simp [Op.bytesLess]
  | [], _ :: _ => by simp [Op.bytesLess]
  | x :: a, y :: b => by
    rw [List.cons_lt_cons_iff, ← less_lt a b]
    simp [Op.bytesLess]
theorem le_less (a b : List UInt8) : decide (a ≤ b) = !Op.bytesLess b a := by
  have h := less_lt b a
  cases e : Op.bytesLess b a
  · rw [e] at h
    simp only [Bool.not_false, decide_eq_true_eq]
    exact List.not_lt.1 (fun k => by have := h.2 k; cases this)
  · rw [e] at h
    simp only [Bool.not_true, decide_eq_false_iff_not]
    exact fun k => List.not_le.2 (h.1 rfl) k
theorem Sto.le_trans {α : Type} {lt : α → α → Bool} (hs : Sto lt) (a b c : α) (h : (!lt b a) = true) (k : (!lt c b) = true) : (!lt c a) = true := by
  simp only [Bool.not_eq_true'] at *
  cases e : lt c a
  · rfl
  · cases e2 : lt a b
    · rw [hs.tri _ _ e2 h] at e
      rw [e] at k
      cases k
    · have := hs.tr _ _ _ e e2
      rw [this] at k
      cases k
theorem Sto.le_total {α : Type} {lt : α → α → Bool} (hs : Sto lt) (a b : α) : (!lt b a || !lt a b) = true := by
  cases e : lt b a
  · rfl
  · rw [hs.asym e]; rfl

theorem sort_txt (w : World) (base g cap : Nat) (L : List Txt) (h : w.ownsRow base 9 1 (.slice (some ⟨g, 0, none⟩) L.length cap) L.length (txtCells L)) (hl : L.length ≤ 140737488355328) :
    Calls Tryz.prog 99 #[.slice (some ⟨g, 0, none⟩) L.length cap] w fun e w' => e = .returned (.tuple #[]) ∧ ∃ d : Array Txt, InOrd ltT L d ∧ w'.ownsRow base 9 1 (.slice (some ⟨g, 0, none⟩) L.length cap) L.length (d.toList.map Value.string) ∧ Upd (fun q => q = g) w w' := by
  obtain ⟨ss, hss⟩ : ∃ ss, L.map (fun s => s.data.toList) = ss := ⟨_, rfl⟩
  have hlen : ss.length = L.length := by rw [← hss]; simp
  have hcell : txtCells L = ss.toArray.toList.map encStr := by rw [← hss, txtCells]; simp [encStr]
  rw [hcell] at h
  have hH : Holds encStr w g 0 ss.toArray := holds_own h
  have hg := (h.lt g rfl).2
  have hcon := AnyM.slices_Sort_string sortS g 0 cap ss w hH hg (by omega)
  change Calls Tryz.prog 99 _ _ _ at hcon
  rw [hlen] at hcon
  refine hcon.mono ?_
  rintro e w' ⟨rfl, n, os, rfl⟩
  have hfun : (fun x y : List UInt8 => decide (x ≤ y)) = fun x y => !Op.bytesLess y x := by funext x y; exact le_less x y
  rw [hfun]
  obtain ⟨ts, hts⟩ : ∃ ts, (ss.mergeSort fun x y => !Op.bytesLess y x) = ts := ⟨_, rfl⟩
  rw [hts]
  have hperm : ts.Perm ss := by rw [← hts]; exact List.mergeSort_perm _ _
  have hsort : ts.Pairwise fun a b => (!Op.bytesLess b a) = true := by rw [← hts]; exact List.pairwise_mergeSort (fun a b c => stoL.le_trans a b c) (fun a b => stoL.le_total a b) ss
  have key := own_put (enc := encStr) (m := n) (os := os) h ts.toArray (by simp [hperm.length_eq, hlen])
  refine ⟨rfl, (ts.map toTxt).toArray, ⟨by simp [hperm.length_eq, hlen], ?_, fun i j hij hj => ?_⟩, ?_, key.2⟩
  · have h1 : (ts.map toTxt).Perm (ss.map toTxt) := hperm.map toTxt
    rw [← hss] at h1
    simp only [List.map_map] at h1
    have h2 : (toTxt ∘ fun s : Txt => s.data.toList) = id := by funext s; exact toTxt_list s
    rw [h2, List.map_id] at h1
    exact h1
  · simp only [List.size_toArray, List.length_map] at hj
    rw [getElem!_pos _ j (by simpa using hj), getElem!_pos _ i (by simp; omega)]
    simp only [List.getElem_toArray, List.getElem_map]
    have := List.pairwise_iff_getElem.1 hsort i j (by omega) hj hij
    unfold ltT
    rw [txt_list, txt_list]
    simpa [toTxt] using this
  · have := key.1
    simp only [List.map_map]
    have h2 : (Value.string ∘ toTxt) = encStr := by funext l; rfl
    rw [h2]
    exact this
theorem sort_zero (w : World) (p : Option Addr) (cap : Nat) : Calls Tryz.prog 99 #[.slice p 0 cap] w (fun e w' => e = .returned (.tuple #[]) ∧ w' = w) := by
  have hcon := AnyM.slices_Sort_string_none sortS p cap w
  change Calls Tryz.prog 99 _ _ _ at hcon
  exact hcon

theorem push_txt2 (w : World) (base : Nat) (v : Value) (L : List Txt) (own : w.ownsRow base 9 1 v L.length (txtCells L)) (s : Txt) (hl : (L.length + 1) * 16 ≤ 140737488355328) (hb : base ≤ w.heap.size) :
    ∃ v' w', (Builtin.append_ #[22, 22] 22 #[v, .slice (some ⟨w.heap.size, 0, none⟩) 1 1]).run Tryz.prog (w.alloc (.cells #[.string s] 9)) = .ok v' w' ∧ w'.ownsRow base 9 1 v' (L ++ [s]).length (txtCells (L ++ [s])) ∧ Upd (fun k => v.ownBlock = some k) w w' ∧ ∀ k, v'.ownBlock = some k → v.ownBlock = some k ∨ w.heap.size ≤ k := by
  obtain ⟨v', w', happ, own', up, hk⟩ := push_own w base 22 9 1 16 _ Tryz.underlying22 info_string rfl (by decide) v L.length _ own [.string s] 1 rfl (by simp; exact rfl) hl (by unfold maxLen; omega) hb
  refine ⟨v', w', happ, ?_, up, hk⟩
  rw [List.length_append, txtCells, List.map_append]
  exact own'
/-! The labels. -/
def lbs (E : List Ed) : List Txt := E.map fun x => x.lb
/-- One more is on the list. -/
def TellP (w : World) (base b : Nat) (v : Value) (M : List Txt) (e : Ending) (w' : World) : Prop := e = .returned (.tuple #[]) ∧ ∃ v', Blk w' b 22 #[v'] ∧ w'.ownsRow base 9 1 v' M.length (txtCells M) ∧ v'.ownBlock ≠ some b ∧ Upd (fun q => q = b ∨ v.ownBlock = some q) w w'
set_option maxHeartbeats 400000 in
set_option maxRecDepth 20000 in
/-- What the function tells: one more label. -/
theorem tell_any (w : World) (base b : Nat) (v : Value) (L : List Txt) (x : Ed) (hb : Blk w b 22 #[v]) (own : w.ownsRow base 9 1 v L.length (txtCells L)) (hne : v.ownBlock ≠ some b) (hl : (L.length + 1) * 16 ≤ 140737488355328) (hbase : base ≤ w.heap.size) :
    Calls Tryz.prog 98 #[x.agg, .pointer (some ⟨b, 0, none⟩)] w (TellP w base b v (L ++ [x.lb])) := by
  obtain ⟨x0, x1, x2⟩ := x
  obtain ⟨A, c, rfl, -, -⟩ := own_form own
  have kx := Blk.new w 39 #[.string x0, .string x1, .string x2]
  have kb := hb.alloc (.cells #[.string x0, .string x1, .string x2] 39)
  have ow := own.alloc (.cells #[.string x0, .string x1, .string x2] 39)
  have ux : Upd (fun q => q = b ∨ (Value.slice A L.length c).ownBlock = some q) w (w.alloc (.cells #[.string x0, .string x1, .string x2] 39)) := (Upd.refl _ w).alloc _
  have hlt := hb.lt
  have H := Lib.hid (And.intro ow (And.intro ux (And.intro hne kb)))
  have hz : (w.alloc (.cells #[.string x0, .string x1, .string x2] 39)).heap.size = w.heap.size + 1 := by simp
  have c0 := kb.cell 0
  have cx := kx.cell 1
  simp only [List.getElem?_toArray, List.getElem?_cons_zero, List.getElem?_cons_succ] at c0 cx
  clear hb own ow ux hne kx kb
  unfold Ed.agg
  go_enter Tryz.func98, Tryz.ntmps98
  go_upto_region 1 with (fail)
  generalize w.alloc (.cells #[.string x0, .string x1, .string x2] 39) = W1 at H hz c0 cx ⊢
  obtain ⟨v', w6, happ, own6, u6, hv6⟩ := push_txt2 W1 base _ _ H.out.1 x1 hl (by omega)
  obtain ⟨n, hn⟩ : ∃ n, L.length = n := ⟨_, rfl⟩
  have k6 := H.out.2.2.2.upd u6 (fun e => H.out.2.2.1 e)
  have c6 := k6.cell 0
  have f6 := k6.frozen 0
  simp only [List.getElem?_toArray, List.getElem?_cons_zero] at c6
  have hne6 : v'.ownBlock ≠ some b := fun e => by
    rcases hv6 b e with h | h
    · exact H.out.2.2.1 h
    · omega
  obtain ⟨A6, c6', rfl, -, -⟩ := own_form own6
  have kF := k6.set 0 (.slice A6 (L ++ [x1]).length c6')
  have uF := ((H.out.2.1.trans u6 (fun i e => .inl (.inr e))).setCell (p := ⟨b, 0, none⟩) (.inl (.inl rfl)) (.slice A6 (L ++ [x1]).length c6'))
  have oF := ownsRow_upd own6 ((Upd.refl (fun q => q = b) w6).setCell (p := ⟨b, 0, none⟩) (.inl rfl) (.slice A6 (L ++ [x1]).length c6')) (fun k hk e => hne6 (by rw [hk, e]))
  obtain ⟨m, hm⟩ : ∃ m, (L ++ [x1]).length = m := ⟨_, rfl⟩
  have FIN := Lib.hid (And.intro kF (And.intro oF (And.intro hne6 (And.intro uF hm))))
  clear kF oF hne6 uF own6 u6 k6
  rw [hn] at happ c0 c6
  rw [hm] at happ
  clear hn hm hz hv6
  go_wp2_with (at_builtin; refine wpList_append_run rfl _ _ _ rfl rfl rfl happ ?_)
  go_end0
  rw [← FIN.out.2.2.2.2]
  exact ⟨rfl, _, FIN.out.1, FIN.out.2.1, FIN.out.2.2.1, FIN.out.2.2.2.1⟩
end Go.Proofs.YthmkgnifcbnkpaaGreat
