/- Edges: a list of texts in order, each once. -/
import Derived.Test.YthmkgnifcbnkpaaGreatEdG
import Derived.Test.YthmkgnifcbnkpaaGreatLayC
import Derived.Test.YthmkgnifcbnkpaaGreatLayF
namespace Go.Proofs.YthmkgnifcbnkpaaGreat
open Go.RowKit Go.Sort Go.Shelf

instance : Inhabited Txt := ⟨ByteArray.empty⟩
instance : Inhabited Ed := ⟨⟨default, default, default⟩⟩

/-! A row that is written over whole. -/
section
variable {α : Type} [Inhabited α]
theorem take_put (enc : α → Value) (cur : Array Value) (d : Array α) (h : d.size ≤ cur.size) : (putCells enc 0 d cur).toList.take d.size = d.toList.map enc := by
  apply List.ext_getElem?
  intro j
  by_cases hj : j < d.size
  · rw [List.getElem?_take_of_lt hj, Array.getElem?_toList]
    simp [putCells, hj, show j < cur.size by omega]
  · rw [List.getElem?_take_eq_none (by omega), List.getElem?_eq_none (by simp; omega)]
theorem own_put {enc : α → Value} {w : World} {base e size n g cap m : Nat} {os : Array Obj} {xs : List Value} (h : w.ownsRow base e size (.slice (some ⟨g, 0, none⟩) n cap) n xs) (d : Array α) (hd : d.size = n * size) :
    (grow (putRow enc (Sort.ahead w m) g 0 d) os).ownsRow base e size (.slice (some ⟨g, 0, none⟩) n cap) n (d.toList.map enc) ∧ Upd (fun q => q = g) w (grow (putRow enc (Sort.ahead w m) g 0 d) os) := by
  rcases h.2 with ⟨hv, -⟩ | ⟨g', cap', cur, hv, hb, hg, h1, h2, h3, -⟩
  · cases hv
  injection hv with hv _ hv3
  injection hv with hv
  injection hv with hv _ _
  subst hv; subst hv3
  have hlt : g < w.heap.size := (Array.getElem?_eq_some_iff.1 hg).1
  have hheap : (grow (putRow enc (Sort.ahead w m) g 0 d) os).heap[g]? = some (.cells (putCells enc 0 d cur) e (0, 0)) := by
    rw [heap_grow_old _ _ (by simpa using hlt)]
    simp [putRow, mapBlock, Sort.ahead, Array.getElem?_modify, hg, onCells]
  refine ⟨⟨by simp [hd], .inr ⟨g, cap, _, rfl, hb, hheap, h1, h2, by simp [putCells, h3], ?_⟩⟩, rfl, rfl, rfl, by simp, fun k hk hne => ?_⟩
  · have hle : d.size ≤ cur.size := by rw [hd, h3]; exact Nat.mul_le_mul_right _ h1
    have := take_put enc cur d hle
    rw [hd] at this
    exact this
  · rw [heap_grow_old _ _ (by simpa using hk)]
    have : g ≠ k := fun e => hne e.symm
    simp [putRow, mapBlock, Sort.ahead, Array.getElem?_modify, this]
theorem holds_own {enc : α → Value} {w : World} {base e size n g cap : Nat} {d : Array α} (h : w.ownsRow base e size (.slice (some ⟨g, 0, none⟩) n cap) n (d.toList.map enc)) : Holds enc w g 0 d := by
  intro j hj
  rcases h.2 with ⟨hv, -⟩ | ⟨g', cap', cur, hv, hb, hg, h1, h2, h3, h4⟩
  · cases hv
  injection hv with hv _ hv3
  injection hv with hv
  injection hv with hv _ _
  subst hv
  have hc := h.cells (g := g) rfl j (enc d[j]!) (by simp [hj])
  rw [Addr.add_lit] at hc
  exact ⟨by simpa using hc, by simp [World.frozen?, hg]⟩
end

/-! Each once. -/
section
variable {α : Type} [Inhabited α] [DecidableEq α]
theorem compact_set {lt : α → α → Bool} (hs : Sto lt) (d : Array α) (hd : ∀ i j, i < j → j < d.size → lt d[j]! d[i]! = false) : ∀ m, m ≤ d.size → Rises lt (Lib.compactUpTo d m) ∧ ∀ x, x ∈ Lib.compactUpTo d m ↔ ∃ j, j < m ∧ d[j]! = x
  | 0, _ => ⟨by simp [Lib.compactUpTo, Rises], fun x => by simp [Lib.compactUpTo]⟩
  | m + 1, hm => by
    obtain ⟨h1, h2⟩ := compact_set hs d hd m (by omega)
    rw [Lib.compactUpTo_succ]
    by_cases hk : Lib.keeps d m = true
    · rw [if_pos hk]
      refine ⟨List.pairwise_append.2 ⟨h1, List.pairwise_singleton _ _, fun a ha b hb => ?_⟩, fun x => ?_⟩
      · obtain rfl := List.mem_singleton.1 hb
        obtain ⟨j, hj, rfl⟩ := (h2 a).1 ha
        have hne : d[m]! ≠ d[m - 1]! := by
          unfold Lib.keeps at hk
          rcases of_decide_eq_true hk with e | e
          · omega
          · exact e
        have h3 : lt d[m - 1]! d[m]! = true := by
          cases e : lt d[m - 1]! d[m]!
          · exact (hne (hs.tri _ _ (hd (m - 1) m (by omega) (by omega)) e)).elim
          · rfl
        by_cases e : j = m - 1
        · rw [e]; exact h3
        · have h4 := hd j (m - 1) (by omega) (by omega)
          cases e5 : lt d[j]! d[m - 1]!
          · rw [hs.tri _ _ e5 h4]; exact h3
          · exact hs.tr _ _ _ e5 h3
      · rw [List.mem_append, h2, List.mem_singleton]
        constructor
        · rintro (⟨j, hj, rfl⟩ | rfl)
          · exact ⟨j, by omega, rfl⟩
          · exact ⟨m, by omega, rfl⟩
        · rintro ⟨j, hj, rfl⟩
          by_cases e : j = m
          · subst e; exact .inr rfl
          · exact .inl ⟨j, by omega, rfl⟩
    · rw [if_neg hk, List.append_nil]
      refine ⟨h1, fun x => ?_⟩
      rw [h2]
      have he : m ≠ 0 ∧ d[m]! = d[m - 1]! := by
        unfold Lib.keeps at hk
        simpa using hk
      constructor
      · rintro ⟨j, hj, rfl⟩; exact ⟨j, by omega, rfl⟩
      · rintro ⟨j, hj, rfl⟩
        by_cases e : j = m
        · subst e; exact ⟨j - 1, by omega, he.2.symm⟩
        · exact ⟨j, by omega, rfl⟩
theorem compact_setOf {lt : α → α → Bool} (hs : Sto lt) {l : List α} (d : Array α) (hp : d.toList.Perm l) (hd : ∀ i j, i < j → j < d.size → lt d[j]! d[i]! = false) : SetOf lt l (Lib.compactUpTo d d.size) := by
  obtain ⟨h1, h2⟩ := compact_set hs d hd d.size (Nat.le_refl _)
  refine ⟨h1, fun x => ?_⟩
  rw [h2, ← hp.mem_iff]
  constructor
  · rintro ⟨j, hj, rfl⟩
    rw [getElem!_pos d j hj]
    exact Array.mem_toList_iff.2 (Array.getElem_mem hj)
  · intro hx
    obtain ⟨j, hj, rfl⟩ := List.getElem_of_mem hx
    exact ⟨j, by simpa using hj, by rw [getElem!_pos d j (by simpa using hj)]; simp⟩
theorem compact_le (d : Array α) (m : Nat) : (Lib.compactUpTo d m).length ≤ m := by
  unfold Lib.compactUpTo
  rw [List.length_map]
  exact Nat.le_trans (List.length_filter_le _ _) (by simp)
end

/-- A list of edges of its own comes back. -/
def NewE (w : World) (L : List Ed) (e : Ending) (w' : World) : Prop := ∃ v, e = .returned v ∧ w'.ownsRow w.heap.size 39 3 v L.length (edCells L) ∧ Below w.heap.size w w'

set_option maxHeartbeats 1000000 in
set_option maxRecDepth 20000 in
theorem clone_txt (w : World) (A : Option Addr) (c : Nat) (L : List Txt) (h : RowR w A (txtCells L)) (hl : L.length * 16 ≤ 140737488355328) :
    Calls Tryz.prog 67 #[.slice A L.length c] w (NewT w L) := by
  have heq := fun (A : Option Addr) (n c n' c' : Nat) (w : World) => Lib.run_eql_slice_nil (P := Tryz.prog) w 22 9 A n c n' c' Tryz.underlying22
  rcases A with _ | ⟨gb, go, sp⟩
  · have hL : L = [] := by
      cases L with
      | nil => rfl
      | cons s L => obtain ⟨b, o, e, -⟩ := h 0 (.string s) rfl; cases e
    subst hL
    clear h hl
    go_enter Tryz.func67, Tryz.ntmps67
    go_wp2
    go_ret
    exact ⟨_, rfl, World.ownsRow_nil _ _ _ _, Below.refl _ _⟩
  · obtain ⟨i0, hi0, hz0, hz1, hz2⟩ := info_parts info_string
    have b1 : Below w.heap.size w (w.alloc (.cells #[] 9)) := (Below.refl _ _).alloc (Nat.le_refl _) _
    have hr := (h.below b1).reads (txtCells_len L) (by decide)
    have own : (w.alloc (.cells #[] 9)).ownsRow w.heap.size 9 1 (.slice (some ⟨w.heap.size, 0, none⟩) 0 0) 0 [] := ⟨rfl, .inr ⟨w.heap.size, 0, #[], rfl, Nat.le_refl _, heap_alloc_new w _, Nat.le_refl _, by decide, rfl, rfl⟩⟩
    obtain ⟨v', w', happ, own', gr, -, -⟩ := run_append_own_at (P := Tryz.prog) (w.alloc (.cells #[] 9)) w.heap.size 22 22 9 i0 _ 1 16 Tryz.underlying22 hi0 hz0 hz1 hz2 rfl (by decide) (.slice (some ⟨w.heap.size, 0, none⟩) 0 0) 0 [] own ⟨gb, go, sp⟩ L.length c (txtCells L) (txtCells_len L) (hr.2.2 _ rfl) (one_txt L) (by unfold maxLen; omega) (by omega) (by simp)
    have fin : NewT w L (.returned v') w' := ⟨v', rfl, by simpa using own', b1.grown gr (by simp) (fun k hk => by simp [Value.ownBlock] at hk; omega)⟩
    have FIN := Lib.hid fin
    clear fin own own' gr hr b1 hi0 hz0 hz1 hz2 h
    go_enter Tryz.func67, Tryz.ntmps67
    go_wp2_with (at_builtin; refine wpList_append_run rfl _ _ _ rfl rfl rfl happ ?_)
    go_ret
    exact FIN.out

set_option maxHeartbeats 1000000 in
set_option maxRecDepth 20000 in
theorem clone_ed (w : World) (A : Option Addr) (c : Nat) (L : List Ed) (h : RowR w A (edCells L)) (hl : L.length * 48 ≤ 140737488355328) :
    Calls Tryz.prog 113 #[.slice A L.length c] w (NewE w L) := by
  have heq := fun (A : Option Addr) (n c n' c' : Nat) (w : World) => Lib.run_eql_slice_nil (P := Tryz.prog) w 23 39 A n c n' c' Tryz.underlying23
  rcases A with _ | ⟨gb, go, sp⟩
  · have hL : L = [] := by
      cases L with
      | nil => rfl
      | cons s L => obtain ⟨b, o, e, -⟩ := h 0 (.string s.fr) rfl; cases e
    subst hL
    clear h hl
    go_enter Tryz.func113, Tryz.ntmps113
    go_wp2
    go_ret
    exact ⟨_, rfl, World.ownsRow_nil _ _ _ _, Below.refl _ _⟩
  · obtain ⟨i0, hi0, hz0, hz1, hz2⟩ := info_parts info_edge
    have b1 : Below w.heap.size w (w.alloc (.cells #[] 39)) := (Below.refl _ _).alloc (Nat.le_refl _) _
    have hr := (h.below b1).reads (edCells_len L) (by decide)
    have own : (w.alloc (.cells #[] 39)).ownsRow w.heap.size 39 3 (.slice (some ⟨w.heap.size, 0, none⟩) 0 0) 0 [] := ⟨rfl, .inr ⟨w.heap.size, 0, #[], rfl, Nat.le_refl _, heap_alloc_new w _, Nat.le_refl _, by decide, rfl, rfl⟩⟩
    obtain ⟨v', w', happ, own', gr, -, -⟩ := run_append_own_at (P := Tryz.prog) (w.alloc (.cells #[] 39)) w.heap.size 23 23 39 i0 _ 3 48 Tryz.underlying23 hi0 hz0 hz1 hz2 rfl (by decide) (.slice (some ⟨w.heap.size, 0, none⟩) 0 0) 0 [] own ⟨gb, go, sp⟩ L.length c (edCells L) (edCells_len L) (hr.2.2 _ rfl) (one_ed L) (by unfold maxLen; omega) (by omega) (by simp)
    have fin : NewE w L (.returned v') w' := ⟨v', rfl, by simpa using own', b1.grown gr (by simp) (fun k hk => by simp [Value.ownBlock] at hk; omega)⟩
    have FIN := Lib.hid fin
    clear fin own own' gr hr b1 hi0 hz0 hz1 hz2 h
    go_enter Tryz.func113, Tryz.ntmps113
    go_wp2_with (at_builtin; refine wpList_append_run rfl _ _ _ rfl rfl rfl happ ?_)
    go_ret
    exact FIN.out

/-! In order. -/
theorem swo_txt : SWO (ltOf cmpT) := by
  have h : ∀ x y, ltOf cmpT x y = ltT x y := fun x y => cmpT_lt x y
  refine ⟨fun x => by rw [h]; exact stoT.irr x, fun x y z a b => by rw [h] at *; exact stoT.tr x y z a b, fun x y z a b => ?_⟩
  rw [h] at *
  cases e : ltT x z
  · rfl
  · cases e2 : ltT z y
    · rw [stoT.tri _ _ b e2] at a
      rw [a] at e
      cases e
    · have := stoT.tr _ _ _ e e2
      rw [a] at this
      cases this
theorem swo_ed : SWO (ltOf cmpE) := by
  have h : ∀ x y, ltOf cmpE x y = ltE x y := fun x y => cmpE_lt x y
  refine ⟨fun x => by rw [h]; exact stoE.irr x, fun x y z a b => by rw [h] at *; exact stoE.tr x y z a b, fun x y z a b => ?_⟩
  rw [h] at *
  cases e : ltE x z
  · rfl
  · cases e2 : ltE z y
    · rw [stoE.tri _ _ b e2] at a
      rw [a] at e
      cases e
    · have := stoE.tr _ _ _ e e2
      rw [a] at this
      cases this
/-- The list in order: what SortFunc leaves. -/
structure InOrd {α : Type} [Inhabited α] (lt : α → α → Bool) (L : List α) (d : Array α) : Prop where
  n : d.size = L.length
  p : d.toList.Perm L
  s : ∀ i j, i < j → j < d.size → lt d[j]! d[i]! = false
theorem InOrd.of {α : Type} [Inhabited α] {lt : α → α → Bool} {L : List α} {d' : Array α} (hp : PermIn 0 L.toArray.size L.toArray d') (hs : SortedIn lt 0 L.toArray.size d') : InOrd lt L d' := by
  have hz : d'.size = L.length := by rw [hp.1]; simp
  refine ⟨hz, ?_, fun i j hij hj => hs i j (Nat.zero_le _) hij (by rw [hz] at hj; simpa using hj)⟩
  have := hp.2.2
  simp at this
  rw [List.take_of_length_le (by simp [hz])] at this
  exact this
theorem sortF_txt (w : World) (base g cap : Nat) (L : List Txt) (h : w.ownsRow base 9 1 (.slice (some ⟨g, 0, none⟩) L.length cap) L.length (txtCells L)) (hl : L.length ≤ 140737488355328) :
    Calls Tryz.prog 111 #[.slice (some ⟨g, 0, none⟩) L.length cap, .func (.func 83) #[] #[]] w fun e w' => e = .returned (.tuple #[]) ∧ ∃ d : Array Txt, InOrd ltT L d ∧ w'.ownsRow base 9 1 (.slice (some ⟨g, 0, none⟩) L.length cap) L.length (d.toList.map Value.string) ∧ Upd (fun q => q = g) w w' := by
  have eg : ∀ args w, (callFunc 83 args).run Tryz.prog w = .ok (.enter 83 args) w := enters_of Tryz.func83 (by kernel_rfl) rfl
  have hcmp : CmpLays1 Tryz.prog 83 #[] Value.string cmpT g 0 L.toArray.size w := fun m os dk _ x y => (compare_any x y _).mono fun e w' hh => ⟨hh.1, 0, #[], by rw [hh.2, grow_empty]; rfl⟩
  have hH : Holds Value.string w g 0 L.toArray := holds_own (by simpa [txtCells] using h)
  have hg := (h.lt g rfl).2
  have hcon := Any.slices_SortFunc sortF Value.string (fun _ => rfl) cmpT swo_txt 83 #[] g 0 cap L.toArray w eg hcmp hH hg (by simp; omega)
  change Calls Tryz.prog 111 _ _ _ at hcon
  rw [show L.toArray.size = L.length from by simp] at hcon
  refine hcon.mono ?_
  rintro e w' ⟨rfl, d', n, os, hp, hs, rfl⟩
  have hlt : ltOf cmpT = ltT := by funext x y; exact cmpT_lt x y
  rw [hlt] at hs
  have ho := InOrd.of (L := L) (by simpa using hp) (by simpa using hs)
  have key := own_put (enc := Value.string) (m := n) (os := os) h d' (by rw [ho.n]; omega)
  exact ⟨rfl, d', ho, key.1, key.2⟩

theorem eql_txt (x y : Txt) : (x.toList == y.toList) = decide (x = y) := by
  rw [ByteArray.toList_eq, ByteArray.toList_eq]
  by_cases h : x = y
  · subst h; simp
  · rw [decide_eq_false h]
    simpa using fun e => h (txt_ext (by simpa using congrArg Array.toList e))
theorem RowR.pre {w : World} {A : Option Addr} {xs ys : List Value} (h : RowR w A (xs ++ ys)) : RowR w A xs := fun j u hj => h j u (by rw [List.getElem?_append_left (List.getElem?_eq_some_iff.1 hj).1]; exact hj)
theorem compact_txt (w : World) (base g cap n : Nat) (L : List Txt) (d : Array Txt) (ho : InOrd ltT L d) (hn : L.length = n) (h : w.ownsRow base 9 1 (.slice (some ⟨g, 0, none⟩) n cap) n (d.toList.map Value.string)) (hl : n ≤ 140737488355328) :
    Calls Tryz.prog 100 #[.slice (some ⟨g, 0, none⟩) n cap] w fun e w' => ∃ M, SetOf ltT L M ∧ M.length ≤ L.length ∧ e = .returned (.slice (some ⟨g, 0, none⟩) M.length cap) ∧ RowR w' (some ⟨g, 0, none⟩) (txtCells M) ∧ Upd (fun q => q = g) w w' := by
  have hH : Holds Value.string w g 0 d := holds_own h
  have hsz : d.size = n := by rw [ho.n, hn]
  obtain ⟨_, _, e1, hcap, -⟩ := own_form h
  injection e1 with _ _ e1
  subst e1
  have heq : EqlAt Tryz.prog 9 Value.string (fun x y => decide (x = y)) := by
    have := EqlAt.string Tryz.prog 9
    simpa only [eql_txt] using this
  have hne : NeqAt Tryz.prog 9 Value.string (fun x y => decide (x = y)) := by
    have := NeqAt.string Tryz.prog 9
    simpa only [eql_txt] using this
  have hcon := AnyE.slices_Compact compactS Value.string (fun _ => rfl) heq hne ByteArray.empty (fun _ => by kernel_rfl) g 0 cap d w hH (by omega) (by omega)
  change Calls Tryz.prog 100 _ _ _ at hcon
  rw [hsz] at hcon
  refine hcon.mono ?_
  rintro e w' ⟨rfl, q, rfl⟩
  have hset := compact_setOf stoT d ho.p ho.s
  have hle := compact_le d d.size
  rw [hsz] at hset hle
  have key := own_put (enc := Value.string) (m := q) (os := #[]) h (Lib.compactUpTo d n ++ List.replicate (n - (Lib.compactUpTo d n).length) ByteArray.empty).toArray (by simp; omega)
  rw [grow_empty] at key
  refine ⟨_, hset, by omega, rfl, ?_, key.2⟩
  have hr := RowR.of_own key.1
  simp only [List.map_append] at hr
  exact hr.pre
set_option maxHeartbeats 1000000 in
set_option maxRecDepth 20000 in
theorem compact_zero (w : World) (p : Option Addr) (cap : Nat) : Calls Tryz.prog 100 #[.slice p 0 cap] w (Only w (.slice p 0 cap)) := by
  go_enter Tryz.func100, Tryz.ntmps100
  go_wp2
  go_ret
  exact ⟨rfl, rfl⟩
theorem NewT.base {w w0 : World} {M : List Txt} {e : Ending} {w' : World} (h : NewT w M e w') (hb : Below w0.heap.size w0 w) : NewT w0 M e w' := by
  obtain ⟨v, rfl, own, b⟩ := h
  exact ⟨v, rfl, ownsRow_base own (fun q hq => Nat.le_trans hb.size (own.lt q hq).1), hb.trans (b.mono hb.size)⟩
/-- A list's texts in order, each once, come back. -/
def SetT (w : World) (L : List Txt) (e : Ending) (w' : World) : Prop := ∃ M, SetOf ltT L M ∧ M.length ≤ L.length ∧ NewT w M e w'

set_option maxHeartbeats 2000000 in
set_option maxRecDepth 20000 in
theorem sorted_txt (w : World) (A : Option Addr) (c : Nat) (L : List Txt) (h : RowR w A (txtCells L)) (hl : L.length * 16 ≤ 140737488355328) :
    Calls Tryz.prog 82 #[.slice A L.length c, .func (.func 83) #[] #[]] w (SetT w L) := by
  have HH := Lib.hid h
  clear h
  go_enter Tryz.func82, Tryz.ntmps82
  go_wp2_with fail
  refine (clone_txt w A c L HH.out hl).mono ?_
  rintro e w1 ⟨v, rfl, own1, b1⟩
  obtain ⟨A1, c1, rfl, hc1, hA1⟩ := own_form own1
  by_cases h0 : L.length = 0
  · obtain rfl : L = [] := List.eq_nil_of_length_eq_zero h0
    have HB := Lib.hid b1
    clear own1 b1 h0 hl hc1 hA1
    have hs0 := AnyF.slices_SortFunc_none sortF0 A1 c1 (.func (.func 83) #[] #[]) w1
    change Calls Tryz.prog 111 _ _ _ at hs0
    have HS0 := Lib.hid hs0
    clear hs0
    go_wp2_with fail
    refine HS0.out.mono ?_
    rintro e w2 ⟨rfl, rfl⟩
    go_wp2_with fail
    refine (compact_zero _ _ _).mono ?_
    rintro e w2 ⟨rfl, rfl⟩
    go_wp2_with fail
    refine (clone_txt _ A1 c1 [] (fun j u hj => by simp [txtCells] at hj) (by simp)).mono ?_
    intro e w3 hn
    have hn' := hn.base HB.out
    obtain ⟨v3, rfl, own3, b3⟩ := hn'
    have FIN := Lib.hid (show SetT w [] (.returned v3) w3 from ⟨[], SetOf.self (lt := ltT) .nil, Nat.le_refl _, v3, rfl, own3, b3⟩)
    clear hn own3 b3
    go_wp2
    go_ret
    exact FIN.out
  · obtain ⟨g, rfl⟩ : ∃ g, A1 = some ⟨g, 0, none⟩ := by
      rcases own1.2 with ⟨-, h2⟩ | ⟨g, cap, cur, hv, -⟩
      · exact (h0 h2).elim
      · injection hv with hv
        exact ⟨g, hv⟩
    obtain ⟨n, hn⟩ : ∃ n, L.length = n := ⟨_, rfl⟩
    have hs := sortF_txt w1 w.heap.size g c1 L own1 (by omega)
    rw [hn] at hs ⊢
    have hgb := (own1.lt g rfl).1
    have HB := Lib.hid (And.intro b1 (And.intro hs hn))
    clear own1 b1 h0 hc1 hA1 hs hn
    go_wp2_with fail
    refine HB.out.2.1.mono ?_
    rintro e w2 ⟨rfl, dd, ho, own2, u2⟩
    have H2 := Lib.hid (And.intro ho (And.intro own2 (HB.out.1.trans (u2.below (fun q _ e => by omega) HB.out.1.size))))
    clear ho own2 u2
    go_wp2_with fail
    refine (compact_txt w2 w.heap.size g c1 n L dd H2.out.1 HB.out.2.2 H2.out.2.1 (by have := HB.out.2.2; omega)).mono ?_
    rintro e w3 ⟨M, hM, hlen, rfl, hr3, u3⟩
    have H3 := Lib.hid (And.intro hM (And.intro hlen (And.intro hr3 (H2.out.2.2.trans (u3.below (fun q _ e => by omega) H2.out.2.2.size)))))
    have hml : M.length * 16 ≤ 140737488355328 := by omega
    clear hM hlen hr3 u3
    obtain ⟨k, hk⟩ : ∃ k, M.length = k := ⟨_, rfl⟩
    have hcl := clone_txt w3 (some ⟨g, 0, none⟩) c1 M H3.out.2.2.1 hml
    rw [hk] at hcl ⊢
    have HCL := Lib.hid hcl
    clear hcl hk hml
    go_wp2_with fail
    refine HCL.out.mono ?_
    intro e w4 hn
    have hn' := hn.base H3.out.2.2.2
    obtain ⟨v4, rfl, own4, b4⟩ := hn'
    have FIN := Lib.hid (show SetT w L (.returned v4) w4 from ⟨M, H3.out.1, H3.out.2.1, v4, rfl, own4, b4⟩)
    clear hn own4 b4
    go_wp2
    go_ret
    exact FIN.out
end Go.Proofs.YthmkgnifcbnkpaaGreat
