/- azimov: fill's loops, plain; azimov: fill; azimov: Check; azimov: there; a closure that takes a matrix more. -/
import Derived.Test.YtddffnonlmfhdaaGreatDoorZ15
import Derived.Deep.LoopGhost
import Derived.Laws.OwnMore
set_option linter.unusedVariables false
set_option linter.unusedSimpArgs false
namespace Go.Proofs.YtddffnonlmfhdaaGreatDoor
open Go.RowKit Go.Shelf
def namesB (k : Nat) (v : Pv) : Bool := match v.pr.body with
  | [s, t] => s.at_ == (k : Int) || t.at_ == (k : Int)
  | _ => false
/-- The uses of a number among the first t productions. -/
def useL (PV : List Pv) (t k : Nat) : List Pv := (PV.take t).filter (namesB k)
theorem useL_zero (PV : List Pv) : useL PV 0 = fun _ => [] := by funext k; simp [useL]
theorem useL_succ {PV : List Pv} {t : Nat} {v : Pv} (h : PV[t]? = some v) (k : Nat) : useL PV (t + 1) k = if namesB k v = true then useL PV t k ++ [v] else useL PV t k := by
  unfold useL
  rw [List.take_add_one, h, Option.toList_some, List.filter_append]
  split
  · rename_i e; rw [List.filter_cons_of_pos e]; simp
  · rename_i e; rw [List.filter_cons_of_neg e]; simp
theorem useL_len (PV : List Pv) (t k : Nat) : (useL PV t k).length ≤ PV.length := Nat.le_trans (List.length_filter_le ..) (List.length_take_le' ..)
theorem useL_mem {PV : List Pv} {t k : Nat} {v : Pv} (h : v ∈ useL PV t k) : v ∈ PV ∧ namesB k v = true := by
  obtain ⟨h1, h2⟩ := List.mem_filter.1 h
  exact ⟨List.mem_of_mem_take h1, h2⟩
theorem names_two {k : Nat} {v : Pv} (h : namesB k v = true) : ∃ s t, v.pr.body = [s, t] ∧ (s.at_ = (k : Int) ∨ t.at_ = (k : Int)) := by
  unfold namesB at h
  split at h
  · rename_i s t e
    exact ⟨s, t, e, by simpa using h⟩
  · cases h
theorem two_names {k : Nat} {v : Pv} {s t : Sy} (e : v.pr.body = [s, t]) : namesB k v = (s.at_ == (k : Int) || t.at_ == (k : Int)) := by
  unfold namesB
  rw [e]
structure PvOk (nts nl : Nat) (v : Pv) : Prop where
  g : GrPr nts v.pr
  few : v.pr.body.length ≤ 2
  one : ∀ s, v.pr.body = [s] → 0 ≤ s.at_ ∧ s.at_ < (nl : Int)
theorem pvok_of {nts nl : Nat} {v : Pv} (h : shapeOf v.pr nts nl = true) : PvOk nts nl v := by
  obtain ⟨⟨hd, bd⟩, A, c⟩ := v
  unfold shapeOf at h
  simp only [Bool.and_eq_true, decide_eq_true_eq] at h
  obtain ⟨⟨h0, h1⟩, h2⟩ := h
  refine ⟨⟨h0, h1, fun s t e => ?_⟩, ?_, fun s e => ?_⟩
  · have e : bd = [s, t] := e
    subst e
    simp only [okSym, Bool.and_eq_true, decide_eq_true_eq] at h2
    exact ⟨h2.1.2, h2.2.2⟩
  · show bd.length ≤ 2
    split at h2
    · exact Nat.zero_le _
    · simp
    · simp
    · cases h2
  · have e : bd = [s] := e
    subst e
    simp only [okSym, Bool.and_eq_true, decide_eq_true_eq] at h2
    exact h2.2
theorem DerP.lt {P : List Pr} {El : Int → Nat → Nat → Prop} {n : Nat} (hEl : ∀ k i j, El k i j → i < n ∧ j < n) {a : Int} {i j : Nat} (d : DerP P El n a i j) : i < n ∧ j < n := by
  induction d with
  | eps _ h => exact ⟨h, h⟩
  | one _ h => exact hEl _ _ _ h
  | two _ _ _ i1 i2 => exact ⟨i1.1, i2.2⟩
/-- The products stay in the corner. -/
theorem FiI.fit {P : List Pr} {El : Int → Nat → Nat → Prop} {n nts : Nat} {B : Mats} {L : List Int} {D : Pr → Prop} (h : FiI P El n nts B L D) (hEl : ∀ k i j, El k i j → i < n ∧ j < n) {b c : Nat} (hb : b < nts) (hc : c < nts) : ∀ x y, B b = some x → B c = some y → cornW (mulW x y) n = mulW x y := fun x y hx hy => by
  have wx := h.wd b x hx
  have wy := h.wd c y hy
  refine corn_fit (mulW_wd x wy) (fun i j hij => ?_)
  have hi := (bit_out (mulW_wd x wy) hij).1
  rw [mul_bit wx wy hi] at hij
  obtain ⟨k, _, h1, h2⟩ := hij
  have d1 := (h.sound b hb i k (by rw [hx]; exact h1)).lt hEl
  have d2 := (h.sound c hc k j (by rw [hy]; exact h2)).lt hEl
  exact ⟨d1.1, d2.2⟩
def D1 (PV : List Pv) (t : Nat) (q : Pr) : Prop := (∃ v ∈ PV.take t, v.pr = q) ∧ ∀ s t, q.body ≠ [s, t]
/-- In the midst of the first loop: the plain half. -/
def Lp1 (PV : List Pv) (El : Int → Nat → Nat → Prop) (n nts t : Nat) (B : Mats) (L : List Int) : Prop :=
  FiI (PV.map (·.pr)) El n nts B L (D1 PV t) ∧ ∀ k, k < nts → ∀ i j, bitO (B k) i j = true → (k : Int) ∈ L
theorem Lp1.begin (PV : List Pv) (El : Int → Nat → Nat → Prop) (n nts : Nat) : Lp1 PV El n nts 0 (fun _ => none) [] :=
  ⟨⟨fun _ r e => (by cases e), fun k _ i j h => (by cases h), fun p _ hd _ => (by obtain ⟨⟨v, hv, -⟩, -⟩ := hd; simp at hv), fun x hx => (by cases hx), List.nodup_nil⟩, fun k _ i j h => (by cases h)⟩
theorem Lp1.one {PV : List Pv} {El : Int → Nat → Nat → Prop} {n nts nl t : Nat} {B : Mats} {L L' : List Int} (h : Lp1 PV El n nts t B L) {v : Pv} (hv : PV[t]? = some v) (hok : ∀ v ∈ PV, PvOk nts nl v) (hn : n ≤ 64) (hEl : ∀ k i j, El k i j → i < n ∧ j < n) {m : Option (List Nat)} (hg : Gives El n v.pr m)
    (hL : if moreQ (B v.pr.head.toNat) m = true then Puts L L' v.pr.head else L' = L) : Lp1 PV El n nts (t + 1) (upM B v.pr.head.toNat (joinQ (B v.pr.head.toNat) m)) L' ∧ useL PV (t + 1) = useL PV t := by
  have hvm := List.mem_of_getElem? hv
  have hbd : ∀ s t, v.pr.body ≠ [s, t] := fun s t e => by
    have := hg.2
    rw [e] at this
    exact this
  have h1 := h.1.first (List.mem_map.2 ⟨v, hvm, rfl⟩) (fun q hq => by obtain ⟨v', h1, rfl⟩ := List.mem_map.1 hq; exact (hok v' h1).g) hn hEl hg hL
  refine ⟨⟨h1.all (fun q _ hd => ?_), fun k hk i j hb => ?_⟩, ?_⟩
  · obtain ⟨⟨v', hv', e⟩, h2⟩ := hd
    rw [List.take_add_one, hv, Option.toList_some, List.mem_append, List.mem_singleton] at hv'
    rcases hv' with hv' | rfl
    · exact .inl ⟨⟨v', hv', e⟩, h2⟩
    · exact .inr e.symm
  · have a0 := (hok v hvm).g.h0
    have hw := h.1.wd k
    have hsub : ∀ x ∈ L, x ∈ L' := fun x hx => by
      split at hL
      · exact (hL.mem x).2 (.inl hx)
      · rw [hL]; exact hx
    by_cases e : k = v.pr.head.toNat
    · subst e
      rw [upM_at] at hb
      have hi := bitO_lt (hw.joinQ hg.1) hb
      rw [bit_joinQ hw hg.1 hi, Bool.or_eq_true] at hb
      cases hm : moreQ (B v.pr.head.toNat) m with
      | true =>
        rw [if_pos hm] at hL
        rw [Int.toNat_of_nonneg a0]
        exact (hL.mem _).2 (.inr rfl)
      | false =>
        rcases hb with hb | hb
        · exact hsub _ (h.2 _ hk i j hb)
        · exact hsub _ (h.2 _ hk i j (more_none hw hg.1 hm hb))
    · rw [upM_ne B _ e] at hb
      exact hsub _ (h.2 k hk i j hb)
  · funext k
    rw [useL_succ hv, if_neg]
    intro e
    obtain ⟨s, t, e2, -⟩ := names_two e
    exact hbd s t e2
theorem Lp1.two {PV : List Pv} {El : Int → Nat → Nat → Prop} {n nts t : Nat} {B : Mats} {L : List Int} (h : Lp1 PV El n nts t B L) {v : Pv} (hv : PV[t]? = some v) {b c : Sy} (hb : v.pr.body = [b, c]) : Lp1 PV El n nts (t + 1) B L :=
  ⟨h.1.all (fun q _ hd => by
    obtain ⟨⟨v', hv', e⟩, h2⟩ := hd
    rw [List.take_add_one, hv, Option.toList_some, List.mem_append, List.mem_singleton] at hv'
    rcases hv' with hv' | rfl
    · exact ⟨⟨v', hv', e⟩, h2⟩
    · exact absurd hb (by rw [e]; exact h2 b c)), h.2⟩
theorem use_two {PV : List Pv} {t : Nat} {v : Pv} (hv : PV[t]? = some v) {la lb : Bool} {b c : Nat} (hb : v.pr.body = [⟨la, b⟩, ⟨lb, c⟩]) (hbc : b ≠ c) :
    (fun q => if q = c then (fun q => if q = b then useL PV t b ++ [v] else useL PV t q) c ++ [v] else (fun q => if q = b then useL PV t b ++ [v] else useL PV t q) q) = useL PV (t + 1) := by
  funext q
  rw [useL_succ hv, two_names hb]
  dsimp only
  by_cases e1 : q = c
  · subst e1
    rw [if_pos rfl, if_neg (fun e => hbc e.symm)]
    simp
  · rw [if_neg e1]
    by_cases e2 : q = b
    · subst e2; simp
    · rw [if_neg e2, if_neg]
      simp
      omega
theorem use_same {PV : List Pv} {t : Nat} {v : Pv} (hv : PV[t]? = some v) {la lb : Bool} {b : Nat} (hb : v.pr.body = [⟨la, b⟩, ⟨lb, b⟩]) : (fun q => if q = b then useL PV t b ++ [v] else useL PV t q) = useL PV (t + 1) := by
  funext q
  rw [useL_succ hv, two_names hb]
  by_cases e2 : q = b
  · subst e2; simp
  · rw [if_neg e2, if_neg]
    simp
    omega
theorem Lp1.end_ {PV : List Pv} {El : Int → Nat → Nat → Prop} {n nts nl : Nat} {B : Mats} {L : List Int} (h : Lp1 PV El n nts PV.length B L) (hok : ∀ v ∈ PV, PvOk nts nl v) : FiI (PV.map (·.pr)) El n nts B L (fun _ => True) :=
  h.1.begin (fun p hp hb => by
    obtain ⟨v, hv, rfl⟩ := List.mem_map.1 hp
    exact ⟨⟨v, by rw [List.take_length]; exact hv, rfl⟩, hb⟩) (fun q hq => by obtain ⟨v', h1, rfl⟩ := List.mem_map.1 hq; exact (hok v' h1).g) h.2
/-- Which productions have been gone over, when x' uses are gone over up to t. -/
def D3 (U : List Pv) (x : Int) (t : Nat) (q : Pr) : Prop := ¬ NamesL q [x] ∨ ∃ v ∈ U.take t, v.pr = q
def Lp3 (PV : List Pv) (El : Int → Nat → Nat → Prop) (n nts k t : Nat) (B : Mats) (L : List Int) (N : Nat) : Prop :=
  FiI (PV.map (·.pr)) El n nts B L (D3 (useL PV PV.length k) (k : Int) t) ∧ 2 * miss B nts + L.length < N
theorem Lp3.begin {PV : List Pv} {El : Int → Nat → Nat → Prop} {n nts k N : Nat} {B : Mats} {L L' : List Int} (h : FiI (PV.map (·.pr)) El n nts B L (fun _ => True)) (hN : 2 * miss B nts + L.length ≤ N) (hL : L.Perm ((k : Int) :: L')) : Lp3 PV El n nts k 0 B L' N :=
  ⟨(h.pop hL).all (fun p _ hd => by
    rcases hd with hd | ⟨v, hv, -⟩
    · exact hd
    · simp at hv), by have := hL.length_eq; simp at this; omega⟩
theorem Lp3.step {PV : List Pv} {El : Int → Nat → Nat → Prop} {n nts nl k t N : Nat} {B : Mats} {L L' : List Int} (h : Lp3 PV El n nts k t B L N) (hok : ∀ v ∈ PV, PvOk nts nl v) {v : Pv} (hv : (useL PV PV.length k)[t]? = some v) {s r : Sy} (hb : v.pr.body = [s, r])
    (hL : if moreQ (B v.pr.head.toNat) (mulO (B s.at_.toNat) (B r.at_.toNat)) = true then Puts L L' v.pr.head else L' = L) : Lp3 PV El n nts k (t + 1) (upM B v.pr.head.toNat (joinQ (B v.pr.head.toNat) (mulO (B s.at_.toNat) (B r.at_.toNat)))) L' N := by
  have hvm := (useL_mem (List.mem_of_getElem? hv)).1
  obtain ⟨h1, h2⟩ := h.1.next (List.mem_map.2 ⟨v, hvm, rfl⟩) (fun q hq => by obtain ⟨v', h1, rfl⟩ := List.mem_map.1 hq; exact (hok v' h1).g) hb hL
  refine ⟨h1.all (fun q _ hd => ?_), Nat.lt_of_le_of_lt h2 h.2⟩
  rcases hd with hd | ⟨v', hv', e⟩
  · exact .inl (.inl hd)
  · rw [List.take_add_one, hv, Option.toList_some, List.mem_append, List.mem_singleton] at hv'
    rcases hv' with hv' | rfl
    · exact .inl (.inr ⟨v', hv', e⟩)
    · exact .inr e.symm
theorem Lp3.end_ {PV : List Pv} {El : Int → Nat → Nat → Prop} {n nts k N : Nat} {B : Mats} {L : List Int} (h : Lp3 PV El n nts k (useL PV PV.length k).length B L N) : FiI (PV.map (·.pr)) El n nts B L (fun _ => True) :=
  h.1.all (fun p hp _ => by
    by_cases hn : NamesL p [(k : Int)]
    · obtain ⟨v, hv, rfl⟩ := List.mem_map.1 hp
      refine .inr ⟨v, ?_, rfl⟩
      rw [List.take_length]
      unfold useL
      rw [List.take_length]
      obtain ⟨s, t, e, hst⟩ := hn
      refine List.mem_filter.2 ⟨hv, ?_⟩
      rw [two_names e]
      simp only [List.mem_singleton] at hst
      simpa using hst
    · exact .inl hn)
end Go.Proofs.YtddffnonlmfhdaaGreatDoor
namespace Go.Proofs.YtddffnonlmfhdaaGreatDoor
open Go.RowKit Go.Shelf
theorem made_mk (nts : Nat) : madeCells (Value.bool false).cells (((nts : Int)).toNat * 1) = (mkC nts []).toArray := by
  apply Array.toList_inj.1
  rw [Int.toNat_natCast, Nat.mul_one, show (Value.bool false).cells = #[Value.bool false] from rfl, toList_madeCells_one]
  apply List.ext_getElem?
  intro i
  by_cases h : i < nts
  · simp [mkC, h]
  · simp [mkC, h]
theorem made_uv (nts : Nat) : madeCells (Value.slice none 0 0).cells (((nts : Int)).toNat * 1) = (uvC (fun _ => .slice none 0 0) nts).toArray := by
  apply Array.toList_inj.1
  rw [Int.toNat_natCast, Nat.mul_one, show (Value.slice none 0 0).cells = #[Value.slice none 0 0] from rfl, toList_madeCells_one]
  apply List.ext_getElem?
  intro i
  by_cases h : i < nts
  · simp [uvC, h]
  · simp [uvC, h]
theorem ta_int (k : Int) (T : TypeId) (w : World) : (Instr.typeAssert (.iface 3 (.int .i64 k)) T 3 false).run Tryz.prog w = .ok (.int .i64 k) w := by kernel_rfl
theorem info_bool1 : (Tryz.prog.info? 4).map (fun i => (i.zero, i.size, i.bytes)) = some (some (.bool false), 1, 1) := by kernel_rfl
theorem info_prods : (Tryz.prog.info? 48).map (fun i => (i.zero, i.size, i.bytes)) = some (some (.slice none 0 0), 1, 24) := by kernel_rfl
theorem mk_marks (w : World) (nts : Nat) (h : nts ≤ 512) : (Instr.makeSlice 73 (.int .i64 (nts : Int)) (.int .i64 (nts : Int))).run Tryz.prog w = .ok (.slice (some ⟨w.heap.size, 0, none⟩) nts nts) (w.alloc (.cells (mkC nts []).toArray 4)) := by
  obtain ⟨i0, hi0, hz0, hz1, hz2⟩ := info_parts info_bool1
  have hr := run_make (P := Tryz.prog) w 73 4 i0 _ Tryz.underlying73 hi0 hz0 .i64 .i64 (nts : Int) (nts : Int) (by omega) (Int.le_refl _) (by rw [hz2]; omega) (by omega)
  rw [hz1, made_mk, Int.toNat_natCast] at hr
  exact hr
theorem mk_uses (w : World) (nts : Nat) (h : nts ≤ 512) : (Instr.makeSlice 184 (.int .i64 (nts : Int)) (.int .i64 (nts : Int))).run Tryz.prog w = .ok (.slice (some ⟨w.heap.size, 0, none⟩) nts nts) (w.alloc (.cells (uvC (fun _ => .slice none 0 0) nts).toArray 48)) := by
  obtain ⟨i0, hi0, hz0, hz1, hz2⟩ := info_parts info_prods
  have hr := run_make (P := Tryz.prog) w 184 48 i0 _ Tryz.underlying184 hi0 hz0 .i64 .i64 (nts : Int) (nts : Int) (by omega) (Int.le_refl _) (by rw [hz2]; omega) (by omega)
  rw [hz1, made_uv, Int.toNat_natCast] at hr
  exact hr
/-- fill's memory as it begins. -/
def filW (w : World) (nts : Nat) (cs : Array Value) : World :=
  (((w.alloc (.cells cs 50)).alloc (.cells (mkC nts []).toArray 4)).alloc (.cells #[.slice none 0 0, .slice (some ⟨w.heap.size + 1, 0, none⟩) nts nts] 183)).alloc (.cells (uvC (fun _ => .slice none 0 0) nts).toArray 48)
theorem fil_begin {w : World} {F : Nat → Prop} {p n nts : Nat} {B : Mats} (cs : Array Value) (h : ClS w F p n n nts B) : FilM w (filW w nts cs) F p n nts (w.heap.size + 2) (w.heap.size + 1) (w.heap.size + 3) NoX B [] (fun _ => []) := by
  unfold filW
  have e1 : (w.alloc (.cells cs 50)).heap.size = w.heap.size + 1 := by simp
  have e2 : ((w.alloc (.cells cs 50)).alloc (.cells (mkC nts []).toArray 4)).heap.size = w.heap.size + 2 := by simp
  have e3 : (((w.alloc (.cells cs 50)).alloc (.cells (mkC nts []).toArray 4)).alloc (.cells #[.slice none 0 0, .slice (some ⟨w.heap.size + 1, 0, none⟩) nts nts] 183)).heap.size = w.heap.size + 3 := by simp
  have km := ((Blk.new (w.alloc (.cells cs 50)) 4 (mkC nts []).toArray).alloc (.cells #[.slice none 0 0, .slice (some ⟨w.heap.size + 1, 0, none⟩) nts nts] 183)).alloc (.cells (uvC (fun _ => .slice none 0 0) nts).toArray 48)
  have kp := (Blk.new ((w.alloc (.cells cs 50)).alloc (.cells (mkC nts []).toArray 4)) 183 #[.slice none 0 0, .slice (some ⟨w.heap.size + 1, 0, none⟩) nts nts]).alloc (.cells (uvC (fun _ => .slice none 0 0) nts).toArray 48)
  have ku := Blk.new (((w.alloc (.cells cs 50)).alloc (.cells (mkC nts []).toArray 4)).alloc (.cells #[.slice none 0 0, .slice (some ⟨w.heap.size + 1, 0, none⟩) nts nts] 183)) 48 (uvC (fun _ => .slice none 0 0) nts).toArray
  rw [e1] at km
  rw [e2] at kp
  rw [e3] at ku
  have hb : Below w.heap.size w ((((w.alloc (.cells cs 50)).alloc (.cells (mkC nts []).toArray 4)).alloc (.cells #[.slice none 0 0, .slice (some ⟨w.heap.size + 1, 0, none⟩) nts nts] 183)).alloc (.cells (uvC (fun _ => .slice none 0 0) nts).toArray 48)) := by (repeat (first | exact Below.refl _ _ | apply Below.drew | refine Below.alloc ?_ (by first | exact Nat.le_refl _ | (simp; done) | (simp; omega)) _ | refine Below.setCell ?_ (by first | exact Nat.le_refl _ | (simp; done) | (simp; omega)) _))
  have e4 : ((((w.alloc (.cells cs 50)).alloc (.cells (mkC nts []).toArray 4)).alloc (.cells #[.slice none 0 0, .slice (some ⟨w.heap.size + 1, 0, none⟩) nts nts] 183)).alloc (.cells (uvC (fun _ => .slice none 0 0) nts).toArray 48)).heap.size = w.heap.size + 4 := by simp
  generalize (((w.alloc (.cells cs 50)).alloc (.cells (mkC nts []).toArray 4)).alloc (.cells #[.slice none 0 0, .slice (some ⟨w.heap.size + 1, 0, none⟩) nts nts] 183)).alloc (.cells (uvC (fun _ => .slice none 0 0) nts).toArray 48) = V at km kp ku hb e4 ⊢
  have no : ∀ k, (Value.slice none 0 0).ownBlock = some k → False := fun k e => by simp [Value.ownBlock] at e
  have hF := h.lt
  refine ⟨F, .slice none 0 0, fun q => if q = w.heap.size + 3 then some none else none, fun _ => .slice none 0 0, h.below hb, ⟨⟨kp, World.ownsRow_nil _ _ _ _⟩, km, fun k e => (no k e).elim, fun k e => (no k e).elim, by omega, fun x hx => (by cases hx), List.nodup_nil⟩, ⟨ku, fun k _ => World.ownsRow_nil _ _ _ _, if_pos rfl, fun k _ q e => (no q e).elim, fun q hq => ?_⟩, (Upd.of_below hb F), fun k hk => .inl hk, fun k hk => ?_, fun k hk => ?_, fun k hk e => ?_, fun k hk => ?_, fun k hk => ?_, ?_, ?_, ?_, ?_⟩
  · by_cases e : q = w.heap.size + 3
    · omega
    · rw [if_neg e] at hq; exact absurd rfl hq
  · rcases hk with e | e | e
    · omega
    · omega
    · exact (no k e).elim
  · by_cases e : k = w.heap.size + 3
    · omega
    · rw [if_neg e] at hk; exact absurd rfl hk
  · have := hF k hk
    rcases e with e | e | e
    · omega
    · omega
    · exact (no k e).elim
  · have := hF k hk
    exact if_neg (by omega)
  · rcases hk with e | e | e
    · exact if_neg (by omega)
    · exact if_neg (by omega)
    · exact (no k e).elim
  all_goals exact fun k hk => hk.elim
theorem FilM.base {W0 w V : World} {F X : Nat → Prop} {p n nts pw pm u : Nat} {B : Mats} {L : List Int} {Q : Nat → List Pv} (h : FilM w V F p n nts pw pm u X B L Q) (hb : Below W0.heap.size W0 w) (hF : ∀ k, F k → W0.heap.size ≤ k) : Below W0.heap.size W0 V := by
  obtain ⟨FC, lv, U, uv, h⟩ := h
  exact hb.trans (h.up.below (fun i _ hi => hF i hi) hb.size)
/-- What fill finds: unturned since W0. -/
structure FilIn (W0 : World) (PA : Option Addr) (PV : List Pv) (LA : Option Addr) (labels : List Txt) (Fg : Nat → Prop) (pg : Nat) (G : Gr) (n nts : Nat) : Prop where
  pv : PvR W0 PA PV
  lab : RowR W0 LA (txtCells labels)
  gr : GrS W0 Fg pg G
  ok : GOk G
  hn : G.N.length = n
  n1 : 1 ≤ n
  tab : TabW W0
  htab : 1 < W0.heap.size
  sh : ∀ v ∈ PV, PvOk nts labels.length v
  nts1 : 1 ≤ nts
  nts5 : nts ≤ 512
  few : PV.length ≤ 8192
def FillQ (w : World) (F : Nat → Prop) (p n nts : Nat) (PV : List Pv) (labels : List Txt) (G : Gr) (w' : World) : Prop :=
  ∃ B : Mats, (∀ k, k < nts → ∀ i j, bitO (B k) i j = true ↔ DerP (PV.map (·.pr)) (ElG G labels) n (k : Int) i j) ∧ (∀ k, WdO (B k)) ∧ ClTo w F p n n nts B w'
def Lp1M (w : World) (F : Nat → Prop) (p n nts pw pm u : Nat) (PV : List Pv) (El : Int → Nat → Nat → Prop) (t : Nat) (V : World) : Prop :=
  ∃ B L, FilM w V F p n nts pw pm u NoX B L (useL PV t) ∧ Lp1 PV El n nts t B L
set_option maxHeartbeats 4000000 in
set_option maxRecDepth 20000 in
theorem fill_any (W0 w : World) (hb0 : Below W0.heap.size W0 w) (F : Nat → Prop) (hF : ∀ k, F k → W0.heap.size ≤ k) (p n nts : Nat) (h : ClS w F p n n nts (fun _ => none)) (PA : Option Addr) (pc : Nat) (PV : List Pv) (LA : Option Addr) (cl : Nat) (labels : List Txt)
    (Fg : Nat → Prop) (pg : Nat) (G : Gr) (hin : FilIn W0 PA PV LA labels Fg pg G n nts) :
    Calls Tryz.prog 71 #[.pointer (some ⟨p, 0, none⟩), .agg #[.int .i64 (nts : Int), .slice PA PV.length pc], .slice LA labels.length cl, .pointer (some ⟨pg, 0, none⟩)] w (fun e w' => e = .returned (.tuple #[]) ∧ FillQ w F p n nts PV labels G w') := by
  have hFM : FilM w (filW w nts #[.int .i64 (nts : Int), .slice PA PV.length pc]) F p n nts (w.heap.size + 1 + 1) (w.heap.size + 1) (w.heap.size + 1 + 1 + 1) NoX (fun _ => none) [] (fun _ => []) := fil_begin #[.int .i64 (nts : Int), .slice PA PV.length pc] h
  have k0 := Blk.new w 50 #[.int .i64 (nts : Int), .slice PA PV.length pc]
  have q0 : (w.alloc (.cells #[.int .i64 (nts : Int), .slice PA PV.length pc] 50)).cell? ⟨w.heap.size, 0, none⟩ = some (.int .i64 (nts : Int)) := k0.cell 0
  have hm1 := mk_marks (w.alloc (.cells #[.int .i64 (nts : Int), .slice PA PV.length pc] 50)) nts hin.nts5
  have k2 := (k0.alloc (.cells (mkC nts []).toArray 4)).alloc (.cells #[.slice none 0 0, .slice (some ⟨w.heap.size + 1, 0, none⟩) nts nts] 183)
  have k3 := k2.alloc (.cells (uvC (fun _ => .slice none 0 0) nts).toArray 48)
  have q02 := k2.cell 0
  have q03 := k3.cell 1
  simp only [List.getElem?_toArray, List.getElem?_cons_zero, List.getElem?_cons_succ] at q02 q03
  have hm2 := mk_uses (((w.alloc (.cells #[.int .i64 (nts : Int), .slice PA PV.length pc] 50)).alloc (.cells (mkC nts []).toArray 4)).alloc (.cells #[.slice none 0 0, .slice (some ⟨w.heap.size + 1, 0, none⟩) nts nts] 183)) nts hin.nts5
  have q5 := hin.nts5
  have q8 := hin.few
  have q1 := hin.nts1
  have HI := Lib.hid (And.intro hin (And.intro hb0 hF))
  obtain ⟨m, hm⟩ : ∃ m, PV.length = m := ⟨_, rfl⟩
  rw [hm] at hFM q0 hm1 q8 hm2 q02 q03 ⊢
  have HF := Lib.hid hFM
  have HM := Lib.hid hm
  clear hFM h hin hb0 hF k0 k2 k3 hm
  unfold filW at HF
  have q1n : 1 ≤ n := HI.out.1.n1
  have HN64 := Lib.hid (show n ≤ 64 from by have := HI.out.1.ok.few; have := HI.out.1.hn; omega)
  have HEL := Lib.hid (show ∀ k i j, ElG G labels k i j → i < n ∧ j < n from fun k i j h => by have := h.lt; rwa [HI.out.1.hn] at this)
  go_enter Tryz.func71, Tryz.ntmps71
  go_upto_region 3 with (fail)
  clear hm1 hm2 q0 q02
  generalize (((w.alloc (.cells #[.int .i64 (nts : Int), .slice PA m pc] 50)).alloc (.cells (mkC nts []).toArray 4)).alloc (.cells #[.slice none 0 0, .slice (some ⟨w.heap.size + 1, 0, none⟩) nts nts] 183)).alloc (.cells (uvC (fun _ => .slice none 0 0) nts).toArray 48) = W4 at HF q03 ⊢
  generalize w.heap.size + 1 + 1 + 1 = u at HF ⊢
  generalize w.heap.size + 1 + 1 = pw at HF ⊢
  generalize w.heap.size + 1 = pm at HF ⊢
  generalize w.heap.size = z at q03 ⊢
  go_wp2
  clear q03
  go_loopw [27] (fun i wr => ∃ t : Nat, t ≤ m ∧ i = .int .i64 (t : Int) ∧ Hid (Lp1M w F p n nts pw pm u PV (ElG G labels) t wr)) (fun i _ => m - (intOf i).toNat)
  case atStart => exact ⟨0, Nat.zero_le _, rfl, Lib.hid ⟨_, _, by rw [useL_zero]; exact HF.out, Lp1.begin PV _ n nts⟩⟩
  case round =>
    obtain ⟨t, ht, rfl, hq⟩ := hrel
    clear HF
    by_cases hlt : t < m
    · clear ht
      -- ROUND1
      have hltI : (t : Int) < (m : Int) := by omega
      obtain ⟨B, L, hM, hL1⟩ := hq.out
      have hB := hM.base HI.out.2.1 HI.out.2.2
      obtain ⟨v, hv⟩ : ∃ v, PV[t]? = some v := ⟨_, List.getElem?_eq_getElem (by rw [HM.out]; exact hlt)⟩
      have hvm := List.mem_of_getElem? hv
      have hok := HI.out.1.sh v hvm
      obtain ⟨pb, po, rfl, c0, c1⟩ := (HI.out.1.pv.1.below3 hB).pv hv
      have hrow := (HI.out.1.pv.2 v hvm).below3 hB
      obtain ⟨⟨hd, bd⟩, bA, bc⟩ := v
      dsimp only at c0 c1 hrow
      obtain ⟨a, rfl⟩ : ∃ a : Nat, hd = (a : Int) := ⟨hd.toNat, by have := hok.g.h0; dsimp only at this; omega⟩
      have ha : a < nts := by have := hok.g.h1; dsimp only at this; omega
      have haI : (a : Int) < (nts : Int) := by omega
      rcases bd with _ | ⟨s, _ | ⟨r, _ | ⟨y, bd⟩⟩⟩
      · have c1 : wr.cell? ⟨pb, po + t * 2 + 1, none⟩ = some (.slice bA 0 bc) := c1
        have kb := Blk.new wr 71 #[.int .i64 (a : Int), .slice bA 0 bc]
        have b1 : Below wr.heap.size wr (wr.alloc (.cells #[.int .i64 (a : Int), .slice bA 0 bc] 71)) := (Below.refl _ _).alloc (Nat.le_refl _) _
        obtain ⟨FC, hcl, hturn⟩ := (hM.box (.cells #[.int .i64 (a : Int), .slice bA 0 bc] 71)).turn
        have hcon := first0_any (wr.alloc (.cells #[.int .i64 (a : Int), .slice bA 0 bc] 71)) FC p n nts B hcl a bA bc ha q1n HN64.out (ElG G labels) (.slice LA labels.length cl) (.pointer (some ⟨pg, 0, none⟩))
        have e0 : (wr.alloc (.cells #[.int .i64 (a : Int), .slice bA 0 bc] 71)).cell? ⟨wr.heap.size, 0, none⟩ = some (.int .i64 (a : Int)) := kb.cell 0
        have e1 : (wr.alloc (.cells #[.int .i64 (a : Int), .slice bA 0 bc] 71)).cell? ⟨wr.heap.size, 1, none⟩ = some (.slice bA 0 bc) := kb.cell 1
        have HT := Lib.hid (And.intro hturn (And.intro e0 (And.intro e1 (And.intro hL1 (And.intro hv hq.out)))))
        clear hM hL1 hv hvm hok hrow kb b1 hcl hturn hB hq
        go_wp2_with fail
        refine hcon.mono ?_
        clear hcon e0 e1 c0 c1
        rintro e V2 ⟨mm, hg, he, hto⟩
        obtain ⟨hM2, -, hX2⟩ := HT.out.1 _ V2 hto
        have c20 : V2.cell? ⟨wr.heap.size, 0, none⟩ = some (.int .i64 (a : Int)) := (hX2 _ 0 rfl).trans HT.out.2.1
        have c21 : V2.cell? ⟨wr.heap.size, 1, none⟩ = some (.slice bA 0 bc) := (hX2 _ 1 rfl).trans HT.out.2.2.1
        have HG := Lib.hid hg
        cases hmo : moreQ (B ((a : Int)).toNat) mm
        · rw [show (⟨(a : Int), []⟩ : Pr).head = (a : Int) from rfl, hmo] at he
          subst he
          have FIN := Lib.hid (show Lp1M w F p n nts pw pm u PV (ElG G labels) (t + 1) V2 from by
            have hl := HT.out.2.2.2.1.one HT.out.2.2.2.2.1 HI.out.1.sh HN64.out HEL.out HG.out (L' := L) (by
              rw [if_neg (by rw [show (⟨⟨(a : Int), []⟩, bA, bc⟩ : Pv).pr.head = (a : Int) from rfl, hmo]; exact nofun)])
            exact ⟨_, L, by rw [hl.2]; exact hM2.bare, hl.1⟩)
          clear hM2 hX2 hto hg hmo
          go_wp2
          go_roundw
          case rel => exact ⟨t + 1, by omega, by go_num, FIN⟩
          case measure => simp [intOf]; omega
        · rw [show (⟨(a : Int), []⟩ : Pr).head = (a : Int) from rfl, hmo] at he
          subst he
          obtain ⟨lv, hwk, hwork⟩ := hM2.work
          have hput := wput_any V2 pw pm nts lv L hwk q5 a ha
          have HW := Lib.hid (And.intro hwork (And.intro hmo c21))
          clear hM2 hX2 hto hg hmo hwk hwork c21
          go_wp2_with fail
          refine hput.mono ?_
          clear hput
          rintro e V3 ⟨rfl, hwt⟩
          obtain ⟨⟨L', hPu, hM3⟩, -, hX3⟩ := HW.out.1 _ _ hwt
          have c31 : V3.cell? ⟨wr.heap.size, 1, none⟩ = some (.slice bA 0 bc) := (hX3 _ 1 rfl).trans HW.out.2.2
          have FIN := Lib.hid (show Lp1M w F p n nts pw pm u PV (ElG G labels) (t + 1) V3 from by
            have hl := HT.out.2.2.2.1.one HT.out.2.2.2.2.1 HI.out.1.sh HN64.out HEL.out HG.out (L' := L') (by
              rw [if_pos (by rw [show (⟨⟨(a : Int), []⟩, bA, bc⟩ : Pv).pr.head = (a : Int) from rfl]; exact HW.out.2.1)]
              exact hPu)
            exact ⟨_, L', by rw [hl.2]; exact hM3.bare, hl.1⟩)
          clear hPu hM3 hX3 hwt
          go_wp2
          go_roundw
          case rel => exact ⟨t + 1, by omega, by go_num, FIN⟩
          case measure => simp [intOf]; omega
      · have c1 : wr.cell? ⟨pb, po + t * 2 + 1, none⟩ = some (.slice bA 1 bc) := c1
        have kb := Blk.new wr 71 #[.int .i64 (a : Int), .slice bA 1 bc]
        have b1 : Below wr.heap.size wr (wr.alloc (.cells #[.int .i64 (a : Int), .slice bA 1 bc] 71)) := (Below.refl _ _).alloc (Nat.le_refl _) _
        obtain ⟨FC, hcl, hturn⟩ := (hM.box (.cells #[.int .i64 (a : Int), .slice bA 1 bc] 71)).turn
        have hs := hok.one s rfl
        obtain ⟨slab, sat⟩ := s
        dsimp only at hs
        obtain ⟨sk, rfl⟩ : ∃ sk : Nat, sat = (sk : Int) := ⟨sat.toNat, by omega⟩
        obtain ⟨lb, hlb⟩ : ∃ lb, labels[sk]? = some lb := ⟨_, List.getElem?_eq_getElem (by omega)⟩
        have hB1 := hB.trans (b1.mono hB.size)
        have hcon := first1_any (wr.alloc (.cells #[.int .i64 (a : Int), .slice bA 1 bc] 71)) FC p n nts B hcl a sk slab bA bc (hrow.below3 b1) ha q1n HN64.out LA cl labels (HI.out.1.lab.below3 hB1) lb hlb Fg pg G (HI.out.1.gr.below hB1) HI.out.1.ok HI.out.1.hn
        clear hs hB1 hlb
        have e0 : (wr.alloc (.cells #[.int .i64 (a : Int), .slice bA 1 bc] 71)).cell? ⟨wr.heap.size, 0, none⟩ = some (.int .i64 (a : Int)) := kb.cell 0
        have e1 : (wr.alloc (.cells #[.int .i64 (a : Int), .slice bA 1 bc] 71)).cell? ⟨wr.heap.size, 1, none⟩ = some (.slice bA 1 bc) := kb.cell 1
        have HT := Lib.hid (And.intro hturn (And.intro e0 (And.intro e1 (And.intro hL1 (And.intro hv hq.out)))))
        clear hM hL1 hv hvm hok hrow kb b1 hcl hturn hB hq
        go_wp2_with fail
        refine hcon.mono ?_
        clear hcon e0 e1 c0 c1
        rintro e V2 ⟨mm, hg, he, hto⟩
        obtain ⟨hM2, -, hX2⟩ := HT.out.1 _ V2 hto
        have c20 : V2.cell? ⟨wr.heap.size, 0, none⟩ = some (.int .i64 (a : Int)) := (hX2 _ 0 rfl).trans HT.out.2.1
        have c21 : V2.cell? ⟨wr.heap.size, 1, none⟩ = some (.slice bA 1 bc) := (hX2 _ 1 rfl).trans HT.out.2.2.1
        have HG := Lib.hid hg
        cases hmo : moreQ (B ((a : Int)).toNat) mm
        · rw [show (⟨(a : Int), [⟨slab, (sk : Int)⟩]⟩ : Pr).head = (a : Int) from rfl, hmo] at he
          subst he
          have FIN := Lib.hid (show Lp1M w F p n nts pw pm u PV (ElG G labels) (t + 1) V2 from by
            have hl := HT.out.2.2.2.1.one HT.out.2.2.2.2.1 HI.out.1.sh HN64.out HEL.out HG.out (L' := L) (by
              rw [if_neg (by rw [show (⟨⟨(a : Int), [⟨slab, (sk : Int)⟩]⟩, bA, bc⟩ : Pv).pr.head = (a : Int) from rfl, hmo]; exact nofun)])
            exact ⟨_, L, by rw [hl.2]; exact hM2.bare, hl.1⟩)
          clear hM2 hX2 hto hg hmo
          go_wp2
          go_roundw
          case rel => exact ⟨t + 1, by omega, by go_num, FIN⟩
          case measure => simp [intOf]; omega
        · rw [show (⟨(a : Int), [⟨slab, (sk : Int)⟩]⟩ : Pr).head = (a : Int) from rfl, hmo] at he
          subst he
          obtain ⟨lv, hwk, hwork⟩ := hM2.work
          have hput := wput_any V2 pw pm nts lv L hwk q5 a ha
          have HW := Lib.hid (And.intro hwork (And.intro hmo c21))
          clear hM2 hX2 hto hg hmo hwk hwork c21
          go_wp2_with fail
          refine hput.mono ?_
          clear hput
          rintro e V3 ⟨rfl, hwt⟩
          obtain ⟨⟨L', hPu, hM3⟩, -, hX3⟩ := HW.out.1 _ _ hwt
          have c31 : V3.cell? ⟨wr.heap.size, 1, none⟩ = some (.slice bA 1 bc) := (hX3 _ 1 rfl).trans HW.out.2.2
          have FIN := Lib.hid (show Lp1M w F p n nts pw pm u PV (ElG G labels) (t + 1) V3 from by
            have hl := HT.out.2.2.2.1.one HT.out.2.2.2.2.1 HI.out.1.sh HN64.out HEL.out HG.out (L' := L') (by
              rw [if_pos (by rw [show (⟨⟨(a : Int), [⟨slab, (sk : Int)⟩]⟩, bA, bc⟩ : Pv).pr.head = (a : Int) from rfl]; exact HW.out.2.1)]
              exact hPu)
            exact ⟨_, L', by rw [hl.2]; exact hM3.bare, hl.1⟩)
          clear hPu hM3 hX3 hwt
          go_wp2
          go_roundw
          case rel => exact ⟨t + 1, by omega, by go_num, FIN⟩
          case measure => simp [intOf]; omega
      · have c1 : wr.cell? ⟨pb, po + t * 2 + 1, none⟩ = some (.slice bA 2 bc) := c1
        have hg2 := hok.g.two s r rfl
        obtain ⟨la, sb⟩ := s
        obtain ⟨lb, sc⟩ := r
        dsimp only at hg2
        obtain ⟨b, rfl⟩ : ∃ b : Nat, sb = (b : Int) := ⟨sb.toNat, by omega⟩
        obtain ⟨c, rfl⟩ : ∃ c : Nat, sc = (c : Int) := ⟨sc.toNat, by omega⟩
        have hqb : b < nts := by omega
        have hqc : c < nts := by omega
        have hbI : (b : Int) < (nts : Int) := by omega
        have hcI : (c : Int) < (nts : Int) := by omega
        obtain ⟨gb, go, rfl, -⟩ := hrow 0 (.bool la) rfl
        have kb := Blk.new wr 71 #[.int .i64 (a : Int), .slice (some ⟨gb, go, none⟩) 2 bc]
        have hcon := first2_any (wr.alloc (.cells #[.int .i64 (a : Int), .slice (some ⟨gb, go, none⟩) 2 bc] 71)) p (a : Int) (some ⟨gb, go, none⟩) 2 bc (Nat.le_refl _) (.slice LA labels.length cl) (.pointer (some ⟨pg, 0, none⟩))
        have e0 : (wr.alloc (.cells #[.int .i64 (a : Int), .slice (some ⟨gb, go, none⟩) 2 bc] 71)).cell? ⟨wr.heap.size, 0, none⟩ = some (.int .i64 (a : Int)) := kb.cell 0
        have e1 : (wr.alloc (.cells #[.int .i64 (a : Int), .slice (some ⟨gb, go, none⟩) 2 bc] 71)).cell? ⟨wr.heap.size, 1, none⟩ = some (.slice (some ⟨gb, go, none⟩) 2 bc) := kb.cell 1
        have HT := Lib.hid (And.intro (hM.box (.cells #[.int .i64 (a : Int), .slice (some ⟨gb, go, none⟩) 2 bc] 71)) (And.intro kb (And.intro hL1 hv)))
        have HQ := Lib.hid (show ∀ W, Below W0.heap.size W0 W → W.cell? ⟨gb, go + 1, none⟩ = some (.int .i64 (b : Int)) ∧ W.cell? ⟨gb, go + 3, none⟩ = some (.int .i64 (c : Int)) from fun W hW => by
          have hr2 := (HI.out.1.pv.2 _ hvm).below3 hW
          obtain ⟨b', o', e, d1⟩ := hr2 1 (.int .i64 (b : Int)) rfl
          injection e with e
          injection e with e1 e2
          subst e1
          subst e2
          obtain ⟨b', o', e, d3⟩ := hr2 3 (.int .i64 (c : Int)) rfl
          injection e with e
          injection e with e1 e2
          subst e1
          subst e2
          exact ⟨d1, d3⟩)
        have hlen9 : ∀ k, (useL PV t k).length ≤ 8192 := fun k => by have := useL_len PV t k; have := HM.out; omega
        have HLEN := Lib.hid hlen9
        clear hM hL1 hv hvm hok hrow kb hB hq hg2 hlen9
        go_wp2_with fail
        refine hcon.mono ?_
        clear hcon e0 e1 c0 c1
        rintro e V2 ⟨rfl, hb2⟩
        have k2 := HT.out.2.1.upd (Upd.of_below hb2 (fun _ => False)) id
        have hM2 := HT.out.1.below hb2
        have H2 := Lib.hid (show FilM w V2 F p n nts pw pm u (fun k => k = wr.heap.size) B L (useL PV t) ∧ V2.cell? ⟨wr.heap.size, 0, none⟩ = some (.int .i64 (a : Int)) ∧ V2.cell? ⟨wr.heap.size, 1, none⟩ = some (.slice (some ⟨gb, go, none⟩) 2 bc) ∧ V2.cell? ⟨gb, go + 1, none⟩ = some (.int .i64 (b : Int)) ∧ V2.cell? ⟨gb, go + 3, none⟩ = some (.int .i64 (c : Int)) from ⟨hM2, k2.cell 0, k2.cell 1, HQ.out V2 (hM2.base HI.out.2.1 HI.out.2.2)⟩)
        clear hM2
        have c21 : V2.cell? ⟨wr.heap.size, 1, none⟩ = some (.slice (some ⟨gb, go, none⟩) 2 bc) := k2.cell 1
        clear k2 hb2
        generalize wr.heap.size = z1 at H2 c21 ⊢
        have hMd := H2.out.1.below (V' := V2.drew) ((Below.refl _ _).drew)
        obtain ⟨A1, c1, A2, c2, W2, qu, happ, qu2, fu2, hu2, hX2, hMn, hXn⟩ := hMd.push (k := b) hqb ⟨⟨(a : Int), [⟨la, (b : Int)⟩, ⟨lb, (c : Int)⟩]⟩, some ⟨gb, go, none⟩, bc⟩ (by have := HLEN.out b; omega)
        have HNEW := Lib.hid (And.intro hMn (And.intro ((hXn z1 0 rfl).trans H2.out.2.1) ((hXn z1 1 rfl).trans H2.out.2.2.1)))
        obtain ⟨n1, hn1⟩ : ∃ n1, (useL PV t b).length = n1 := ⟨_, rfl⟩
        rw [hn1] at qu happ qu2 HNEW
        have hS : (fun X : World => X.cell? ⟨z1, 0, none⟩ = some (.int .i64 (a : Int)) ∧ X.cell? ⟨z1, 1, none⟩ = some (.slice (some ⟨gb, go, none⟩) 2 bc) ∧ X.cell? ⟨gb, go + 1, none⟩ = some (.int .i64 (b : Int)) ∧ X.cell? ⟨u, b, none⟩ = some (.slice A1 n1 c1)) V2.drew := ⟨H2.out.2.1, H2.out.2.2.1, H2.out.2.2.2.1, qu⟩
        replace happ : (Builtin.append_ #[48, 48] 48 #[.slice A1 n1 c1, .slice (some ⟨V2.drew.heap.size, 0, none⟩) 1 1]).run Tryz.prog (V2.drew.alloc (.cells #[.int .i64 (a : Int), .slice (some ⟨gb, go, none⟩) 2 bc] 71)) = .ok (.slice A2 (n1 + 1) c2) W2 := happ
        have hSW : (fun X : World => X.cell? ⟨z1, 0, none⟩ = some (.int .i64 (a : Int)) ∧ X.cell? ⟨z1, 1, none⟩ = some (.slice (some ⟨gb, go, none⟩) 2 bc) ∧ X.cell? ⟨gb, go + 1, none⟩ = some (.int .i64 (b : Int)) ∧ X.cell? ⟨u, b, none⟩ = some (.slice A1 n1 c1)) W2 := by
          have hb9 := ((H2.out.1.base HI.out.2.1 HI.out.2.2).drew).trans (hu2.below (fun i _ hi => Nat.le_trans HI.out.2.1.size hi) ((H2.out.1.base HI.out.2.1 HI.out.2.2).drew).size)
          exact ⟨(hX2 z1 0 rfl).trans H2.out.2.1, (hX2 z1 1 rfl).trans H2.out.2.2.1, (HQ.out W2 hb9).1, qu2⟩
        have hSA : (fun X : World => X.cell? ⟨z1, 0, none⟩ = some (.int .i64 (a : Int)) ∧ X.cell? ⟨z1, 1, none⟩ = some (.slice (some ⟨gb, go, none⟩) 2 bc) ∧ X.cell? ⟨gb, go + 1, none⟩ = some (.int .i64 (b : Int)) ∧ X.cell? ⟨u, b, none⟩ = some (.slice A1 n1 c1)) (V2.drew.alloc (.cells #[.int .i64 (a : Int), .slice (some ⟨gb, go, none⟩) 2 bc] 71)) := by
          have hb9 : Below V2.drew.heap.size V2.drew (V2.drew.alloc (.cells #[.int .i64 (a : Int), .slice (some ⟨gb, go, none⟩) 2 bc] 71)) := (Below.refl _ _).alloc (Nat.le_refl _) _
          exact ⟨cell_keep hb9 hS.1, cell_keep hb9 hS.2.1, cell_keep hb9 hS.2.2.1, cell_keep hb9 hS.2.2.2⟩
        clear hMd hMn hXn qu hn1 hu2 hX2
        obtain ⟨n2, hn2⟩ : ∃ n2, n1 + 1 = n2 := ⟨_, rfl⟩
        rw [hn2] at happ HNEW
        clear hn2
        go_upto_region 9 with (fail)
        refine wp_region_late (fun X : World => X.cell? ⟨z1, 0, none⟩ = some (.int .i64 (a : Int)) ∧ X.cell? ⟨z1, 1, none⟩ = some (.slice (some ⟨gb, go, none⟩) 2 bc) ∧ X.cell? ⟨gb, go + 1, none⟩ = some (.int .i64 (b : Int)) ∧ X.cell? ⟨u, b, none⟩ = some (.slice A1 n1 c1)) (lateFrom 18) (by kernel_rfl) ?_
        generalize V2.drew = VD at happ hS hSA ⊢
        intro hd
        (refine late_takeA (i := 0) rfl hd hS ?_; clear hd; intro hd; (try simp only [Act.put, List.getElem_toArray, List.getElem_cons_zero, List.setIfInBounds_toArray, List.set_cons_zero, List.set_cons_succ]))
        (refine late_takeA (i := 1) rfl hd hS ?_; clear hd; intro hd; (try simp only [Act.put, List.getElem_toArray, List.getElem_cons_succ, List.getElem_cons_zero, List.setIfInBounds_toArray, List.set_cons_zero, List.set_cons_succ]))
        (refine late_takeA (i := 2) rfl hd hS ?_; clear hd; intro hd; (try simp only [Act.put, List.getElem_toArray, List.getElem_cons_succ, List.getElem_cons_zero, List.setIfInBounds_toArray, List.set_cons_zero, List.set_cons_succ]))
        (refine late_takeA (i := 3) rfl hd hS ?_; clear hd; intro hd; (try simp only [Act.put, List.getElem_toArray, List.getElem_cons_succ, List.getElem_cons_zero, List.setIfInBounds_toArray, List.set_cons_zero, List.set_cons_succ]))
        (refine late_takeA (i := 4) rfl hd hS ?_; clear hd; intro hd; (try simp only [Act.put, List.getElem_toArray, List.getElem_cons_succ, List.getElem_cons_zero, List.setIfInBounds_toArray, List.set_cons_zero, List.set_cons_succ]))
        (refine late_takeA (i := 5) rfl hd hS ?_; clear hd; intro hd; (try simp only [Act.put, List.getElem_toArray, List.getElem_cons_succ, List.getElem_cons_zero, List.setIfInBounds_toArray, List.set_cons_zero, List.set_cons_succ]))
        (refine late_takeA (i := 6) rfl hd hS ?_; clear hd; intro hd; (try simp only [Act.put, List.getElem_toArray, List.getElem_cons_succ, List.getElem_cons_zero, List.setIfInBounds_toArray, List.set_cons_zero, List.set_cons_succ]))
        (refine late_takeA (i := 7) rfl hd hS ?_; clear hd; intro hd; (try simp only [Act.put, List.getElem_toArray, List.getElem_cons_succ, List.getElem_cons_zero, List.setIfInBounds_toArray, List.set_cons_zero, List.set_cons_succ]))
        (refine late_takeA (i := 8) rfl hd hS ?_; clear hd; intro hd; (try simp only [Act.put, List.getElem_toArray, List.getElem_cons_succ, List.getElem_cons_zero, List.setIfInBounds_toArray, List.set_cons_zero, List.set_cons_succ]))
        (refine late_takeA (i := 9) rfl hd hS ?_; clear hd; intro hd; (try simp only [Act.put, List.getElem_toArray, List.getElem_cons_succ, List.getElem_cons_zero, List.setIfInBounds_toArray, List.set_cons_zero, List.set_cons_succ]))
        (refine late_takeA (i := 10) rfl hd hS ?_; clear hd; intro hd; (try simp only [Act.put, List.getElem_toArray, List.getElem_cons_succ, List.getElem_cons_zero, List.setIfInBounds_toArray, List.set_cons_zero, List.set_cons_succ]))
        (refine late_takeA (i := 11) rfl hd hS ?_; clear hd; intro hd; (try simp only [Act.put, List.getElem_toArray, List.getElem_cons_succ, List.getElem_cons_zero, List.setIfInBounds_toArray, List.set_cons_zero, List.set_cons_succ]))
        (refine late_takeA (i := 12) rfl hd hS ?_; clear hd; intro hd; (try simp only [Act.put, List.getElem_toArray, List.getElem_cons_succ, List.getElem_cons_zero, List.setIfInBounds_toArray, List.set_cons_zero, List.set_cons_succ]))
        (refine late_takeA (i := 13) rfl hd hS ?_; clear hd; intro hd; (try simp only [Act.put, List.getElem_toArray, List.getElem_cons_succ, List.getElem_cons_zero, List.setIfInBounds_toArray, List.set_cons_zero, List.set_cons_succ]))
        (refine late_takeA (i := 14) rfl hd hS ?_; clear hd; intro hd; (try simp only [Act.put, List.getElem_toArray, List.getElem_cons_succ, List.getElem_cons_zero, List.setIfInBounds_toArray, List.set_cons_zero, List.set_cons_succ]))
        clear hS
        refine late_run hd (L := [15]) (by kernel_rfl) (by decide) (fun ix hix hd2 => ?_)
        clear hd
        have hd := hd2
        clear hd2
        simp only [List.mem_cons, List.not_mem_nil, or_false] at hix
        subst hix
        refine late_do (S := (fun X : World => X.cell? ⟨z1, 0, none⟩ = some (.int .i64 (a : Int)) ∧ X.cell? ⟨z1, 1, none⟩ = some (.slice (some ⟨gb, go, none⟩) 2 bc) ∧ X.cell? ⟨gb, go + 1, none⟩ = some (.int .i64 (b : Int)) ∧ X.cell? ⟨u, b, none⟩ = some (.slice A1 n1 c1))) (late := lateFrom 18) rfl rfl (fun K hK => ?_)
        go_simp
        refine hK _ _ (fun _ _ => hSA) ?_
        clear hK K
        (try simp only [Act.put, List.getElem_toArray, List.getElem_cons_succ, List.getElem_cons_zero, List.setIfInBounds_toArray, List.set_cons_zero, List.set_cons_succ])
        refine late_run hd (L := [16]) (by kernel_rfl) (by decide) (fun ix hix hd2 => ?_)
        clear hd
        have hd := hd2
        clear hd2
        simp only [List.mem_cons, List.not_mem_nil, or_false] at hix
        subst hix
        refine late_do (S := (fun X : World => X.cell? ⟨z1, 0, none⟩ = some (.int .i64 (a : Int)) ∧ X.cell? ⟨z1, 1, none⟩ = some (.slice (some ⟨gb, go, none⟩) 2 bc) ∧ X.cell? ⟨gb, go + 1, none⟩ = some (.int .i64 (b : Int)) ∧ X.cell? ⟨u, b, none⟩ = some (.slice A1 n1 c1))) (late := lateFrom 18) rfl rfl (fun K hK => ?_)
        refine do_append _ _ _ rfl rfl rfl happ ?_
        refine hK _ _ (fun _ _ => hSW) ?_
        clear hK K happ
        (try simp only [Act.put, List.getElem_toArray, List.getElem_cons_succ, List.getElem_cons_zero, List.setIfInBounds_toArray, List.set_cons_zero, List.set_cons_succ])
        have hS := hSW
        (refine late_takeA (i := 17) rfl hd hS ?_; clear hd; intro hd; (try simp only [Act.put, List.getElem_toArray, List.getElem_cons_succ, List.getElem_cons_zero, List.setIfInBounds_toArray, List.set_cons_zero, List.set_cons_succ]))
        clear hS
        refine late_run hd (L := [18]) (by kernel_rfl) (by decide) (fun ix hix hd2 => ?_)
        clear hd
        have hd := hd2
        clear hd2
        simp only [List.mem_cons, List.not_mem_nil, or_false] at hix
        subst hix
        refine late_do (S := (fun X : World => X.cell? ⟨z1, 0, none⟩ = some (.int .i64 (a : Int)) ∧ X.cell? ⟨z1, 1, none⟩ = some (.slice (some ⟨gb, go, none⟩) 2 bc) ∧ X.cell? ⟨gb, go + 1, none⟩ = some (.int .i64 (b : Int)) ∧ X.cell? ⟨u, b, none⟩ = some (.slice A1 n1 c1))) (late := lateFrom 18) rfl rfl (fun K hK => ?_)
        go_simp
        refine hK _ _ (fun h _ => absurd h (by decide)) ?_
        clear hK K
        (try simp only [Act.put, List.getElem_toArray, List.getElem_cons_succ, List.getElem_cons_zero, List.setIfInBounds_toArray, List.set_cons_zero, List.set_cons_succ])
        refine late_done (by kernel_rfl) ?_
        clear qu2 fu2 hSA hSW
        generalize W2.setCell ⟨u, b, none⟩ (.slice A2 n2 c2) = W3 at HNEW ⊢
        clear c21
        have H3 := Lib.hid (And.intro HNEW.out.1 (And.intro HNEW.out.2.1 (And.intro HNEW.out.2.2 (HQ.out W3 (HNEW.out.1.base HI.out.2.1 HI.out.2.2)))))
        clear HNEW
        go_upto_region 10 with (fail)
        have d1 := H3.out.2.2.1
        have d2 := H3.out.2.2.2.1
        have d3 := H3.out.2.2.2.2
        have hbd := Lib.hid (show ∀ n, Below W3.heap.size W3 (W3.drewN n) from fun n => ⟨rfl, rfl, rfl, Nat.le_refl _, fun _ _ => rfl⟩)
        by_cases hbc : b = c
        · subst hbc
          go_quiet (fail)
          clear d1 d2 d3
          have FIN := Lib.hid (show Lp1M w F p n nts pw pm u PV (ElG G labels) (t + 1) (W3.drewN nq) from by
            have hM3 := H3.out.1.below (hbd.out nq)
            rw [use_same HT.out.2.2.2 rfl] at hM3
            exact ⟨B, L, hM3.bare, HT.out.2.2.1.two HT.out.2.2.2 rfl⟩)
          clear H3
          go_wp2
          go_roundw
          case rel => exact ⟨t + 1, by omega, by go_num, FIN⟩
          case measure => simp [intOf]; omega
        · have hbn : ((c : Int) != (b : Int)) = true := by simp; omega
          go_quiet (fail)
          clear d1 d2 d3 hbn
          obtain ⟨Q1, hQ1⟩ : ∃ Q1, (fun q => if q = b then useL PV t b ++ [⟨⟨(a : Int), [⟨la, (b : Int)⟩, ⟨lb, (c : Int)⟩]⟩, some ⟨gb, go, none⟩, bc⟩] else useL PV t q) = Q1 := ⟨_, rfl⟩
          have hQc : (Q1 c).length ≤ 1000000 := by
            rw [← hQ1]
            dsimp only
            rw [if_neg (fun e => hbc e.symm)]
            have := HLEN.out c
            omega
          have H4 := Lib.hid (show FilM w (W3.drewN nq) F p n nts pw pm u (fun k => k = z1) B L Q1 ∧ (W3.drewN nq).cell? ⟨z1, 0, none⟩ = some (.int .i64 (a : Int)) ∧ (W3.drewN nq).cell? ⟨z1, 1, none⟩ = some (.slice (some ⟨gb, go, none⟩) 2 bc) ∧ (W3.drewN nq).cell? ⟨gb, go + 1, none⟩ = some (.int .i64 (b : Int)) ∧ (W3.drewN nq).cell? ⟨gb, go + 3, none⟩ = some (.int .i64 (c : Int)) from ⟨by rw [← hQ1]; exact H3.out.1.below (hbd.out nq), H3.out.2⟩)
          have HQ1 := Lib.hid hQ1
          clear H3 hQ1 hbd
          generalize W3.drewN nq = W4 at H4 ⊢
          have hMd := H4.out.1.below (V' := W4.drew) ((Below.refl _ _).drew)
          obtain ⟨A1, c1, A2, c2, W2, qu, happ, qu2, fu2, hu2, hX2, hMn, hXn⟩ := hMd.push (k := c) hqc ⟨⟨(a : Int), [⟨la, (b : Int)⟩, ⟨lb, (c : Int)⟩]⟩, some ⟨gb, go, none⟩, bc⟩ (hQc)
          have HNEW := Lib.hid (And.intro hMn (And.intro ((hXn z1 0 rfl).trans H4.out.2.1) ((hXn z1 1 rfl).trans H4.out.2.2.1)))
          obtain ⟨n1, hn1⟩ : ∃ n1, (Q1 c).length = n1 := ⟨_, rfl⟩
          rw [hn1] at qu happ qu2 HNEW
          have hS : (fun X : World => X.cell? ⟨z1, 0, none⟩ = some (.int .i64 (a : Int)) ∧ X.cell? ⟨z1, 1, none⟩ = some (.slice (some ⟨gb, go, none⟩) 2 bc) ∧ X.cell? ⟨gb, go + 3, none⟩ = some (.int .i64 (c : Int)) ∧ X.cell? ⟨u, c, none⟩ = some (.slice A1 n1 c1)) W4.drew := ⟨H4.out.2.1, H4.out.2.2.1, H4.out.2.2.2.2, qu⟩
          replace happ : (Builtin.append_ #[48, 48] 48 #[.slice A1 n1 c1, .slice (some ⟨W4.drew.heap.size, 0, none⟩) 1 1]).run Tryz.prog (W4.drew.alloc (.cells #[.int .i64 (a : Int), .slice (some ⟨gb, go, none⟩) 2 bc] 71)) = .ok (.slice A2 (n1 + 1) c2) W2 := happ
          have hSW : (fun X : World => X.cell? ⟨z1, 0, none⟩ = some (.int .i64 (a : Int)) ∧ X.cell? ⟨z1, 1, none⟩ = some (.slice (some ⟨gb, go, none⟩) 2 bc) ∧ X.cell? ⟨gb, go + 3, none⟩ = some (.int .i64 (c : Int)) ∧ X.cell? ⟨u, c, none⟩ = some (.slice A1 n1 c1)) W2 := by
            have hb9 := ((H4.out.1.base HI.out.2.1 HI.out.2.2).drew).trans (hu2.below (fun i _ hi => Nat.le_trans HI.out.2.1.size hi) ((H4.out.1.base HI.out.2.1 HI.out.2.2).drew).size)
            exact ⟨(hX2 z1 0 rfl).trans H4.out.2.1, (hX2 z1 1 rfl).trans H4.out.2.2.1, (HQ.out W2 hb9).2, qu2⟩
          have hSA : (fun X : World => X.cell? ⟨z1, 0, none⟩ = some (.int .i64 (a : Int)) ∧ X.cell? ⟨z1, 1, none⟩ = some (.slice (some ⟨gb, go, none⟩) 2 bc) ∧ X.cell? ⟨gb, go + 3, none⟩ = some (.int .i64 (c : Int)) ∧ X.cell? ⟨u, c, none⟩ = some (.slice A1 n1 c1)) (W4.drew.alloc (.cells #[.int .i64 (a : Int), .slice (some ⟨gb, go, none⟩) 2 bc] 71)) := by
            have hb9 : Below W4.drew.heap.size W4.drew (W4.drew.alloc (.cells #[.int .i64 (a : Int), .slice (some ⟨gb, go, none⟩) 2 bc] 71)) := (Below.refl _ _).alloc (Nat.le_refl _) _
            exact ⟨cell_keep hb9 hS.1, cell_keep hb9 hS.2.1, cell_keep hb9 hS.2.2.1, cell_keep hb9 hS.2.2.2⟩
          clear hMd hMn hXn qu hn1 hu2 hX2
          obtain ⟨n2, hn2⟩ : ∃ n2, n1 + 1 = n2 := ⟨_, rfl⟩
          rw [hn2] at happ HNEW
          clear hn2
          go_upto_region 11 with (fail)
          refine wp_region_late (fun X : World => X.cell? ⟨z1, 0, none⟩ = some (.int .i64 (a : Int)) ∧ X.cell? ⟨z1, 1, none⟩ = some (.slice (some ⟨gb, go, none⟩) 2 bc) ∧ X.cell? ⟨gb, go + 3, none⟩ = some (.int .i64 (c : Int)) ∧ X.cell? ⟨u, c, none⟩ = some (.slice A1 n1 c1)) (lateFrom 18) (by kernel_rfl) ?_
          generalize W4.drew = VD at happ hS hSA ⊢
          intro hd
          (refine late_takeA (i := 0) rfl hd hS ?_; clear hd; intro hd; (try simp only [Act.put, List.getElem_toArray, List.getElem_cons_zero, List.setIfInBounds_toArray, List.set_cons_zero, List.set_cons_succ]))
          (refine late_takeA (i := 1) rfl hd hS ?_; clear hd; intro hd; (try simp only [Act.put, List.getElem_toArray, List.getElem_cons_succ, List.getElem_cons_zero, List.setIfInBounds_toArray, List.set_cons_zero, List.set_cons_succ]))
          (refine late_takeA (i := 2) rfl hd hS ?_; clear hd; intro hd; (try simp only [Act.put, List.getElem_toArray, List.getElem_cons_succ, List.getElem_cons_zero, List.setIfInBounds_toArray, List.set_cons_zero, List.set_cons_succ]))
          (refine late_takeA (i := 3) rfl hd hS ?_; clear hd; intro hd; (try simp only [Act.put, List.getElem_toArray, List.getElem_cons_succ, List.getElem_cons_zero, List.setIfInBounds_toArray, List.set_cons_zero, List.set_cons_succ]))
          (refine late_takeA (i := 4) rfl hd hS ?_; clear hd; intro hd; (try simp only [Act.put, List.getElem_toArray, List.getElem_cons_succ, List.getElem_cons_zero, List.setIfInBounds_toArray, List.set_cons_zero, List.set_cons_succ]))
          (refine late_takeA (i := 5) rfl hd hS ?_; clear hd; intro hd; (try simp only [Act.put, List.getElem_toArray, List.getElem_cons_succ, List.getElem_cons_zero, List.setIfInBounds_toArray, List.set_cons_zero, List.set_cons_succ]))
          (refine late_takeA (i := 6) rfl hd hS ?_; clear hd; intro hd; (try simp only [Act.put, List.getElem_toArray, List.getElem_cons_succ, List.getElem_cons_zero, List.setIfInBounds_toArray, List.set_cons_zero, List.set_cons_succ]))
          (refine late_takeA (i := 7) rfl hd hS ?_; clear hd; intro hd; (try simp only [Act.put, List.getElem_toArray, List.getElem_cons_succ, List.getElem_cons_zero, List.setIfInBounds_toArray, List.set_cons_zero, List.set_cons_succ]))
          (refine late_takeA (i := 8) rfl hd hS ?_; clear hd; intro hd; (try simp only [Act.put, List.getElem_toArray, List.getElem_cons_succ, List.getElem_cons_zero, List.setIfInBounds_toArray, List.set_cons_zero, List.set_cons_succ]))
          (refine late_takeA (i := 9) rfl hd hS ?_; clear hd; intro hd; (try simp only [Act.put, List.getElem_toArray, List.getElem_cons_succ, List.getElem_cons_zero, List.setIfInBounds_toArray, List.set_cons_zero, List.set_cons_succ]))
          (refine late_takeA (i := 10) rfl hd hS ?_; clear hd; intro hd; (try simp only [Act.put, List.getElem_toArray, List.getElem_cons_succ, List.getElem_cons_zero, List.setIfInBounds_toArray, List.set_cons_zero, List.set_cons_succ]))
          (refine late_takeA (i := 11) rfl hd hS ?_; clear hd; intro hd; (try simp only [Act.put, List.getElem_toArray, List.getElem_cons_succ, List.getElem_cons_zero, List.setIfInBounds_toArray, List.set_cons_zero, List.set_cons_succ]))
          (refine late_takeA (i := 12) rfl hd hS ?_; clear hd; intro hd; (try simp only [Act.put, List.getElem_toArray, List.getElem_cons_succ, List.getElem_cons_zero, List.setIfInBounds_toArray, List.set_cons_zero, List.set_cons_succ]))
          (refine late_takeA (i := 13) rfl hd hS ?_; clear hd; intro hd; (try simp only [Act.put, List.getElem_toArray, List.getElem_cons_succ, List.getElem_cons_zero, List.setIfInBounds_toArray, List.set_cons_zero, List.set_cons_succ]))
          (refine late_takeA (i := 14) rfl hd hS ?_; clear hd; intro hd; (try simp only [Act.put, List.getElem_toArray, List.getElem_cons_succ, List.getElem_cons_zero, List.setIfInBounds_toArray, List.set_cons_zero, List.set_cons_succ]))
          clear hS
          refine late_run hd (L := [15]) (by kernel_rfl) (by decide) (fun ix hix hd2 => ?_)
          clear hd
          have hd := hd2
          clear hd2
          simp only [List.mem_cons, List.not_mem_nil, or_false] at hix
          subst hix
          refine late_do (S := (fun X : World => X.cell? ⟨z1, 0, none⟩ = some (.int .i64 (a : Int)) ∧ X.cell? ⟨z1, 1, none⟩ = some (.slice (some ⟨gb, go, none⟩) 2 bc) ∧ X.cell? ⟨gb, go + 3, none⟩ = some (.int .i64 (c : Int)) ∧ X.cell? ⟨u, c, none⟩ = some (.slice A1 n1 c1))) (late := lateFrom 18) rfl rfl (fun K hK => ?_)
          go_simp
          refine hK _ _ (fun _ _ => hSA) ?_
          clear hK K
          (try simp only [Act.put, List.getElem_toArray, List.getElem_cons_succ, List.getElem_cons_zero, List.setIfInBounds_toArray, List.set_cons_zero, List.set_cons_succ])
          refine late_run hd (L := [16]) (by kernel_rfl) (by decide) (fun ix hix hd2 => ?_)
          clear hd
          have hd := hd2
          clear hd2
          simp only [List.mem_cons, List.not_mem_nil, or_false] at hix
          subst hix
          refine late_do (S := (fun X : World => X.cell? ⟨z1, 0, none⟩ = some (.int .i64 (a : Int)) ∧ X.cell? ⟨z1, 1, none⟩ = some (.slice (some ⟨gb, go, none⟩) 2 bc) ∧ X.cell? ⟨gb, go + 3, none⟩ = some (.int .i64 (c : Int)) ∧ X.cell? ⟨u, c, none⟩ = some (.slice A1 n1 c1))) (late := lateFrom 18) rfl rfl (fun K hK => ?_)
          refine do_append _ _ _ rfl rfl rfl happ ?_
          refine hK _ _ (fun _ _ => hSW) ?_
          clear hK K happ
          (try simp only [Act.put, List.getElem_toArray, List.getElem_cons_succ, List.getElem_cons_zero, List.setIfInBounds_toArray, List.set_cons_zero, List.set_cons_succ])
          have hS := hSW
          (refine late_takeA (i := 17) rfl hd hS ?_; clear hd; intro hd; (try simp only [Act.put, List.getElem_toArray, List.getElem_cons_succ, List.getElem_cons_zero, List.setIfInBounds_toArray, List.set_cons_zero, List.set_cons_succ]))
          clear hS
          refine late_run hd (L := [18]) (by kernel_rfl) (by decide) (fun ix hix hd2 => ?_)
          clear hd
          have hd := hd2
          clear hd2
          simp only [List.mem_cons, List.not_mem_nil, or_false] at hix
          subst hix
          refine late_do (S := (fun X : World => X.cell? ⟨z1, 0, none⟩ = some (.int .i64 (a : Int)) ∧ X.cell? ⟨z1, 1, none⟩ = some (.slice (some ⟨gb, go, none⟩) 2 bc) ∧ X.cell? ⟨gb, go + 3, none⟩ = some (.int .i64 (c : Int)) ∧ X.cell? ⟨u, c, none⟩ = some (.slice A1 n1 c1))) (late := lateFrom 18) rfl rfl (fun K hK => ?_)
          go_simp
          refine hK _ _ (fun h _ => absurd h (by decide)) ?_
          clear hK K
          (try simp only [Act.put, List.getElem_toArray, List.getElem_cons_succ, List.getElem_cons_zero, List.setIfInBounds_toArray, List.set_cons_zero, List.set_cons_succ])
          refine late_done (by kernel_rfl) ?_
          clear qu2 fu2 hSA hSW
          generalize W2.setCell ⟨u, c, none⟩ (.slice A2 n2 c2) = W5 at HNEW ⊢
          have FIN := Lib.hid (show Lp1M w F p n nts pw pm u PV (ElG G labels) (t + 1) W5 from by
            have hM5 := HNEW.out.1
            rw [← HQ1.out, use_two HT.out.2.2.2 rfl hbc] at hM5
            exact ⟨B, L, hM5.bare, HT.out.2.2.1.two HT.out.2.2.2 rfl⟩)
          clear HNEW
          go_wp2
          go_roundw
          case rel => exact ⟨t + 1, by omega, by go_num, FIN⟩
          case measure => simp [intOf]; omega
      · exfalso
        have := hok.few
        simp at this
      -- REST
    · obtain rfl : t = m := by omega
      obtain ⟨B0, L0, hM0, hL10⟩ := hq.out
      have hE0 : FiI (PV.map (·.pr)) (ElG G labels) n nts B0 L0 (fun _ => True) := (show Lp1 PV (ElG G labels) n nts PV.length B0 L0 from by rw [HM.out]; exact hL10).end_ HI.out.1.sh
      have hM0 : FilM w wr F p n nts pw pm u NoX B0 L0 (useL PV PV.length) := by rw [HM.out]; exact hM0
      have H0 := Lib.hid (show ∃ B L, FilM w wr F p n nts pw pm u NoX B L (useL PV PV.length) ∧ FiI (PV.map (·.pr)) (ElG G labels) n nts B L (fun _ => True) ∧ 2 * miss B nts + L.length ≤ 2 * miss B0 nts + L0.length from ⟨B0, L0, hM0, hE0, Nat.le_refl _⟩)
      generalize 2 * miss B0 nts + L0.length = N0 at H0
      clear hq hM0 hL10 hE0
      go_wp2
      go_loopg [] N0 (fun k wr => Hid (∃ B L, FilM w wr F p n nts pw pm u NoX B L (useL PV PV.length) ∧ FiI (PV.map (·.pr)) (ElG G labels) n nts B L (fun _ => True) ∧ 2 * miss B nts + L.length ≤ k))
      case atStart => exact H0
      case round =>
        clear H0
        obtain ⟨B, L, hM, hFi, hle⟩ := hrel.out
        obtain ⟨lv, hwk, hwork⟩ := hM.work
        have hlen := chlen_any wr pw lv _ L hwk.ch
        have hL5 := hwk.len
        by_cases hL0 : 0 < L.length
        · have hpop := hpop_any wr pw lv _ L hwk.ch hwk.np (by omega) hL0
          obtain ⟨nl, hnl⟩ : ∃ nl, L.length = nl := ⟨_, rfl⟩
          rw [hnl] at hlen
          have hlI : (0 : Int) < (nl : Int) := by omega
          have HW := Lib.hid (And.intro hwork (And.intro hwk (And.intro hFi hle)))
          clear hM hwork hwk hFi hle hrel hL5 hL0 hnl
          go_wp2_with fail
          refine hlen.mono ?_
          clear hlen
          rintro e VL ⟨rfl, hw⟩
          subst VL
          unfold chV at hpop
          go_wp2_with fail
          refine hpop.mono ?_
          clear hpop
          rintro e V1 ⟨x, rfl, htt⟩
          obtain ⟨k, rfl, hk, q1, ⟨bb, qm⟩, fm, hwt⟩ := HW.out.2.1.pop htt
          obtain ⟨⟨L', hPm, hM2⟩, -, -⟩ := HW.out.1 _ _ hwt
          have hkI : (k : Int) < (nts : Int) := by omega
          have h3 := Lp3.begin HW.out.2.2.1 HW.out.2.2.2 hPm
          obtain ⟨A, c, qu, -, -⟩ := hM2.use hk
          have H3 := Lib.hid (And.intro hM2 (And.intro h3 qu))
          clear hM2 h3 htt hwt hPm HW
          have hta := fun T => ta_int (k : Int) T V1
          go_upto_region 17 with (fail)
          clear q1 qm fm hta
          generalize V1.setCell ⟨pm, k, none⟩ (.bool false) = V2 at H3 qu ⊢
          obtain ⟨ml, hml⟩ : ∃ ml, (useL PV PV.length k).length = ml := ⟨_, rfl⟩
          rw [hml] at qu
          have HML := Lib.hid hml
          have hm8 : ml ≤ 8192 := by have := useL_len PV PV.length k; have := HM.out; omega
          clear hml
          go_wp2
          clear qu
          go_loopw [112] (fun i wz => ∃ t : Nat, t ≤ ml ∧ i = .int .i64 (t : Int) ∧ Hid (∃ B L, FilM w wz F p n nts pw pm u NoX B L (useL PV PV.length) ∧ Lp3 PV (ElG G labels) n nts k t B L gk ∧ wz.cell? ⟨u, k, none⟩ = some (.slice A (useL PV PV.length k).length c))) (fun i _ => ml - (intOf i).toNat)
          case atStart => exact ⟨0, Nat.zero_le _, rfl, Lib.hid ⟨B, L', H3.out⟩⟩
          case round =>
            obtain ⟨t, ht, rfl, hq⟩ := hrel
            clear H3
            by_cases hlt : t < ml
            · have htI : (t : Int) < (ml : Int) := by omega
              obtain ⟨B, L, hM, h3, hu⟩ := hq.out
              obtain ⟨v, hv⟩ : ∃ v, (useL PV PV.length k)[t]? = some v := ⟨_, List.getElem?_eq_getElem (by rw [HML.out]; exact hlt)⟩
              obtain ⟨hvm, hnm⟩ := useL_mem (List.mem_of_getElem? hv)
              obtain ⟨⟨la, sb⟩, ⟨lb, sc⟩, hbd, -⟩ := names_two hnm
              have hok := HI.out.1.sh v hvm
              have hB := hM.base HI.out.2.1 HI.out.2.2
              obtain ⟨A', c', hu', -, hrw⟩ := hM.use hk
              rw [hu] at hu'
              injection hu' with hu'
              injection hu' with hA' _ hc'
              subst hA'
              subst hc'
              obtain ⟨pb, po, rfl, c0, c1⟩ := hrw.pv hv
              have hg2 := hok.g.two _ _ hbd
              have hg0 := hok.g.h0
              have hg1 := hok.g.h1
              have hrow := (HI.out.1.pv.2 _ hvm).below3 hB
              obtain ⟨⟨hd, bd⟩, bA, bc⟩ := v
              dsimp only at hbd hg0 hg1 hg2 hrow c0 c1
              subst hbd
              obtain ⟨qa, rfl⟩ : ∃ b : Nat, hd = (b : Int) := ⟨hd.toNat, by omega⟩
              obtain ⟨qb, rfl⟩ : ∃ b : Nat, sb = (b : Int) := ⟨sb.toNat, by omega⟩
              obtain ⟨qc, rfl⟩ : ∃ c : Nat, sc = (c : Int) := ⟨sc.toNat, by omega⟩
              have ha : qa < nts := by omega
              have hb : qb < nts := by omega
              have hc : qc < nts := by omega
              have c1 : wr.cell? ⟨pb, po + t * 2 + 1, none⟩ = some (.slice bA 2 bc) := c1
              have kb := Blk.new wr 71 #[.int .i64 (qa : Int), .slice bA 2 bc]
              have b1 : Below wr.heap.size wr (wr.alloc (.cells #[.int .i64 (qa : Int), .slice bA 2 bc] 71)) := (Below.refl _ _).alloc (Nat.le_refl _) _
              have hB1 := hB.trans (b1.mono hB.size)
              obtain ⟨FC, hcl, hturn⟩ := (hM.box (.cells #[.int .i64 (qa : Int), .slice bA 2 bc] 71)).turn
              have hcon := next_any (wr.alloc (.cells #[.int .i64 (qa : Int), .slice bA 2 bc] 71)) FC p n n nts B hcl qa qb qc la lb bA bc (hrow.below3 b1) ha hb hc q5 HN64.out (HI.out.1.tab.upd (Upd.of_below hB1 (fun _ => False)) HI.out.1.htab id) (Nat.lt_of_lt_of_le HI.out.1.htab hB1.size) (h3.1.fit HEL.out hb hc)
              have e0 : (wr.alloc (.cells #[.int .i64 (qa : Int), .slice bA 2 bc] 71)).cell? ⟨wr.heap.size, 0, none⟩ = some (.int .i64 (qa : Int)) := kb.cell 0
              have e1 : (wr.alloc (.cells #[.int .i64 (qa : Int), .slice bA 2 bc] 71)).cell? ⟨wr.heap.size, 1, none⟩ = some (.slice bA 2 bc) := kb.cell 1
              have HT := Lib.hid (And.intro hturn (And.intro e0 (And.intro (cell_keep b1 hu) (And.intro h3 hv))))
              clear hM h3 hu hv hvm hnm hok hB hrw hg2 hg0 hg1 hrow kb b1 hB1 hcl hturn hq
              go_wp2_with fail
              refine hcon.mono ?_
              clear hcon e0 e1 c0 c1
              rintro e V3 ⟨he, hto⟩
              obtain ⟨hM3, hu3, hX3⟩ := HT.out.1 _ V3 hto
              have c30 : V3.cell? ⟨wr.heap.size, 0, none⟩ = some (.int .i64 (qa : Int)) := (hX3 _ 0 rfl).trans HT.out.2.1
              cases hmo : moreQ (B qa) (mulO (B qb) (B qc))
              · rw [hmo] at he
                subst he
                have FIN := Lib.hid (show ∃ B L, FilM w V3 F p n nts pw pm u NoX B L (useL PV PV.length) ∧ Lp3 PV (ElG G labels) n nts k (t + 1) B L gk ∧ V3.cell? ⟨u, k, none⟩ = some (.slice (some ⟨pb, po, none⟩) (useL PV PV.length k).length c) from by
                  have hs := HT.out.2.2.2.1.step HI.out.1.sh HT.out.2.2.2.2 rfl (L' := L) (by
                    dsimp only
                    rw [Int.toNat_natCast, Int.toNat_natCast, Int.toNat_natCast, if_neg (by rw [hmo]; exact nofun)])
                  dsimp only at hs
                  rw [Int.toNat_natCast, Int.toNat_natCast, Int.toNat_natCast] at hs
                  exact ⟨_, L, hM3.bare, hs, (hu3 k).trans HT.out.2.2.1⟩)
                clear hM3 hu3 hX3 hto hmo c30
                go_wp2
                go_roundw
                case rel => exact ⟨t + 1, by omega, by go_num, FIN⟩
                case measure => simp [intOf]; omega
              · rw [hmo] at he
                subst he
                obtain ⟨lv, hwk, hwork⟩ := hM3.work
                have hput := wput_any V3 pw pm nts lv L hwk q5 qa ha
                have HW := Lib.hid (And.intro hwork (And.intro hmo (fun o => (hu3 o))))
                clear hM3 hu3 hX3 hto hmo hwk hwork
                go_wp2_with fail
                refine hput.mono ?_
                clear hput c30
                rintro e V4 ⟨rfl, hwt⟩
                obtain ⟨⟨L', hPu, hM4⟩, hu4, -⟩ := HW.out.1 _ _ hwt
                have FIN := Lib.hid (show ∃ B L, FilM w V4 F p n nts pw pm u NoX B L (useL PV PV.length) ∧ Lp3 PV (ElG G labels) n nts k (t + 1) B L gk ∧ V4.cell? ⟨u, k, none⟩ = some (.slice (some ⟨pb, po, none⟩) (useL PV PV.length k).length c) from by
                  have hs := HT.out.2.2.2.1.step HI.out.1.sh HT.out.2.2.2.2 rfl (L' := L') (by
                    dsimp only
                    rw [Int.toNat_natCast, Int.toNat_natCast, Int.toNat_natCast, if_pos HW.out.2.1]
                    exact hPu)
                  dsimp only at hs
                  rw [Int.toNat_natCast, Int.toNat_natCast, Int.toNat_natCast] at hs
                  exact ⟨_, L', hM4.bare, hs, (hu4 k).trans ((HW.out.2.2 k).trans HT.out.2.2.1)⟩)
                clear hM4 hu4 hPu hwt
                go_wp2
                go_roundw
                case rel => exact ⟨t + 1, by omega, by go_num, FIN⟩
                case measure => simp [intOf]; omega
            · obtain rfl : t = ml := by omega
              obtain ⟨B3, L3, hM3, hl3, -⟩ := hq.out
              have H4 := Lib.hid (show ∃ B L, FilM w wr F p n nts pw pm u NoX B L (useL PV PV.length) ∧ FiI (PV.map (·.pr)) (ElG G labels) n nts B L (fun _ => True) ∧ 2 * miss B nts + L.length ≤ 2 * miss B3 nts + L3.length from ⟨B3, L3, hM3, (show Lp3 PV (ElG G labels) n nts k (useL PV PV.length k).length B3 L3 gk from by rw [HML.out]; exact hl3).end_, Nat.le_refl _⟩)
              have hlt3 := hl3.2
              generalize 2 * miss B3 nts + L3.length = g3 at H4 hlt3
              clear hM3 hl3 hq
              go_wp2
              go_roundg g3
              case rel => exact H4
              case measure => omega
        · have hnil : L = [] := List.eq_nil_of_length_eq_zero (by omega)
          subst hnil
          have FIN := Lib.hid (show FillQ w F p n nts PV labels G wr from by
            obtain ⟨FC, lv, U, uv, hs⟩ := hM
            exact ⟨B, fun k hk i j => hFi.done hk, hFi.wd, FC, hs.cl, hs.up, hs.c1⟩)
          clear hM hwork hwk hFi hle hrel hL5 hL0
          have hlen : Calls Tryz.prog 113 #[.pointer (some ⟨pw, 0, none⟩)] wr (Only wr (.int .i64 0)) := hlen
          go_wp2_with fail
          refine hlen.mono ?_
          clear hlen
          rintro e VL ⟨rfl, hw⟩
          subst VL
          go_wp2
          exact bodyPost_end (results_none rfl _ _ _) rfl ⟨rfl, FIN.out⟩
end Go.Proofs.YtddffnonlmfhdaaGreatDoor
namespace Go.Proofs.YtddffnonlmfhdaaGreatDoor
open Go.RowKit Go.Shelf
def achkI (nts : Int) (PV : List Pv) (labels : List Txt) : Int :=
  if 16 < labels.length ∨ nts < 1 ∨ 512 < nts ∨ 8192 < PV.length then 2 else if upB ltT labels = true ∧ ∀ v ∈ PV, shapeOf v.pr nts labels.length = true then 0 else 2
set_option maxHeartbeats 4000000 in
set_option maxRecDepth 20000 in
theorem acheck_any (w : World) (nts : Int) (PA : Option Addr) (pc : Nat) (PV : List Pv) (hP : PvR w PA PV) (LA : Option Addr) (cl : Nat) (labels : List Txt) (hlab : RowR w LA (txtCells labels)) :
    Calls Tryz.prog 26 #[.agg #[.int .i64 nts, .slice PA PV.length pc], .slice LA labels.length cl] w (Sam w (.int .i64 (achkI nts PV labels))) := by
  obtain ⟨m, hm⟩ : ∃ m, PV.length = m := ⟨_, rfl⟩
  obtain ⟨l, hl⟩ : ∃ l, labels.length = l := ⟨_, rfl⟩
  have b1 : Below w.heap.size w (w.alloc (.cells #[.int .i64 nts, .slice PA m pc] 50)) := (Below.refl _ _).alloc (Nat.le_refl _) _
  have k1 := Blk.new w 50 #[.int .i64 nts, .slice PA m pc]
  have q0 : (w.alloc (.cells #[.int .i64 nts, .slice PA m pc] 50)).cell? ⟨w.heap.size, 0, none⟩ = some (.int .i64 nts) := k1.cell 0
  have q1 : (w.alloc (.cells #[.int .i64 nts, .slice PA m pc] 50)).cell? ⟨w.heap.size, 1, none⟩ = some (.slice PA m pc) := k1.cell 1
  have hv : achkI nts PV labels = if 16 < l ∨ nts < 1 ∨ 512 < nts ∨ 8192 < m then 2 else if upB ltT labels = true ∧ ∀ v ∈ PV, shapeOf v.pr nts l = true then 0 else 2 := by
    unfold achkI
    rw [hm, hl]
  rw [hm, hl]
  have HM := Lib.hid (And.intro hm hl)
  have H := Lib.hid (And.intro b1 (And.intro k1 (And.intro hP hlab)))
  have HV := Lib.hid hv
  clear b1 k1 hP hlab hm hl hv
  by_cases h1 : 16 < l
  · have FIN := Lib.hid (show achkI nts PV labels = 2 from by rw [HV.out, if_pos (.inl h1)])
    have h1I : (16 : Int) < (l : Int) := by omega
    go_enter Tryz.func26, Tryz.ntmps26
    go_wp2
    go_ret
    exact ⟨by rw [FIN.out]; rfl, H.out.1⟩
  · have h1I : ¬ (16 : Int) < (l : Int) := by omega
    by_cases h2 : nts < 1
    · have FIN := Lib.hid (show achkI nts PV labels = 2 from by rw [HV.out, if_pos (.inr (.inl h2))])
      go_enter Tryz.func26, Tryz.ntmps26
      go_wp2
      go_ret
      exact ⟨by rw [FIN.out]; rfl, H.out.1⟩
    · by_cases h3 : 512 < nts
      · have FIN := Lib.hid (show achkI nts PV labels = 2 from by rw [HV.out, if_pos (.inr (.inr (.inl h3)))])
        go_enter Tryz.func26, Tryz.ntmps26
        go_wp2
        go_ret
        exact ⟨by rw [FIN.out]; rfl, H.out.1⟩
      · by_cases h4 : 8192 < m
        · have FIN := Lib.hid (show achkI nts PV labels = 2 from by rw [HV.out, if_pos (.inr (.inr (.inr h4)))])
          have h4I : (8192 : Int) < (m : Int) := by omega
          go_enter Tryz.func26, Tryz.ntmps26
          go_wp2
          go_ret
          exact ⟨by rw [FIN.out]; rfl, H.out.1⟩
        · have h4I : ¬ (8192 : Int) < (m : Int) := by omega
          have HV2 := Lib.hid (show achkI nts PV labels = if upB ltT labels = true ∧ ∀ v ∈ PV, shapeOf v.pr nts l = true then 0 else 2 from by rw [HV.out, if_neg (by omega)])
          clear HV
          go_enter Tryz.func26, Tryz.ntmps26
          go_wp2
          generalize w.alloc (.cells #[.int .i64 nts, .slice PA m pc] 50) = W1 at H q0 q1 ⊢
          clear q0 q1
          go_loopw [5] (fun i wr => ∃ k : Nat, (k ≤ l ∧ i = .int .i64 ((k : Int) + 1)) ∧ Hid (Below W1.heap.size W1 wr) ∧ Hid (∀ j, j < k → ∀ a b, labels[j]? = some a → labels[j + 1]? = some b → ltT a b = true)) (fun i _ => l + 1 - (intOf i).toNat)
          case atStart => exact ⟨0, ⟨Nat.zero_le _, rfl⟩, Lib.hid (Below.refl _ _), Lib.hid (fun j hj => by omega)⟩
          case round =>
            obtain ⟨k, ⟨hk, rfl⟩, hb, hall⟩ := hrel
            by_cases hlt : k + 1 < l
            · have hkw : IntKind.i64.wrap (k : Int) = (k : Int) := IntWalk.i64_in _ (by omega)
              have hkw1 : IntKind.i64.wrap ((k : Int) + 1 - 1) = (k : Int) := by rw [IntWalk.i64_in _ (by omega)]; omega
              have hkw2 : IntKind.i64.wrap ((k : Int) + 1 + 1) = (k : Int) + 1 + 1 := IntWalk.i64_in _ (by omega)
              have hltI : (k : Int) + 1 < (l : Int) := by omega
              have hltI2 : (k : Int) < (l : Int) := by omega
              have ht : ((k : Int) + 1).toNat = k + 1 := by omega
              have hn0 : (0 : Int) ≤ (k : Int) + 1 := by omega
              have h0 := (H.out.2.2.2.below3 H.out.1).below3 (hb.out)
              obtain ⟨x, hx⟩ : ∃ x, labels[k]? = some x := ⟨_, List.getElem?_eq_getElem (by rw [HM.out.2]; omega)⟩
              obtain ⟨y, hy⟩ : ∃ y, labels[k + 1]? = some y := ⟨_, List.getElem?_eq_getElem (by rw [HM.out.2]; omega)⟩
              obtain ⟨ab, ao, rfl, x0⟩ := h0.txt hx
              obtain ⟨_, _, e1, y0⟩ := h0.txt hy
              injection e1 with e1; injection e1 with e1 e2; subst e1; subst e2
              have HXY := Lib.hid (And.intro hx hy)
              clear h0 hx hy
              go_upto_region 6 with (fail)
              refine wp_region_ord (fun w' => w'.cell? ⟨ab, ao + k, none⟩ = some (.string x) ∧ w'.cell? ⟨ab, ao + (k + 1), none⟩ = some (.string y)) 11 [(0, true), (1, true), (2, true), (3, true), (4, true), (5, true), (6, true), (7, true), (8, true), (9, false), (10, true)] (by kernel_rfl) (by kernel_rfl) (fun _ _ d _ _ h => by cases d <;> exact h) ⟨x0, y0⟩ ?_
              iterate 9 (refine ord_takeA rfl ?_; (try simp only [Act.put, List.getElem_toArray, List.getElem_cons_succ, List.getElem_cons_zero, List.setIfInBounds_toArray, List.set_cons_zero, List.set_cons_succ]))
              refine ord_do rfl rfl (fun K hK => ?_)
              go_simp
              refine (compare_any x y _).mono ?_
              rintro e w2 ⟨rfl, rfl⟩
              have b2 : Below wr.heap.size wr wr.drew := (Below.refl _ _).drew
              have hcmp := cmpT_lt x y
              obtain ⟨v, hv⟩ : ∃ v, cmpT x y = v := ⟨_, rfl⟩
              rw [hv] at hcmp ⊢
              clear hv
              refine hK _ _ (fun _ => ⟨x0, y0⟩) ?_
              clear hK K
              (try simp only [Act.put, List.getElem_toArray, List.getElem_cons_succ, List.getElem_cons_zero, List.setIfInBounds_toArray, List.set_cons_zero, List.set_cons_succ])
              have HB := Lib.hid (hb.out.trans (b2.mono hb.out.size))
              have HC := Lib.hid hcmp
              clear hcmp b2
              by_cases hv : v < 0
              · have hv1 : decide (0 ≤ v) = false := by simpa using hv
                have hlt2 : ltT x y = true := by rw [← HC.out]; simpa using hv
                have HL := Lib.hid hlt2
                clear hlt2
                (refine ord_takeA rfl ?_; (try simp only [Act.put, List.getElem_toArray, List.getElem_cons_succ, List.getElem_cons_zero, List.setIfInBounds_toArray, List.set_cons_zero, List.set_cons_succ]))
                refine ord_done ?_
                go_wp2
                go_roundw
                case rel => exact ⟨k + 1, ⟨by omega, by go_num⟩, HB, Lib.hid (fun j hj a b ha hb => by
                  rcases Nat.lt_succ_iff_lt_or_eq.1 hj with h | rfl
                  · exact hall.out j h a b ha hb
                  · rw [HXY.out.1] at ha
                    rw [HXY.out.2] at hb
                    injection ha with ha
                    injection hb with hb
                    subst ha; subst hb
                    exact HL.out)⟩
                case measure => simp [intOf]; omega
              · have hv1 : decide (0 ≤ v) = true := by simpa using hv
                have hlt2 : ltT x y = false := by rw [← HC.out]; simpa using hv
                have FIN := Lib.hid (show achkI nts PV labels = 2 from by
                  rw [HV2.out, if_neg]
                  intro h
                  rw [up_false HXY.out.1 HXY.out.2 hlt2] at h
                  cases h.1)
                clear hlt2
                (refine ord_takeA rfl ?_; (try simp only [Act.put, List.getElem_toArray, List.getElem_cons_succ, List.getElem_cons_zero, List.setIfInBounds_toArray, List.set_cons_zero, List.set_cons_succ]))
                refine ord_done ?_
                go_wp2
                go_ret
                exact ⟨by rw [FIN.out]; rfl, H.out.1.trans (HB.out.mono H.out.1.size)⟩
            · have hgeI : (l : Int) ≤ (k : Int) + 1 := by omega
              have HUP := Lib.hid (show upB ltT labels = true from (upB_iff labels).2 (fun i a b ha hb' => by
                have := (List.getElem?_eq_some_iff.1 hb').1
                have := HM.out.2
                exact hall.out i (by omega) a b ha hb'))
              have k2 := H.out.2.1.upd (Upd.of_below hb.out (fun _ => False)) id
              have q0 : wr.cell? ⟨w.heap.size, 0, none⟩ = some (.int .i64 nts) := k2.cell 0
              have q1 : wr.cell? ⟨w.heap.size, 1, none⟩ = some (.slice PA m pc) := k2.cell 1
              have HB0 := Lib.hid hb.out
              clear k2 hall hb
              go_wp2
              generalize wr = W2 at HB0 q0 q1 ⊢
              clear q1
              go_loopw [47] (fun i wz => ∃ t : Nat, t ≤ m ∧ i = .int .i64 (t : Int) ∧ Hid (Below W2.heap.size W2 wz) ∧ Hid (∀ j, j < t → ∀ v, PV[j]? = some v → shapeOf v.pr nts l = true)) (fun i _ => m - (intOf i).toNat)
              case atStart => exact ⟨0, Nat.zero_le _, rfl, Lib.hid (Below.refl _ _), Lib.hid (fun j hj => by omega)⟩
              case round =>
                obtain ⟨t, ht, rfl, hb, hall⟩ := hrel
                have bw := H.out.1.trans ((HB0.out.trans (hb.out.mono HB0.out.size)).mono H.out.1.size)
                clear q0
                by_cases hlt2 : t < m
                · have htI : (t : Int) < (m : Int) := by omega
                  obtain ⟨v, hv⟩ : ∃ v, PV[t]? = some v := ⟨_, List.getElem?_eq_getElem (by rw [HM.out.1]; omega)⟩
                  have hp := H.out.2.2.1.below bw
                  obtain ⟨pb, po, rfl, c0, c1⟩ := hp.1.pv hv
                  have hrow := hp.2 v (List.mem_of_getElem? hv)
                  have q0 : wr.cell? ⟨w.heap.size, 0, none⟩ = some (.int .i64 nts) := (H.out.2.1.upd (Upd.of_below (HB0.out.trans (hb.out.mono HB0.out.size)) (fun _ => False)) id).cell 0
                  have b1 : Below wr.heap.size wr (wr.alloc (.cells #[.int .i64 v.pr.head, .slice v.adr v.pr.body.length v.cap] 71)) := (Below.refl _ _).alloc (Nat.le_refl _) _
                  have kb := Blk.new wr 71 #[.int .i64 v.pr.head, .slice v.adr v.pr.body.length v.cap]
                  have e0 : (wr.alloc (.cells #[.int .i64 v.pr.head, .slice v.adr v.pr.body.length v.cap] 71)).cell? ⟨wr.heap.size, 0, none⟩ = some (.int .i64 v.pr.head) := kb.cell 0
                  have e1 : (wr.alloc (.cells #[.int .i64 v.pr.head, .slice v.adr v.pr.body.length v.cap] 71)).cell? ⟨wr.heap.size, 1, none⟩ = some (.slice v.adr v.pr.body.length v.cap) := kb.cell 1
                  have q01 := cell_keep b1 q0
                  have hcon := shape_any (wr.alloc (.cells #[.int .i64 v.pr.head, .slice v.adr v.pr.body.length v.cap] 71)) v.pr v.adr v.cap (hrow.below3 b1) nts (l : Int)
                  have HX := Lib.hid (And.intro hv (And.intro b1 bw))
                  clear hv hp hrow b1 kb bw q0
                  generalize v.pr.body.length = vl at *
                  go_wp2_with fail
                  refine hcon.mono ?_
                  clear hcon c0 c1 e0 e1 q01
                  rintro e V2 ⟨he, b2⟩
                  have HB5 := Lib.hid (HX.out.2.1.trans (b2.mono HX.out.2.1.size))
                  cases hsh : shapeOf v.pr nts (l : Int)
                  · rw [hsh] at he
                    subst he
                    have FIN := Lib.hid (show achkI nts PV labels = 2 from by
                      rw [HV2.out, if_neg]
                      intro h
                      rw [h.2 v (List.mem_of_getElem? HX.out.1)] at hsh
                      cases hsh)
                    clear b2 hsh
                    go_wp2
                    go_ret
                    exact ⟨by rw [FIN.out]; rfl, HX.out.2.2.trans (HB5.out.mono HX.out.2.2.size)⟩
                  · rw [hsh] at he
                    subst he
                    have FIN := Lib.hid (And.intro (hb.out.trans (HB5.out.mono hb.out.size)) hsh)
                    clear b2 hsh
                    go_wp2
                    go_roundw
                    case rel => exact ⟨t + 1, by omega, by go_num, Lib.hid FIN.out.1, Lib.hid (fun j hj v' hv' => by
                      rcases Nat.lt_succ_iff_lt_or_eq.1 hj with h | rfl
                      · exact hall.out j h v' hv'
                      · rw [HX.out.1] at hv'
                        obtain rfl := Option.some.inj hv'
                        exact FIN.out.2)⟩
                    case measure => simp [intOf]; omega
                · have FIN := Lib.hid (show achkI nts PV labels = 0 from by
                    exact (HV2.out).trans (if_pos ⟨HUP.out, fun v hv => by
                          obtain ⟨j, hj⟩ := List.getElem?_of_mem hv
                          have := (List.getElem?_eq_some_iff.1 hj).1
                          have := HM.out.1
                          exact hall.out j (by omega) v hj⟩))
                  have HBW := Lib.hid bw
                  clear bw hall hb
                  go_wp2
                  go_ret
                  exact ⟨by rw [FIN.out]; rfl, HBW.out⟩
end Go.Proofs.YtddffnonlmfhdaaGreatDoor
namespace Go.Proofs.YtddffnonlmfhdaaGreatDoor
open Go.RowKit Go.Shelf
set_option maxHeartbeats 4000000 in
set_option maxRecDepth 20000 in
theorem there_any (w : World) (Fg : Nat → Prop) (pg : Nat) (G : Gr) (h : GrS w Fg pg G) (ok : GOk G) (h1 : G.N.length ≤ 1) : Calls Tryz.prog 69 #[.pointer (some ⟨pg, 0, none⟩)] w (Sam w (.bool true)) := by
  have hcon := matrix_gr w Fg pg G h ok ByteArray.empty 1 h1 (Nat.le_refl _) (by omega)
  clear h ok h1
  go_enter Tryz.func69, Tryz.ntmps69
  go_wp2_with fail
  refine hcon.mono ?_
  clear hcon
  rintro e W1 ⟨q, b, rfl, -, hb, -⟩
  have HB := Lib.hid hb
  clear hb
  go_wp2
  go_ret
  exact ⟨rfl, HB.out⟩
theorem info_mat : (Tryz.prog.info? 121).map (fun i => (i.zero, i.size, i.bytes)) = some (some (.pointer none), 1, 8) := by kernel_rfl
def upA (ad : Nat → Nat) (t q : Nat) : Nat → Nat := fun k => if k = t then q else ad k
theorem ptC_grow (ad : Nat → Nat) (t q : Nat) : ptC ad t ++ [.pointer (some ⟨q, 0, none⟩)] = ptC (upA ad t q) (t + 1) := by
  unfold ptC
  rw [List.range_succ, List.map_append]
  congr 1
  · refine List.map_congr_left (fun k hk => ?_)
    have := List.mem_range.1 hk
    simp only [upA]
    rw [if_neg (by omega)]
  · simp [upA]
open Classical in
set_option maxRecDepth 20000 in
theorem ClS.grow {w : World} {F Fq : Nat → Prop} {p side nodes t q : Nat} (h : ClS w F p side nodes t (fun _ => none)) (hq : QuS w Fq q side none) (hd : ∀ k, Fq k → ¬ F k) (ht : t ≤ 512) :
    ∃ A c A' c' W2, w.cell? ⟨p, 1, none⟩ = some (.slice A t c) ∧ (Builtin.append_ #[136, 136] 136 #[.slice A t c, .slice (some ⟨w.heap.size, 0, none⟩) 1 1]).run Tryz.prog (w.alloc (.cells #[.pointer (some ⟨q, 0, none⟩)] 121)) = .ok (.slice A' (t + 1) c') W2 ∧
      W2.cell? ⟨p, 1, none⟩ = some (.slice A t c) ∧ W2.frozen? ⟨p, 1, none⟩ = false ∧ (∃ F', ClS (W2.setCell ⟨p, 1, none⟩ (.slice A' (t + 1) c')) F' p side nodes (t + 1) (fun _ => none) ∧ ∀ k, F' k → F k ∨ Fq k ∨ w.heap.size ≤ k) ∧ Upd F w (W2.setCell ⟨p, 1, none⟩ (.slice A' (t + 1) c')) := by
  obtain ⟨O, pv, ad, hi, rfl⟩ := h
  obtain ⟨A, c, rfl, -, -⟩ := own_form hi.rows
  obtain ⟨v2, W2, happ, own2, u2, p2⟩ := push_own w 0 136 121 1 8 _ Tryz.underlying136 info_mat rfl (by decide) (.slice A t c) t (ptC ad t) hi.rows [.pointer (some ⟨q, 0, none⟩)] 1 rfl (fun x hx => by rw [List.mem_singleton.1 hx]; rfl) (by omega) (by unfold maxLen; omega) (Nat.zero_le _)
  obtain ⟨A', c', rfl, -, -⟩ := own_form own2
  have hrow : ∀ k, (Value.slice A t c).ownBlock = some k → O k = some .row := hi.orow
  have hb2 := hi.blk.upd u2 (fun e => by have := hrow _ e; rw [hi.op] at this; cases this)
  have u3 : Upd (fun k => (Value.slice A t c).ownBlock = some k ∨ k = p) w (W2.setCell ⟨p, 1, none⟩ (.slice A' (t + 1) c')) := (u2.mono (fun _ _ e => .inl e)).setCell (p := ⟨p, 1, none⟩) (.inl (.inr rfl)) _
  have hUF : ∀ k, ((Value.slice A t c).ownBlock = some k ∨ k = p) → O k ≠ none := fun k hk => hk.elim (fun e => by rw [hrow k e]; exact nofun) (fun e => by rw [e, hi.op]; exact nofun)
  have hnp : ∀ k, (Value.slice A' (t + 1) c').ownBlock = some k → ¬ k = p := fun k hk e => by
    subst e
    rcases p2 k hk with h1 | h1
    · have := hrow k h1; rw [hi.op] at this; cases this
    · have := hi.blk.lt; omega
  have hlt2 := own2.lt
  have hqlt := hq.lt
  refine ⟨A, c, A', c', W2, hi.blk.cell 1, happ, hb2.cell 1, hb2.frozen 1, ⟨_, ⟨fun k => if k < w.heap.size then (if O k ≠ none then O k else if Fq k then some (.mat t) else none) else if (Value.slice A' (t + 1) c').ownBlock = some k then some .row else none, .slice A' (t + 1) c', upA ad t q, ⟨hb2.set 1 _, ?_, ?_, ?_, ?_, ?_⟩, rfl⟩, ?_⟩, u3.mono (fun k _ hk => hUF k hk)⟩
  · rw [← ptC_grow]
    exact ownsRow_upd own2 ((Upd.refl (fun k => k = p) W2).setCell (p := ⟨p, 1, none⟩) (.inl rfl) (.slice A' (t + 1) c')) hnp
  · show (if p < w.heap.size then (if O p ≠ none then O p else _) else _) = _
    rw [if_pos hi.blk.lt, if_pos (by rw [hi.op]; exact nofun)]; exact hi.op
  · intro k hk
    show (if k < w.heap.size then (if O k ≠ none then O k else _) else _) = _
    rcases p2 k hk with h1 | h1
    · rw [if_pos (hi.lt k (by rw [hrow k h1]; exact nofun)), if_pos (by rw [hrow k h1]; exact nofun)]; exact hrow k h1
    · rw [if_neg (by omega), if_pos hk]
  · intro k hk
    by_cases e : k = t
    · subst e
      refine ⟨Fq, ?_, fun x hx => ?_⟩
      · show QuS _ Fq (if k = k then q else ad k) side none
        rw [if_pos rfl]
        exact hq.upd u3 (fun x hx e => hd x hx (hUF x e))
      · show (if x < w.heap.size then (if O x ≠ none then O x else if Fq x then some (CRo.mat k) else none) else _) = _
        have hox : O x = none := Classical.byContradiction (fun e => hd x hx e)
        rw [if_pos (hqlt x hx), if_neg (fun e => e hox), if_pos hx]
    · obtain ⟨Fk, h1, h2⟩ := hi.mats k (by omega)
      refine ⟨Fk, ?_, fun x hx => ?_⟩
      · show QuS _ Fk (if k = t then q else ad k) side none
        rw [if_neg e]
        exact h1.upd u3 (fun x hx e' => by
          have e3 := h2 x hx
          rcases e' with e' | e'
          · rw [hrow x e'] at e3; cases e3
          · rw [e', hi.op] at e3; cases e3)
      · show (if x < w.heap.size then (if O x ≠ none then O x else _) else _) = _
        rw [if_pos (h1.lt x hx), if_pos (by rw [h2 x hx]; exact nofun)]; exact h2 x hx
  · intro k hk
    have hz := u3.size
    by_cases hl : k < w.heap.size
    · omega
    · have hk : (if k < w.heap.size then _ else if (Value.slice A' (t + 1) c').ownBlock = some k then some CRo.row else none) ≠ none := hk
      rw [if_neg hl] at hk
      by_cases e : (Value.slice A' (t + 1) c').ownBlock = some k
      · have := (hlt2 k e).2
        simpa [World.setCell] using this
      · rw [if_neg e] at hk; exact absurd rfl hk
  · intro k hk
    by_cases hl : k < w.heap.size
    · have hk : (if k < w.heap.size then (if O k ≠ none then O k else if Fq k then some (CRo.mat t) else none) else _) ≠ none := hk
      rw [if_pos hl] at hk
      by_cases e : O k ≠ none
      · exact .inl e
      · rw [if_neg e] at hk
        by_cases e2 : Fq k
        · exact .inr (.inl e2)
        · rw [if_neg e2] at hk; exact absurd rfl hk
    · exact .inr (.inr (by omega))
end Go.Proofs.YtddffnonlmfhdaaGreatDoor
