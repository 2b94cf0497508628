/- Marks: marks.All: what it hands back, as an iterator. -/
import Derived.Test.YthmkgnifcbnkpaaGreatMkB
import Derived.Test.YthmkgnifcbnkpaaGreatEdF
import Derived.Shelf.Abstract
import Derived.Shelf.RegionOpen
import Derived.TacticsInMore
import Derived.LoopNIn
import Derived.LoopIn
import Derived.Test.YthmkgnifcbnkpaaGreatRangeIn
namespace Go.Proofs.YthmkgnifcbnkpaaGreat
open Go.RowKit Go.Shelf
attribute [local go_sem] Oper.semAt_some

/-! What a round that puts into a list of its own may turn: the list's row, some cells. -/
def RgL (lb : Nat) (A : World) : Prop := ∀ v q, A.cell? ⟨lb, 0, none⟩ = some v → v.ownBlock = some q → q < A.heap.size
def AlwL (lb : Nat) (F0 : Nat → Prop) (A : World) (q : Nat) : Prop := F0 q ∨ (∃ v, A.cell? ⟨lb, 0, none⟩ = some v ∧ v.ownBlock = some q) ∨ ∃ o : Obj, A.heap[q]? = some o ∧ o.isCells = false
def KpL (lb : Nat) (F0 : Nat → Prop) (A B : World) : Prop :=
  RgL lb A → Upd (AlwL lb F0 A) A B ∧ ∀ v q, B.cell? ⟨lb, 0, none⟩ = some v → v.ownBlock = some q → q < B.heap.size ∧ (q < A.heap.size → ∃ u, A.cell? ⟨lb, 0, none⟩ = some u ∧ u.ownBlock = some q)
theorem KpL.rg {lb : Nat} {F0 : Nat → Prop} {A B : World} (h : KpL lb F0 A B) (r : RgL lb A) : RgL lb B := fun v q h1 h2 => ((h r).2 v q h1 h2).1
theorem KpL.trans {lb : Nat} {F0 : Nat → Prop} {A B C : World} (h : KpL lb F0 A B) (k : KpL lb F0 B C) : KpL lb F0 A C := by
  intro r
  have rB := h.rg r
  obtain ⟨u1, r1⟩ := h r
  obtain ⟨u2, r2⟩ := k rB
  refine ⟨u1.trans u2 ?_, ?_⟩
  · intro i hi
    rcases Nat.lt_or_ge i A.heap.size with hlt | hge
    · refine .inl ?_
      rcases hi with hi | ⟨v, hv, ho⟩ | ⟨o, ho, hc⟩
      · exact .inl hi
      · exact .inr (.inl ((r1 v i hv ho).2 hlt))
      · by_cases ha : AlwL lb F0 A i
        · exact ha
        · exact .inr (.inr ⟨o, (u1.block i hlt ha).symm.trans ho, hc⟩)
    · exact .inr hge
  · intro v q hv ho
    obtain ⟨a, b⟩ := r2 v q hv ho
    refine ⟨a, fun hlt => ?_⟩
    obtain ⟨u, hu, ho'⟩ := b (Nat.lt_of_lt_of_le hlt u1.size)
    exact (r1 u q hu ho').2 hlt
theorem KpL.below {lb : Nat} {F0 : Nat → Prop} {A B : World} (h : Below A.heap.size A B) (hl : lb < A.heap.size) : KpL lb F0 A B := by
  intro r
  refine ⟨Upd.of_below h _, fun v q hv ho => ?_⟩
  have hc : B.cell? ⟨lb, 0, none⟩ = A.cell? ⟨lb, 0, none⟩ := h.cell (p := ⟨lb, 0, none⟩) hl
  rw [hc] at hv
  exact ⟨Nat.lt_of_lt_of_le (r v q hv ho) h.size, fun _ => ⟨v, hv, ho⟩⟩
theorem KpL.put {lb : Nat} {F0 : Nat → Prop} {w : World} (hlb : lb < w.heap.size) (W : World) (l : Nat) (o o' : Obj) (hl : w.heap.size ≤ l) (ho : W.heap[l]? = some o) (hc : o.isCells = false) (_ : o.isWalk = false) : KpL lb F0 W (W.putObj l o') := by
  intro r
  have hg := Upd.of_grown (grownBy_putObj' W l o')
  have hcell : (W.putObj l o').cell? ⟨lb, 0, none⟩ = W.cell? ⟨lb, 0, none⟩ := by
    refine World.cell?_of_block (w := W) ?_
    rcases Nat.lt_or_ge lb W.heap.size with h1 | h1
    · exact hg.block lb h1 (fun e => by injection e with e; omega)
    · have := (Array.getElem?_eq_some_iff.1 ho).1
      omega
  refine ⟨hg.mono (fun i _ e => by injection e with e; subst e; exact .inr (.inr ⟨o, ho, hc⟩)), fun v q hv hq => ?_⟩
  rw [hcell] at hv
  exact ⟨Nat.lt_of_lt_of_le (r v q hv hq) hg.size, fun _ => ⟨v, hv, hq⟩⟩

/-- What All hands back. -/
theorem all_marks (s : Txt) (w : World) : Calls Tryz.prog 40 #[.string s] w fun e w' =>
    e = .returned (.func (.func 74) #[] #[.pointer (some ⟨w.heap.size, 0, none⟩)]) ∧ w' = w.alloc (.cells #[.string s] 9) := by
  go_enter Tryz.func40, Tryz.ntmps40
  go_wp2
  go_ret
  exact ⟨rfl, rfl⟩

/-- The marks of a text, each with what holds of it. -/
def msL (s : Txt) : List {m : Mk // MkOk s.size m} := (scan 0 s.data.toList).1.attachWith _ (fun m hm => by
  have := (scan_ok _ 0 s.data.toList (Nat.le_refl _)).1 m hm
  rwa [Nat.zero_add, size_data] at this)
theorem msL_len (s : Txt) : (msL s).length = (scan 0 s.data.toList).1.length := List.length_attachWith
theorem msL_map (s : Txt) : (msL s).map Subtype.val = (scan 0 s.data.toList).1 := by
  unfold msL
  simp
theorem msL_at {s : Txt} {k : Nat} {m : Mk} (h : (scan 0 s.data.toList).1[k]? = some m) : ∃ hm : MkOk s.size m, (msL s).take (k + 1) = (msL s).take k ++ [⟨m, hm⟩] := by
  have hm : MkOk s.size m := by
    have := (scan_ok _ 0 s.data.toList (Nat.le_refl _)).1 m (List.mem_of_getElem? h)
    rwa [Nat.zero_add, size_data] at this
  refine ⟨hm, take_snoc' ?_⟩
  unfold msL
  rw [List.getElem?_attachWith]
  have h5 := (List.getElem?_eq_some_iff.1 h).1
  have h6 := (List.getElem?_eq_some_iff.1 h).2
  simp [h5, h6]
def encM {S : Nat} (m : {m : Mk // MkOk S m}) : Array Value := #[m.1.agg]

set_option maxRecDepth 100000 in
set_option maxHeartbeats 4000000 in
theorem marks_in (n : Nat) (hn : 1 ≤ n) (l bl lb : Nat) (F0 : Nat → Prop) (s : Txt) (hs : s.size ≤ 1000000) (J Jx : List {m : Mk // MkOk s.size m} → World → Prop)
    (W : World) (hJ : AbidesFrom W.heap.size J)
    (hY : ∀ pre x W1, J pre W1 → pre.length < (msL s).length → YieldAt Fence.wide (n - 1) Tryz.prog l (encM x) W1 fun e W' =>
      (e = .returned (.bool true) ∧ J (pre ++ [x]) W' ∧ KpL lb F0 W1 W') ∨ (e = .returned (.bool false) ∧ Jx (pre ++ [x]) W'))
    (hbl : Blk W bl 9 #[.string s]) (hlb : lb < W.heap.size) (hr : RgL lb W) (hF : ∀ q, F0 q → q < W.heap.size ∧ q ≠ bl) (hrow : ∀ v, W.cell? ⟨lb, 0, none⟩ = some v → v.ownBlock ≠ some bl) (h0 : J [] W) :
    CallsIn Fence.wide n Tryz.prog 74 #[.func (.yield l) #[] #[], .pointer (some ⟨bl, 0, none⟩)] W fun e W' => (∃ v, e = .returned v) ∧
      ((∃ ys, ys = msL s ∧ J ys W') ∨ (∃ pre, (∃ k, k ≤ (msL s).length ∧ pre = (msL s).take k) ∧ Jx pre W')) := by
  have hnb : ¬ AlwL lb F0 W bl := by
    rintro (h | ⟨v, hv, ho⟩ | ⟨o, ho, hc⟩)
    · exact (hF bl h).2 rfl
    · exact hrow v hv ho
    · rw [show W.heap[bl]? = _ from hbl] at ho
      cases ho
      cases hc
  have H := Lib.hid (And.intro hbl (And.intro hlb (And.intro hr (And.intro hF (And.intro hnb (And.intro hJ (And.intro hY h0)))))))
  clear hbl hlb hr hF hrow hJ hY h0 hnb
  refine callsIn_of_wp Tryz.func74 rfl trivial ?_ rfl
  simp only [Tryz.ntmps74, List.size_toArray, List.length_cons, List.length_nil, Nat.reduceAdd, Nat.reduceSub, Array.replicate_succ, Array.replicate_zero, List.push_toArray, List.append_toArray, List.nil_append, List.cons_append]
  gi_wp2
  gi_loopw [3] (fun i wr => ∃ k p : Nat, p ≤ s.size ∧ i = .int .i64 p ∧ Hid (Led s.data.toList k p ∧ J ((msL s).take k) wr ∧ KpL lb F0 W wr ∧ W.heap.size ≤ wr.heap.size)) (fun i _ => s.size - (intOf i).toNat)
  case atStart => exact ⟨0, 0, Nat.zero_le _, rfl, Lib.hid ⟨Led.start _, by simpa using H.out.2.2.2.2.2.2.2, KpL.below (Below.refl _ _) H.out.2.1, Nat.le_refl _⟩⟩
  case round =>
    obtain ⟨k, p, hp, rfl, hH⟩ := hrel
    have kr := H.out.1.upd (hH.out.2.2.1 H.out.2.2.1).1 H.out.2.2.2.2.1
    have rr := hH.out.2.2.1.rg H.out.2.2.1
    have ct : wr.cell? ⟨bl, 0, none⟩ = some (.string s) := kr.cell 0
    have hlr : lb < wr.heap.size := Nat.lt_of_lt_of_le H.out.2.1 hH.out.2.2.2
    have HR := Lib.hid (And.intro kr rr)
    clear kr rr
    obtain ⟨⟨q, a, t⟩, hm⟩ : ∃ m, nextL p (s.data.toList.drop p) = m := ⟨_, rfl⟩
    have hcon : ∀ w, Calls Tryz.prog 73 #[.string s, .int .i64 (p : Int)] w fun e w' => e = .returned (.agg #[.int .i64 q, .int .i64 a, .string (toTxt t)]) ∧ Below w.heap.size w w' := fun w => by
      have h := next_any s p w hp hs
      rw [hm] at h
      exact h
    have HM := Lib.hid hm
    clear hm
    by_cases hq : q = 0
    · subst hq
      have hfin : (msL s).take k = msL s := by
        have h1 := (hH.out.1.done (by rw [HM.out])).1
        rw [List.take_of_length_le (by rw [msL_len]; omega)]
      have HF := Lib.hid hfin
      clear hfin
      gi_wp2_with (refine ⟨trivial, ?_⟩; gi_at_call 73; refine (callsIn_wide.2 (hcon _)).mono ?_; rintro e w1 ⟨rfl, b1⟩; have kb := Blk.new w1 72 #[.int .i64 (0 : Nat), .int .i64 a, .string (toTxt t)]; have q0 := kb.cell 0; simp only [List.getElem?_toArray, List.getElem?_cons_zero] at q0)
      refine ⟨fun f hf => (by cases hf), ?_⟩
      gi_wp2
      refine bodyPost_ret (results_none rfl _ _ _) rfl ?_
      refine ⟨⟨_, rfl⟩, .inl ⟨_, rfl, ?_⟩⟩
      have hJ := H.out.2.2.2.2.2.1
      have j0 := hH.out.2.1
      rw [HF.out] at j0
      exact hJ _ _ _ none (hJ _ _ _ none j0 ((Upd.of_below b1 (fun _ => False)).to_grown (fun _ _ e => e.elim)) (fun r e => by cases e)) (World.grownBy_alloc w1 _ none) (fun r e => by cases e)
    · have hk := hH.out.1.more (by rw [HM.out]; exact hq)
      rw [HM.out] at hk
      obtain ⟨hk1, hk2⟩ := hk
      dsimp only at hk2
      obtain ⟨hmo, htk⟩ := msL_at hk1
      have hfit := hmo.fit
      dsimp only at hfit
      have hq1 : ((q : Int) == 0) = false := by simpa using hq
      have htx : 1 ≤ t.length := by
        have := nextL_fit p (s.data.toList.drop p)
        rw [HM.out] at this
        exact this.2.2.1 hq
      have hpa : p ≤ a := by
        have := nextL_fit p (s.data.toList.drop p)
        rw [HM.out] at this
        exact this.1
      have hsz : (toTxt t).size = t.length := by rw [← size_data]; simp [toTxt]
      have hlk : k < (msL s).length := by rw [msL_len]; exact (List.getElem?_eq_some_iff.1 hk1).1
      have HK := Lib.hid (And.intro hk2 (And.intro htk hlk))
      clear hk1 hk2 htk hlk hfit
      gi_wp2_with (refine ⟨trivial, ?_⟩; gi_at_call 73; refine (callsIn_wide.2 (hcon _)).mono ?_; rintro e w1 ⟨rfl, b1⟩; have kb := Blk.new w1 72 #[.int .i64 (q : Int), .int .i64 a, .string (toTxt t)]; have q0 := kb.cell 0; have q1 := kb.cell 1; have q2 := kb.cell 2; simp only [List.getElem?_toArray, List.getElem?_cons_succ, List.getElem?_cons_zero] at q0 q1 q2; have hJ := H.out.2.2.2.2.2.1; have hJa := hJ _ _ _ none (hJ _ _ _ none hH.out.2.1 ((Upd.of_below b1 (fun _ => False)).to_grown (fun _ _ e => e.elim)) (fun r e => by cases e)) (World.grownBy_alloc w1 (.cells #[.int .i64 (q : Int), .int .i64 a, .string (toTxt t)] 72) none) (fun r e => by cases e); obtain ⟨fn, tmps, assign, body, hy, hR⟩ := H.out.2.2.2.2.2.2.1 _ ⟨⟨q, a, t⟩, hmo⟩ _ hJa (by rw [List.length_take]; have := HK.out.2.2; omega); dsimp only [encM, Mk.agg] at hy; have KA : KpL lb F0 wr (w1.alloc (.cells #[.int .i64 (q : Int), .int .i64 a, .string (toTxt t)] 72)) := KpL.below (b1.alloc b1.size _) hlr; have HA := Lib.hid (And.intro KA (And.intro b1 kb)); clear hJ hJa KA b1 kb)
      have hlr1 := Nat.lt_of_lt_of_le hlr HA.out.2.1.size
      have rA := HA.out.1.rg HR.out.2
      have r1 : RgL lb w1 := (KpL.below (F0 := F0) HA.out.2.1 hlr).rg HR.out.2
      have hnA : ¬ AlwL lb F0 (w1.alloc (.cells #[.int .i64 (q : Int), .int .i64 a, .string (toTxt t)] 72)) w1.heap.size := by
        rintro (h | ⟨v, hv, ho⟩ | ⟨o, ho, hc⟩)
        · have h1 := (H.out.2.2.2.1 _ h).1
          have h2 := hH.out.2.2.2
          have h3 := HA.out.2.1.size
          omega
        · rw [World.cell?_alloc_lt w1 _ ⟨lb, 0, none⟩ hlr1] at hv
          exact absurd (r1 v _ hv ho) (Nat.lt_irrefl _)
        · rw [show _ = _ from HA.out.2.2] at ho
          cases ho
          cases hc
      have HA2 := Lib.hid (And.intro rA hnA)
      clear rA r1 hnA
      refine hR.mono ?_
      rintro e W3 (⟨rfl, hJ3, hk3⟩ | ⟨rfl, hJx3⟩)
      · have kc := HA.out.2.2.upd (hk3 HA2.out.1).1 HA2.out.2
        have z1 := kc.cell 1
        have z2 := kc.cell 2
        simp only [List.getElem?_toArray, List.getElem?_cons_succ, List.getElem?_cons_zero] at z1 z2
        have hk4 := HA.out.1.trans hk3
        have hz3 : W.heap.size ≤ W3.heap.size := by
          have h1 := hH.out.2.2.2
          have h2 := HA.out.2.1.size
          have h3 := (hk3 HA2.out.1).1.size
          simp at h3
          omega
        rw [← HK.out.2.1] at hJ3
        have HN := Lib.hid (And.intro HK.out.1 (And.intro hJ3 (And.intro (hH.out.2.2.1.trans hk4) hz3)))
        have hfit : a + t.length ≤ s.size := hmo.fit
        have hwr : IntKind.i64.wrap ((a : Int) + ((toTxt t).size : Int)) = (a : Int) + (t.length : Int) := by rw [hsz]; exact IntWalk.i64_in _ (by omega)
        clear hJ3 hk3 hk4 hz3 kc q0 q1 q2 ct hR hy
        gi_wp2
        go_roundw
        case rel => exact ⟨k + 1, a + t.length, hfit, by simp, HN⟩
        case measure => simp only [intOf]; omega
      · clear hR hy
        gi_wp2
        refine bodyPost_ret (results_none rfl _ _ _) rfl ?_
        exact ⟨⟨_, rfl⟩, .inr ⟨_, ⟨k + 1, by have := HK.out.2.2; omega, HK.out.2.1.symm⟩, hJx3⟩⟩
end Go.Proofs.YthmkgnifcbnkpaaGreat
