/- Forests: which spots run in a ring: bywayref29.Parts, bywayref29.Rings; trim.rings. -/
import Derived.Test.YtbppbgdmoihooaaTsE
import Derived.Test.YtbppbgdmoihooaaPackIt
namespace Go.Proofs.Ytbppbgdmoihooaa
open Go.RowKit Go.Shelf

def partX (P : List Pk) (s : Int) (x : Int) : Prop := ∃ p ∈ P, p.spot = s ∧ ¬ p.left < 0 ∧ (x = p.left ∨ x = p.right)
structure RingB (P : List Pk) (n : Nat) (R : List Bool) : Prop where
  len : R.length = n
  is : ∀ s : Nat, s < n → (atB R (s : Int) = true ↔ Rch P (partX P (s : Int)) (s : Int))
theorem RingB.uniq {P : List Pk} {n : Nat} {I J : List Bool} (h : RingB P n I) (k : RingB P n J) : I = J := by
  refine ext_atB (by rw [h.len, k.len]) (fun s hs => ?_)
  have h1 := h.is s (by rw [← h.len]; exact hs)
  have h2 := k.is s (by rw [← h.len]; exact hs)
  have := h1.trans h2.symm
  cases ha : atB I s <;> cases hb : atB J s <;> simp_all
theorem pushTo_iff {P : List Pk} {n : Nat} {s : Nat} (hP : ∀ p ∈ P, PkIn n p) (x : Int) : partX P (s : Int) x ↔ ∃ y ∈ pushTo P s P.length, x = (y : Int) := by
  constructor
  · rintro ⟨p, hp, hs, hl, hx⟩
    obtain ⟨i, hi⟩ := List.mem_iff_getElem?.1 hp
    have hm := pushTo_all (x := s) P.length p i (List.getElem?_eq_some_iff.1 hi).1 hi (by unfold hasB; rw [hs]; simp; omega)
    rcases (hP p hp).2 with h2 | ⟨l, r, el, er, -, -⟩
    · exact (hl h2).elim
    · rw [el, er] at hm hx
      simp only [Int.toNat_natCast] at hm
      rcases hx with hx | hx
      · exact ⟨l, hm.1, hx⟩
      · exact ⟨r, hm.2, hx⟩
  · rintro ⟨y, hy, rfl⟩
    obtain ⟨-, p, hp, hs, hl, hx⟩ := pushTo_mem hP _ y hy
    exact ⟨p, hp, hs, hl, hx⟩

def PartsAt (w : World) (L : List Nat) (e : Ending) (w' : World) : Prop := ∃ v, e = .returned v ∧ w'.ownsRow w.heap.size 3 1 v L.length (L.map fun i : Nat => Value.int .i64 (i : Int)) ∧ Below w.heap.size w w'

theorem push_int (w : World) (base : Nat) (v : Value) (st : List Nat) (own : w.ownsRow base 3 1 v st.length (st.map fun i : Nat => Value.int .i64 (i : Int))) (a : Nat) (hl : (st.length + 1) * 8 ≤ 140737488355328) (hb : base ≤ w.heap.size) :
    ∃ v' w', (Builtin.append_ #[44, 44] 44 #[v, .slice (some ⟨w.heap.size, 0, none⟩) 1 1]).run Try.prog (w.alloc (.cells #[.int .i64 (a : Int)] 3)) = .ok v' w' ∧ w'.ownsRow base 3 1 v' (st ++ [a]).length ((st ++ [a]).map fun i : Nat => Value.int .i64 (i : Int)) ∧ Below base w w' := by
  obtain ⟨v', w', happ, own', up, -⟩ := push_own w base 44 3 1 8 _ Try.underlying44 info_int rfl (by decide) v st.length _ own [.int .i64 (a : Int)] 1 rfl (by simp; exact rfl) hl (by unfold maxLen; omega) hb
  refine ⟨v', w', happ, ?_, up.below (fun k _ e => (own.lt k e).1) hb⟩
  rw [List.length_append, List.map_append]
  exact own'

set_option maxHeartbeats 2000000 in
set_option maxRecDepth 20000 in
theorem parts_any (w : World) (A : Option Addr) (c : Nat) (B : Option Addr) (d : Nat) (S : List Fct) (P : List Pk) (s : Nat) (h : ForR w A c B d S P) (ho : ∀ p ∈ P, PkIn S.length p) :
    Calls Try.prog 73 #[forV A S.length c B P.length d, .int .i64 (s : Int)] w (PartsAt w (pushTo P s P.length)) := by
  have k0 := Blk.new w 75 #[.slice A S.length c, .slice B P.length d]
  have u0 : Below w.heap.size w (w.alloc (.cells #[.slice A S.length c, .slice B P.length d] 75)) := (Below.refl _ _).alloc (Nat.le_refl _) _
  have hdI : (P.length : Int) ≤ (d : Int) := by have := h.hd; omega
  have hP8 : P.length * 40 ≤ 140737488355328 := h.fit.p
  have z0 : w.heap.size < (w.alloc (.cells #[.slice A S.length c, .slice B P.length d] 75)).heap.size := by simp
  have H := Lib.hid (And.intro h (And.intro k0 (And.intro u0 (And.intro ho z0))))
  clear h k0 u0 ho z0
  go_enter Try.func73, Try.ntmps73
  unfold forV
  go_wp2_with fail
  generalize w.alloc (.cells #[.slice A S.length c, .slice B P.length d] 75) = W0 at H ⊢
  go_loopw [5, 6] (fun ov iv wr => ∃ k : Nat, k ≤ P.length ∧ iv = .int .i64 k ∧ wr.ownsRow W0.heap.size 3 1 ov (pushTo P s k).length ((pushTo P s k).map fun i : Nat => Value.int .i64 (i : Int)) ∧ Below W0.heap.size W0 wr) (fun _ iv _ => P.length - (intOf iv).toNat)
  case atStart => exact ⟨0, Nat.zero_le _, rfl, World.ownsRow_nil _ _ _ _, Below.refl _ _⟩
  case round =>
    obtain ⟨k, hk, rfl, row, bel⟩ := hrel
    obtain ⟨A5, c5, rfl, -, -⟩ := own_form row
    obtain ⟨n5, hn5⟩ : ∃ n5, (pushTo P s k).length = n5 := ⟨_, rfl⟩
    have kb := H.out.2.1.upd (Upd.of_below bel (fun _ => False)) id
    have q1 : wr.cell? ⟨w.heap.size, 1, none⟩ = some (.slice B P.length d) := kb.cell 1
    by_cases hlt : k < P.length
    · have hltI : (k : Int) < (P.length : Int) := by omega
      obtain ⟨⟨p0, p1, p2, p3, p4⟩, hp⟩ : ∃ p, P[k]? = some p := ⟨P[k], List.getElem?_eq_getElem hlt⟩
      obtain ⟨gb, go, rfl, a0, a1, a2, a3, a4⟩ := ((H.out.1.rp.below H.out.2.2.1).below bel).pack hp
      by_cases e0 : p0 = (s : Int)
      · subst e0
        by_cases hl : p3 < 0
        · have n3 : decide (0 ≤ p3) = false := by simpa using hl
          have HN := Lib.hid (And.intro row (And.intro bel (And.intro hp hl)))
          clear row bel hp hl kb hn5
          go_wp2
          go_roundw
          case rel => exact ⟨k + 1, by omega, by go_num, by rw [pushTo_miss HN.out.2.2.1 (by have := HN.out.2.2.2; unfold hasB; rw [show decide ((⟨(s : Int), p1, p2, p3, p4⟩ : Pk).left < 0) = true by simpa using this]; simp)]; exact HN.out.1, HN.out.2.1⟩
          case measure => simp [intOf]; omega
        · obtain ⟨l, r, el, er⟩ : ∃ l r : Nat, p3 = l ∧ p4 = r := by
            rcases (H.out.2.2.2.1 _ (List.mem_of_getElem? hp)).2 with h2 | ⟨l, r, el, er, -, -⟩
            · exact (hl h2).elim
            · exact ⟨l, r, el, er⟩
          subst el
          subst er
          have hhas : hasB s ⟨(s : Int), p1, p2, (l : Int), (r : Int)⟩ = true := by simp [hasB]
          have hbn : (pushTo P s k).length + 2 ≤ 2 * P.length := by
            have h3 := pushTo_len P s k
            have h4 := count_take_le P (onB s) (k + 1)
            have h5 : P.countP (onB s) ≤ P.length := List.countP_le_length
            rw [tk_snoc hp, List.countP_append, List.countP_singleton, if_pos (by simp [onB])] at h4
            omega
          obtain ⟨v6, w6, happ, own6, b6⟩ := push_int wr W0.heap.size _ _ row l (by omega) bel.size
          obtain ⟨A6, c6, rfl, -, -⟩ := own_form own6
          obtain ⟨n6, hn6⟩ : ∃ n6, (pushTo P s k ++ [l]).length = n6 := ⟨_, rfl⟩
          obtain ⟨v7, w7, happ7, own7, b7⟩ := push_int w6 W0.heap.size _ _ own6 r (by simp only [List.length_append, List.length_singleton]; omega) (bel.trans b6).size
          have n3 : decide ((0 : Int) ≤ (l : Int)) = true := by simp
          have q6 : w6.cell? ⟨w.heap.size, 1, none⟩ = some (.slice (some ⟨gb, go, none⟩) P.length d) := (H.out.2.1.upd (Upd.of_below (bel.trans b6) (fun _ => False)) id).cell 1
          obtain ⟨gb', go', e6, -, -, -, -, b4⟩ := ((H.out.1.rp.below H.out.2.2.1).below (bel.trans b6)).pack hp
          injection e6 with e6
          injection e6 with e6 e7
          subst e6
          subst e7
          have HN := Lib.hid (And.intro own7 (And.intro ((bel.trans b6).trans b7) (And.intro hp hhas)))
          rw [hn5] at happ ⊢
          rw [hn6] at happ happ7
          clear row bel own6 own7 b6 b7 hp hhas hbn kb hn5 hn6
          go_wp2_with (at_builtin; first | (refine wpList_append_run rfl _ _ _ rfl rfl rfl happ ?_) | (refine wpList_append_run rfl _ _ _ rfl rfl rfl happ7 ?_))
          go_roundw
          case rel =>
            refine ⟨k + 1, by omega, by go_num, ?_, HN.out.2.1⟩
            rw [pushTo_hit HN.out.2.2.1 HN.out.2.2.2]
            have := HN.out.1
            simp only [List.append_assoc, List.cons_append, List.nil_append] at this
            simpa using this
          case measure => simp [intOf]; omega
      · have e1 : (p0 == (s : Int)) = false := by simpa using e0
        have HN := Lib.hid (And.intro row (And.intro bel (And.intro hp e0)))
        clear row bel hp e0 kb hn5
        go_wp2
        go_roundw
        case rel => exact ⟨k + 1, by omega, by go_num, by rw [pushTo_miss HN.out.2.2.1 (by have := HN.out.2.2.2; simp [hasB, this])]; exact HN.out.1, HN.out.2.1⟩
        case measure => simp [intOf]; omega
    · obtain rfl : k = P.length := by omega
      have fin : PartsAt w (pushTo P s P.length) (.returned (.slice A5 (pushTo P s P.length).length c5)) wr := ⟨_, rfl, ownsRow_base row (fun q hq => by have := (row.lt q hq).1; have := H.out.2.2.2.2; omega), H.out.2.2.1.trans (bel.mono (Nat.le_of_lt H.out.2.2.2.2))⟩
      have FIN := Lib.hid fin
      clear hlt fin row bel kb hn5
      go_wp2
      go_ret
      exact FIN.out

set_option maxHeartbeats 2000000 in
set_option maxRecDepth 20000 in
theorem rrings_any (w : World) (A : Option Addr) (c : Nat) (B : Option Addr) (d : Nat) (S : List Fct) (P : List Pk) (h : ForR w A c B d S P) (ho : ∀ p ∈ P, PkIn S.length p) :
    Calls Try.prog 46 #[forV A S.length c B P.length d] w (fun e w' => ∃ R, RingB P S.length R ∧ BoolsAt w R e w') := by
  have k0 := Blk.new w 75 #[.slice A S.length c, .slice B P.length d]
  have u0 : Below w.heap.size w (w.alloc (.cells #[.slice A S.length c, .slice B P.length d] 75)) := (Below.refl _ _).alloc (Nat.le_refl _) _
  have hS8 : S.length ≤ 140737488355328 := by have := h.fit.s; omega
  have hP8 : P.length * 40 ≤ 140737488355328 := h.fit.p
  have hmk := fun w : World => mk_bools w S.length hS8
  have z0 : w.heap.size < (w.alloc (.cells #[.slice A S.length c, .slice B P.length d] 75)).heap.size := by simp
  have H := Lib.hid (And.intro h (And.intro k0 (And.intro u0 (And.intro ho z0))))
  clear h k0 u0 ho z0
  go_enter Try.func46, Try.ntmps46
  unfold forV
  go_upto_region 1 with (fail)
  generalize w.alloc (.cells #[.slice A S.length c, .slice B P.length d] 75) = W0 at H ⊢
  have q0 : W0.cell? ⟨w.heap.size, 0, none⟩ = some (.slice A S.length c) := H.out.2.1.cell 0
  go_upto_region 2 with (fail)
  have g1 := Blk.new W0 4 (bools (List.replicate S.length false))
  have b1 : Below W0.heap.size W0 (W0.alloc (.cells (bools (List.replicate S.length false)) 4)) := (Below.refl _ _).alloc (Nat.le_refl _) _
  have HG := Lib.hid (And.intro g1 b1)
  clear g1 b1 q0 hmk
  generalize W0.alloc (.cells (bools (List.replicate S.length false)) 4) = W1 at HG ⊢
  go_wp2
  go_loopw [4] (fun iv wr => ∃ (k : Nat) (R : List Bool), k ≤ S.length ∧ iv = .int .i64 k ∧ R.length = S.length ∧ (∀ j : Nat, j < k → (atB R (j : Int) = true ↔ Rch P (partX P (j : Int)) (j : Int))) ∧ Blk wr W0.heap.size 4 (bools R) ∧ Upd (fun q => q = W0.heap.size) W1 wr) (fun iv _ => S.length - (intOf iv).toNat)
  case atStart => exact ⟨0, _, Nat.zero_le _, rfl, by simp, fun j hj => by omega, HG.out.1, Upd.refl _ _⟩
  case round =>
    obtain ⟨k, R, hk, rfl, hR, hat, kg, up⟩ := hrel
    have bw : Below w.heap.size w wr := (H.out.2.2.1.trans (HG.out.2.mono H.out.2.2.1.size)).trans (up.below (fun q _ e => by have := H.out.2.2.2.2; omega) (Nat.le_trans H.out.2.2.1.size HG.out.2.size))
    have kb := (H.out.2.1.upd (Upd.of_below HG.out.2 (fun _ => False)) id).upd up (by have := H.out.2.2.2.2; omega)
    have q0 : wr.cell? ⟨w.heap.size, 0, none⟩ = some (.slice A S.length c) := kb.cell 0
    have q1 : wr.cell? ⟨w.heap.size, 1, none⟩ = some (.slice B P.length d) := kb.cell 1
    have HR := Lib.hid (And.intro hR (And.intro hat (And.intro kg (And.intro up bw))))
    clear hat
    by_cases hlt : k < S.length
    · have hltI : (k : Int) < (S.length : Int) := by omega
      have upq : ∀ w', Below wr.heap.size wr w' → w'.cell? ⟨w.heap.size, 0, none⟩ = some (.slice A S.length c) ∧ w'.cell? ⟨w.heap.size, 1, none⟩ = some (.slice B P.length d) := fun w' hb => by
        have h2 := kb.upd (Upd.of_below hb (fun _ => False)) id
        exact ⟨h2.cell 0, h2.cell 1⟩
      have UP := Lib.hid upq
      clear upq kb kg up hR bw
      go_wp2
      clear q0 q1
      refine wp_region_ord (fun w' => w'.cell? ⟨w.heap.size, 0, none⟩ = some (.slice A S.length c) ∧ w'.cell? ⟨w.heap.size, 1, none⟩ = some (.slice B P.length d)) 6 [(0, true), (1, true), (2, true), (3, false), (4, false), (5, true)] (by kernel_rfl) (by kernel_rfl) (fun _ _ d _ _ h => by cases d <;> exact h) (UP.out _ (Below.refl _ _).drew) ?_
      iterate 3 (refine ord_take (v := ?_) rfl (by first | with_reducible rfl | kernel_rfl) ?_ ?_; rotate_left; (focus (intro wS hS; (try dsimp only at hS); go_split_ands; go_simp; (try with_reducible rfl); done)); (try simp only [Act.put, List.getElem_toArray, List.getElem_cons_succ, List.getElem_cons_zero, List.setIfInBounds_toArray, List.set_cons_zero, List.set_cons_succ]))
      refine ord_do rfl rfl (fun K hK => ?_)
      go_simp
      refine (parts_any wr.drew A c B d S P k (H.out.1.below (HR.out.2.2.2.2.trans ((Below.refl wr.heap.size wr).drew.mono HR.out.2.2.2.2.size))) H.out.2.2.2.1).mono ?_
      rintro e w2 ⟨v, rfl, own2, b2⟩
      have b2 : Below wr.heap.size wr w2 := (Below.refl wr.heap.size wr).drew.trans b2
      refine hK _ _ (fun _ => UP.out _ b2) ?_
      clear hK K
      (try simp only [Act.put, List.getElem_toArray, List.getElem_cons_succ, List.getElem_cons_zero, List.setIfInBounds_toArray, List.set_cons_zero, List.set_cons_succ])
      refine ord_do rfl rfl (fun K hK => ?_)
      go_simp
      refine (reached_any wr w2 A c B d S P (partX P (k : Int)) v (pushTo P k P.length) (H.out.1.below HR.out.2.2.2.2) H.out.2.2.2.1 b2 own2 (pushTo_iff H.out.2.2.2.1) (fun y hy => (pushTo_mem H.out.2.2.2.1 _ y hy).1) (by
        have h3 := pushTo_len P k P.length
        have h5 : P.countP (onB k) ≤ P.length := List.countP_le_length
        rw [List.take_length] at h3
        omega)).mono ?_
      rintro e w3 ⟨gI, I, rfl, hIR, hgI, hz, b3⟩
      refine hK _ _ (fun _ => UP.out _ b3) ?_
      clear hK K own2 b2
      (try simp only [Act.put, List.getElem_toArray, List.getElem_cons_succ, List.getElem_cons_zero, List.setIfInBounds_toArray, List.set_cons_zero, List.set_cons_succ])
      (refine ord_take (v := ?_) rfl (by first | with_reducible rfl | kernel_rfl) ?_ ?_; rotate_left; (focus (intro wS hS; (try dsimp only at hS); go_split_ands; go_simp; (try with_reducible rfl); done)); (try simp only [Act.put, List.getElem_toArray, List.getElem_cons_succ, List.getElem_cons_zero, List.setIfInBounds_toArray, List.set_cons_zero, List.set_cons_succ]))
      refine ord_done ?_
      obtain ⟨b, hb⟩ : ∃ b, atB I (k : Int) = b := ⟨_, rfl⟩
      have m0 := hgI.cell k
      rw [bools_get (atB_get (by rw [hIR.len]; exact hlt)), hb] at m0
      have kg3 := HR.out.2.2.1.upd (Upd.of_below b3 (fun _ => False)) id
      have m1 := kg3.cell k
      rw [bools_get (atB_get (by rw [HR.out.1]; exact hlt))] at m1
      have m2 := kg3.frozen k
      have kn := kg3.set k (.bool b)
      rw [bools_set] at kn
      have un := (HR.out.2.2.2.1.trans (Upd.of_below b3 (fun _ => False)) (fun _ h => h.elim)).setCell (p := ⟨W0.heap.size, k, none⟩) (.inl rfl) (.bool b)
      have hiff := hIR.is k hlt
      rw [hb] at hiff
      have HN := Lib.hid (And.intro kn (And.intro un hiff))
      clear kn un kg3 hgI hz b3 hIR hb hiff
      go_wp2
      go_roundw
      case rel =>
        refine ⟨k + 1, R.set k b, by omega, by go_num, by rw [List.length_set]; exact HR.out.1, fun j hj => ?_, HN.out.1, HN.out.2.1⟩
        rw [atB_set (by rw [HR.out.1]; exact hlt)]
        by_cases e : j = k
        · subst e
          rw [if_pos (by simp)]
          exact HN.out.2.2
        · rw [if_neg (by omega)]
          exact HR.out.2.1 j (by omega)
      case measure => simp [intOf]; omega
    · obtain rfl : k = S.length := by omega
      clear hlt kg up hR kb bw
      go_wp2
      go_ret
      obtain ⟨hR, hat, kg, up, bw⟩ := HR.out
      exact ⟨R, ⟨hR, hat⟩, W0.heap.size, congrArg (fun n => Ending.returned (.slice (some ⟨W0.heap.size, 0, none⟩) n n)) hR.symm, kg, H.out.2.2.1.size, bw⟩
end Go.Proofs.Ytbppbgdmoihooaa
