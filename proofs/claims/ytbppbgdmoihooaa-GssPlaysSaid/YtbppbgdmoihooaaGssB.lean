/- The shared stack (gss): Node, Len, At. -/
import Derived.Test.YtbppbgdmoihooaaGssA
namespace Go.Proofs.Ytbppbgdmoihooaa
open Go.RowKit

theorem zero_int (w : World) : (zeroValue 3).run Try.prog w = .ok (.int .i64 0) w := by kernel_rfl
theorem info_node : (Try.prog.info? 110).map (fun i => (i.zero, i.size, i.bytes)) = some (some (.agg #[.int .i64 0, .int .i64 0, .slice none 0 0, .slice none 0 0]), 4, 64) := by kernel_rfl

set_option maxHeartbeats 800000 in
set_option maxRecDepth 20000 in
theorem node_new (w : World) (F : Nat → Prop) (b : Nat) (N : List GNode) (m p : Int) (hm : Wf m) (hp : Wf p) (h : StkAt w F b N) (hN : N.length + 1 < 1000000) (hi : ∀ i, ¬ AtNode N m p i) :
    Calls Try.prog 12 #[.pointer (some ⟨b, 0, none⟩), .int .i64 m, .int .i64 p] w fun e w' => e = .returned (.tuple #[.int .i64 N.length, .bool true]) ∧ StkNext w F b (N ++ [⟨m, p, [], []⟩]) w' := by
  obtain ⟨O, D, hs, rfl⟩ := h
  have c0 : w.cell? ⟨b, 0, none⟩ = some (.map (some D.r1)) := hs.blk.cell 0
  have hb := hs.blk.lt
  obtain ⟨A, c, hnv, hcap, hA⟩ := own_form hs.row
  have hmiss : ∀ q ∈ D.k1, q.1 ≠ key2 m p := by
    intro q hq e
    rw [hs.e1] at hq
    obtain ⟨⟨x, i⟩, hx, rfl⟩ := List.mem_map.1 hq
    rw [List.mem_zipIdx_iff_getElem?] at hx
    obtain ⟨e1, e2⟩ := key2_inj.1 e
    exact hi i ⟨x, hx, e1, e2⟩
  have HC := Lib.hid hcap
  clear hcap
  go_enter Try.func12, Try.ntmps12
  go_wp2_with (go_at_call 51; refine (is_any _ _ _ c0).mono ?_; rintro e w' ⟨rfl, rfl⟩)
  have u1 := (Upd.refl (fun _ => False) w).alloc (.cells #[.int .i64 m, .int .i64 p] 27)
  have k0 := Blk.new w 27 #[.int .i64 m, .int .i64 p]
  generalize w.alloc (.cells #[.int .i64 m, .int .i64 p] 27) = w1 at *
  have b1 := hs.blk.upd u1 id
  have c1 : w1.cell? ⟨b, 0, none⟩ = some (.map (some D.r1)) := b1.cell 0
  have c13 : w1.cell? ⟨b, 3, none⟩ = some (.slice A N.length c) := by rw [← hnv]; exact b1.cell 3
  have c2 : w1.cell? ⟨w.heap.size, 0, none⟩ = some (.int .i64 m) := k0.cell 0
  have c3 : w1.cell? ⟨w.heap.size, 1, none⟩ = some (.int .i64 p) := k0.cell 1
  have hl : ∀ n, Sem.run Try.prog (Instr.lookup 104 (.map (some D.r1)) (.agg #[.int .i64 m, .int .i64 p]) true) (w1.drewN n) = .ok (.tuple #[.int .i64 0, .bool false]) (w1.drewN n) := fun n =>
    ((hs.map1.upd u1 id).drewN n).look_miss law2 Try.underlying104 (keyOf2 hm hp) hmiss (zero_int _) true
  have H : Hid _ := Lib.hid (And.intro hs (And.intro hi (And.intro hmiss (And.intro hnv (And.intro u1 (And.intro k0 (And.intro hA (And.intro hm (And.intro hp hN)))))))))
  clear hN hA hs hi hmiss hnv u1 k0 hm hp c0
  go_quiet (fail)
  go_wp2
  refine wp_region_still_tail 6 (by kernel_rfl) (by kernel_rfl) ?_
  simp only [List.take_succ_cons, List.take_zero, List.drop_succ_cons, List.drop_zero, World.drew_eq]
  have d1 : (w1.drewN nq).drew.cell? ⟨b, 0, none⟩ = some (.map (some D.r1)) := c1
  have d13 : (w1.drewN nq).drew.cell? ⟨b, 3, none⟩ = some (.slice A N.length c) := c13
  have d2 : (w1.drewN nq).drew.cell? ⟨w.heap.size, 0, none⟩ = some (.int .i64 m) := c2
  have d3 : (w1.drewN nq).drew.cell? ⟨w.heap.size, 1, none⟩ = some (.int .i64 p) := c3
  have U2 := (H.out.2.2.2.2.1.drewN nq).drew
  generalize (w1.drewN nq).drew = w2 at d1 d2 d3 d13 U2 ⊢
  clear c1 c13 c2 c3 hl b1
  repeat still_step
  refine wpStill_nil ?_
  obtain ⟨hs, hi, hmiss, hnv, -, -, hA, hm, hp, hN⟩ := H.out
  obtain ⟨w3, hput, hm3, hg3, hs3⟩ := (hs.map1.upd U2 id).put_miss law2 Try.underlying104 (.int .i64 (N.length : Int)) (keyOf2 hm hp) hmiss
  have hput' : (Instr.mapUpdate 104 (.map (some D.r1)) (.agg #[.int .i64 m, .int .i64 p]) (.int .i64 (N.length : Int))).run Try.prog w2 = .ok () w3 := hput
  have ob : ∀ k t t', O k = some t → O D.r1 = some t' → t ≠ t' → some k ≠ some D.r1 := by
    intro k t t' e1 e2 hne e
    injection e with e
    rw [e, e2] at e1
    injection e1 with e1
    exact hne e1.symm
  have hbr : some b ≠ some D.r1 := ob _ _ _ hs.o0 hs.o1 (by simp)
  have b3 := (hs.blk.upd U2 id).grown hg3 hbr
  have U3 : Upd (fun k => O k ≠ none) w w3 := (U2.mono (fun _ _ h => h.elim) : Upd (fun k => O k ≠ none) w w2).grown hg3 (fun k hk => .inl (by injection hk with hk; subst hk; simp [hs.o1]))
  have nb : ∀ k, D.nv.ownBlock = some k → O k = some .nodes := hs.oN
  have row3 := ((ownsRow_upd hs.row U2 (fun _ _ => id)).kept hg3 (by
    by_cases e : D.nv.ownBlock = none
    · exact .inl e
    · refine .inr fun e' => ?_
      exact ob _ _ _ (nb _ e') hs.o1 (by simp) rfl)).alloc (.cells #[.int .i64 m, .int .i64 p, .slice none 0 0, .slice none 0 0] 110)
  have c33 : w3.cell? ⟨b, 3, none⟩ = some (.slice A N.length c) := by rw [← hnv]; exact b3.cell 3
  obtain ⟨i0, hi0, hz0, hz1, hz2⟩ := info_parts info_node
  obtain ⟨nv', w5, happ, own5, gr5, -, pl5⟩ := run_append_own_at (P := Try.prog) _ 0 106 106 110 i0 _ 4 64 Try.underlying106 hi0 hz0 hz1 hz2 rfl (by decide) D.nv N.length _ row3 ⟨w3.heap.size, 0, none⟩ 1 1
    [.int .i64 m, .int .i64 p, .slice none 0 0, .slice none 0 0] rfl (by
      intro j u hu
      match j, hu with
      | 0, hu => simp [Addr.add] at hu ⊢; exact hu
      | 1, hu => simp [Addr.add] at hu ⊢; exact hu
      | 2, hu => simp [Addr.add] at hu ⊢; exact hu
      | 3, hu => simp [Addr.add] at hu ⊢; exact hu
      | j + 4, hu => simp at hu) (by simp [Value.oneCell']) (by unfold maxLen; omega) (by omega) (Nat.zero_le _)
  obtain ⟨A', c', hnv', -, -⟩ := own_form own5
  subst hnv'
  have hsz : w.heap.size ≤ w3.heap.size := U3.size
  have U5 : Upd (fun k => O k ≠ none) w w5 := (U3.alloc _).grown gr5 (fun k hk => .inl (by simp [nb k hk]))
  have hbn : some b ≠ D.nv.ownBlock := fun e => by have := nb b e.symm; rw [hs.o0] at this; injection this with this; cases this
  have b5 := (b3.alloc (.cells #[.int .i64 m, .int .i64 p, .slice none 0 0, .slice none 0 0] 110)).grown gr5 hbn
  have c5 : w5.cell? ⟨b, 3, none⟩ = some (.slice A N.length c) := by rw [← hnv]; exact b5.cell 3
  have f5 : w5.frozen? ⟨b, 3, none⟩ = false := b5.frozen 3
  rw [hnv] at happ
  have fin : StkNext w (fun k => O k ≠ none) b (N ++ [⟨m, p, [], []⟩]) (w5.setCell ⟨b, 3, none⟩ (.slice A' (N.length + 1) c')) := by
    have T : Upd (fun k => k = b ∨ k = D.r1 ∨ O k = some .nodes) w (w5.setCell ⟨b, 3, none⟩ (.slice A' (N.length + 1) c')) :=
      ((((U2.mono (fun _ _ h => h.elim) : Upd (fun k => k = b ∨ k = D.r1 ∨ O k = some .nodes) w w2).grown hg3 (fun k hk => .inl (.inr (.inl (by injection hk with hk; exact hk.symm))))).alloc _).grown gr5 (fun k hk => .inl (.inr (.inr (nb k hk))))).setCell (.inl (.inl rfl)) _
    have V : Upd (fun k => k = b ∨ O k = some .nodes) w3 (w5.setCell ⟨b, 3, none⟩ (.slice A' (N.length + 1) c')) :=
      (((Upd.refl _ w3).alloc _).grown gr5 (fun k hk => .inl (.inr (nb k hk)))).setCell (.inl (.inl rfl)) _
    have old : ∀ k t, O k = some t → t ≠ .nodes → Value.ownBlock (.slice A' (N.length + 1) c') ≠ some k := by
      intro k t e hne e'
      rcases pl5 with h5 | h5
      · rw [h5] at e'
        rw [nb k e'] at e
        injection e with e
        exact hne e.symm
      · rw [h5] at e'
        injection e' with e'
        have := hs.lt k (by simp [e])
        simp at e'
        omega
    have dis : ∀ k t, O k = some t → t ≠ .nodes → t ≠ .stack → t ≠ .m1 → ¬ (k = b ∨ k = D.r1 ∨ O k = some .nodes) := by
      rintro k t e h1 h2 h3 (rfl | rfl | e')
      · rw [hs.o0] at e; injection e with e; exact h2 e.symm
      · rw [hs.o1] at e; injection e with e; exact h3 e.symm
      · rw [e'] at e; injection e with e; exact h1 e.symm
    have hnew : ∀ (i : Nat) (x : GNode), (N ++ [⟨m, p, [], []⟩])[i]? = some x → N[i]? = some x ∨ (i = N.length ∧ x = ⟨m, p, [], []⟩) := by
      intro i x hx
      rw [List.getElem?_append] at hx
      split at hx
      · exact .inl hx
      · rename_i hlt
        have : i - N.length = 0 := by
          rcases Nat.eq_zero_or_pos (i - N.length) with h0 | h0
          · exact h0
          · rw [List.getElem?_eq_none (by simp; omega)] at hx; cases hx
        rw [this] at hx
        simp at hx
        exact .inr ⟨by omega, hx.symm⟩
    have hO : ∀ k t, O k = some t → t ≠ .nodes → (if Value.ownBlock (.slice A' (N.length + 1) c') = some k then some Tag.nodes else O k) = some t := by
      intro k t e hne
      rw [if_neg (old k t e hne)]; exact e
    refine ⟨fun k => (if Value.ownBlock (.slice A' (N.length + 1) c') = some k then some Tag.nodes else O k) ≠ none, ⟨fun k => if Value.ownBlock (.slice A' (N.length + 1) c') = some k then some Tag.nodes else O k,
      { D with nv := .slice A' (N.length + 1) c', k1 := D.k1 ++ [(key2 m p, .int .i64 N.length)] }, ?_, rfl⟩, T.mono ?_, ?_⟩
    · constructor
      · simpa using b5.set 3 (.slice A' (N.length + 1) c')
      · exact hm3.upd V (by rintro (e | e); exact hbr (by rw [e]); rw [hs.o1] at e; simp at e)
      · exact hs.map2.upd T (dis _ _ hs.o2 (by simp) (by simp) (by simp))
      · exact hs.map3.upd T (dis _ _ hs.o3 (by simp) (by simp) (by simp))
      · simp [List.zipIdx_append, hs.e1]
      · intro q
        rw [hs.e2 q]
        constructor
        · rintro ⟨n, f, x, hx, hf, rfl⟩
          exact ⟨n, f, x, by rw [List.getElem?_append_left (List.getElem?_eq_some_iff.1 hx).1]; exact hx, hf, rfl⟩
        · rintro ⟨n, f, x, hx, hf, rfl⟩
          rcases hnew n x hx with h1 | ⟨_, rfl⟩
          · exact ⟨n, f, x, h1, hf, rfl⟩
          · simp at hf
      · intro q
        rw [hs.e3 q]
        constructor
        · rintro ⟨n, f, x, hx, hf, rfl⟩
          exact ⟨n, f, x, by rw [List.getElem?_append_left (List.getElem?_eq_some_iff.1 hx).1]; exact hx, hf, rfl⟩
        · rintro ⟨n, f, x, hx, hf, rfl⟩
          rcases hnew n x hx with h1 | ⟨_, rfl⟩
          · exact ⟨n, f, x, h1, hf, rfl⟩
          · simp at hf
      · have hc : nodeCells (N ++ [⟨m, p, [], []⟩]) D.fv D.pv = nodeCells N D.fv D.pv ++ [.int .i64 m, .int .i64 p, .slice none 0 0, .slice none 0 0] := by
          simp [nodeCells, List.zipIdx_append, (hs.out N.length (Nat.le_refl _)).1, (hs.out N.length (Nat.le_refl _)).2]
        rw [hc, List.length_append]
        refine ownsRow_upd own5 ((Upd.refl (fun k => k = b) w5).setCell (.inl rfl) _) ?_
        rintro k hk rfl
        exact old _ _ hs.o0 (by simp) hk
      · intro i x hx
        rcases hnew i x hx with h1 | ⟨rfl, rfl⟩
        · exact ownsRow_upd (hs.rowF i x h1) T fun k hk => dis _ _ (hs.oF i (List.getElem?_eq_some_iff.1 h1).1 k hk) (by simp) (by simp) (by simp)
        · show World.ownsRow _ _ _ _ (D.fv N.length) _ _
          rw [(hs.out N.length (Nat.le_refl _)).1]
          exact World.ownsRow_nil _ _ _ _
      · intro i x hx
        rcases hnew i x hx with h1 | ⟨rfl, rfl⟩
        · exact ownsRow_upd (hs.rowP i x h1) T fun k hk => dis _ _ (hs.oP i (List.getElem?_eq_some_iff.1 h1).1 k hk) (by simp) (by simp) (by simp)
        · show World.ownsRow _ _ _ _ (D.pv N.length) _ _
          rw [(hs.out N.length (Nat.le_refl _)).2]
          exact World.ownsRow_nil _ _ _ _
      · exact hO _ _ hs.o0 (by simp)
      · exact hO _ _ hs.o1 (by simp)
      · exact hO _ _ hs.o2 (by simp)
      · exact hO _ _ hs.o3 (by simp)
      · intro k hk
        exact if_pos hk
      · intro i hi k hk
        rcases Nat.lt_or_ge i N.length with hlt | hge
        · exact hO _ _ (hs.oF i hlt k hk) (by simp)
        · have hk' : (D.fv i).ownBlock = some k := hk
          rw [(hs.out i hge).1] at hk'
          simp [Value.ownBlock] at hk'
      · intro i hi k hk
        rcases Nat.lt_or_ge i N.length with hlt | hge
        · exact hO _ _ (hs.oP i hlt k hk) (by simp)
        · have hk' : (D.pv i).ownBlock = some k := hk
          rw [(hs.out i hge).2] at hk'
          simp [Value.ownBlock] at hk'
      · intro k hk
        by_cases e : Value.ownBlock (.slice A' (N.length + 1) c') = some k
        · simpa using (own5.lt k e).2
        · simp only [if_neg e] at hk
          exact Nat.lt_of_lt_of_le (hs.lt k hk) T.size
      · intro x hx
        rcases List.mem_append.1 hx with h1 | h1
        · exact hs.wf x h1
        · obtain rfl := List.mem_singleton.1 h1
          exact ⟨hm, hp, by simp, by simp, by simp, by simp⟩
      · intro i hi
        exact hs.out i (by simp at hi; omega)
      · simp; omega
    · rintro k hk (rfl | rfl | e)
      · simp [hs.o0]
      · simp [hs.o1]
      · simp [e]
    · intro k hk
      by_cases e : Value.ownBlock (.slice A' (N.length + 1) c') = some k
      · rcases pl5 with h5 | h5
        · rw [h5] at e
          exact .inl (by simp [nb k e])
        · rw [h5] at e
          injection e with e
          simp at e
          exact .inr (by omega)
      · simp only [if_neg e] at hk
        exact .inl hk
  have FIN := Lib.hid fin
  clear fin U5 b5 hbn gr5 pl5 own5 hsz row3 nb U3 b3 hbr ob hs3 hg3 hm3 hput hs hi hmiss hnv hA hm hp hN U2 d1 d2 d3 H hb HC hi0 hz0 hz1 hz2
  go_wp2_with (at_builtin; refine wpList_append_run rfl _ _ _ rfl rfl rfl happ ?_)
  go_ret2
  exact ⟨rfl, FIN.out⟩
end Go.Proofs.Ytbppbgdmoihooaa
