/- Graphs: Has; Graphs: AddNode, AddEdge; Graphs: New, Of, Nodes, Node; clones; Graphs: Of. -/
import Derived.Test.YtnmkieiehjajlaaGreatDoorZ29
import Derived.Test.YtnmkieiehjajlaaGreatDoorZ30
import Derived.Shelf.SlMaps.Clone
import Derived.Test.YtnmkieiehjajlaaGreatDoorZ25
set_option linter.unusedVariables false
set_option linter.unusedSimpArgs false
namespace Go.Proofs.YtnmkieiehjajlaaGreatDoor
open Go.RowKit

theorem HopsOK.has {N : List Txt} {X : List Ed} {U V : Nat → List Hp} (h : HopsOK N X U V) (he : ∀ x ∈ X, x.fr ∈ N ∧ x.to ∈ N) {x : Ed} (hf : x.fr ∈ N) (ht : x.to ∈ N) : (⟨x.lb, (idxT N x.to : Int)⟩ : Hp) ∈ U (idxT N x.fr) ↔ x ∈ X := by
  rw [h.um]
  constructor
  · rintro ⟨y, hy, h1, h2⟩
    rw [idxT_at hf] at h1
    injection h1 with h1
    injection h2 with h2 h3
    have := idxT_inj ht (he y hy).2 h3
    obtain ⟨a, b, c⟩ := x
    obtain ⟨a', b', c'⟩ := y
    dsimp only at h1 h2 this
    subst h1; subst h2; subst this
    exact hy
  · intro hx
    exact ⟨x, hx, idxT_at hf, rfl⟩
theorem numT_in {N : List Txt} {s : Txt} (h : s ∈ N) : numT N s = (idxT N s : Int) + 1 := by unfold numT; rw [if_pos (inB_iff.2 h)]
theorem numT_out {N : List Txt} {s : Txt} (h : s ∉ N) : numT N s = 0 := by unfold numT; rw [if_neg (fun e => h (inB_iff.1 e))]
set_option maxHeartbeats 4000000 in
set_option maxRecDepth 20000 in
theorem has_gr (w : World) (F : Nat → Prop) (p : Nat) (G : Gr) (h : GrS w F p G) (ok : GOk G) (x : Ed) (k0 : TxtOk x.fr) (k2 : TxtOk x.to) :
    Calls Tryz.prog 15 #[.pointer (some ⟨p, 0, none⟩), .string x.fr, .string x.lb, .string x.to] w (Sam w (.bool (decide (x ∈ G.X)))) := by
  obtain ⟨U, V, ⟨O, ⟨r, nv, ov, iv, fo, fi⟩, hg, -⟩, ho⟩ := h
  have q1 : w.cell? ⟨p, 1, none⟩ = some (.map (some r)) := hg.blk.cell 1
  have l0 := look_num hg.map x.fr k0
  have l1 := look_num hg.map x.to k2
  by_cases hf : x.fr ∈ G.N
  · rw [numT_in hf] at l0
    have hlf := idxT_lt hf
    have hN := ok.few.1
    obtain ⟨i, hi⟩ : ∃ i, idxT G.N x.fr = i := ⟨_, rfl⟩
    rw [hi] at l0 hlf
    have z0 : ((i : Int) + 1 == 0) = false := by simp; omega
    by_cases ht : x.to ∈ G.N
    · rw [numT_in ht] at l1
      have hlt := idxT_lt ht
      obtain ⟨j, hj⟩ : ∃ j, idxT G.N x.to = j := ⟨_, rfl⟩
      rw [hj] at l1 hlt
      have z1 : ((j : Int) + 1 == 0) = false := by simp; omega
      have w0 : IntKind.i64.wrap (i : Int) = (i : Int) := IntWalk.i64_in _ (by omega)
      have w1 : IntKind.i64.wrap (j : Int) = (j : Int) := IntWalk.i64_in _ (by omega)
      have hdec : decide ((⟨x.lb, (j : Int)⟩ : Hp) ∈ U i) = decide (x ∈ G.X) := by rw [← hi, ← hj]; exact decide_eq_decide.2 (ho.has ok.ends hf ht)
      obtain ⟨og, oc, eo, -, co, -⟩ := row_get hg.ro hlf
      dsimp only at eo co
      subst eo
      obtain ⟨A, cA, eA, -, -⟩ := own_form (hg.fo i)
      dsimp only at eA
      have hrow := hg.fo i
      dsimp only at hrow
      rw [eA] at co hrow
      have hUl := (ho.len i).1
      have hX := ok.few.2
      have hcon := fun W (hb : Below w.heap.size w W) => bsf_any W A cA (U i) ⟨x.lb, (j : Int)⟩ ((RowR.of_own hrow).below hb) (ho.up i) (by omega)
      rw [hdec] at hcon
      obtain ⟨m, hm⟩ : ∃ m, (U i).length = m := ⟨_, rfl⟩
      rw [hm] at hcon co
      obtain ⟨n, hn⟩ : ∃ n, G.N.length = n := ⟨_, rfl⟩
      have q2 : w.cell? ⟨p, 2, none⟩ = some (.slice (some ⟨og, 0, none⟩) n oc) := by rw [← hn]; exact hg.blk.cell 2
      rw [hn] at hlf hlt hN
      have SR := Lib.hid (show ∀ W, Below w.heap.size w W → W.cell? ⟨p, 1, none⟩ = some (.map (some r)) ∧ W.cell? ⟨p, 2, none⟩ = some (.slice (some ⟨og, 0, none⟩) n oc) ∧ W.cell? ⟨og, i, none⟩ = some (.slice A m cA) ∧ (Instr.lookup 98 (.map (some r)) (.string x.fr) false).run Tryz.prog W = .ok (.int .i64 ((i : Int) + 1)) W ∧ (Instr.lookup 98 (.map (some r)) (.string x.to) false).run Tryz.prog W = .ok (.int .i64 ((j : Int) + 1)) W from fun W hb => by
        have hu := Upd.of_below hb (fun _ => False)
        have hm' := hg.map.upd hu id
        have hblk := hg.blk.upd hu id
        have lo := World.block_lt_of_cell? w _ co
        refine ⟨hblk.cell 1, by rw [← hn]; exact hblk.cell 2, by rw [hu.cell (p := ⟨og, i, none⟩) lo id]; exact co, ?_, ?_⟩
        · have := look_num hm' x.fr k0
          rwa [numT_in hf, hi] at this
        · have := look_num hm' x.to k2
          rwa [numT_in ht, hj] at this)
      have hS := SR.out w.drew (Below.refl _ w).drew
      clear hg ho hrow hUl hX eA hi hj hm hn hdec ok
      have hlfI : (i : Int) < (n : Int) := by omega
      go_enter Tryz.func15, Tryz.ntmps15
      go_wp2_with fail
      refine (is_any w p r q1).mono ?_
      rintro e w' ⟨rfl, hw⟩
      subst w'
      go_upto_region 3 with (fail)
      clear q1 q2 co l0 l1
      have HB := Lib.hid (show Below w.heap.size w w.drew from (Below.refl _ w).drew)
      refine wp_region_ord (fun W => W.cell? ⟨p, 1, none⟩ = some (.map (some r)) ∧ W.cell? ⟨p, 2, none⟩ = some (.slice (some ⟨og, 0, none⟩) n oc) ∧ W.cell? ⟨og, i, none⟩ = some (.slice A m cA) ∧ (Instr.lookup 98 (.map (some r)) (.string x.fr) false).run Tryz.prog W = .ok (.int .i64 ((i : Int) + 1)) W ∧ (Instr.lookup 98 (.map (some r)) (.string x.to) false).run Tryz.prog W = .ok (.int .i64 ((j : Int) + 1)) W) 28 [(0, true), (1, true), (2, true), (3, true), (4, true), (5, true), (6, true), (7, true), (8, true), (9, true), (10, true), (11, true), (12, true), (13, true), (14, true), (15, true), (16, true), (17, true), (18, true), (19, true), (20, true), (21, true), (22, false), (23, true), (24, true), (25, true), (26, true), (27, true)] (by kernel_rfl) (by kernel_rfl) (fun _ _ d _ _ h => by cases d <;> exact h) hS ?_
      generalize w.drew = W1 at HB hS ⊢
      iterate 22 (refine ord_take (v := ?_) rfl (by first | with_reducible rfl | kernel_rfl) ?_ ?_; rotate_left; (focus (intro wS hS; (try dsimp only at hS); go_split_ands; go_simp; (try with_reducible rfl); done)); (try simp only [Act.put, List.getElem_toArray, List.getElem_cons_succ, List.getElem_cons_zero, List.setIfInBounds_toArray, List.set_cons_zero, List.set_cons_succ]))
      refine ord_do rfl rfl (fun K hK => ?_)
      have hc := hcon W1 HB.out
      unfold Hp.agg at hc
      dsimp only at hc
      go_simp
      refine hc.mono ?_
      rintro e W2 ⟨rfl, b2⟩
      have HB2 := Lib.hid (HB.out.trans (b2.mono HB.out.size))
      refine hK _ _ (fun _ => SR.out _ HB2.out) ?_
      clear hK K hS hc hcon b2
      (try simp only [Act.put, List.getElem_toArray, List.getElem_cons_succ, List.getElem_cons_zero, List.setIfInBounds_toArray, List.set_cons_zero, List.set_cons_succ])
      iterate 5 (refine ord_take (v := ?_) rfl (by first | with_reducible rfl | kernel_rfl) ?_ ?_; rotate_left; (focus (intro wS hS; (try dsimp only at hS); go_split_ands; go_simp; (try with_reducible rfl); done)); (try simp only [Act.put, List.getElem_toArray, List.getElem_cons_succ, List.getElem_cons_zero, List.setIfInBounds_toArray, List.set_cons_zero, List.set_cons_succ]))
      refine ord_done ?_
      go_wp2
      go_ret
      exact ⟨rfl, HB2.out⟩
    · rw [numT_out ht] at l1
      have hx : decide (x ∈ G.X) = false := decide_eq_false fun hx => ht (ok.ends x hx).2
      rw [hx]
      clear hg ho hi ok
      go_enter Tryz.func15, Tryz.ntmps15
      go_wp2_with fail
      refine (is_any w p r q1).mono ?_
      rintro e w' ⟨rfl, hw⟩
      subst w'
      go_wp2
      go_ret
      exact ⟨rfl, Below.refl _ _⟩
  · rw [numT_out hf] at l0
    have hx : decide (x ∈ G.X) = false := decide_eq_false fun hx => hf (ok.ends x hx).1
    rw [hx]
    clear hg ho ok l1
    go_enter Tryz.func15, Tryz.ntmps15
    go_wp2_with fail
    refine (is_any w p r q1).mono ?_
    rintro e w' ⟨rfl, hw⟩
    subst w'
    go_wp2
    go_ret
    exact ⟨rfl, Below.refl _ _⟩
end Go.Proofs.YtnmkieiehjajlaaGreatDoor
namespace Go.Proofs.YtnmkieiehjajlaaGreatDoor
open Go.RowKit

def AddP (w : World) (F : Nat → Prop) (p : Nat) (r : Gr × Bool × Int) (e : Ending) (w' : World) : Prop := e = .returned (.tuple #[.bool r.2.1, .int .i64 r.2.2]) ∧ GrTo w F p r.1 w'
theorem GrTo.after {w w1 w' : World} {F : Nat → Prop} {p : Nat} {G : Gr} (hb : Below w.heap.size w w1) (h : GrTo w1 F p G w') : GrTo w F p G w' := by
  obtain ⟨F', g, u, n⟩ := h
  exact ⟨F', g, (Upd.of_below hb F).trans u (fun _ h => .inl h), fun k hk => (n k hk).imp id fun h => Nat.le_trans hb.size h⟩
set_option maxHeartbeats 4000000 in
set_option maxRecDepth 20000 in
theorem addNode_gr (w : World) (F : Nat → Prop) (p : Nat) (G : Gr) (h : GrS w F p G) (ok : GOk G) (s : Txt) (hk : TxtOk s) :
    Calls Tryz.prog 35 #[.pointer (some ⟨p, 0, none⟩), .string s] w (AddP w F p (addNode G s)) := by
  have h0 := h
  obtain ⟨U, V, hgr, ho⟩ := h
  obtain ⟨O, ⟨r, nv, ov, iv, fo, fi⟩, hg, hF⟩ := hgr
  have q1 : w.cell? ⟨p, 1, none⟩ = some (.map (some r)) := hg.blk.cell 1
  have l0 := look_num hg.map s hk
  by_cases hs : s ∈ G.N
  · rw [numT_in hs] at l0
    generalize idxT G.N s = i at l0
    have z0 : (0 : Int) < (i : Int) + 1 := by omega
    have FIN := Lib.hid (show AddP w F p (addNode G s) (.returned (.tuple #[.bool false, .int .i64 0])) w from by
      have e : addNode G s = (G, false, 0) := by unfold addNode; rw [if_pos (inB_iff.2 hs)]
      rw [e]
      exact ⟨rfl, GrTo.refl h0 (Below.refl _ _)⟩)
    clear hg ho ok h0 hF
    go_enter Tryz.func35, Tryz.ntmps35
    go_wp2_with fail
    refine (is_any w p r q1).mono ?_
    rintro e w' ⟨rfl, hw⟩
    subst w'
    go_wp2
    refine bodyPost_ret (v := .tuple #[.bool false, .int .i64 0]) (by simp [results, Tryz.f35, go_sem]) rfl FIN.out
  · rw [numT_out hs] at l0
    have k1 := Blk.new w 9 #[.string s]
    have u1 : Below w.heap.size w (w.alloc (.cells #[.string s] 9)) := (Below.refl _ _).alloc (Nat.le_refl _) _
    have hcon := fits_gr (w.alloc (.cells #[.string s] 9)) F p G (h0.below u1) ok (some ⟨w.heap.size, 0, none⟩) 1 none 0 [s] [] (row_one k1) (fun j u hj => by simp [edCells] at hj) (by simp) (by simp) (fun t ht => by rw [List.mem_singleton] at ht; subst ht; exact hk) (fun x hx => by cases hx)
    rw [List.append_nil] at hcon
    obtain ⟨z, hz⟩ : ∃ z, ofI (G.N ++ [s]) G.X = z := ⟨_, rfl⟩
    rw [hz] at hcon
    have HZ := Lib.hid (And.intro hz (And.intro h0 (And.intro ok u1)))
    clear hg ho ok h0 hF k1 u1 hz
    go_enter Tryz.func35, Tryz.ntmps35
    go_wp2_with fail
    refine (is_any w p r q1).mono ?_
    rintro e w' ⟨rfl, hw⟩
    subst w'
    go_wp2_with fail
    refine hcon.mono ?_
    clear hcon q1 l0
    rintro e W2 ⟨rfl, b2⟩
    have HB := Lib.hid (show Below w.heap.size w W2 from HZ.out.2.2.2.trans (b2.mono HZ.out.2.2.2.size))
    clear b2
    by_cases h0 : z = 0
    · subst h0
      have hgr := HZ.out.2.1.below HB.out
      have hN := HZ.out.2.2.1.few.1
      obtain ⟨U, V, hgr, ho⟩ := hgr
      have hc := node_any W2 F p G.N U V G.X.length s hgr hk (by omega)
      have HO := Lib.hid ho
      clear hgr ho hN
      go_wp2_with fail
      refine hc.mono ?_
      clear hc
      rintro e W3 ⟨rfl, F3, g3, u3, n3⟩
      have FIN := Lib.hid (show AddP w F p (addNode G s) (.returned (.tuple #[.bool true, .int .i64 0])) W3 from by
        have e : addNode G s = (⟨G.N ++ [s], G.X⟩, true, 0) := by unfold addNode; rw [if_neg (fun e => hs (inB_iff.1 e)), if_pos HZ.out.1]
        have hadd : addN G.N s = G.N ++ [s] := by unfold addN; rw [if_neg (fun e => hs (inB_iff.1 e))]
        rw [e]
        refine ⟨rfl, GrTo.after HB.out ⟨F3, ⟨U, V, ?_, ?_⟩, u3, n3⟩⟩
        · rw [← hadd]; exact g3
        · have := HO.out.node HZ.out.2.2.1.ends s
          rwa [hadd] at this)
      clear g3 u3 n3
      go_wp2
      refine bodyPost_ret (v := .tuple #[.bool true, .int .i64 0]) (by simp [results, Tryz.f35, go_sem]) rfl FIN.out
    · have h0I : (z == 0) = false := by simpa using h0
      have FIN := Lib.hid (show AddP w F p (addNode G s) (.returned (.tuple #[.bool false, .int .i64 z])) W2 from by
        have e : addNode G s = (G, false, z) := by unfold addNode; rw [if_neg (fun e => hs (inB_iff.1 e)), if_neg (by rw [HZ.out.1]; exact h0), HZ.out.1]
        rw [e]
        exact ⟨rfl, GrTo.refl HZ.out.2.1 HB.out⟩)
      go_wp2
      refine bodyPost_ret (v := .tuple #[.bool false, .int .i64 z]) (by simp [results, Tryz.f35, go_sem]) rfl FIN.out
set_option maxHeartbeats 4000000 in
set_option maxRecDepth 20000 in
theorem addEdge_gr (w : World) (F : Nat → Prop) (p : Nat) (G : Gr) (h : GrS w F p G) (ok : GOk G) (x : Ed) (hk : EdOk x) :
    Calls Tryz.prog 34 #[.pointer (some ⟨p, 0, none⟩), .string x.fr, .string x.lb, .string x.to] w (AddP w F p (addEdge G x)) := by
  have h0 := h
  obtain ⟨U, V, hgr, ho⟩ := h
  obtain ⟨O, ⟨r, nv, ov, iv, fo, fi⟩, hg, hF⟩ := hgr
  have q1 : w.cell? ⟨p, 1, none⟩ = some (.map (some r)) := hg.blk.cell 1
  have hhas := has_gr w F p G h0 ok x hk.1 hk.2.2
  clear hg ho hF
  by_cases hx : x ∈ G.X
  · rw [decide_eq_true hx] at hhas
    have HG := Lib.hid (show ∀ W, Below w.heap.size w W → AddP w F p (addEdge G x) (.returned (.tuple #[.bool false, .int .i64 0])) W from fun W hb => by
      have e : addEdge G x = (G, false, 0) := by unfold addEdge; rw [if_pos hx]
      rw [e]
      exact ⟨rfl, GrTo.refl h0 hb⟩)
    clear ok h0
    go_enter Tryz.func34, Tryz.ntmps34
    go_wp2_with fail
    refine (is_any w p r q1).mono ?_
    rintro e w' ⟨rfl, hw⟩
    subst w'
    go_wp2_with fail
    refine hhas.mono ?_
    rintro e W1 ⟨rfl, b1⟩
    have FIN := Lib.hid (HG.out W1 b1)
    clear b1
    go_wp2
    refine bodyPost_ret (v := .tuple #[.bool false, .int .i64 0]) (by simp [results, Tryz.f34, go_sem]) rfl FIN.out
  · rw [decide_eq_false hx] at hhas
    have H := Lib.hid (And.intro h0 (And.intro ok (And.intro hx hk)))
    clear ok h0 hk
    obtain ⟨s0, s1, s2⟩ := x
    dsimp only at hhas
    go_enter Tryz.func34, Tryz.ntmps34
    go_wp2_with fail
    refine (is_any w p r q1).mono ?_
    rintro e w' ⟨rfl, hw⟩
    subst w'
    go_wp2_with fail
    refine hhas.mono ?_
    clear hhas q1
    rintro e W1 ⟨rfl, b1⟩
    have k1 := Blk.new W1 52 #[.string s0, .string s1, .string s2]
    have u1 : Below W1.heap.size W1 (W1.alloc (.cells #[.string s0, .string s1, .string s2] 52)) := (Below.refl _ _).alloc (Nat.le_refl _) _
    have HW := Lib.hid (And.intro (b1.trans (u1.mono b1.size)) k1)
    clear k1 u1 b1
    go_upto_region 6 with (fail)
    generalize W1.alloc (.cells #[.string s0, .string s1, .string s2] 52) = W2 at HW ⊢
    have q0 : W2.cell? ⟨W1.heap.size, 0, none⟩ = some (.string s0) := HW.out.2.cell 0
    have q1 : W2.cell? ⟨W1.heap.size, 1, none⟩ = some (.string s1) := HW.out.2.cell 1
    have q2 : W2.cell? ⟨W1.heap.size, 2, none⟩ = some (.string s2) := HW.out.2.cell 2
    have k3 := Blk.new W2 52 #[.string s0, .string s1, .string s2]
    have u3 : Below W2.heap.size W2 (W2.alloc (.cells #[.string s0, .string s1, .string s2] 52)) := (Below.refl _ _).alloc (Nat.le_refl _) _
    have b3 := HW.out.1.trans (u3.mono HW.out.1.size)
    have hcon := fits_gr (W2.alloc (.cells #[.string s0, .string s1, .string s2] 52)) F p G (H.out.1.below b3) H.out.2.1 none 0 (some ⟨W2.heap.size, 0, none⟩) 1 [] [⟨s0, s1, s2⟩] (fun j u hj => by simp [txtCells] at hj) (fun j u hj => ⟨W2.heap.size, 0, rfl, by rw [Nat.zero_add, k3.cell j]; simpa [edCells, Ed.cells] using hj⟩) (by simp) (by simp) (fun t ht => by cases ht) (fun y hy => by rw [List.mem_singleton] at hy; subst hy; exact H.out.2.2.2)
    rw [List.append_nil] at hcon
    obtain ⟨z, hz⟩ : ∃ z, ofI G.N (G.X ++ [⟨s0, s1, s2⟩]) = z := ⟨_, rfl⟩
    rw [hz] at hcon
    have HZ := Lib.hid (And.intro hz (And.intro b3 (HW.out.2.upd (Upd.of_below u3 (fun _ => False)) id)))
    clear k3 u3 b3 hz
    go_wp2_with fail
    refine hcon.mono ?_
    clear hcon q0 q1 q2
    rintro e W4 ⟨rfl, b4⟩
    have HB := Lib.hid (show Below w.heap.size w W4 from HZ.out.2.1.trans (b4.mono HZ.out.2.1.size))
    have k4 := HZ.out.2.2.upd (Upd.of_below b4 (fun _ => False)) id
    have q0 : W4.cell? ⟨W1.heap.size, 0, none⟩ = some (.string s0) := k4.cell 0
    have q1 : W4.cell? ⟨W1.heap.size, 1, none⟩ = some (.string s1) := k4.cell 1
    have q2 : W4.cell? ⟨W1.heap.size, 2, none⟩ = some (.string s2) := k4.cell 2
    clear b4 k4
    by_cases h0 : z = 0
    · subst h0
      have hf := H.out.2.1.few
      obtain ⟨U, V, hgr, ho⟩ := H.out.1.below HB.out
      have hUV := fun k => ho.len k
      have hc := edge_any W4 F p G.N U V G.X.length ⟨s0, s1, s2⟩ hgr H.out.2.2.2 (by omega) (fun k => ⟨ho.up k, by have := (hUV k).1; omega⟩) (fun k => ⟨ho.vp k, by have := (hUV k).2; omega⟩) ⟨by omega, by omega⟩
      have HO := Lib.hid ho
      clear hgr ho hUV hf
      unfold Ed.agg at hc
      dsimp only at hc
      go_wp2_with fail
      refine hc.mono ?_
      clear hc q0 q1 q2
      rintro e W5 ⟨rfl, F5, g5, u5, n5⟩
      have FIN := Lib.hid (show AddP w F p (addEdge G ⟨s0, s1, s2⟩) (.returned (.tuple #[.bool true, .int .i64 0])) W5 from by
        have e : addEdge G ⟨s0, s1, s2⟩ = (⟨addN (addN G.N s0) s2, G.X ++ [⟨s0, s1, s2⟩]⟩, true, 0) := by unfold addEdge; rw [if_neg H.out.2.2.1, if_pos HZ.out.1]
        have ok := H.out.2.1
        rw [e]
        have m : ∀ y ∈ G.X, y.fr ∈ addN (addN G.N s0) s2 ∧ y.to ∈ addN (addN G.N s0) s2 := fun y hy => by
          simp only [mem_addN]
          exact ⟨.inl (.inl (ok.ends y hy).1), .inl (.inl (ok.ends y hy).2)⟩
        have m1 : ∀ y ∈ G.X, y.fr ∈ addN G.N s0 ∧ y.to ∈ addN G.N s0 := fun y hy => by
          simp only [mem_addN]
          exact ⟨.inl (ok.ends y hy).1, .inl (ok.ends y hy).2⟩
        have hops := ((HO.out.node ok.ends s0).node m1 s2).edge (addN_nodup (addN_nodup ok.nd s0) s2) m (x := ⟨s0, s1, s2⟩) (by simp [mem_addN]) (by simp [mem_addN]) H.out.2.2.1
        refine ⟨rfl, GrTo.after HB.out ⟨F5, ⟨_, _, ?_, hops⟩, u5, n5⟩⟩
        have e2 : (((G.X ++ [⟨s0, s1, s2⟩] : List Ed).length : Nat) : Int) = (G.X.length : Int) + 1 := by simp
        dsimp only
        rw [e2]
        exact g5)
      clear g5 u5 n5
      go_wp2
      refine bodyPost_ret (v := .tuple #[.bool true, .int .i64 0]) (by simp [results, Tryz.f34, go_sem]) rfl FIN.out
    · have h0I : (z == 0) = false := by simpa using h0
      have FIN := Lib.hid (show AddP w F p (addEdge G ⟨s0, s1, s2⟩) (.returned (.tuple #[.bool false, .int .i64 z])) W4 from by
        have e : addEdge G ⟨s0, s1, s2⟩ = (G, false, z) := by unfold addEdge; rw [if_neg H.out.2.2.1, if_neg (by rw [HZ.out.1]; exact h0), HZ.out.1]
        rw [e]
        exact ⟨rfl, GrTo.refl H.out.1 HB.out⟩)
      go_wp2
      refine bodyPost_ret (v := .tuple #[.bool false, .int .i64 z]) (by simp [results, Tryz.f34, go_sem]) rfl FIN.out
end Go.Proofs.YtnmkieiehjajlaaGreatDoor
namespace Go.Proofs.YtnmkieiehjajlaaGreatDoor
open Go.RowKit

def NewH (w : World) (L : List Hp) (e : Ending) (w' : World) : Prop := ∃ v, e = .returned v ∧ w'.ownsRow w.heap.size 36 2 v L.length (hpCells L) ∧ Below w.heap.size w w'
set_option maxHeartbeats 1000000 in
set_option maxRecDepth 20000 in
theorem clone_hp (w : World) (A : Option Addr) (c : Nat) (L : List Hp) (h : RowR w A (hpCells L)) (hl : L.length * 24 ≤ 140737488355328) :
    Calls Tryz.prog 57 #[.slice A L.length c] w (NewH w L) := by
  have heq := fun (A : Option Addr) (n c n' c' : Nat) (w : World) => Lib.run_eql_slice_nil (P := Tryz.prog) w 31 36 A n c n' c' Tryz.underlying31
  rcases A with _ | ⟨gb, go, sp⟩
  · have hL : L = [] := by
      cases L with
      | nil => rfl
      | cons s L => obtain ⟨b, o, e, -⟩ := h 0 (.string s.lb) rfl; cases e
    subst hL
    clear h hl
    go_enter Tryz.func57, Tryz.ntmps57
    go_wp2
    go_ret
    exact ⟨_, rfl, World.ownsRow_nil _ _ _ _, Below.refl _ _⟩
  · obtain ⟨i0, hi0, hz0, hz1, hz2⟩ := info_parts info_hop
    have b1 : Below w.heap.size w (w.alloc (.cells #[] 36)) := (Below.refl _ _).alloc (Nat.le_refl _) _
    have hr := (h.below b1).reads (hpCells_len L) (by decide)
    have own : (w.alloc (.cells #[] 36)).ownsRow w.heap.size 36 2 (.slice (some ⟨w.heap.size, 0, none⟩) 0 0) 0 [] := ⟨rfl, .inr ⟨w.heap.size, 0, #[], rfl, Nat.le_refl _, heap_alloc_new w _, Nat.le_refl _, by decide, rfl, rfl⟩⟩
    obtain ⟨v', w', happ, own', gr, -, -⟩ := run_append_own_at (P := Tryz.prog) (w.alloc (.cells #[] 36)) w.heap.size 31 31 36 i0 _ 2 24 Tryz.underlying31 hi0 hz0 hz1 hz2 rfl (by decide) (.slice (some ⟨w.heap.size, 0, none⟩) 0 0) 0 [] own ⟨gb, go, sp⟩ L.length c (hpCells L) (hpCells_len L) (hr.2.2 _ rfl) (one_hp L) (by unfold maxLen; omega) (by omega) (by simp)
    have fin : NewH w L (.returned v') w' := ⟨v', rfl, by simpa using own', b1.grown gr (by simp) (fun k hk => by simp [Value.ownBlock] at hk; omega)⟩
    have FIN := Lib.hid fin
    clear fin own own' gr hr b1 hi0 hz0 hz1 hz2 h
    go_enter Tryz.func57, Tryz.ntmps57
    go_wp2_with (at_builtin; refine wpList_append_run rfl _ _ _ rfl rfl rfl happ ?_)
    go_ret
    exact FIN.out

/-- A graph that was made since. -/
def Fresh (B : Nat) (p : Nat) (G : Gr) (w' : World) : Prop := ∃ F, GrS w' F p G ∧ (∀ k, F k → B ≤ k)
theorem Fresh.step {B p : Nat} {G' : Gr} {w w' : World} {F : Nat → Prop} (hF : ∀ k, F k → B ≤ k) (hB : B ≤ w.heap.size) (h : GrTo w F p G' w') : Fresh B p G' w' ∧ Below B w w' := by
  obtain ⟨F', g, u, n⟩ := h
  refine ⟨⟨F', g, fun k hk => ?_⟩, u.below (fun i _ hi => hF i hi) hB⟩
  rcases n k hk with h | h
  · exact hF k h
  · omega
theorem Fresh.below {B p : Nat} {G : Gr} {w w' : World} (h : Fresh B p G w) (hb : Below w.heap.size w w') : Fresh B p G w' := by
  obtain ⟨F, g, n⟩ := h
  exact ⟨F, g.below hb, n⟩
theorem Fresh.is {B p : Nat} {G : Gr} {w : World} (h : Fresh B p G w) : ∃ r, w.cell? ⟨p, 1, none⟩ = some (.map (some r)) := by
  obtain ⟨F, ⟨U, V, ⟨O, ⟨r, nv, ov, iv, fo, fi⟩, hg, -⟩, -⟩, -⟩ := h
  exact ⟨r, hg.blk.cell 1⟩
def GMade (w : World) (G : Gr) (f : Value → Value) (e : Ending) (w' : World) : Prop := ∃ p, e = .returned (f (.pointer (some ⟨p, 0, none⟩))) ∧ Fresh w.heap.size p G w' ∧ Below w.heap.size w w'
theorem new_fin (w : World) : Fresh w.heap.size (w.heap.size + 1) ⟨[], []⟩ ((w.alloc (.map #[] 0)).alloc (.cells #[.slice none 0 0, .map (some w.heap.size), .slice none 0 0, .slice none 0 0, .int .i64 0] 101)) := by
  have k1 := Blk.new (w.alloc (.map #[] 0)) 101 #[.slice none 0 0, .map (some w.heap.size), .slice none 0 0, .slice none 0 0, .int .i64 0]
  have hz : (w.alloc (.map #[] 0)).heap.size = w.heap.size + 1 := by simp
  rw [hz] at k1
  refine ⟨fun k => (if k = w.heap.size + 1 then some Ro.p else if k = w.heap.size then some Ro.m else none) ≠ none, ⟨fun _ => [], fun _ => [], ⟨fun k => if k = w.heap.size + 1 then some Ro.p else if k = w.heap.size then some Ro.m else none, ⟨w.heap.size, .slice none 0 0, .slice none 0 0, .slice none 0 0, fun _ => .slice none 0 0, fun _ => .slice none 0 0⟩, ⟨k1, (MapIs.made w _ _).alloc _, World.ownsRow_nil _ _ _ _, World.ownsRow_nil _ _ _ _, World.ownsRow_nil _ _ _ _, fun _ => World.ownsRow_nil _ _ _ _, fun _ => World.ownsRow_nil _ _ _ _, if_pos rfl, ?_, ?_, ?_, ?_, ?_, ?_, ?_, fun _ _ => ⟨rfl, rfl⟩⟩, rfl⟩, HopsOK.new⟩, ?_⟩
  · show (if w.heap.size = w.heap.size + 1 then some Ro.p else if w.heap.size = w.heap.size then some Ro.m else none) = some Ro.m
    rw [if_neg (by omega), if_pos rfl]
  · intro k hk; simp [Value.ownBlock] at hk
  · intro k hk; simp [Value.ownBlock] at hk
  · intro k hk; simp [Value.ownBlock] at hk
  · intro j k hk; simp [Value.ownBlock] at hk
  · intro j k hk; simp [Value.ownBlock] at hk
  · intro k hk
    simp only [World.size_alloc] at *
    split at hk
    · omega
    split at hk
    · omega
    · exact absurd rfl hk
  · intro k hk
    split at hk
    · omega
    split at hk
    · omega
    · exact absurd rfl hk
set_option maxHeartbeats 1000000 in
set_option maxRecDepth 20000 in
theorem new_gr (w : World) : Calls Tryz.prog 19 #[] w (GMade w ⟨[], []⟩ id) := by
  have FIN := Lib.hid (new_fin w)
  have HB := Lib.hid (show Below w.heap.size w ((w.alloc (.map #[] 0)).alloc (.cells #[.slice none 0 0, .map (some w.heap.size), .slice none 0 0, .slice none 0 0, .int .i64 0] 101)) from ((Below.refl _ _).alloc (Nat.le_refl _) _).alloc (by simp) _)
  have hmm := @run_makeMap Tryz.prog
  go_enter Tryz.func19, Tryz.ntmps19
  go_wp2
  go_ret
  exact ⟨_, rfl, FIN.out, HB.out⟩
set_option maxHeartbeats 1000000 in
set_option maxRecDepth 20000 in
theorem nodes_gr (w : World) (F : Nat → Prop) (p : Nat) (G : Gr) (h : GrS w F p G) (ok : GOk G) : Calls Tryz.prog 11 #[.pointer (some ⟨p, 0, none⟩)] w (NewT w G.N) := by
  obtain ⟨U, V, ⟨O, ⟨r, nv, ov, iv, fo, fi⟩, hg, -⟩, -⟩ := h
  have hN := ok.few.1
  have q1 : w.cell? ⟨p, 1, none⟩ = some (.map (some r)) := hg.blk.cell 1
  obtain ⟨nA, nc, e1, -, -⟩ := own_form hg.rn
  dsimp only at e1
  subst e1
  have hcon := clone_txt w nA nc G.N (RowR.of_own hg.rn) (by omega)
  obtain ⟨n, hn⟩ : ∃ n, G.N.length = n := ⟨_, rfl⟩
  have q0 : w.cell? ⟨p, 0, none⟩ = some (.slice nA n nc) := by rw [← hn]; exact hg.blk.cell 0
  rw [hn] at hcon
  clear hg hn hN
  go_enter Tryz.func11, Tryz.ntmps11
  go_wp2_with fail
  refine (is_any w p r q1).mono ?_
  rintro e w' ⟨rfl, hw⟩
  subst w'
  go_wp2_with fail
  refine hcon.mono ?_
  rintro e w' ⟨v, rfl, o, b⟩
  have FIN := Lib.hid (show NewT w G.N (.returned v) w' from ⟨v, rfl, o, b⟩)
  clear o b hcon
  go_wp2
  go_ret
  exact FIN.out
def numI (N : List Txt) (s : Txt) : Value := if inB s N = true then .tuple #[.int .i64 (idxT N s), .int .i64 0] else .tuple #[.int .i64 0, .int .i64 4]
set_option maxHeartbeats 1000000 in
set_option maxRecDepth 20000 in
theorem node_gr (w : World) (F : Nat → Prop) (p : Nat) (G : Gr) (h : GrS w F p G) (ok : GOk G) (s : Txt) (hk : TxtOk s) : Calls Tryz.prog 36 #[.pointer (some ⟨p, 0, none⟩), .string s] w (Only w (numI G.N s)) := by
  obtain ⟨U, V, ⟨O, ⟨r, nv, ov, iv, fo, fi⟩, hg, -⟩, -⟩ := h
  have hN := ok.few.1
  have q1 : w.cell? ⟨p, 1, none⟩ = some (.map (some r)) := hg.blk.cell 1
  have l0 := look_num hg.map s hk
  unfold numI
  by_cases hs : s ∈ G.N
  · rw [if_pos (inB_iff.2 hs)]
    have hlt := idxT_lt hs
    rw [numT_in hs] at l0
    generalize idxT G.N s = i at l0 hlt ⊢
    have z0 : ((i : Int) + 1 == 0) = false := by simp; omega
    have w0 : IntKind.i64.wrap (i : Int) = (i : Int) := IntWalk.i64_in _ (by omega)
    clear hg
    go_enter Tryz.func36, Tryz.ntmps36
    go_wp2_with fail
    refine (is_any w p r q1).mono ?_
    rintro e w' ⟨rfl, hw⟩
    subst w'
    go_wp2
    refine bodyPost_ret (v := .tuple #[.int .i64 (i : Int), .int .i64 0]) (by simp [results, Tryz.f36, go_sem]) rfl ⟨rfl, rfl⟩
  · rw [if_neg (fun e => hs (inB_iff.1 e))]
    rw [numT_out hs] at l0
    clear hg
    go_enter Tryz.func36, Tryz.ntmps36
    go_wp2_with fail
    refine (is_any w p r q1).mono ?_
    rintro e w' ⟨rfl, hw⟩
    subst w'
    go_wp2
    refine bodyPost_ret (v := .tuple #[.int .i64 0, .int .i64 4]) (by simp [results, Tryz.f36, go_sem]) rfl ⟨rfl, rfl⟩
set_option maxHeartbeats 1000000 in
set_option maxRecDepth 20000 in
theorem clone_map (w : World) (b : Nat) (es : Array MapEntry) (clock : Nat) (hb : w.heap[b]? = some (.map es clock)) :
    Calls Tryz.prog 56 #[.map (some b)] w fun e w' => e = .returned (.map (some w.heap.size)) ∧ w' = w.alloc (.map es clock) := by
  have hq := fun w => run_eql_map_nil_sl (P := Tryz.prog) w 98 _ _ (some b) Tryz.underlying98
  go_enter Tryz.func56, Tryz.ntmps56
  go_wp2
  rw [run_callFunc_extern Tryz.func97 (by kernel_rfl) (by kernel_rfl) (by kernel_rfl) (e := Extern.MapsClone.clone) (by kernel_rfl), run_maps_clone_sl w 98 hb]
  simp only [Result.andThen]
  rw [Oper.upon_value]
  go_wp2
  rw [run_typeAssert_map_sl _ 98 20 _ _ _ Tryz.underlying98]
  simp only [Result.andThen]
  rw [Oper.upon_value]
  go_wp2
  go_ret
  exact ⟨rfl, rfl⟩
end Go.Proofs.YtnmkieiehjajlaaGreatDoor
namespace Go.Proofs.YtnmkieiehjajlaaGreatDoor
open Go.RowKit

theorem Fresh.mono {B B' p : Nat} {G : Gr} {w : World} (h : Fresh B p G w) (hb : B' ≤ B) : Fresh B' p G w := by
  obtain ⟨F, g, n⟩ := h
  exact ⟨F, g, fun k hk => Nat.le_trans hb (n k hk)⟩
theorem take_addN {N : List Txt} (hd : N.Nodup) {k : Nat} {s : Txt} (h : N[k]? = some s) : addN (N.take k) s = N.take (k + 1) := by
  have hs : s ∉ N.take k := fun hm => by
    have e := List.take_append_drop k N
    obtain ⟨hk, hk2⟩ := List.getElem?_eq_some_iff.1 h
    have hmem : s ∈ N.drop k := by
      rw [List.drop_eq_getElem_cons hk, hk2]
      simp
    rw [← e, List.nodup_append] at hd
    exact hd.2.2 s hm s hmem rfl
  unfold addN
  rw [if_neg (fun e => hs (inB_iff.1 e)), List.take_add_one, h]
  rfl
theorem addN_in {N : List Txt} {s : Txt} (h : s ∈ N) : addN N s = N := by unfold addN; rw [if_pos (inB_iff.2 h)]
theorem take_notin {α : Type} {N : List α} (hd : N.Nodup) {k : Nat} {s : α} (h : N[k]? = some s) : s ∉ N.take k := fun hm => by
  have e := List.take_append_drop k N
  obtain ⟨hk, hk2⟩ := List.getElem?_eq_some_iff.1 h
  have hmem : s ∈ N.drop k := by
    rw [List.drop_eq_getElem_cons hk, hk2]
    simp
  rw [← e, List.nodup_append] at hd
  exact hd.2.2 s hm s hmem rfl
def GMadeE (w : World) (N : List Txt) (E : List Ed) (e : Ending) (w' : World) : Prop :=
  (checkI N E ≠ 0 ∧ e = .returned (.tuple #[.pointer none, .int .i64 (checkI N E)]) ∧ Below w.heap.size w w') ∨ (checkI N E = 0 ∧ GMade w ⟨N, E⟩ (fun v => .tuple #[v, .int .i64 0]) e w')
/-- A graph as it grows, node by node, edge by edge. -/
theorem fresh_node {B p k : Nat} {N : List Txt} {w : World} (hd : N.Nodup) (h : Fresh B p ⟨N.take k, []⟩ w) (hB : B ≤ w.heap.size) {s : Txt} (hs : N[k]? = some s) (hk : TxtOk s) (hl : N.length ≤ 32) :
    Calls Tryz.prog 53 #[.pointer (some ⟨p, 0, none⟩), .string s] w (fun e w' => (∃ v, e = .returned v) ∧ Fresh B p ⟨N.take (k + 1), []⟩ w' ∧ Below B w w') := by
  obtain ⟨F, ⟨U, V, g, ho⟩, n⟩ := h
  refine (node_any w F p (N.take k) U V _ s g hk (by rw [List.length_take]; omega)).mono ?_
  rintro e w' ⟨rfl, F', g', u', n'⟩
  have := Fresh.step (G' := ⟨N.take (k + 1), []⟩) n hB ⟨F', ⟨U, V, by rw [take_addN hd hs] at g'; exact g', by have := ho.node (fun x hx => by cases hx) s; rw [take_addN hd hs] at this; exact this⟩, u', n'⟩
  exact ⟨⟨_, rfl⟩, this⟩
theorem fresh_edge {B p k : Nat} {N : List Txt} {E : List Ed} {w : World} (hN : N.Nodup) (hd : E.Nodup) (hends : ∀ x ∈ E, x.fr ∈ N ∧ x.to ∈ N) (h : Fresh B p ⟨N, E.take k⟩ w) (hB : B ≤ w.heap.size) {x : Ed} (hx : E[k]? = some x) (hk : EdOk x) (hl : N.length ≤ 32) (he : E.length ≤ 256) :
    Calls Tryz.prog 54 #[.pointer (some ⟨p, 0, none⟩), x.agg] w (fun e w' => (∃ v, e = .returned v) ∧ Fresh B p ⟨N, E.take (k + 1)⟩ w' ∧ Below B w w') := by
  obtain ⟨F, ⟨U, V, g, ho⟩, n⟩ := h
  have hlt : (E.take k).length ≤ 256 := by rw [List.length_take]; omega
  have hUV := fun k => ho.len k
  dsimp only at ho hUV
  have hm := hends x (List.mem_of_getElem? hx)
  have hts : ∀ y ∈ E.take k, y.fr ∈ N ∧ y.to ∈ N := fun y hy => hends y (List.mem_of_mem_take hy)
  refine (edge_any w F p N U V _ x g hk (by omega) (fun k => ⟨ho.up k, by have := (hUV k).1; omega⟩) (fun k => ⟨ho.vp k, by have := (hUV k).2; omega⟩) ⟨by omega, by dsimp only; omega⟩).mono ?_
  rintro e w' ⟨rfl, F', g', u', n'⟩
  have e1 : addN (addN N x.fr) x.to = N := by rw [addN_in hm.1, addN_in hm.2]
  rw [e1] at g'
  have e2 : E.take k ++ [x] = E.take (k + 1) := by rw [List.take_add_one, hx]; rfl
  have hops := ho.edge hN hts hm.1 hm.2 (take_notin hd hx)
  rw [e2] at hops
  have e3 : (((E.take (k + 1)).length : Nat) : Int) = ((E.take k).length : Int) + 1 := by rw [← e2]; simp
  have := Fresh.step (G' := ⟨N, E.take (k + 1)⟩) n hB ⟨F', ⟨_, _, by dsimp only; rw [e3]; exact g', hops⟩, u', n'⟩
  exact ⟨⟨_, rfl⟩, this⟩
set_option maxHeartbeats 4000000 in
set_option maxRecDepth 20000 in
theorem ofg_any (w : World) (A : Option Addr) (c : Nat) (B : Option Addr) (d : Nat) (N : List Txt) (E : List Ed) (h : ForG w A c B d N E) :
    Calls Tryz.prog 21 #[twoV A N.length c B E.length d] w (GMadeE w N E) := by
  have k0 := Blk.new w 54 #[.slice A N.length c, .slice B E.length d]
  have u0 : Below w.heap.size w (w.alloc (.cells #[.slice A N.length c, .slice B E.length d] 54)) := (Below.refl _ _).alloc (Nat.le_refl _) _
  have H := Lib.hid (And.intro (h.below u0) (And.intro k0 u0))
  clear h k0 u0
  obtain ⟨z, hz⟩ : ∃ z, checkI N E = z := ⟨_, rfl⟩
  have HZ := Lib.hid hz
  clear hz
  unfold twoV
  obtain ⟨n, hn⟩ : ∃ n, N.length = n := ⟨_, rfl⟩
  obtain ⟨m, hm⟩ : ∃ m, E.length = m := ⟨_, rfl⟩
  have hche := fun W hG => echeck_any W A c B d N E hG
  unfold twoV at hche
  rw [hn, hm] at H hche ⊢
  have HL := Lib.hid (And.intro hn hm)
  clear hn hm
  go_enter Tryz.func21, Tryz.ntmps21
  go_upto_region 1 with (fail)
  generalize w.alloc (.cells #[.slice A n c, .slice B m d] 54) = W0 at H ⊢
  have q0 : W0.cell? ⟨w.heap.size, 0, none⟩ = some (.slice A n c) := H.out.2.1.cell 0
  have q1 : W0.cell? ⟨w.heap.size, 1, none⟩ = some (.slice B m d) := H.out.2.1.cell 1
  have hcon := hche W0 H.out.1
  rw [HZ.out] at hcon
  go_wp2_with fail
  refine hcon.mono ?_
  clear hcon hche q0 q1
  rintro e W1 ⟨rfl, b1⟩
  have H1 := Lib.hid (And.intro (H.out.1.below b1) (And.intro (H.out.2.1.upd (Upd.of_below b1 (fun _ => False)) id) (H.out.2.2.trans (b1.mono H.out.2.2.size))))
  clear b1
  by_cases h0 : z = 0
  · subst h0
    have hc := check_caps HZ.out
    have hform := form_iff hc.1
    have hcap := caps_le hc.2.2
    have hn32 : n ≤ 32 := by rw [← HL.out.1]; exact hcap.1
    have hm256 : m ≤ 256 := by rw [← HL.out.2]; exact hcap.2.2.1
    have HF := Lib.hid (And.intro (hform.1.nodup stoT) (And.intro (hform.2.1.nodup stoE) (And.intro hform.2.2 H.out.1.fit)))
    clear hc hform hcap
    go_wp2_with fail
    refine (new_gr W1).mono ?_
    rintro e W2 ⟨p, rfl, fr2, b2⟩
    have H2 := Lib.hid (And.intro fr2 b2)
    have q0 : W2.cell? ⟨w.heap.size, 0, none⟩ = some (.slice A n c) := (H1.out.2.1.upd (Upd.of_below b2 (fun _ => False)) id).cell 0
    clear b2 fr2
    go_wp2_with fail
    clear q0
    go_loopw [19] (fun i wr => ∃ k : Nat, k ≤ n ∧ i = .int .i64 k ∧ Hid (Fresh W1.heap.size p ⟨N.take k, []⟩ wr) ∧ Hid (Below W1.heap.size W1 wr)) (fun i _ => n - (intOf i).toNat)
    case atStart => exact ⟨0, Nat.zero_le _, rfl, Lib.hid H2.out.1, Lib.hid H2.out.2⟩
    case round =>
      obtain ⟨k, hk, rfl, hfr, hbw⟩ := hrel
      by_cases hlt : k < n
      · have hltI : (k : Int) < (n : Int) := by omega
        have hkw : IntKind.i64.wrap ((k : Int) + 1) = (k : Int) + 1 := IntWalk.i64_in _ (by omega)
        obtain ⟨s, hs⟩ : ∃ s, N[k]? = some s := ⟨N[k]'(by rw [HL.out.1]; exact hlt), List.getElem?_eq_getElem _⟩
        obtain ⟨ab, ao, rfl, y0⟩ := ((H1.out.1.rn.below hbw.out).txt hs)
        have hcon := fresh_node HF.out.1 hfr.out hbw.out.size hs (HF.out.2.2.2.tn s (List.mem_of_getElem? hs)) (by rw [HL.out.1]; exact hn32)
        clear hs
        go_wp2_with fail
        refine hcon.mono ?_
        clear hcon y0
        rintro e W3 ⟨⟨v, rfl⟩, f3, b3⟩
        have HB3 := Lib.hid (And.intro f3 (hbw.out.trans b3))
        clear f3 b3
        go_wp2
        go_roundw
        case rel => exact ⟨k + 1, by omega, by go_num, Lib.hid HB3.out.1, Lib.hid HB3.out.2⟩
        case measure => simp [intOf]; omega
      · obtain rfl : k = n := by omega
        have q1 : wr.cell? ⟨w.heap.size, 1, none⟩ = some (.slice B m d) := (H1.out.2.1.upd (Upd.of_below hbw.out (fun _ => False)) id).cell 1
        have HW := Lib.hid (show Fresh W1.heap.size p ⟨N, E.take 0⟩ wr from by
          have := hfr.out
          rw [← HL.out.1, List.take_length] at this
          exact this)
        clear hfr
        go_wp2_with fail
        clear q1
        generalize wr = W4 at HW hbw ⊢
        go_loopw [30] (fun i wr => ∃ k : Nat, k ≤ m ∧ i = .int .i64 k ∧ Hid (Fresh W1.heap.size p ⟨N, E.take k⟩ wr) ∧ Hid (Below W1.heap.size W1 wr)) (fun i _ => m - (intOf i).toNat)
        case atStart => exact ⟨0, Nat.zero_le _, rfl, HW, hbw⟩
        case round =>
          obtain ⟨j, hj, rfl, hfr, hbz⟩ := hrel
          by_cases hjt : j < m
          · have hjtI : (j : Int) < (m : Int) := by omega
            have hjw : IntKind.i64.wrap ((j : Int) + 1) = (j : Int) + 1 := IntWalk.i64_in _ (by omega)
            obtain ⟨x, hx⟩ : ∃ x, E[j]? = some x := ⟨E[j]'(by rw [HL.out.2]; exact hjt), List.getElem?_eq_getElem _⟩
            have hxk := HF.out.2.2.2.te x (List.mem_of_getElem? hx)
            obtain ⟨s0, s1, s2⟩ := x
            obtain ⟨ab, ao, rfl, y0, y1, y2⟩ := ((H1.out.1.re.below hbz.out).ed hx)
            dsimp only at y0 y1 y2
            have k5 := Blk.new wr 52 #[.string s0, .string s1, .string s2]
            have u5 : Below wr.heap.size wr (wr.alloc (.cells #[.string s0, .string s1, .string s2] 52)) := (Below.refl _ _).alloc (Nat.le_refl _) _
            have hcon := fresh_edge (w := wr.alloc (.cells #[.string s0, .string s1, .string s2] 52)) HF.out.1 HF.out.2.1 HF.out.2.2.1 (hfr.out.below u5) (by have := hbz.out.size; have := u5.size; omega) hx hxk (by rw [HL.out.1]; exact hn32) (by rw [HL.out.2]; exact hm256)
            have HU := Lib.hid (And.intro k5 (hbz.out.trans (u5.mono hbz.out.size)))
            clear k5 u5 hx
            unfold Ed.agg at hcon
            dsimp only at hcon
            go_upto_region 13 with (fail)
            generalize wr.alloc (.cells #[.string s0, .string s1, .string s2] 52) = W6 at HU hcon ⊢
            clear y0 y1 y2
            have y0 : W6.cell? ⟨wr.heap.size, 0, none⟩ = some (.string s0) := HU.out.1.cell 0
            have y1 : W6.cell? ⟨wr.heap.size, 1, none⟩ = some (.string s1) := HU.out.1.cell 1
            have y2 : W6.cell? ⟨wr.heap.size, 2, none⟩ = some (.string s2) := HU.out.1.cell 2
            go_wp2_with fail
            refine hcon.mono ?_
            clear hcon y0 y1 y2
            rintro e W7 ⟨⟨v, rfl⟩, f7, b7⟩
            have HB7 := Lib.hid (And.intro f7 (HU.out.2.trans b7))
            clear f7 b7
            go_wp2
            go_roundw
            case rel => exact ⟨j + 1, by omega, by go_num, Lib.hid HB7.out.1, Lib.hid HB7.out.2⟩
            case measure => simp [intOf]; omega
          · obtain rfl : j = m := by omega
            have FIN := Lib.hid (show GMadeE w N E (.returned (.tuple #[.pointer (some ⟨p, 0, none⟩), .int .i64 0])) wr from by
              refine .inr ⟨HZ.out, p, rfl, ?_, H1.out.2.2.trans (hbz.out.mono H1.out.2.2.size)⟩
              have := hfr.out
              rw [← HL.out.2, List.take_length] at this
              exact this.mono H1.out.2.2.size)
            clear hfr hbz
            go_wp2
            refine bodyPost_ret (v := .tuple #[.pointer (some ⟨p, 0, none⟩), .int .i64 0]) (by simp [results, Tryz.f21, go_sem]) rfl FIN.out
  · have h0I : (z == 0) = false := by simpa using h0
    have FIN := Lib.hid (show GMadeE w N E (.returned (.tuple #[.pointer none, .int .i64 z])) W1 from .inl ⟨by rw [HZ.out]; exact h0, by rw [HZ.out], H1.out.2.2⟩)
    go_wp2
    refine bodyPost_ret (v := .tuple #[.pointer none, .int .i64 z]) (by simp [results, Tryz.f21, go_sem]) rfl FIN.out
end Go.Proofs.YtnmkieiehjajlaaGreatDoor
