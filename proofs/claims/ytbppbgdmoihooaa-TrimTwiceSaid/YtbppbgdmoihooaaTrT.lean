/- Forests: what is left behind a derivation: the walk of bywayref29.Left, with two packs under the first; any derivation. -/
import Derived.Test.YtbppbgdmoihooaaTrS
namespace Go.Proofs.Ytbppbgdmoihooaa
open Go.RowKit

/-- Left, on a list that begins with this derivation, tells what is behind it. -/
def LeftOk (S : List Fct) (P : List Pk) (s : Int) (l : List Pk) : Prop :=
  ∀ (w : World) (A : Option Addr) (c : Nat) (B : Option Addr) (d : Nat) (L : Option Addr) (cL : Nat) (rest : List Pk), ForR w A c B d S P → RowR w L (packCells (l ++ rest)) → (l ++ rest).length ≤ cL → (l ++ rest).length ≤ 100000 →
    Calls Try.prog 41 #[forV A S.length c B P.length d, .int .i64 s, .slice L (l ++ rest).length cL] w (Sam w (.int .i64 (rest.length : Int)))

set_option maxHeartbeats 4000000 in
set_option maxRecDepth 20000 in
theorem left_node' (w : World) (A : Option Addr) (c : Nat) (B : Option Addr) (d : Nat) (S : List Fct) (P : List Pk) (p : Pk) (tl la lb : List Pk) (rest : List Pk) (L : Option Addr) (cL : Nat) (h : ForR w A c B d S P) (hp : p ∈ P) (hl : ¬ p.left < 0) (htl : tl = la ++ (lb ++ rest)) (hla : 1 ≤ la.length) (hlb : 1 ≤ lb.length) (ia : LeftOk S P p.left la) (ib : LeftOk S P p.right lb) (hrow : RowR w L (packCells (p :: tl))) (hcap : (p :: tl).length ≤ cL) (hlen : tl.length ≤ 100000) :
    Calls Try.prog 41 #[forV A S.length c B P.length d, .int .i64 p.spot, .slice L (p :: tl).length cL] w (Sam w (.int .i64 (rest.length : Int))) := by
  have htn : tl.length = la.length + (lb ++ rest).length := by rw [htl, List.length_append]
  have hbn : (lb ++ rest).length = lb.length + rest.length := List.length_append
  have hc1 : ¬ cL = 1 := by simp at hcap; omega
  have HT := Lib.hid (And.intro htl (And.intro ia (And.intro ib (And.intro hla (And.intro hlb (And.intro htn hbn))))))
  clear htl ia ib hla hlb htn hbn
  obtain ⟨p0, p1, p2, p3, p4⟩ := p
  obtain ⟨gl, ol, rfl, l0, l1, l2, l3, l4⟩ := hrow.pack (k := 0) (p := ⟨p0, p1, p2, p3, p4⟩) rfl
  rw [Nat.zero_mul, Nat.add_zero] at l0 l1 l2 l3 l4
  have hcI : ((tl.length : Int) + 1) ≤ (cL : Int) := by simp at hcap; omega
  have hdI : (P.length : Int) ≤ (d : Int) := by have := h.hd; omega
  have hP8 : P.length ≤ 100000000000000 := by have := h.fit.p; omega
  have k0 := Blk.new w 75 #[.slice A S.length c, .slice B P.length d]
  have u0 : Below w.heap.size w (w.alloc (.cells #[.slice A S.length c, .slice B P.length d] 75)) := (Below.refl _ _).alloc (Nat.le_refl _) _
  have hl8 := hlen
  have H := Lib.hid (And.intro h (And.intro k0 (And.intro u0 (And.intro hrow (And.intro hcap (And.intro hp hl))))))
  have L0 := (u0.cell (p := ⟨gl, ol, none⟩) (World.block_lt_of_cell? w _ l0)).trans l0
  clear h k0 u0 hrow hcap hp hl
  simp only [List.length_cons]
  go_enter Try.func41, Try.ntmps41
  unfold forV
  go_upto_region 1 with (fail)
  generalize w.alloc (.cells #[.slice A S.length c, .slice B P.length d] 75) = W0 at H L0 ⊢
  go_wp2
  clear L0
  go_loopw [7, 8] (fun bv iv wr => ∃ (b : Bool) (i nq : Nat), bv = .bool b ∧ iv = .int .i64 i ∧ i ≤ P.length ∧ (b = true ↔ ∃ j, j < i ∧ P[j]? = some ⟨p0, p1, p2, p3, p4⟩) ∧ wr = W0.drewN nq) (fun _ iv _ => P.length - (intOf iv).toNat)
  case atStart => exact ⟨false, 0, 0, rfl, rfl, Nat.zero_le _, ⟨fun h => (by cases h), fun ⟨j, hj, _⟩ => (by omega)⟩, rfl⟩
  case round =>
    obtain ⟨b, i, nq, rfl, rfl, hi, hb, rfl⟩ := hrel
    have HB := Lib.hid hb
    clear hb
    have q1 : W0.cell? ⟨w.heap.size, 1, none⟩ = some (.slice B P.length d) := H.out.2.1.cell 1
    by_cases hlt : i < P.length
    · obtain ⟨⟨r0, r1, r2, r3, r4⟩, hr⟩ : ∃ q, P[i]? = some q := ⟨P[i], List.getElem?_eq_getElem hlt⟩
      obtain ⟨gb, go, rfl, a0, a1, a2, a3, a4⟩ := (H.out.1.rp.below H.out.2.2.1).pack hr
      have up : ∀ o u, w.cell? ⟨gl, o, none⟩ = some u → W0.cell? ⟨gl, o, none⟩ = some u := fun o u hu => (H.out.2.2.1.cell (p := ⟨gl, o, none⟩) (World.block_lt_of_cell? w _ hu)).trans hu
      have m0 := up _ _ l0
      have m1 := up _ _ l1
      have m2 := up _ _ l2
      have m3 := up _ _ l3
      have m4 := up _ _ l4
      have hltI : (i : Int) < (P.length : Int) := by omega
      have HR := Lib.hid hr
      clear hr up
      cases b with
      | true =>
        go_wp2
        go_quiet (fail)
        go_wp2
        go_roundw
        case rel =>
          refine ⟨true, i + 1, _, rfl, by go_num, by omega, ⟨fun _ => ?_, fun _ => rfl⟩, rfl⟩
          obtain ⟨j, hj, e⟩ := HB.out.1 (by first | rfl | trivial)
          exact ⟨j, by omega, e⟩
        case measure => simp [intOf]; omega
      | false =>
        by_cases hq : (⟨r0, r1, r2, r3, r4⟩ : Pk) = ⟨p0, p1, p2, p3, p4⟩
        · have heq : ∀ W, (binOp .eql 125 (.agg #[.int .i64 r0, .int .i64 r1, .int .i64 r2, .int .i64 r3, .int .i64 r4]) (.agg #[.int .i64 p0, .int .i64 p1, .int .i64 p2, .int .i64 p3, .int .i64 p4])).run Try.prog W = .ok (.bool true) W := fun W => by
            have := eql_pack W ⟨r0, r1, r2, r3, r4⟩ ⟨p0, p1, p2, p3, p4⟩
            rw [decide_eq_true hq] at this
            exact this
          have KQ := Lib.hid hq
          clear hq
          go_wp2
          go_quiet (fail)
          go_wp2
          go_roundw
          case rel => exact ⟨true, i + 1, _, rfl, by go_num, by omega, ⟨fun _ => ⟨i, by omega, by rw [HR.out, KQ.out]⟩, fun _ => rfl⟩, rfl⟩
          case measure => simp [intOf]; omega
        · have heq : ∀ W, (binOp .eql 125 (.agg #[.int .i64 r0, .int .i64 r1, .int .i64 r2, .int .i64 r3, .int .i64 r4]) (.agg #[.int .i64 p0, .int .i64 p1, .int .i64 p2, .int .i64 p3, .int .i64 p4])).run Try.prog W = .ok (.bool false) W := fun W => by
            have := eql_pack W ⟨r0, r1, r2, r3, r4⟩ ⟨p0, p1, p2, p3, p4⟩
            rw [decide_eq_false hq] at this
            exact this
          have KQ := Lib.hid hq
          clear hq
          go_wp2
          go_quiet (fail)
          go_wp2
          go_roundw
          case rel =>
            refine ⟨false, i + 1, _, rfl, by go_num, by omega, ⟨fun h => (by cases h), fun ⟨j, hj, e⟩ => ?_⟩, rfl⟩
            by_cases e2 : j < i
            · exact HB.out.2 ⟨j, e2, e⟩
            · obtain rfl : j = i := by omega
              have := HR.out.symm.trans e
              injection this with this
              exact (KQ.out this).elim
          case measure => simp [intOf]; omega
    · obtain rfl : i = P.length := by omega
      clear hlt
      cases b with
      | false =>
        obtain ⟨j, hj⟩ := List.mem_iff_getElem?.1 H.out.2.2.2.2.2.1
        have := HB.out.2 ⟨j, (List.getElem?_eq_some_iff.1 hj).1, hj⟩
        cases this
      | true =>
        have up : ∀ o u, w.cell? ⟨gl, o, none⟩ = some u → W0.cell? ⟨gl, o, none⟩ = some u := fun o u hu => (H.out.2.2.1.cell (p := ⟨gl, o, none⟩) (World.block_lt_of_cell? w _ hu)).trans hu
        have m3 := up _ _ l3
        have m4 := up _ _ l4
        clear up
        have el : decide (p3 < 0) = false := by simpa using H.out.2.2.2.2.2.2
        go_wp2
        have q0 : W0.cell? ⟨w.heap.size, 0, none⟩ = some (.slice A S.length c) := H.out.2.1.cell 0
        generalize hW1 : W0.drewN nq = W1
        have k1 : Blk W1 w.heap.size 75 #[.slice A S.length c, .slice B P.length d] := by rw [← hW1]; exact H.out.2.1
        have u1 : Below w.heap.size w W1 := by rw [← hW1]; exact below_drewN H.out.2.2.1 _
        have m3' : W1.cell? ⟨gl, ol + 3, none⟩ = some (.int .i64 p3) := by rw [← hW1]; exact m3
        have m4' : W1.cell? ⟨gl, ol + 4, none⟩ = some (.int .i64 p4) := by rw [← hW1]; exact m4
        have K1 := Lib.hid (And.intro k1 (And.intro u1 (And.intro m3' m4')))
        clear k1 u1 m3' m4' m3 m4 q0 q1 hW1
        have h1I : (1 : Int) ≤ (tl.length : Int) + 1 := by omega
        refine wp_region_ord (fun w' => w'.cell? ⟨w.heap.size, 0, none⟩ = some (.slice A S.length c) ∧ w'.cell? ⟨w.heap.size, 1, none⟩ = some (.slice B P.length d) ∧ w'.cell? ⟨gl, ol + 3, none⟩ = some (.int .i64 p3)) 9 [(0, true), (1, true), (2, true), (3, true), (4, true), (5, true), (6, true), (7, false), (8, true)] (by kernel_rfl) (by kernel_rfl) (fun _ _ d _ _ h => by cases d <;> exact h) ⟨K1.out.1.cell 0, K1.out.1.cell 1, K1.out.2.2.1⟩ ?_
        iterate 7 (refine ord_take (v := ?_) rfl (by first | with_reducible rfl | kernel_rfl) ?_ ?_; rotate_left; (focus (intro wS hS; (try dsimp only at hS); go_split_ands; go_simp; (try with_reducible rfl); done)); (try simp only [Act.put, List.getElem_toArray, List.getElem_cons_succ, List.getElem_cons_zero, List.setIfInBounds_toArray, List.set_cons_zero, List.set_cons_succ]))
        refine ord_do rfl rfl (fun K hK => ?_)
        go_simp
        have f1 : ForR W1.drew A c B d S P := H.out.1.below K1.out.2.1.drew
        have r1 : RowR W1.drew (some ⟨gl, ol + 5, none⟩) (packCells tl) := ((RowR.drop_packs (xs := [⟨p0, p1, p2, p3, p4⟩]) (ys := tl) H.out.2.2.2.1).below K1.out.2.1.drew)
        have ca := HT.out.2.1 W1.drew A c B d (some ⟨gl, ol + 5, none⟩) (cL - 1) (lb ++ rest) f1 (by rw [← HT.out.1]; exact r1) (by rw [← HT.out.1]; have := H.out.2.2.2.2.1; simp at this; omega) (by rw [← HT.out.1]; exact hlen)
        rw [← HT.out.1] at ca
        unfold forV at ca
        refine ca.mono ?_
        rintro e w2 ⟨rfl, b2⟩
        have u2 : Below w.heap.size w w2 := K1.out.2.1.drew.trans (b2.mono K1.out.2.1.drew.size)
        have k2 := K1.out.1.drew.upd (Upd.of_below b2 (fun _ => False)) id
        have K2 := Lib.hid (And.intro u2 k2)
        refine hK _ _ (fun _ => ⟨k2.cell 0, k2.cell 1, (u2.cell (p := ⟨gl, ol + 3, none⟩) (World.block_lt_of_cell? w _ l3)).trans l3⟩) ?_
        clear hK K ca f1 r1 b2 u2 k2 K1
        obtain ⟨n1, hn1⟩ : ∃ n1, (lb ++ rest).length = n1 := ⟨_, rfl⟩
        rw [hn1]
        have hN := Lib.hid hn1
        have hn1I : (n1 : Int) ≤ (tl.length : Int) + 1 := by have := HT.out.2.2.2.2.2.1; omega
        obtain ⟨k, hk⟩ : ∃ k, 1 + la.length = k := ⟨_, rfl⟩
        have hwr : IntKind.i64.wrap ((tl.length : Int) + 1 - (n1 : Int)) = (k : Int) := by
          have : (tl.length : Int) + 1 - (n1 : Int) = (k : Int) := by have := HT.out.2.2.2.2.2.1; omega
          rw [this]
          exact IntWalk.i64_in _ (by have := HT.out.2.2.2.2.2.1; omega)
        have hkI : (k : Int) ≤ (tl.length : Int) + 1 := by have := HT.out.2.2.2.2.2.1; omega
        have hck : ¬ cL = k := by have := HT.out.2.2.2.2.2.1; have := HT.out.2.2.2.2.2.2; have := HT.out.2.2.2.2.1; omega
        have hK2 := Lib.hid hk
        clear hk
        clear hn1
        (try simp only [Act.put, List.getElem_toArray, List.getElem_cons_succ, List.getElem_cons_zero, List.setIfInBounds_toArray, List.set_cons_zero, List.set_cons_succ])
        iterate 1 (refine ord_take (v := ?_) rfl (by first | with_reducible rfl | kernel_rfl) ?_ ?_; rotate_left; (focus (intro wS hS; (try dsimp only at hS); go_split_ands; go_simp; (try with_reducible rfl); done)); (try simp only [Act.put, List.getElem_toArray, List.getElem_cons_succ, List.getElem_cons_zero, List.setIfInBounds_toArray, List.set_cons_zero, List.set_cons_succ]))
        refine ord_done ?_
        go_wp2
        generalize hW3 : w2 = W3
        have u3 : Below w.heap.size w W3 := by rw [← hW3]; exact K2.out.1
        have k3 : Blk W3 w.heap.size 75 #[.slice A S.length c, .slice B P.length d] := by rw [← hW3]; exact K2.out.2
        have m4 : W3.cell? ⟨gl, ol + 4, none⟩ = some (.int .i64 p4) := (u3.cell (p := ⟨gl, ol + 4, none⟩) (World.block_lt_of_cell? w _ l4)).trans l4
        have K3 := Lib.hid (And.intro u3 (And.intro k3 m4))
        clear u3 k3 m4 hW3 K2
        refine wp_region_ord (fun w' => w'.cell? ⟨w.heap.size, 0, none⟩ = some (.slice A S.length c) ∧ w'.cell? ⟨w.heap.size, 1, none⟩ = some (.slice B P.length d) ∧ w'.cell? ⟨gl, ol + 4, none⟩ = some (.int .i64 p4)) 13 [(0, true), (1, true), (2, true), (3, true), (4, true), (5, true), (6, true), (7, true), (8, true), (9, true), (10, true), (11, false), (12, true)] (by kernel_rfl) (by kernel_rfl) (fun _ _ d _ _ h => by cases d <;> exact h) ⟨K3.out.2.1.cell 0, K3.out.2.1.cell 1, K3.out.2.2⟩ ?_
        iterate 11 (refine ord_take (v := ?_) rfl (by first | with_reducible rfl | kernel_rfl) ?_ ?_; rotate_left; (focus (intro wS hS; (try dsimp only at hS); go_split_ands; go_simp; (try with_reducible rfl); done)); (try simp only [Act.put, List.getElem_toArray, List.getElem_cons_succ, List.getElem_cons_zero, List.setIfInBounds_toArray, List.set_cons_zero, List.set_cons_succ]))
        refine ord_do rfl rfl (fun K hK => ?_)
        go_simp
        have f3 : ForR W3.drew A c B d S P := H.out.1.below K3.out.1.drew
        have r3 : RowR W3.drew (some ⟨gl, ol + k * 5, none⟩) (packCells (lb ++ rest)) := by
          have e : (⟨p0, p1, p2, p3, p4⟩ : Pk) :: tl = (⟨p0, p1, p2, p3, p4⟩ :: la) ++ (lb ++ rest) := by rw [HT.out.1]; rfl
          have r := H.out.2.2.2.1
          rw [e] at r
          have := (RowR.drop_packs r).below K3.out.1.drew
          rw [← hK2.out]
          rw [List.length_cons, Nat.add_comm la.length 1] at this
          exact this
        have cb := HT.out.2.2.1 W3.drew A c B d (some ⟨gl, ol + k * 5, none⟩) (cL - k) rest f3 r3 (by have := H.out.2.2.2.2.1; have := hK2.out; have := HT.out.2.2.2.2.2.1; simp only [List.length_cons] at *; omega) (by have := HT.out.2.2.2.2.2.1; omega)
        rw [show (lb ++ rest).length = tl.length + 1 - k by have := HT.out.2.2.2.2.2.1; have := hK2.out; omega] at cb
        unfold forV at cb
        refine cb.mono ?_
        rintro e w4 ⟨rfl, b4⟩
        have K4 := Lib.hid (K3.out.1.drew.trans (b4.mono K3.out.1.drew.size))
        have k4 := K3.out.2.1.drew.upd (Upd.of_below b4 (fun _ => False)) id
        refine hK _ _ (fun _ => ⟨k4.cell 0, k4.cell 1, (K4.out.cell (p := ⟨gl, ol + 4, none⟩) (World.block_lt_of_cell? w _ l4)).trans l4⟩) ?_
        clear k4 hK K cb f3 r3 b4 K3
        (try simp only [Act.put, List.getElem_toArray, List.getElem_cons_succ, List.getElem_cons_zero, List.setIfInBounds_toArray, List.set_cons_zero, List.set_cons_succ])
        iterate 1 (refine ord_take (v := ?_) rfl (by first | with_reducible rfl | kernel_rfl) ?_ ?_; rotate_left; (focus (intro wS hS; (try dsimp only at hS); go_split_ands; go_simp; (try with_reducible rfl); done)); (try simp only [Act.put, List.getElem_toArray, List.getElem_cons_succ, List.getElem_cons_zero, List.setIfInBounds_toArray, List.set_cons_zero, List.set_cons_succ]))
        refine ord_done ?_
        go_wp2
        go_ret
        exact ⟨rfl, K4.out⟩

theorem Der.len {P : List Pk} {s : Int} {l : List Pk} (h : Der P s l) : 1 ≤ l.length := by
  cases h <;> simp

theorem left_any {S : List Fct} {P : List Pk} {s : Int} {l : List Pk} (h : Der P s l) : LeftOk S P s l := by
  induction h with
  | leaf p hp hl => exact fun w A c B d L cL rest hf hr hc hn => left_leaf w A c B d S P p rest L cL hf hp hl hr hc (by simp at hn; omega)
  | node p hp hl a b ha hb ia ib =>
    intro w A c B d L cL rest hf hr hc hn
    have e : (p :: (a ++ b)) ++ rest = p :: (a ++ (b ++ rest)) := by simp
    rw [e] at hr hc hn ⊢
    exact left_node' w A c B d S P p _ a b rest L cL hf hp hl rfl ha.len hb.len ia ib hr hc (by simp at hn ⊢; omega)
end Go.Proofs.Ytbppbgdmoihooaa
