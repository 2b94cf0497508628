/- Graphs: Labels, Matrix; Graphs: Matrix. -/
import Derived.Test.YtnmkieiehjajlaaGreatDoorZ32
import Derived.Test.YtnmkieiehjajlaaGreatDoorZ37
import Derived.Test.YtnmkieiehjajlaaGreatDoorZ31
set_option linter.unusedVariables false
set_option linter.unusedSimpArgs false
namespace Go.Proofs.YtnmkieiehjajlaaGreatDoor
open Go.RowKit

theorem dat_for {w' : World} {G : Gr} {A : Option Addr} {c : Nat} {B : Option Addr} {d : Nat} {base : Nat} (ok : GOk G) (o1 : w'.ownsRow base 9 1 (.slice A (datN G).length c) (datN G).length (txtCells (datN G))) (o2 : w'.ownsRow base 52 3 (.slice B (datE G).length d) (datE G).length (edCells (datE G))) : ForG w' A c B d (datN G) (datE G) := by
  have hc := check_made ok.may
  have hs := Short.of (check_caps hc).2.1
  have hcap := caps_le (check_caps hc).2.2
  refine ⟨RowR.of_own o1, RowR.of_own o2, own_le o1, own_le o2, ⟨by have := hcap.1; unfold datN; omega, by have := hcap.2.2.1; unfold datE; omega, fun t ht => by have := hs.n t ht; unfold TxtOk; omega, fun x hx => ?_⟩⟩
  have := hs.e x hx
  unfold EdOk TxtOk
  omega
theorem labO_dat {G : Gr} (ok : GOk G) : labO (datN G) (datE G) = setOf ltT (lbs (datE G)) := by
  have h : checkI (datN G) (datE G) = 0 := check_made ok.may
  unfold labO
  rw [if_pos h]
set_option maxHeartbeats 1000000 in
set_option maxRecDepth 20000 in
theorem labels_gr (w : World) (F : Nat → Prop) (p : Nat) (G : Gr) (h : GrS w F p G) (ok : GOk G) : Calls Tryz.prog 12 #[.pointer (some ⟨p, 0, none⟩)] w (NewT w (setOf ltT (lbs (datE G)))) := by
  have hr : ∃ r, w.cell? ⟨p, 1, none⟩ = some (.map (some r)) := by
    obtain ⟨U, V, ⟨O, ⟨r, nv, ov, iv, fo, fi⟩, hg, -⟩, -⟩ := h
    exact ⟨r, hg.blk.cell 1⟩
  obtain ⟨r, q1⟩ := hr
  have hdat := data_gr w F p G h ok
  have HK := Lib.hid ok
  clear h ok
  go_enter Tryz.func12, Tryz.ntmps12
  go_wp2_with fail
  refine (is_any w p r q1).mono ?_
  rintro e w' ⟨rfl, hw⟩
  subst w'
  go_wp2_with fail
  refine hdat.mono ?_
  clear hdat q1
  rintro e W1 ⟨A, c, B, d, rfl, o1, o2, b1⟩
  have hf := dat_for HK.out o1 o2
  have hcon := elabels_any W1 A c B d (datN G) (datE G) hf
  rw [labO_dat HK.out] at hcon
  have HB := Lib.hid b1
  clear hf o1 o2 b1
  go_wp2_with fail
  refine hcon.mono ?_
  clear hcon
  rintro e W2 ⟨A2, c2, rfl, o3, b3⟩
  have FIN := Lib.hid (show NewT w (setOf ltT (lbs (datE G))) (.returned (.slice A2 (setOf ltT (lbs (datE G))).length c2)) W2 from ⟨_, rfl, ownsRow_base o3 (fun q hq => Nat.le_trans HB.out.size (o3.lt q hq).1), HB.out.trans (b3.mono HB.out.size)⟩)
  clear o3 b3
  go_wp2
  go_ret
  exact FIN.out
/-! A cell that is set. -/
theorem bit_or {o : List Nat} (ho : Wd o) {i j i' j' : Nat} (hi : i < 64) (hi' : i' < 64) : bitW (List.zipWith orN o (oneB i j)) i' j' = (bitW o i' j' || decide (i' = i ∧ j' = j)) := by
  obtain ⟨x, hx⟩ : ∃ x, o[i']? = some x := ⟨o[i']'(by rw [ho.len]; exact hi'), List.getElem?_eq_getElem _⟩
  by_cases e : i' = i
  · subst e
    have hz : (List.zipWith orN o (oneB i' j))[i']? = some (orN x (2 ^ j)) := by rw [List.getElem?_zipWith, hx, oneB_at hi]
    unfold bitW
    rw [hz, hx]
    simp only [Option.getD_some, orN, Nat.testBit_or, true_and]
    rw [Nat.testBit_two_pow]
    simp [eq_comm]
  · have ho2 : (oneB i j)[i']? = some 0 := by
      unfold oneB
      rw [List.getElem?_set, if_neg (fun h => e h.symm), zero64_at hi']
    have hz : (List.zipWith orN o (oneB i j))[i']? = some (orN x 0) := by rw [List.getElem?_zipWith, hx, ho2]
    unfold bitW
    rw [hz, hx]
    simp [orN, e]
theorem bit_oldW (b : Option (List Nat)) {i j : Nat} (hi : i < 64) : bitW (oldW b) i j = bitO b i j := by
  cases b with
  | none =>
    unfold bitW oldW
    rw [Option.getD_none, zero64_at hi]
    simp [bitO]
  | some r => rfl
theorem bit_set {b : Option (List Nat)} (hw : Wd (oldW b)) {i j i' j' : Nat} (hi : i < 64) (hi' : i' < 64) : bitO (setO b i j) i' j' = (bitO b i' j' || decide (i' = i ∧ j' = j)) := by
  unfold setO
  split
  · rename_i h
    by_cases e : i' = i ∧ j' = j
    · rw [e.1, e.2, h]; rfl
    · simp [e]
  · show bitW _ i' j' = _
    rw [bit_or hw hi hi', bit_oldW b hi']
theorem QuS.wd {w : World} {F : Nat → Prop} {p side : Nat} {b : Option (List Nat)} (h : QuS w F p side b) : Wd (oldW b) := by
  obtain ⟨O, dep, cnt, m, last, L, pv, lv, -, ok, -⟩ := h
  exact oldW_wd ok
theorem QFresh.below {B p side : Nat} {b : Option (List Nat)} {w w' : World} (h : QFresh B p side b w) (hb : Below w.heap.size w w') : QFresh B p side b w' := by
  obtain ⟨F, g, n⟩ := h
  exact ⟨F, g.below hb, n⟩
theorem QFresh.step {B p side : Nat} {b : Option (List Nat)} {w w' : World} {F : Nat → Prop} (hF : ∀ k, F k → B ≤ k) (hB : B ≤ w.heap.size) (h : QTo w F p side b w') : QFresh B p side b w' ∧ Below B w w' := by
  obtain ⟨F', g, u, n⟩ := h
  refine ⟨⟨F', g, fun k hk => ?_⟩, u.below (fun i _ hi => hF i hi) hB⟩
  rcases n k hk with h | h
  · exact hF k h
  · omega
end Go.Proofs.YtnmkieiehjajlaaGreatDoor
namespace Go.Proofs.YtnmkieiehjajlaaGreatDoor
open Go.RowKit

theorem txt_beq (a b : Txt) : (ByteArray.toList a == ByteArray.toList b) = decide (a = b) := by
  rw [Bool.eq_iff_iff, beq_iff_eq, decide_eq_true_iff, txt_list, txt_list]
  exact ⟨txt_ext, fun h => by rw [h]⟩
def MatOf (G : Gr) (lb : Txt) (b : Option (List Nat)) : Prop := ∀ i j, i < 64 → j < 64 → (bitO b i j = true ↔ ∃ x ∈ G.X, x.lb = lb ∧ G.N[i]? = some x.fr ∧ G.N[j]? = some x.to)
def MatTo (U : Nat → List Hp) (lb : Txt) (k t : Nat) (b : Option (List Nat)) : Prop := ∀ i j, i < 64 → j < 64 → (bitO b i j = true ↔ (i < k ∧ ∃ h ∈ U i, h.lb = lb ∧ h.nd = (j : Int)) ∨ (i = k ∧ ∃ h ∈ (U k).take t, h.lb = lb ∧ h.nd = (j : Int)))
theorem MatTo.all {G : Gr} {U V : Nat → List Hp} {lb : Txt} {b : Option (List Nat)} (h : MatTo U lb G.N.length 0 b) (ho : HopsOK G.N G.X U V) (ok : GOk G) : MatOf G lb b := fun i j hi hj => by
  rw [h i j hi hj]
  constructor
  · rintro (⟨_, y, hy, h1, h2⟩ | ⟨_, y, hy, _⟩)
    · obtain ⟨x, hx, e1, rfl⟩ := (ho.um i y).1 hy
      refine ⟨x, hx, h1, e1, ?_⟩
      have h2 : (idxT G.N x.to : Int) = (j : Int) := h2
      have : idxT G.N x.to = j := by omega
      rw [← this]
      exact idxT_at (ok.ends x hx).2
    · simp at hy
  · rintro ⟨x, hx, h1, h2, h3⟩
    refine .inl ⟨(List.getElem?_eq_some_iff.1 h2).1, ⟨x.lb, (idxT G.N x.to : Int)⟩, (ho.um i _).2 ⟨x, hx, h2, rfl⟩, h1, ?_⟩
    show (idxT G.N x.to : Int) = (j : Int)
    rw [idxT_is ok.nd h3]
theorem MatTo.next {U : Nat → List Hp} {lb : Txt} {k : Nat} {b : Option (List Nat)} (h : MatTo U lb k (U k).length b) : MatTo U lb (k + 1) 0 b := fun i j hi hj => by
  rw [h i j hi hj, List.take_length]
  constructor
  · rintro (⟨h1, h2⟩ | ⟨rfl, h2⟩)
    · exact .inl ⟨by omega, h2⟩
    · exact .inl ⟨by omega, h2⟩
  · rintro (⟨h1, h2⟩ | ⟨_, y, hy, _⟩)
    · by_cases e : i = k
      · subst e; exact .inr ⟨rfl, h2⟩
      · exact .inl ⟨by omega, h2⟩
    · simp at hy
theorem MatTo.skip {U : Nat → List Hp} {lb : Txt} {k t : Nat} {b : Option (List Nat)} {y : Hp} (h : MatTo U lb k t b) (hy : (U k)[t]? = some y) (hn : y.lb ≠ lb) : MatTo U lb k (t + 1) b := fun i j hi hj => by
  rw [h i j hi hj, List.take_add_one, hy]
  simp only [Option.toList_some, List.mem_append, List.mem_singleton]
  constructor
  · rintro (h1 | ⟨e, z, hz, h2⟩)
    · exact .inl h1
    · exact .inr ⟨e, z, .inl hz, h2⟩
  · rintro (h1 | ⟨e, z, hz | rfl, h2⟩)
    · exact .inl h1
    · exact .inr ⟨e, z, hz, h2⟩
    · exact absurd h2.1 hn
theorem MatTo.put {U : Nat → List Hp} {lb : Txt} {k t q : Nat} {b : Option (List Nat)} (h : MatTo U lb k t b) (hw : Wd (oldW b)) (hk : k < 64) (hy : (U k)[t]? = some ⟨lb, (q : Int)⟩) : MatTo U lb k (t + 1) (setO b k q) := fun i j hi hj => by
  rw [bit_set hw hk hi, Bool.or_eq_true, h i j hi hj, List.take_add_one, hy]
  simp only [Option.toList_some, List.mem_append, List.mem_singleton, decide_eq_true_eq]
  constructor
  · rintro ((h1 | ⟨e, z, hz, h2⟩) | ⟨rfl, rfl⟩)
    · exact .inl h1
    · exact .inr ⟨e, z, .inl hz, h2⟩
    · exact .inr ⟨rfl, _, .inr rfl, rfl, rfl⟩
  · rintro (h1 | ⟨e, z, hz | rfl, h2⟩)
    · exact .inl (.inl h1)
    · exact .inl (.inr ⟨e, z, hz, h2⟩)
    · exact .inr ⟨e, by have := h2.2; dsimp only at this; omega⟩
theorem MatTo.zero (U : Nat → List Hp) (lb : Txt) : MatTo U lb 0 0 none := fun i j _ _ => by
  constructor
  · intro h; cases h
  · rintro (⟨h, _⟩ | ⟨_, y, hy, _⟩)
    · omega
    · simp at hy
def MatP (w : World) (G : Gr) (lb : Txt) (side : Nat) (e : Ending) (w' : World) : Prop := ∃ q b, e = .returned (.tuple #[.pointer (some ⟨q, 0, none⟩), .int .i64 0]) ∧ QFresh w.heap.size q side b w' ∧ Below w.heap.size w w' ∧ MatOf G lb b
set_option maxHeartbeats 4000000 in
set_option maxRecDepth 20000 in
theorem matrix_gr (w : World) (F : Nat → Prop) (p : Nat) (G : Gr) (h : GrS w F p G) (ok : GOk G) (lb : Txt) (side : Nat) (hs : G.N.length ≤ side) (hs1 : 1 ≤ side) (hs2 : side ≤ 1024) :
    Calls Tryz.prog 16 #[.pointer (some ⟨p, 0, none⟩), .string lb, .int .i64 (side : Int)] w (MatP w G lb side) := by
  obtain ⟨U, V, ⟨O, ⟨r, nv, ov, iv, fo, fi⟩, hg, -⟩, ho⟩ := h
  have hf := ok.few
  have q1 : w.cell? ⟨p, 1, none⟩ = some (.map (some r)) := hg.blk.cell 1
  obtain ⟨nA, nc, e1, -, -⟩ := own_form hg.rn
  obtain ⟨oA, oc, e2, -, -⟩ := own_form hg.ro
  dsimp only at e1 e2
  subst e1
  subst e2
  obtain ⟨n, hn⟩ : ∃ n, G.N.length = n := ⟨_, rfl⟩
  have hn32 : n ≤ 32 := by omega
  rw [hn] at hs
  have H := Lib.hid (And.intro hg (And.intro ho (And.intro ok hn)))
  have hnew := qnew_any w side hs1 hs2
  have hlt : ¬ (side < n) := by omega
  clear hg ho ok hn hf
  go_enter Tryz.func16, Tryz.ntmps16
  go_wp2_with fail
  refine (is_any w p r q1).mono ?_
  rintro e w' ⟨rfl, hw⟩
  subst w'
  go_wp2_with fail
  refine hnew.mono ?_
  clear hnew q1
  rintro e W1 ⟨q, rfl, fr1, b1⟩
  have HF1 := Lib.hid fr1
  have HB1 := Lib.hid b1
  have hg1 := H.out.1.upd (Upd.of_below b1 (fun _ => False)) (fun _ _ => id)
  have q0 : W1.cell? ⟨p, 0, none⟩ = some (.slice nA n nc) := by rw [← H.out.2.2.2]; exact hg1.blk.cell 0
  have q2 : W1.cell? ⟨p, 2, none⟩ = some (.slice oA n oc) := by rw [← H.out.2.2.2]; exact hg1.blk.cell 2
  clear fr1 b1 hg1
  go_wp2_with fail
  clear q0 q2
  go_loopw [38] (fun i wr => ∃ k : Nat, k ≤ n ∧ i = .int .i64 k ∧ Hid (∃ b, QFresh w.heap.size q side b wr ∧ MatTo U lb k 0 b) ∧ Hid (Below w.heap.size w wr)) (fun i _ => n - (intOf i).toNat)
  case atStart => exact ⟨0, Nat.zero_le _, rfl, Lib.hid ⟨none, HF1.out, MatTo.zero U lb⟩, HB1⟩
  case round =>
    obtain ⟨k, hk, rfl, hq, hbw⟩ := hrel
    by_cases hkn : k < n
    · have hknI : (k : Int) < (n : Int) := by omega
      have hkw : IntKind.i64.wrap ((k : Int) + 1) = (k : Int) + 1 := IntWalk.i64_in _ (by omega)
      have hkN : k < G.N.length := by rw [H.out.2.2.2]; exact hkn
      have hg := H.out.1.upd (Upd.of_below hbw.out (fun _ => False)) (fun _ _ => id)
      obtain ⟨og, oc', e, -, co, -⟩ := row_get hg.ro hkN
      dsimp only at e co
      injection e with e e1 e2
      subst e
      clear e1 e2
      obtain ⟨A, cA, eA, -, -⟩ := own_form (hg.fo k)
      dsimp only at eA
      have hrow := H.out.1.fo k
      dsimp only at hrow
      rw [eA] at co hrow
      obtain ⟨m, hm⟩ : ∃ m, (U k).length = m := ⟨_, rfl⟩
      have hm256 : m ≤ 256 := by rw [← hm]; exact Nat.le_trans (H.out.2.1.len k).1 H.out.2.2.1.few.2
      rw [hm] at co
      have HM := Lib.hid (And.intro hm (RowR.of_own hrow))
      clear hg eA hrow hm
      go_wp2_with fail
      clear co
      generalize wr = W5 at hq hbw ⊢
      go_loopw [45] (fun i wr => ∃ t : Nat, t ≤ m ∧ i = .int .i64 t ∧ Hid (∃ b, QFresh w.heap.size q side b wr ∧ MatTo U lb k t b) ∧ Hid (Below w.heap.size w wr)) (fun i _ => m - (intOf i).toNat)
      case atStart => exact ⟨0, Nat.zero_le _, rfl, hq, hbw⟩
      case round =>
        obtain ⟨t, ht, rfl, hqt, hbt⟩ := hrel
        by_cases htm : t < m
        · have htmI : (t : Int) < (m : Int) := by omega
          have htw : IntKind.i64.wrap ((t : Int) + 1) = (t : Int) + 1 := IntWalk.i64_in _ (by omega)
          obtain ⟨⟨s, nd⟩, hx⟩ : ∃ x, (U k)[t]? = some x := ⟨(U k)[t]'(by rw [HM.out.1]; exact htm), List.getElem?_eq_getElem _⟩
          obtain ⟨ed, hed, -, hnd⟩ := (H.out.2.1.um k _).1 (List.mem_of_getElem? hx)
          injection hnd with hs0 hnd
          clear hs0
          have hqn := idxT_lt (H.out.2.2.1.ends ed hed).2
          rw [H.out.2.2.2] at hqn
          generalize idxT G.N ed.to = v at hnd hqn
          subst hnd
          clear hed
          obtain ⟨ab, ao, rfl, y0, y1⟩ := (HM.out.2.below hbt.out).hp hx
          dsimp only at y0 y1
          have k6 := Blk.new wr 36 #[.string s, .int .i64 (v : Int)]
          have u6 : Below wr.heap.size wr (wr.alloc (.cells #[.string s, .int .i64 (v : Int)] 36)) := (Below.refl _ _).alloc (Nat.le_refl _) _
          obtain ⟨b, hb1, hb2⟩ := hqt.out
          have H6 := Lib.hid (And.intro k6 (And.intro (hb1.below u6) (And.intro hb2 (And.intro (hbt.out.trans (u6.mono hbt.out.size)) hx))))
          clear k6 u6 hb1 hb2 hqt hbt hx
          go_upto_region 12 with (fail)
          generalize wr.alloc (.cells #[.string s, .int .i64 (v : Int)] 36) = W6 at H6 ⊢
          clear y0 y1
          have y0 : W6.cell? ⟨wr.heap.size, 0, none⟩ = some (.string s) := H6.out.1.cell 0
          have y1 : W6.cell? ⟨wr.heap.size, 1, none⟩ = some (.int .i64 (v : Int)) := H6.out.1.cell 1
          by_cases hsl : s = lb
          · subst hsl
            obtain ⟨F6, g6, n6⟩ := H6.out.2.1
            have hset := qset_any W6 F6 q side b g6 k v (by omega) (by omega) (by omega) (by omega)
            have HW := Lib.hid g6.wd
            have HN6 := Lib.hid n6
            clear g6 n6
            go_wp2_with fail
            refine hset.mono ?_
            clear hset y0 y1
            rintro e W7 ⟨rfl, hto⟩
            have hst := QFresh.step HN6.out H6.out.2.2.2.1.size hto
            have HF := Lib.hid hst
            clear hto hst
            go_wp2
            go_roundw
            case rel => exact ⟨t + 1, by omega, by go_num, Lib.hid ⟨_, HF.out.1, H6.out.2.2.1.put HW.out (by omega) H6.out.2.2.2.2⟩, Lib.hid (H6.out.2.2.2.1.trans HF.out.2)⟩
            case measure => simp [intOf]; omega
          · have hsb : (ByteArray.toList s == ByteArray.toList lb) = false := by rw [txt_beq]; exact decide_eq_false hsl
            go_wp2
            go_roundw
            case rel => exact ⟨t + 1, by omega, by go_num, Lib.hid ⟨b, H6.out.2.1, H6.out.2.2.1.skip H6.out.2.2.2.2 hsl⟩, Lib.hid H6.out.2.2.2.1⟩
            case measure => simp [intOf]; omega
        · obtain rfl : t = m := by omega
          go_wp2
          go_roundw
          case rel => exact ⟨k + 1, by omega, by go_num, Lib.hid (by
            obtain ⟨b, h1, h2⟩ := hqt.out
            rw [← HM.out.1] at h2
            exact ⟨b, h1, h2.next⟩), hbt⟩
          case measure => simp [intOf]; omega
    · obtain rfl : k = n := by omega
      have FIN := Lib.hid (show MatP w G lb side (.returned (.tuple #[.pointer (some ⟨q, 0, none⟩), .int .i64 0])) wr from by
        obtain ⟨b, h1, h2⟩ := hq.out
        rw [← H.out.2.2.2] at h2
        exact ⟨q, b, rfl, h1, hbw.out, h2.all H.out.2.1 H.out.2.2.1⟩)
      clear hq hbw
      go_wp2
      refine bodyPost_ret (v := .tuple #[.pointer (some ⟨q, 0, none⟩), .int .i64 0]) (by simp [results, Tryz.f16, go_sem]) rfl FIN.out
end Go.Proofs.YtnmkieiehjajlaaGreatDoor
