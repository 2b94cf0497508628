/- Edges: the labels of a graph, each once, rising; what is too many. -/
import Derived.Test.YthmkgnifcbnkpaaGreatEdI
namespace Go.Proofs.YthmkgnifcbnkpaaGreat
open Go.RowKit Go.Sort Go.Shelf

theorem lbs_take {E : List Ed} {k : Nat} {x : Ed} (h : E[k]? = some x) : lbs (E.take (k + 1)) = lbs (E.take k) ++ [x.lb] := by rw [take_snoc' h]; simp [lbs]
theorem lbs_len (E : List Ed) : (lbs E).length = E.length := by simp [lbs]
/-- The list so far. -/
structure LabI (w1 wr : World) (b : Nat) (L : List Txt) : Prop where
  ex : ∃ v, Blk wr b 22 #[v] ∧ wr.ownsRow w1.heap.size 9 1 v L.length (txtCells L) ∧ v.ownBlock ≠ some b
  u : Upd (fun q => q = b) w1 wr

set_option maxHeartbeats 1000000 in
set_option maxRecDepth 20000 in
theorem labels_any (w : World) (A : Option Addr) (c : Nat) (B : Option Addr) (d : Nat) (N : List Txt) (E : List Ed) (h : ForG w A c B d N E) :
    Calls Tryz.prog 58 #[twoV A N.length c B E.length d] w (SetT w (lbs E)) := by
  have k0 := (Blk.new w 25 #[.slice A N.length c, .slice B E.length d]).alloc (.cells #[.slice none 0 0] 22)
  have k1 := Blk.new (w.alloc (.cells #[.slice A N.length c, .slice B E.length d] 25)) 22 #[.slice none 0 0]
  simp only [World.size_alloc] at k1
  have u0 : Below w.heap.size w ((w.alloc (.cells #[.slice A N.length c, .slice B E.length d] 25)).alloc (.cells #[.slice none 0 0] 22)) := by (repeat (first | exact Below.refl _ _ | apply Below.drew | refine Below.alloc ?_ (by first | exact Nat.le_refl _ | (simp; done) | (simp; omega)) _ | refine Below.setCell ?_ (by first | exact Nat.le_refl _ | (simp; done) | (simp; omega)) _))
  have hd : E.length * 48 ≤ 140737488355328 := h.fit.e
  have hz : ((w.alloc (.cells #[.slice A N.length c, .slice B E.length d] 25)).alloc (.cells #[.slice none 0 0] 22)).heap.size = w.heap.size + 2 := by simp
  have HB := Lib.hid (show ∀ (j : Nat) (x : Ed), E[j]? = some x → ∃ b o, B = some ⟨b, o, none⟩ ∧ b < w.heap.size from fun j x hx => by obtain ⟨b, o, e, y0, -⟩ := h.re.ed hx; exact ⟨b, o, e, World.block_lt_of_cell? _ _ y0⟩)
  have H := Lib.hid (And.intro (h.below u0) (And.intro k0 (And.intro k1 (And.intro u0 hz))))
  clear h k0 k1 u0 hz
  unfold twoV
  go_enter Tryz.func58, Tryz.ntmps58
  go_upto_region 2 with (fail)
  generalize (w.alloc (.cells #[.slice A N.length c, .slice B E.length d] 25)).alloc (.cells #[.slice none 0 0] 22) = W1 at H ⊢
  have q1 : W1.cell? ⟨w.heap.size, 1, none⟩ = some (.slice B E.length d) := H.out.2.1.cell 1
  have hz1 : w.heap.size + 2 ≤ W1.heap.size := Nat.le_of_eq H.out.2.2.2.2.symm
  go_wp2_with fail
  clear q1
  go_loopw [6, 11] (fun _ i wr => ∃ k : Nat, k ≤ E.length ∧ i = .int .i64 k ∧ Hid (LabI W1 wr (w.heap.size + 1) (lbs (E.take k)))) (fun _ i _ => E.length - (intOf i).toNat)
  case atStart => exact ⟨0, Nat.zero_le _, rfl, Lib.hid ⟨⟨_, H.out.2.2.1, World.ownsRow_nil _ _ _ _, by simp [Value.ownBlock]⟩, Upd.refl _ _⟩⟩
  case round =>
    obtain ⟨k, hk, rfl, hi⟩ := hrel
    by_cases hlt : k < E.length
    · have hltI : (k : Int) < (E.length : Int) := by omega
      have hkw : IntKind.i64.wrap ((k : Int) + 1) = (k : Int) + 1 := IntWalk.i64_in _ (by omega)
      obtain ⟨⟨s0, s1, s2⟩, hx⟩ : ∃ x, E[k]? = some x := ⟨E[k], List.getElem?_eq_getElem _⟩
      obtain ⟨ab, ao, rfl, hab⟩ := HB.out k _ hx
      obtain ⟨ab', ao', e, y0, y1, y2⟩ := H.out.1.re.ed hx
      injection e with e; injection e with e e2; subst e; subst e2
      dsimp only at y0 y1 y2
      have cc := fun i => hi.out.u.cell (p := ⟨ab, i, none⟩) (by show ab < _; omega) (by show ¬ ab = _; omega)
      have x0 := (cc _).trans y0
      have x1 := (cc _).trans y1
      have x2 := (cc _).trans y2
      obtain ⟨v, kv, ov, nv⟩ := hi.out.ex
      have kx := Blk.new wr 39 #[.string s0, .string s1, .string s2]
      have kv' := kv.alloc (.cells #[.string s0, .string s1, .string s2] 39)
      have ov' := ov.alloc (.cells #[.string s0, .string s1, .string s2] 39)
      have u' := hi.out.u.alloc (.cells #[.string s0, .string s1, .string s2] 39)
      have hsz := hi.out.u.size
      have hll : (lbs (E.take k)).length ≤ k := by rw [lbs_len, List.length_take]; omega
      have hlt2 : ∀ q, v.ownBlock = some q → W1.heap.size ≤ q := fun q hq => (ov.lt q hq).1
      have HX := Lib.hid (And.intro hx (And.intro kx (And.intro kv' (And.intro ov' (And.intro u' (And.intro nv hlt2))))))
      have hzx : wr.heap.size ≤ (wr.alloc (.cells #[.string s0, .string s1, .string s2] 39)).heap.size := by simp
      clear hx kx kv ov nv kv' ov' u' y0 y1 y2 cc hlt2
      go_upto_region 6 with (fail)
      generalize wr.alloc (.cells #[.string s0, .string s1, .string s2] 39) = W5 at HX hzx ⊢
      clear x0 x1 x2
      have x0 : W5.cell? ⟨wr.heap.size, 0, none⟩ = some (.string s0) := HX.out.2.1.cell 0
      have x1 : W5.cell? ⟨wr.heap.size, 1, none⟩ = some (.string s1) := HX.out.2.1.cell 1
      have x2 : W5.cell? ⟨wr.heap.size, 2, none⟩ = some (.string s2) := HX.out.2.1.cell 2
      have HT := Lib.hid (tell_any W5 W1.heap.size (w.heap.size + 1) v (lbs (E.take k)) ⟨s0, s1, s2⟩ HX.out.2.2.1 HX.out.2.2.2.1 HX.out.2.2.2.2.2.1 (by omega) (by omega))
      clear hll
      go_wp2_with fail
      refine HT.out.mono ?_
      rintro e w6 ⟨rfl, v6, kv6, ov6, nv6, u6⟩
      have fin : LabI W1 w6 (w.heap.size + 1) (lbs (E.take (k + 1))) := by
        rw [lbs_take HX.out.1]
        exact ⟨⟨v6, kv6, ov6, nv6⟩, HX.out.2.2.2.2.1.trans u6 (fun i e => e.elim .inl (fun e => .inr (HX.out.2.2.2.2.2.2 i e)))⟩
      have FIN := Lib.hid fin
      clear fin kv6 ov6 nv6 u6
      go_wp2
      go_roundw
      case rel => exact ⟨k + 1, by omega, by go_num, FIN⟩
      case measure => simp [intOf]; omega
    · obtain rfl : k = E.length := by omega
      obtain ⟨W4, hW4⟩ : ∃ W, W = wr := ⟨_, rfl⟩
      subst hW4
      obtain ⟨v, kv, ov, nv⟩ := hi.out.ex
      rw [List.take_length] at ov
      have bw4 : Below w.heap.size w W4 := H.out.2.2.2.1.trans (hi.out.u.below (fun q _ e => by omega) (by omega))
      have hsz := hi.out.u.size
      obtain ⟨A1, c1, rfl, hc1, -⟩ := own_form ov
      have c4 := kv.cell 0
      simp only [List.getElem?_toArray, List.getElem?_cons_zero] at c4
      by_cases h0 : E.length = 0
      · obtain rfl : E = [] := List.eq_nil_of_length_eq_zero h0
        have HK := Lib.hid (And.intro bw4 kv)
        have c4' : W4.cell? ⟨w.heap.size + 1, 0, none⟩ = some (.slice A1 0 c1) := c4
        clear ov nv hi c4 hk hlt kv bw4 h0 hc1
        go_wp2_with fail
        refine (sort_zero _ _ _).mono ?_
        rintro e w2 ⟨rfl, rfl⟩
        go_wp2_with fail
        refine (compact_zero _ _ _).mono ?_
        rintro e w2 ⟨rfl, rfl⟩
        go_wp2_with fail
        refine (clone_txt _ A1 c1 [] (fun j u hj => by simp [txtCells] at hj) (by simp)).mono ?_
        intro e w3 hn
        have hn' := hn.base HK.out.1
        obtain ⟨v3, rfl, own3, b3⟩ := hn'
        have FIN := Lib.hid (show SetT w (lbs []) (.returned v3) w3 from ⟨[], SetOf.self (lt := ltT) .nil, Nat.le_refl _, v3, rfl, own3, b3⟩)
        clear hn own3 b3
        go_wp2
        go_ret
        exact FIN.out
      · obtain ⟨g, rfl⟩ : ∃ g, A1 = some ⟨g, 0, none⟩ := by
          rcases ov.2 with ⟨-, h2⟩ | ⟨g, cap, cur, hv, -⟩
          · rw [lbs_len] at h2; exact (h0 h2).elim
          · injection hv with hv
            exact ⟨g, hv⟩
        have hgb := (ov.lt g rfl).1
        have hgne : g ≠ w.heap.size + 1 := by omega
        have hln : (lbs E).length ≤ E.length := Nat.le_of_eq (lbs_len E)
        obtain ⟨n, hn⟩ : ∃ n, (lbs E).length = n := ⟨_, rfl⟩
        have hs := sort_txt W4 W1.heap.size g c1 (lbs E) ov (by omega)
        rw [hn] at hs c4
        have HK := Lib.hid (And.intro bw4 (And.intro kv (And.intro hs hn)))
        clear ov nv hi hk hlt kv bw4 hs h0 hc1
        have hnE : n ≤ E.length := by omega
        clear hn
        go_wp2_with fail
        refine HK.out.2.2.1.mono ?_
        rintro e w2 ⟨rfl, dd, ho, own2, u2⟩
        have k2 := HK.out.2.1.upd u2 (fun e => hgne e.symm)
        have c5 := k2.cell 0
        simp only [List.getElem?_toArray, List.getElem?_cons_zero] at c5
        rw [HK.out.2.2.2] at c5
        have H2 := Lib.hid (And.intro ho (And.intro own2 (HK.out.1.trans (u2.below (fun q _ e => by omega) HK.out.1.size))))
        clear ho own2 u2 k2 c4
        go_wp2_with fail
        refine (compact_txt w2 W1.heap.size g c1 n (lbs E) dd H2.out.1 HK.out.2.2.2 H2.out.2.1 (by omega)).mono ?_
        rintro e w3 ⟨M, hM, hlen, rfl, hr3, u3⟩
        have H3 := Lib.hid (And.intro hM (And.intro hlen (And.intro hr3 (H2.out.2.2.trans (u3.below (fun q _ e => by omega) H2.out.2.2.size)))))
        have hml : M.length * 16 ≤ 140737488355328 := by omega
        clear hM hlen hr3 u3 c5
        obtain ⟨k, hk⟩ : ∃ k, M.length = k := ⟨_, rfl⟩
        have hcl := clone_txt w3 (some ⟨g, 0, none⟩) c1 M H3.out.2.2.1 hml
        rw [hk] at hcl ⊢
        have HCL := Lib.hid hcl
        clear hcl hk hml
        go_wp2_with fail
        refine HCL.out.mono ?_
        intro e w4 hn
        have hn' := hn.base H3.out.2.2.2
        obtain ⟨v4, rfl, own4, b4⟩ := hn'
        have FIN := Lib.hid (show SetT w (lbs E) (.returned v4) w4 from ⟨M, H3.out.1, H3.out.2.1, v4, rfl, own4, b4⟩)
        clear hn own4 b4
        go_wp2
        go_ret
        exact FIN.out
end Go.Proofs.YthmkgnifcbnkpaaGreat
