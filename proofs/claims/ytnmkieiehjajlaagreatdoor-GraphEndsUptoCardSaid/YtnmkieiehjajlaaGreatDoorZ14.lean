/- Edges: the labels of a graph, each once, rising; what is too many; Edges: what is too many; may a graph be?; Edges: a list of edges in order, each once; Edges: slices.Compact at edges. -/
import Derived.Test.YtnmkieiehjajlaaGreatDoorZ13
import Derived.Test.YtnmkieiehjajlaaGreatDoorZ03
import Derived.Laws.CopyRow
set_option linter.unusedVariables false
set_option linter.unusedSimpArgs false
namespace Go.Proofs.YtnmkieiehjajlaaGreatDoor
open Go.RowKit Go.Sort Go.Shelf

theorem lbs_take {E : List Ed} {k : Nat} {x : Ed} (h : E[k]? = some x) : lbs (E.take (k + 1)) = lbs (E.take k) ++ [x.lb] := by rw [take_snoc' h]; simp [lbs]
theorem lbs_len (E : List Ed) : (lbs E).length = E.length := by simp [lbs]
/-- The list so far. -/
structure LabI (w1 wr : World) (b : Nat) (L : List Txt) : Prop where
  ex : ∃ v, Blk wr b 22 #[v] ∧ wr.ownsRow w1.heap.size 9 1 v L.length (txtCells L) ∧ v.ownBlock ≠ some b
  u : Upd (fun q => q = b) w1 wr

set_option maxHeartbeats 1000000 in
set_option maxRecDepth 20000 in
theorem labels_any (w : World) (A : Option Addr) (c : Nat) (B : Option Addr) (d : Nat) (N : List Txt) (E : List Ed) (h : ForG w A c B d N E) :
    Calls Tryz.prog 79 #[twoV A N.length c B E.length d] w (SetT w (lbs E)) := by
  have k0 := (Blk.new w 54 #[.slice A N.length c, .slice B E.length d]).alloc (.cells #[.slice none 0 0] 22)
  have k1 := Blk.new (w.alloc (.cells #[.slice A N.length c, .slice B E.length d] 54)) 22 #[.slice none 0 0]
  simp only [World.size_alloc] at k1
  have u0 : Below w.heap.size w ((w.alloc (.cells #[.slice A N.length c, .slice B E.length d] 54)).alloc (.cells #[.slice none 0 0] 22)) := by (repeat (first | exact Below.refl _ _ | apply Below.drew | refine Below.alloc ?_ (by first | exact Nat.le_refl _ | (simp; done) | (simp; omega)) _ | refine Below.setCell ?_ (by first | exact Nat.le_refl _ | (simp; done) | (simp; omega)) _))
  have hd : E.length * 48 ≤ 140737488355328 := h.fit.e
  have hz : ((w.alloc (.cells #[.slice A N.length c, .slice B E.length d] 54)).alloc (.cells #[.slice none 0 0] 22)).heap.size = w.heap.size + 2 := by simp
  have HB := Lib.hid (show ∀ (j : Nat) (x : Ed), E[j]? = some x → ∃ b o, B = some ⟨b, o, none⟩ ∧ b < w.heap.size from fun j x hx => by obtain ⟨b, o, e, y0, -⟩ := h.re.ed hx; exact ⟨b, o, e, World.block_lt_of_cell? _ _ y0⟩)
  have H := Lib.hid (And.intro (h.below u0) (And.intro k0 (And.intro k1 (And.intro u0 hz))))
  clear h k0 k1 u0 hz
  unfold twoV
  go_enter Tryz.func79, Tryz.ntmps79
  go_upto_region 2 with (fail)
  generalize (w.alloc (.cells #[.slice A N.length c, .slice B E.length d] 54)).alloc (.cells #[.slice none 0 0] 22) = W1 at H ⊢
  have q1 : W1.cell? ⟨w.heap.size, 1, none⟩ = some (.slice B E.length d) := H.out.2.1.cell 1
  have hz1 : w.heap.size + 2 ≤ W1.heap.size := Nat.le_of_eq H.out.2.2.2.2.symm
  go_wp2_with fail
  clear q1
  go_loopw [6, 11] (fun _ i wr => ∃ k : Nat, k ≤ E.length ∧ i = .int .i64 k ∧ Hid (LabI W1 wr (w.heap.size + 1) (lbs (E.take k)))) (fun _ i _ => E.length - (intOf i).toNat)
  case atStart => exact ⟨0, Nat.zero_le _, rfl, Lib.hid ⟨⟨_, H.out.2.2.1, World.ownsRow_nil _ _ _ _, by simp [Value.ownBlock]⟩, Upd.refl _ _⟩⟩
  case round =>
    obtain ⟨k, hk, rfl, hi⟩ := hrel
    by_cases hlt : k < E.length
    · have hltI : (k : Int) < (E.length : Int) := by omega
      have hkw : IntKind.i64.wrap ((k : Int) + 1) = (k : Int) + 1 := IntWalk.i64_in _ (by omega)
      obtain ⟨⟨s0, s1, s2⟩, hx⟩ : ∃ x, E[k]? = some x := ⟨E[k], List.getElem?_eq_getElem _⟩
      obtain ⟨ab, ao, rfl, hab⟩ := HB.out k _ hx
      obtain ⟨ab', ao', e, y0, y1, y2⟩ := H.out.1.re.ed hx
      injection e with e; injection e with e e2; subst e; subst e2
      dsimp only at y0 y1 y2
      have cc := fun i => hi.out.u.cell (p := ⟨ab, i, none⟩) (by show ab < _; omega) (by show ¬ ab = _; omega)
      have x0 := (cc _).trans y0
      have x1 := (cc _).trans y1
      have x2 := (cc _).trans y2
      obtain ⟨v, kv, ov, nv⟩ := hi.out.ex
      have kx := Blk.new wr 52 #[.string s0, .string s1, .string s2]
      have kv' := kv.alloc (.cells #[.string s0, .string s1, .string s2] 52)
      have ov' := ov.alloc (.cells #[.string s0, .string s1, .string s2] 52)
      have u' := hi.out.u.alloc (.cells #[.string s0, .string s1, .string s2] 52)
      have hsz := hi.out.u.size
      have hll : (lbs (E.take k)).length ≤ k := by rw [lbs_len, List.length_take]; omega
      have hlt2 : ∀ q, v.ownBlock = some q → W1.heap.size ≤ q := fun q hq => (ov.lt q hq).1
      have HX := Lib.hid (And.intro hx (And.intro kx (And.intro kv' (And.intro ov' (And.intro u' (And.intro nv hlt2))))))
      have hzx : wr.heap.size ≤ (wr.alloc (.cells #[.string s0, .string s1, .string s2] 52)).heap.size := by simp
      clear hx kx kv ov nv kv' ov' u' y0 y1 y2 cc hlt2
      go_upto_region 6 with (fail)
      generalize wr.alloc (.cells #[.string s0, .string s1, .string s2] 52) = W5 at HX hzx ⊢
      clear x0 x1 x2
      have x0 : W5.cell? ⟨wr.heap.size, 0, none⟩ = some (.string s0) := HX.out.2.1.cell 0
      have x1 : W5.cell? ⟨wr.heap.size, 1, none⟩ = some (.string s1) := HX.out.2.1.cell 1
      have x2 : W5.cell? ⟨wr.heap.size, 2, none⟩ = some (.string s2) := HX.out.2.1.cell 2
      have HT := Lib.hid (tell_any W5 W1.heap.size (w.heap.size + 1) v (lbs (E.take k)) ⟨s0, s1, s2⟩ HX.out.2.2.1 HX.out.2.2.2.1 HX.out.2.2.2.2.2.1 (by omega) (by omega))
      clear hll
      go_wp2_with fail
      refine HT.out.mono ?_
      rintro e w6 ⟨rfl, v6, kv6, ov6, nv6, u6⟩
      have fin : LabI W1 w6 (w.heap.size + 1) (lbs (E.take (k + 1))) := by
        rw [lbs_take HX.out.1]
        exact ⟨⟨v6, kv6, ov6, nv6⟩, HX.out.2.2.2.2.1.trans u6 (fun i e => e.elim .inl (fun e => .inr (HX.out.2.2.2.2.2.2 i e)))⟩
      have FIN := Lib.hid fin
      clear fin kv6 ov6 nv6 u6
      go_wp2
      go_roundw
      case rel => exact ⟨k + 1, by omega, by go_num, FIN⟩
      case measure => simp [intOf]; omega
    · obtain rfl : k = E.length := by omega
      obtain ⟨W4, hW4⟩ : ∃ W, W = wr := ⟨_, rfl⟩
      subst hW4
      obtain ⟨v, kv, ov, nv⟩ := hi.out.ex
      rw [List.take_length] at ov
      have bw4 : Below w.heap.size w W4 := H.out.2.2.2.1.trans (hi.out.u.below (fun q _ e => by omega) (by omega))
      have hsz := hi.out.u.size
      obtain ⟨A1, c1, rfl, hc1, -⟩ := own_form ov
      have c4 := kv.cell 0
      simp only [List.getElem?_toArray, List.getElem?_cons_zero] at c4
      by_cases h0 : E.length = 0
      · obtain rfl : E = [] := List.eq_nil_of_length_eq_zero h0
        have HK := Lib.hid (And.intro bw4 kv)
        have c4' : W4.cell? ⟨w.heap.size + 1, 0, none⟩ = some (.slice A1 0 c1) := c4
        clear ov nv hi c4 hk hlt kv bw4 h0 hc1
        go_wp2_with fail
        refine (sort_zero _ _ _).mono ?_
        rintro e w2 ⟨rfl, rfl⟩
        go_wp2_with fail
        refine (compact_zero _ _ _).mono ?_
        rintro e w2 ⟨rfl, rfl⟩
        go_wp2_with fail
        refine (clone_txt _ A1 c1 [] (fun j u hj => by simp [txtCells] at hj) (by simp)).mono ?_
        intro e w3 hn
        have hn' := hn.base HK.out.1
        obtain ⟨v3, rfl, own3, b3⟩ := hn'
        have FIN := Lib.hid (show SetT w (lbs []) (.returned v3) w3 from ⟨[], SetOf.self (lt := ltT) .nil, Nat.le_refl _, v3, rfl, own3, b3⟩)
        clear hn own3 b3
        go_wp2
        go_ret
        exact FIN.out
      · obtain ⟨g, rfl⟩ : ∃ g, A1 = some ⟨g, 0, none⟩ := by
          rcases ov.2 with ⟨-, h2⟩ | ⟨g, cap, cur, hv, -⟩
          · rw [lbs_len] at h2; exact (h0 h2).elim
          · injection hv with hv
            exact ⟨g, hv⟩
        have hgb := (ov.lt g rfl).1
        have hgne : g ≠ w.heap.size + 1 := by omega
        have hln : (lbs E).length ≤ E.length := Nat.le_of_eq (lbs_len E)
        obtain ⟨n, hn⟩ : ∃ n, (lbs E).length = n := ⟨_, rfl⟩
        have hs := sort_txt W4 W1.heap.size g c1 (lbs E) ov (by omega)
        rw [hn] at hs c4
        have HK := Lib.hid (And.intro bw4 (And.intro kv (And.intro hs hn)))
        clear ov nv hi hk hlt kv bw4 hs h0 hc1
        have hnE : n ≤ E.length := by omega
        clear hn
        go_wp2_with fail
        refine HK.out.2.2.1.mono ?_
        rintro e w2 ⟨rfl, dd, ho, own2, u2⟩
        have k2 := HK.out.2.1.upd u2 (fun e => hgne e.symm)
        have c5 := k2.cell 0
        simp only [List.getElem?_toArray, List.getElem?_cons_zero] at c5
        rw [HK.out.2.2.2] at c5
        have H2 := Lib.hid (And.intro ho (And.intro own2 (HK.out.1.trans (u2.below (fun q _ e => by omega) HK.out.1.size))))
        clear ho own2 u2 k2 c4
        go_wp2_with fail
        refine (compact_txt w2 W1.heap.size g c1 n (lbs E) dd H2.out.1 HK.out.2.2.2 H2.out.2.1 (by omega)).mono ?_
        rintro e w3 ⟨M, hM, hlen, rfl, hr3, u3⟩
        have H3 := Lib.hid (And.intro hM (And.intro hlen (And.intro hr3 (H2.out.2.2.trans (u3.below (fun q _ e => by omega) H2.out.2.2.size)))))
        have hml : M.length * 16 ≤ 140737488355328 := by omega
        clear hM hlen hr3 u3 c5
        obtain ⟨k, hk⟩ : ∃ k, M.length = k := ⟨_, rfl⟩
        have hcl := clone_txt w3 (some ⟨g, 0, none⟩) c1 M H3.out.2.2.1 hml
        rw [hk] at hcl ⊢
        have HCL := Lib.hid hcl
        clear hcl hk hml
        go_wp2_with fail
        refine HCL.out.mono ?_
        intro e w4 hn
        have hn' := hn.base H3.out.2.2.2
        obtain ⟨v4, rfl, own4, b4⟩ := hn'
        have FIN := Lib.hid (show SetT w (lbs E) (.returned v4) w4 from ⟨M, H3.out.1, H3.out.2.1, v4, rfl, own4, b4⟩)
        clear hn own4 b4
        go_wp2
        go_ret
        exact FIN.out
end Go.Proofs.YtnmkieiehjajlaaGreatDoor
namespace Go.Proofs.YtnmkieiehjajlaaGreatDoor
open Go.RowKit

/-- A list in order, each once. -/
def setOf {α : Type} [DecidableEq α] (lt : α → α → Bool) (L : List α) : List α := cpt (L.mergeSort fun x y => !lt y x)
theorem setOf_is {α : Type} [DecidableEq α] {lt : α → α → Bool} (hs : Sto lt) (L : List α) : SetOf lt L (setOf lt L) := by
  have h1 : (L.mergeSort fun x y => !lt y x).Pairwise fun a b => (!lt b a) = true := List.pairwise_mergeSort (fun a b c => hs.le_trans a b c) (fun a b => hs.le_total a b) L
  have h2 := cpt_set hs (h1.imp fun {a b} h => by simpa using h)
  exact ⟨h2.up, fun x => (h2.mem x).trans (List.mergeSort_perm _ _).mem_iff⟩
theorem SetOf.is {α : Type} [DecidableEq α] {lt : α → α → Bool} (hs : Sto lt) {L M : List α} (h : SetOf lt L M) : M = setOf lt L := h.uniq hs (setOf_is hs L) (fun _ => Iff.rfl)

def capsI (N : List Txt) (E : List Ed) : Int := if 32 < N.length then 260 else if 16 < (setOf ltT (lbs E)).length then 261 else if 256 < E.length then 262 else if 2048 < (textL N E).length then 174 else 0
def checkI (N : List Txt) (E : List Ed) : Int := if formB N E = false then 2 else if namedB N E = false then 173 else capsI N E
theorem reti {a b : Int} (h : a = b) : Ending.returned (.int .i64 a) = .returned (.int .i64 b) := by rw [h]

set_option maxHeartbeats 1000000 in
set_option maxRecDepth 20000 in
theorem caps_any (w : World) (A : Option Addr) (c : Nat) (B : Option Addr) (d : Nat) (N : List Txt) (E : List Ed) (h : ForG w A c B d N E) (hs : Short N E) :
    Calls Tryz.prog 92 #[twoV A N.length c B E.length d] w (Sam w (.int .i64 (capsI N E))) := by
  have k0 := Blk.new w 54 #[.slice A N.length c, .slice B E.length d]
  have u0 : Below w.heap.size w (w.alloc (.cells #[.slice A N.length c, .slice B E.length d] 54)) := (Below.refl _ _).alloc (Nat.le_refl _) _
  have H := Lib.hid (And.intro (h.below u0) (And.intro k0 (And.intro u0 hs)))
  clear h k0 u0 hs
  unfold twoV
  go_enter Tryz.func92, Tryz.ntmps92
  go_upto_region 1 with (fail)
  generalize w.alloc (.cells #[.slice A N.length c, .slice B E.length d] 54) = W0 at H ⊢
  have q0 : W0.cell? ⟨w.heap.size, 0, none⟩ = some (.slice A N.length c) := H.out.2.1.cell 0
  have q1 : W0.cell? ⟨w.heap.size, 1, none⟩ = some (.slice B E.length d) := H.out.2.1.cell 1
  by_cases h1 : 32 < N.length
  · have h1I : (32 : Int) < (N.length : Int) := by omega
    have HX := Lib.hid (show (260 : Int) = capsI N E by rw [capsI, if_pos h1])
    clear h1
    go_wp2
    go_ret
    exact ⟨reti HX.out, H.out.2.2.1⟩
  have h1I : ¬ (32 : Int) < (N.length : Int) := by omega
  go_wp2_with fail
  refine (labels_any W0 A c B d N E H.out.1).mono ?_
  rintro e w1 ⟨M, hM, hlen, v, rfl, own1, b1⟩
  obtain ⟨A1, c1, rfl, -, -⟩ := own_form own1
  have eM := hM.is stoT
  have k1 := H.out.2.1.upd (Upd.of_below b1 (fun _ => False)) id
  have H1 := Lib.hid (And.intro (H.out.1.below b1) (And.intro k1 (H.out.2.2.1.trans (b1.mono H.out.2.2.1.size))))
  have hME : M.length = (setOf ltT (lbs E)).length := by rw [← eM]
  clear own1 b1 q0 q1 k1 hM eM
  have q0 : w1.cell? ⟨w.heap.size, 0, none⟩ = some (.slice A N.length c) := H1.out.2.1.cell 0
  have q1 : w1.cell? ⟨w.heap.size, 1, none⟩ = some (.slice B E.length d) := H1.out.2.1.cell 1
  obtain ⟨k, hk⟩ : ∃ k, M.length = k := ⟨_, rfl⟩
  rw [hk] at hME ⊢
  have HM := Lib.hid hME
  by_cases h2 : 16 < k
  · have h2I : (16 : Int) < (k : Int) := by omega
    have HX := Lib.hid (show (261 : Int) = capsI N E by rw [capsI, if_neg h1, if_pos (by rw [← HM.out]; exact h2)])
    clear h2 h1 hk hME hlen
    go_wp2
    go_ret
    exact ⟨reti HX.out, H1.out.2.2⟩
  have h2I : ¬ (16 : Int) < (k : Int) := by omega
  by_cases h3 : 256 < E.length
  · have h3I : (256 : Int) < (E.length : Int) := by omega
    have HX := Lib.hid (show (262 : Int) = capsI N E by rw [capsI, if_neg h1, if_neg (by rw [← HM.out]; exact h2), if_pos h3])
    clear h2 h1 h3 hk hME hlen
    go_wp2
    go_ret
    exact ⟨reti HX.out, H1.out.2.2⟩
  have h3I : ¬ (256 : Int) < (E.length : Int) := by omega
  have HH := Lib.hid (And.intro h1 (And.intro h2 h3))
  clear h1 h2 h3 hk hME hlen
  go_wp2_with fail
  refine (text_any w1 A c B d N E H1.out.1 H.out.2.2.2 (by have := HH.out.1; omega) (by have := HH.out.2.2; omega)).mono ?_
  rintro e w2 ⟨rfl, b2⟩
  have HB := Lib.hid (H1.out.2.2.trans (b2.mono H1.out.2.2.size))
  clear b2 q0 q1
  obtain ⟨t, ht⟩ : ∃ t : Txt, (⟨(textL N E).toArray⟩ : Txt) = t := ⟨_, rfl⟩
  have hts : t.size = (textL N E).length := by rw [← ht]; simp [ByteArray.size]
  rw [ht]
  by_cases h4 : 2048 < t.size
  · have h4I : (2048 : Int) < (t.size : Int) := by omega
    have HX := Lib.hid (show (174 : Int) = capsI N E by rw [capsI, if_neg HH.out.1, if_neg (by rw [← HM.out]; exact HH.out.2.1), if_neg HH.out.2.2, if_pos (by omega)])
    clear h4 ht hts
    go_wp2
    go_ret
    exact ⟨reti HX.out, HB.out⟩
  · have h4I : ¬ (2048 : Int) < (t.size : Int) := by omega
    have HX := Lib.hid (show (0 : Int) = capsI N E by rw [capsI, if_neg HH.out.1, if_neg (by rw [← HM.out]; exact HH.out.2.1), if_neg HH.out.2.2, if_neg (by omega)])
    clear h4 ht hts
    go_wp2
    go_ret
    exact ⟨reti HX.out, HB.out⟩

set_option maxHeartbeats 1000000 in
set_option maxRecDepth 20000 in
theorem echeck_any (w : World) (A : Option Addr) (c : Nat) (B : Option Addr) (d : Nat) (N : List Txt) (E : List Ed) (h : ForG w A c B d N E) :
    Calls Tryz.prog 52 #[twoV A N.length c B E.length d] w (Sam w (.int .i64 (checkI N E))) := by
  have k0 := Blk.new w 54 #[.slice A N.length c, .slice B E.length d]
  have u0 : Below w.heap.size w (w.alloc (.cells #[.slice A N.length c, .slice B E.length d] 54)) := (Below.refl _ _).alloc (Nat.le_refl _) _
  have H := Lib.hid (And.intro (h.below u0) (And.intro k0 u0))
  clear h k0 u0
  obtain ⟨b0, hb0⟩ : ∃ b, formB N E = b := ⟨_, rfl⟩
  obtain ⟨b1, hb1⟩ : ∃ b, namedB N E = b := ⟨_, rfl⟩
  have HB := Lib.hid (And.intro hb0 hb1)
  clear hb0 hb1
  unfold twoV
  go_enter Tryz.func52, Tryz.ntmps52
  go_upto_region 1 with (fail)
  generalize w.alloc (.cells #[.slice A N.length c, .slice B E.length d] 54) = W0 at H ⊢
  have q0 : W0.cell? ⟨w.heap.size, 0, none⟩ = some (.slice A N.length c) := H.out.2.1.cell 0
  have q1 : W0.cell? ⟨w.heap.size, 1, none⟩ = some (.slice B E.length d) := H.out.2.1.cell 1
  go_wp2_with fail
  refine (form_any W0 A c B d N E H.out.1).mono ?_
  rintro e w1 ⟨rfl, u1⟩
  rw [HB.out.1]
  have k1 := H.out.2.1.upd (Upd.of_below u1 (fun _ => False)) id
  have H1 := Lib.hid (And.intro (H.out.1.below u1) (And.intro k1 (H.out.2.2.trans (u1.mono H.out.2.2.size))))
  clear u1 q0 q1 k1
  have q0 : w1.cell? ⟨w.heap.size, 0, none⟩ = some (.slice A N.length c) := H1.out.2.1.cell 0
  have q1 : w1.cell? ⟨w.heap.size, 1, none⟩ = some (.slice B E.length d) := H1.out.2.1.cell 1
  cases b0
  · go_wp2
    go_ret
    exact ⟨reti (by rw [checkI, if_pos HB.out.1]), H1.out.2.2⟩
  go_wp2_with fail
  refine (named_any w1 A c B d N E H1.out.1).mono ?_
  rintro e w2 ⟨rfl, u2⟩
  rw [HB.out.2]
  have k2 := H1.out.2.1.upd (Upd.of_below u2 (fun _ => False)) id
  have H2 := Lib.hid (And.intro (H1.out.1.below u2) (And.intro k2 (H1.out.2.2.trans (u2.mono H1.out.2.2.size))))
  clear u2 q0 q1 k2
  have q0 : w2.cell? ⟨w.heap.size, 0, none⟩ = some (.slice A N.length c) := H2.out.2.1.cell 0
  have q1 : w2.cell? ⟨w.heap.size, 1, none⟩ = some (.slice B E.length d) := H2.out.2.1.cell 1
  cases b1
  · go_wp2
    go_ret
    exact ⟨reti (by rw [checkI, if_neg (by rw [HB.out.1]; simp), if_pos HB.out.2]), H2.out.2.2⟩
  go_wp2_with fail
  refine (caps_any w2 A c B d N E H2.out.1 (Short.of HB.out.2)).mono ?_
  rintro e w3 ⟨rfl, u3⟩
  have FIN := Lib.hid (H2.out.2.2.trans (u3.mono H2.out.2.2.size))
  have HE := Lib.hid (show capsI N E = checkI N E by rw [checkI, if_neg (by rw [HB.out.1]; simp), if_neg (by rw [HB.out.2]; simp)])
  clear u3 q0 q1
  go_wp2
  go_ret
  exact ⟨reti HE.out, FIN.out⟩
end Go.Proofs.YtnmkieiehjajlaaGreatDoor
namespace Go.Proofs.YtnmkieiehjajlaaGreatDoor
open Go.RowKit Go.Sort Go.Shelf

theorem ed_stood : Tryz.prog.stoodInHeld 52 = false := by kernel_rfl
theorem ed_part (W : World) (a b c : Txt) (k : Nat) (x : Txt) (h : [a, b, c][k]? = some x) : (part 9 #[.string a, .string b, .string c] k).run Tryz.prog W = .ok (.string x) W := by
  match k, h with
  | 0, h => simp at h; subst h; simp [part, isAgg, run_underlying Tryz.underlying9]
  | 1, h => simp at h; subst h; simp [part, isAgg, run_underlying Tryz.underlying9]
  | 2, h => simp at h; subst h; simp [part, isAgg, run_underlying Tryz.underlying9]
  | k + 3, h => simp at h
theorem str_equalIn (W : World) (d : Nat) (a b : Txt) : (Op.equalIn (d + 1) 9 (.string a) (.string b)).run Tryz.prog W = .ok (decide (a = b)) W := by
  have h : (a == b) = decide (a = b) := by
    have h1 : (a == b) = (a.data == b.data) := rfl
    rw [h1]
    by_cases e : a.data = b.data
    · have : a = b := by obtain ⟨a⟩ := a; obtain ⟨b⟩ := b; simp at e; rw [e]
      rw [decide_eq_true this, e]; simp
    · rw [decide_eq_false (fun h => e (by rw [h]))]
      simpa using e
  rw [← h]
  simp [Op.equalIn, run_underlying Tryz.underlying9]
set_option maxRecDepth 20000 in
theorem ed_equal (W : World) (x y : Ed) : (Op.equal 52 x.agg y.agg).run Tryz.prog W = .ok (decide (x = y)) W := by
  obtain ⟨a0, a1, a2⟩ := x
  obtain ⟨b0, b1, b2⟩ := y
  have hs : Tryz.prog.underlying 52 = some (.struct (Tryz.prog.fieldsOf 52)) := by kernel_rfl
  have h9 := fun a b => str_equalIn W 9998 a b
  have pa := ed_part W a0 a1 a2
  have pb := ed_part W b0 b1 b2
  have hd : decide ((⟨a0, a1, a2⟩ : Ed) = ⟨b0, b1, b2⟩) = (decide (a0 = b0) && (decide (a1 = b1) && decide (a2 = b2))) := by
    rw [Bool.eq_iff_iff]
    simp
  rw [hd]
  unfold Ed.agg
  show (Op.equalIn (9999 + 1) _ _ _).run _ _ = _
  rw [run_equalIn_struct (P := Tryz.prog) W 9999 _ _ _ hs ed_stood]
  simp only [Program.fieldsOf, Tryz.underlying52, Op.eqFields]
  rw [if_pos (by decide), if_pos (by decide), if_pos (by decide)]
  simp only [Sem.run_bind, pa 0 a0 rfl, pb 0 b0 rfl, h9, Result.andThen_ok]
  cases decide (a0 = b0)
  · simp
  · simp only [Bool.not_true, Bool.false_eq_true, if_false, Sem.run_bind, pa 1 a1 rfl, pb 1 b1 rfl, h9, Result.andThen_ok, Bool.true_and]
    cases decide (a1 = b1)
    · simp
    · simp only [Bool.not_true, Bool.false_eq_true, if_false, Sem.run_bind, pa 2 a2 rfl, pb 2 b2 rfl, h9, Result.andThen_ok, Bool.true_and]
      cases decide (a2 = b2) <;> simp
theorem ed_eql (W : World) (x y : Ed) : (binOp .eql 52 x.agg y.agg).run Tryz.prog W = .ok (.bool (decide (x = y))) W := by
  have h := ed_equal W x y
  unfold Ed.agg at h ⊢
  simp only [binOp]
  simp [h]
theorem ed_neq (W : World) (x y : Ed) : (binOp .neq 52 x.agg y.agg).run Tryz.prog W = .ok (.bool (!decide (x = y))) W := by
  have h := ed_equal W x y
  unfold Ed.agg at h ⊢
  simp only [binOp]
  simp [h]

/-! A row that is written into. -/
theorem own_setCell {w : World} {base e size n g cap : Nat} {xs : List Value} (h : w.ownsRow base e size (.slice (some ⟨g, 0, none⟩) n cap) n xs) {i : Nat} (_hi : i < n * size) (u : Value) :
    (w.setCell ⟨g, i, none⟩ u).ownsRow base e size (.slice (some ⟨g, 0, none⟩) n cap) n (xs.set i u) := by
  rcases h.2 with ⟨hv, -⟩ | ⟨g', cap', cur, hv, hb, hg, h1, h2, h3, h4⟩
  · cases hv
  injection hv with hv _ hv3
  injection hv with hv
  injection hv with hv _ _
  subst hv; subst hv3
  refine ⟨by rw [List.length_set]; exact h.1, .inr ⟨g, cap, cur.setIfInBounds i u, rfl, hb, (Blk.set (t := e) hg i u), h1, h2, by simp [h3], ?_⟩⟩
  rw [← h4, Array.toList_setIfInBounds, List.take_set]
theorem clear_own {w : World} {base n g cap : Nat} {xs : List Value} (h : w.ownsRow base 52 3 (.slice (some ⟨g, 0, none⟩) n cap) n xs) (k : Nat) (hk : k < n) (c' : Nat) :
    ∃ w', (∀ ty, (Builtin.clear_ #[23] ty #[.slice (some ⟨g, k * 3, none⟩) (n - k) c']).run Tryz.prog w = .ok (.tuple #[]) w') ∧ RowR w' (some ⟨g, 0, none⟩) (xs.take (k * 3)) ∧ Upd (fun q => q = g) w w' := by
  rcases h.2 with ⟨hv, -⟩ | ⟨g', cap', cur, hv, hb, hg, h1, h2, h3, h4⟩
  · cases hv
  injection hv with hv _ hv3
  injection hv with hv
  injection hv with hv _ _
  subst hv; subst hv3
  have hz : ∀ w, (zeroValue 52).run Tryz.prog w = .ok (.agg #[.string ByteArray.empty, .string ByteArray.empty, .string ByteArray.empty]) w := fun _ => by kernel_rfl
  obtain ⟨vs, hvs⟩ : ∃ vs, (Builtin.zeroCells #[Value.string ByteArray.empty, .string ByteArray.empty, .string ByteArray.empty] (n - k)).toList = vs := ⟨_, rfl⟩
  have hlen : vs.length = (n - k) * 3 := by rw [← hvs]; simp [Builtin.zeroCells]
  have hone : ∀ v ∈ vs, v.oneCell' = true := by
    intro v hv
    rw [← hvs] at hv
    simp only [Builtin.zeroCells, Array.toList_map, List.mem_map] at hv
    obtain ⟨i, -, rfl⟩ := hv
    have : i % 3 = 0 ∨ i % 3 = 1 ∨ i % 3 = 2 := by omega
    rcases this with e | e | e <;> simp [e] <;> rfl
  have hrun := run_storeCells_at (P := Tryz.prog) g (k * 3) 52 vs 0 cur w hg (by rw [hlen, h3]; omega) hone
  refine ⟨w.setRow g (cur.toList.take (k * 3 + 0) ++ vs ++ cur.toList.drop (k * 3 + 0 + vs.length)).toArray, fun ty => ?_, ?_, ?_⟩
  · obtain ⟨m, hm⟩ : ∃ m, n - k = m + 1 := ⟨n - k - 1, by omega⟩
    rw [hm] at hvs ⊢
    simp only [Builtin.clear_]
    simp [run_underlying Tryz.underlying23, hz, Value.cells]
    rw [hvs, hrun]
    simp [Result.andThen]
  · intro j u hj
    have hjl := (List.getElem?_eq_some_iff.1 hj).1
    rw [List.length_take] at hjl
    refine ⟨g, 0, rfl, ?_⟩
    have hlt : g < w.heap.size := (Array.getElem?_eq_some_iff.1 hg).1
    have hj' : xs[j]? = some u := by rw [List.getElem?_take_of_lt (by omega)] at hj; exact hj
    rw [← h4, List.getElem?_take_of_lt (by omega)] at hj'
    have hh : (w.setRow g (cur.toList.take (k * 3 + 0) ++ vs ++ cur.toList.drop (k * 3 + 0 + vs.length)).toArray).heap[g]? = some (.cells (cur.toList.take (k * 3 + 0) ++ vs ++ cur.toList.drop (k * 3 + 0 + vs.length)).toArray 52 (0, 0)) := by
      simp [World.setRow, Array.getElem?_modify, hg]
    rw [cell_of_row _ g _ _ _ (0, 0) hh, Nat.zero_add]
    have hjc : j < cur.size := by rw [Array.getElem?_toList] at hj'; exact (Array.getElem?_eq_some_iff.1 hj').1
    rw [List.getElem?_toArray, List.append_assoc, List.getElem?_append_left (by rw [List.length_take, Array.length_toList]; omega), List.getElem?_take_of_lt (by omega)]
    exact hj'
  · refine ⟨rfl, rfl, rfl, by simp [World.setRow], fun q _ hne => ?_⟩
    have : g ≠ q := fun e => hne e.symm
    simp [World.setRow, Array.getElem?_modify, this]

/-! Compact at edges. -/
theorem ed_row {w : World} {base n g cap : Nat} {L : List Ed} (h : w.ownsRow base 52 3 (.slice (some ⟨g, 0, none⟩) n cap) n (edCells L)) {k : Nat} {x : Ed} (hk : L[k]? = some x) :
    w.cell? ⟨g, k * 3, none⟩ = some (.string x.fr) ∧ w.cell? ⟨g, k * 3 + 1, none⟩ = some (.string x.lb) ∧ w.cell? ⟨g, k * 3 + 2, none⟩ = some (.string x.to) := by
  obtain ⟨b, o, e, h0, h1, h2⟩ := (RowR.of_own h).ed hk
  injection e with e
  injection e with e1 e2 _
  subst e1; subst e2
  rw [Nat.zero_add] at h0 h1 h2
  exact ⟨h0, h1, h2⟩
theorem ed_set {L : List Ed} {k : Nat} (hk : k < L.length) (x : Ed) : (((edCells L).set (k * 3) (.string x.fr)).set (k * 3 + 1) (.string x.lb)).set (k * 3 + 2) (.string x.to) = edCells (L.set k x) := by
  apply List.ext_getElem?
  intro j
  have hl : (edCells L).length = L.length * 3 := edCells_len L
  by_cases hj : j < L.length * 3
  · have hi : j / 3 < L.length := Nat.div_lt_of_lt_mul (by omega)
    have hm : j % 3 < 3 := Nat.mod_lt _ (by decide)
    have hjd : j / 3 * 3 + j % 3 = j := by omega
    have hx : (L.set k x)[j / 3]? = some (if k = j / 3 then x else L[j / 3]) := by
      rw [List.getElem?_set]
      by_cases e : k = j / 3
      · subst e; simp [hi]
      · rw [if_neg e, if_neg e, List.getElem?_eq_getElem hi]
    have h2 := flat_get Ed.cells 3 (fun _ => rfl) (L.set k x) (j / 3) (j % 3) _ hx hm
    rw [hjd] at h2
    show _ = ((L.set k x).flatMap Ed.cells)[j]?
    rw [h2]
    have h1 := flat_get Ed.cells 3 (fun _ => rfl) L (j / 3) (j % 3) _ (List.getElem?_eq_getElem hi) hm
    rw [hjd] at h1
    have h1' : (edCells L)[j]? = (L[j / 3]).cells[j % 3]? := h1
    simp only [List.getElem?_set, List.length_set]
    by_cases e : k = j / 3
    · rw [if_pos e]
      have : j % 3 = 0 ∨ j % 3 = 1 ∨ j % 3 = 2 := by omega
      rcases this with e3 | e3 | e3
      · rw [if_neg (by omega), if_neg (by omega), if_pos (by omega), if_pos (by omega), e3]; rfl
      · rw [if_neg (by omega), if_pos (by omega), if_pos (by omega), e3]; rfl
      · rw [if_pos (by omega), if_pos (by omega), e3]; rfl
    · rw [if_neg e, if_neg (by omega), if_neg (by omega), if_neg (by omega)]
      exact h1'
  · rw [List.getElem?_eq_none (by simp only [List.length_set]; omega), List.getElem?_eq_none (by rw [edCells_len, List.length_set]; omega)]
/-- What lies in the row when m places have been looked at. -/
def cmpct (d : Array Ed) (m : Nat) : List Ed := Lib.compactUpTo d m ++ d.toList.drop (Lib.compactUpTo d m).length
theorem cmpct_len {d : Array Ed} {m : Nat} (hm : m ≤ d.size) : (cmpct d m).length = d.size := by
  have := compact_le d m
  simp only [cmpct, List.length_append, List.length_drop, Array.length_toList]
  omega
theorem cmpct_at {d : Array Ed} {m j : Nat} (hj : (Lib.compactUpTo d m).length ≤ j) (h : j < d.size) : (cmpct d m)[j]? = some d[j]! := by
  rw [cmpct, List.getElem?_append_right hj, List.getElem?_drop, Nat.add_sub_cancel' hj, Array.getElem?_toList, getElem!_pos d j h, Array.getElem?_eq_getElem h]
theorem cmpct_step {d : Array Ed} {m : Nat} (hk : Lib.keeps d m = true) (hl : (Lib.compactUpTo d m).length < d.size) : (cmpct d m).set (Lib.compactUpTo d m).length d[m]! = cmpct d (m + 1) := by
  rw [cmpct, cmpct, Lib.compactUpTo_succ, if_pos hk, List.length_append, List.length_singleton, List.append_assoc, List.set_append_right _ _ (Nat.le_refl _), Nat.sub_self]
  congr 1
  rw [show d.toList.drop (Lib.compactUpTo d m).length = d.toList[(Lib.compactUpTo d m).length]'(by simpa using hl) :: d.toList.drop ((Lib.compactUpTo d m).length + 1) from List.drop_eq_getElem_cons (by simpa using hl)]
  rfl
theorem cmpct_same {d : Array Ed} {m : Nat} (hk : Lib.keeps d m = false) : cmpct d (m + 1) = cmpct d m := by
  rw [cmpct, cmpct, Lib.compactUpTo_succ, if_neg (by rw [hk]; simp), List.append_nil]
theorem cmpct_all {d : Array Ed} {m : Nat} (h : ∀ j, j < m → Lib.keeps d j = true) (hm : m ≤ d.size) : Lib.compactUpTo d m = d.toList.take m ∧ cmpct d m = d.toList := by
  have h1 : Lib.compactUpTo d m = d.toList.take m := by
    rw [Lib.compactUpTo_all d m h]
    apply List.ext_getElem
    · simp; omega
    · intro i h1 h2
      simp at h1
      simp [show i < d.size by omega]
  refine ⟨h1, ?_⟩
  rw [cmpct, h1, List.length_take, Array.length_toList, Nat.min_eq_left hm, List.take_append_drop]
end Go.Proofs.YtnmkieiehjajlaaGreatDoor
namespace Go.Proofs.YtnmkieiehjajlaaGreatDoor
open Go.RowKit Go.Sort Go.Shelf

theorem own_frozen {w : World} {base e size n g cap : Nat} {xs : List Value} (h : w.ownsRow base e size (.slice (some ⟨g, 0, none⟩) n cap) n xs) (i : Nat) : w.frozen? ⟨g, i, none⟩ = false := by
  rcases h.2 with ⟨hv, -⟩ | ⟨g', cap', cur, hv, hb, hg, -⟩
  · cases hv
  injection hv with hv _ _
  injection hv with hv
  injection hv with hv _ _
  subst hv
  exact Blk.frozen (t := e) hg i
/-- The edges stand at the front of the row, each once. -/
def CmpP (w : World) (g cap : Nat) (L : List Ed) (e : Ending) (w' : World) : Prop := ∃ M, SetOf ltE L M ∧ M.length ≤ L.length ∧ e = .returned (.slice (some ⟨g, 0, none⟩) M.length cap) ∧ RowR w' (some ⟨g, 0, none⟩) (edCells M) ∧ Upd (fun q => q = g) w w'

set_option maxHeartbeats 2000000 in
set_option maxRecDepth 100000 in
theorem compact_ed (w : World) (base g cap n : Nat) (L : List Ed) (d : Array Ed) (ho : InOrd ltE L d) (hn : L.length = n) (h : w.ownsRow base 52 3 (.slice (some ⟨g, 0, none⟩) n cap) n (edCells d.toList)) (hl : n ≤ 140737488355328) :
    Calls Tryz.prog 197 #[.slice (some ⟨g, 0, none⟩) n cap] w (CmpP w g cap L) := by
  have hsz : d.size = n := by rw [ho.n, hn]
  have hset := compact_setOf stoE d ho.p ho.s
  rw [hsz] at hset
  have hcap : n ≤ cap := by
    obtain ⟨_, _, e1, h1, -⟩ := own_form h
    injection e1 with _ _ e1
    rw [e1]
    exact h1
  have HS := Lib.hid (And.intro hset (And.intro hn (And.intro hsz h)))
  clear hset hn hsz h ho
  by_cases h2 : n < 2
  · have h2I : (n : Int) < 2 := by omega
    have hall : ∀ j, j < n → Lib.keeps d j = true := fun j hj => Lib.keeps_lt_one d j (by omega) |> fun h => h
    have hc := cmpct_all hall (by rw [HS.out.2.2.1]; exact Nat.le_refl _)
    have FIN := Lib.hid (show CmpP w g cap L (.returned (.slice (some ⟨g, 0, none⟩) n cap)) w from ⟨_, HS.out.1, by rw [hc.1, HS.out.2.1, List.length_take]; omega, by rw [hc.1, List.length_take, Array.length_toList, HS.out.2.2.1, Nat.min_self], by
      rw [hc.1, List.take_of_length_le (by rw [Array.length_toList, HS.out.2.2.1]; exact Nat.le_refl _)]
      exact RowR.of_own HS.out.2.2.2, Upd.refl _ _⟩)
    clear hall hc h2
    go_enter Tryz.func197, Tryz.ntmps197
    go_wp2
    go_ret
    exact FIN.out
  have h2I : ¬ (n : Int) < 2 := by omega
  go_enter Tryz.func197, Tryz.ntmps197
  go_wp2_with fail
  go_loopw [3] (fun i wr => ∃ k q : Nat, k + 1 ≤ n ∧ i = .int .i64 ((k : Int) + 1) ∧ wr = w.drewN q ∧ Hid (∀ j, j < k + 1 → Lib.keeps d j = true)) (fun i _ => n + 1 - (intOf i).toNat)
  case atStart => exact ⟨0, 0, by omega, rfl, rfl, Lib.hid (fun j hj => Lib.keeps_lt_one d j (by omega))⟩
  case round =>
    obtain ⟨k, q, hk, rfl, rfl, hall⟩ := hrel
    have hkw : IntKind.i64.wrap (k : Int) = (k : Int) := IntWalk.i64_in _ (by omega)
    have hkw2 : IntKind.i64.wrap ((k : Int) + 1 + 1) = (k : Int) + 1 + 1 := IntWalk.i64_in _ (by omega)
    by_cases hlt : k + 1 < n
    · have hltI : (k : Int) + 1 < (n : Int) := by omega
      have hltI2 : (k : Int) < (n : Int) := by omega
      have ht : ((k : Int) + 1).toNat = k + 1 := by omega
      have hn0 : (0 : Int) ≤ (k : Int) + 1 := by omega
      have hx : d.toList[k + 1]? = some d[k + 1]! := by rw [Array.getElem?_toList, getElem!_pos d (k + 1) (by rw [HS.out.2.2.1]; exact hlt), Array.getElem?_eq_getElem]
      have hy : d.toList[k]? = some d[k]! := by rw [Array.getElem?_toList, getElem!_pos d k (by rw [HS.out.2.2.1]; omega), Array.getElem?_eq_getElem]
      obtain ⟨x0, x1, x2⟩ := ed_row HS.out.2.2.2 hx
      obtain ⟨y0, y1, y2⟩ := ed_row HS.out.2.2.2 hy
      obtain ⟨x, hx⟩ : ∃ x, d[k + 1]! = x := ⟨_, rfl⟩
      obtain ⟨y, hy⟩ : ∃ y, d[k]! = y := ⟨_, rfl⟩
      rw [hx] at x0 x1 x2
      rw [hy] at y0 y1 y2
      obtain ⟨sx0, sx1, sx2⟩ := x
      obtain ⟨sy0, sy1, sy2⟩ := y
      dsimp only at x0 x1 x2 y0 y1 y2
      have heq := fun W => ed_eql W ⟨sx0, sx1, sx2⟩ ⟨sy0, sy1, sy2⟩
      unfold Ed.agg at heq
      dsimp only at heq
      have HXY := Lib.hid (And.intro hx hy)
      clear hx hy
      by_cases he : (⟨sx0, sx1, sx2⟩ : Ed) = ⟨sy0, sy1, sy2⟩
      · rw [decide_eq_true he] at heq
        have HE := Lib.hid he
        clear he
        go_upto_region 6 with (fail)
        refine wp_region_ord (fun w' => w'.cell? ⟨g, (k + 1) * 3, none⟩ = some (.string sx0) ∧ w'.cell? ⟨g, (k + 1) * 3 + 1, none⟩ = some (.string sx1) ∧ w'.cell? ⟨g, (k + 1) * 3 + 2, none⟩ = some (.string sx2) ∧ w'.cell? ⟨g, k * 3, none⟩ = some (.string sy0) ∧ w'.cell? ⟨g, k * 3 + 1, none⟩ = some (.string sy1) ∧ w'.cell? ⟨g, k * 3 + 2, none⟩ = some (.string sy2)) 10 [(0, true), (1, true), (2, true), (3, true), (4, true), (5, true), (6, true), (7, true), (8, true), (9, true)] (by kernel_rfl) (by kernel_rfl) (fun _ _ d _ _ h => by cases d <;> exact h) ⟨x0, x1, x2, y0, y1, y2⟩ ?_
        iterate 10 (refine ord_take (v := ?_) rfl (by first | with_reducible rfl | kernel_rfl) ?_ ?_; rotate_left; (focus (intro wS hS; (try dsimp only at hS); go_split_ands; go_simp; (try with_reducible rfl); done)); (try simp only [Act.put, List.getElem_toArray, List.getElem_cons_succ, List.getElem_cons_zero, List.setIfInBounds_toArray, List.set_cons_zero, List.set_cons_succ]))
        refine ord_done ?_
        clear x0 x1 x2 y0 y1 y2 heq
        go_wp2_with fail
        obtain ⟨ln, hln⟩ : ∃ ln, n - (k + 1) = ln := ⟨_, rfl⟩
        obtain ⟨cn, hcn⟩ : ∃ cn, cap - (k + 1) = cn := ⟨_, rfl⟩
        obtain ⟨oo, hoo⟩ : ∃ oo, (k + 1) * 3 = oo := ⟨_, rfl⟩
        rw [hln, hcn, hoo]
        have hkeep : Lib.keeps d (k + 1) = false := Lib.keeps_neg (by omega) (by rw [Nat.add_sub_cancel, HXY.out.1, HXY.out.2, HE.out])
        have hc0 := cmpct_all hall.out (by rw [HS.out.2.2.1]; omega)
        have hl0 : (Lib.compactUpTo d (k + 1)).length = k + 1 := by rw [hc0.1, List.length_take, Array.length_toList, HS.out.2.2.1]; omega
        have hl1 : (Lib.compactUpTo d (k + 2)).length = k + 1 := by
          rw [Lib.compactUpTo_succ, hkeep]
          simpa using hl0
        have hs1 : cmpct d (k + 2) = d.toList := by rw [cmpct_same hkeep]; exact hc0.2
        have hlnb : ln + (k + 1) = n := by omega
        have hcnb : cn + (k + 1) = cap := by omega
        have HB := Lib.hid (And.intro hoo (And.intro hl1 (And.intro hs1 (And.intro hlnb hcnb))))
        have hlnn : ln + k + 1 ≤ n := by omega
        have hln1 : 0 + 1 ≤ ln := by omega
        clear hln hcn hoo hkeep hc0 hl0 hl1 hs1 hcnb hlnb
        go_loopw [3, 5] (fun a3 a5 wz => ∃ kk r : Nat, r + 1 ≤ ln ∧ a3 = .int .i64 kk ∧ a5 = .int .i64 ((r : Int) + 1) ∧ kk ≤ k + r + 1 ∧ Hid (kk = (Lib.compactUpTo d (k + r + 2)).length) ∧ Hid (wz.ownsRow base 52 3 (.slice (some ⟨g, 0, none⟩) n cap) n (edCells (cmpct d (k + r + 2)))) ∧ Hid (Upd (fun q => q = g) w wz)) (fun _ a5 _ => ln + 1 - (intOf a5).toNat)
        case atStart => exact ⟨k + 1, 0, hln1, by go_num, rfl, by omega, Lib.hid HB.out.2.1.symm, Lib.hid (by rw [Nat.add_zero, HB.out.2.2.1]; exact HS.out.2.2.2), Lib.hid ((Upd.refl _ w).drewN (q + 1))⟩
        case round =>
          obtain ⟨kk, r, hr, rfl, rfl, hkk, hkl, how, hu⟩ := hrel
          have hrw : IntKind.i64.wrap (r : Int) = (r : Int) := IntWalk.i64_in _ (by omega)
          have hrw2 : IntKind.i64.wrap ((r : Int) + 1 + 1) = (r : Int) + 1 + 1 := IntWalk.i64_in _ (by omega)
          have hkw3 : IntKind.i64.wrap ((kk : Int) + 1) = (kk : Int) + 1 := IntWalk.i64_in _ (by omega)
          by_cases hlt3 : r + 1 < ln
          · have hltI3 : (r : Int) + 1 < (ln : Int) := by omega
            have hltI4 : (r : Int) < (ln : Int) := by omega
            have ht3 : ((r : Int) + 1).toNat = r + 1 := by omega
            have hn3 : (0 : Int) ≤ (r : Int) + 1 := by omega
            have hm : k + r + 2 < d.size := by rw [HS.out.2.2.1]; omega
            have hx := cmpct_at (d := d) (m := k + r + 2) (j := k + r + 2) (by rw [← hkl.out]; omega) hm
            have hy := cmpct_at (d := d) (m := k + r + 2) (j := k + r + 1) (by rw [← hkl.out]; omega) (by omega)
            obtain ⟨x0, x1, x2⟩ := ed_row how.out hx
            obtain ⟨y0, y1, y2⟩ := ed_row how.out hy
            rw [show (k + r + 2) * 3 = oo + (r + 1) * 3 by have := HB.out.1; omega] at x0 x1 x2
            rw [show (k + r + 1) * 3 = oo + r * 3 by have := HB.out.1; omega] at y0 y1 y2
            obtain ⟨x, hx⟩ : ∃ x, d[k + r + 2]! = x := ⟨_, rfl⟩
            obtain ⟨y, hy⟩ : ∃ y, d[k + r + 1]! = y := ⟨_, rfl⟩
            rw [hx] at x0 x1 x2
            rw [hy] at y0 y1 y2
            obtain ⟨tx0, tx1, tx2⟩ := x
            obtain ⟨ty0, ty1, ty2⟩ := y
            dsimp only at x0 x1 x2 y0 y1 y2
            have hneq := fun W => ed_neq W ⟨tx0, tx1, tx2⟩ ⟨ty0, ty1, ty2⟩
            unfold Ed.agg at hneq
            dsimp only at hneq
            have HXY2 := Lib.hid (And.intro hx hy)
            clear hx hy hm
            by_cases he : (⟨tx0, tx1, tx2⟩ : Ed) = ⟨ty0, ty1, ty2⟩
            · rw [decide_eq_true he] at hneq
              have HE2 := Lib.hid he
              clear he
              go_upto_region 11 with (fail)
              refine wp_region_ord (fun w' => w'.cell? ⟨g, oo + (r + 1) * 3, none⟩ = some (.string tx0) ∧ w'.cell? ⟨g, oo + (r + 1) * 3 + 1, none⟩ = some (.string tx1) ∧ w'.cell? ⟨g, oo + (r + 1) * 3 + 2, none⟩ = some (.string tx2) ∧ w'.cell? ⟨g, oo + r * 3, none⟩ = some (.string ty0) ∧ w'.cell? ⟨g, oo + r * 3 + 1, none⟩ = some (.string ty1) ∧ w'.cell? ⟨g, oo + r * 3 + 2, none⟩ = some (.string ty2)) 10 [(0, true), (1, true), (2, true), (3, true), (4, true), (5, true), (6, true), (7, true), (8, true), (9, true)] (by kernel_rfl) (by kernel_rfl) (fun _ _ d _ _ h => by cases d <;> exact h) ⟨x0, x1, x2, y0, y1, y2⟩ ?_
              iterate 10 (refine ord_take (v := ?_) rfl (by first | with_reducible rfl | kernel_rfl) ?_ ?_; rotate_left; (focus (intro wS hS; (try dsimp only at hS); go_split_ands; go_simp; (try with_reducible rfl); done)); (try simp only [Act.put, List.getElem_toArray, List.getElem_cons_succ, List.getElem_cons_zero, List.setIfInBounds_toArray, List.set_cons_zero, List.set_cons_succ]))
              refine ord_done ?_
              clear x0 x1 x2 y0 y1 y2 hneq
              have hkf : Lib.keeps d (k + r + 2) = false := Lib.keeps_neg (by omega) (by rw [show k + r + 2 - 1 = k + r + 1 by omega, HXY2.out.1, HXY2.out.2, HE2.out])
              have HK := Lib.hid hkf
              clear hkf
              go_wp2
              go_roundw
              case rel => exact ⟨kk, r + 1, by omega, rfl, by go_num, by omega, Lib.hid (by rw [hkl.out, show k + (r + 1) + 2 = k + r + 2 + 1 by omega, Lib.compactUpTo_succ d (k + r + 2), HK.out]; simp), Lib.hid (by rw [show k + (r + 1) + 2 = k + r + 2 + 1 by omega, cmpct_same HK.out]; exact how.out), Lib.hid hu.out.drew⟩
              case measure => simp [intOf]; omega
            · rw [decide_eq_false he] at hneq
              have HE2 := Lib.hid he
              clear he
              go_upto_region 11 with (fail)
              refine wp_region_ord (fun w' => w'.cell? ⟨g, oo + (r + 1) * 3, none⟩ = some (.string tx0) ∧ w'.cell? ⟨g, oo + (r + 1) * 3 + 1, none⟩ = some (.string tx1) ∧ w'.cell? ⟨g, oo + (r + 1) * 3 + 2, none⟩ = some (.string tx2) ∧ w'.cell? ⟨g, oo + r * 3, none⟩ = some (.string ty0) ∧ w'.cell? ⟨g, oo + r * 3 + 1, none⟩ = some (.string ty1) ∧ w'.cell? ⟨g, oo + r * 3 + 2, none⟩ = some (.string ty2)) 10 [(0, true), (1, true), (2, true), (3, true), (4, true), (5, true), (6, true), (7, true), (8, true), (9, true)] (by kernel_rfl) (by kernel_rfl) (fun _ _ d _ _ h => by cases d <;> exact h) ⟨x0, x1, x2, y0, y1, y2⟩ ?_
              iterate 10 (refine ord_take (v := ?_) rfl (by first | with_reducible rfl | kernel_rfl) ?_ ?_; rotate_left; (focus (intro wS hS; (try dsimp only at hS); go_split_ands; go_simp; (try with_reducible rfl); done)); (try simp only [Act.put, List.getElem_toArray, List.getElem_cons_succ, List.getElem_cons_zero, List.setIfInBounds_toArray, List.set_cons_zero, List.set_cons_succ]))
              refine ord_done ?_
              clear y0 y1 y2 hneq
              have hkt : Lib.keeps d (k + r + 2) = true := Lib.keeps_pos (by rw [show k + r + 2 - 1 = k + r + 1 by omega, HXY2.out.1, HXY2.out.2]; exact HE2.out)
              have hclen := cmpct_len (d := d) (m := k + r + 2) (by rw [HS.out.2.2.1]; omega)
              have hkn : kk < n := by omega
              obtain ⟨z0, z1, z2⟩ := ed_row how.out (cmpct_at (d := d) (m := k + r + 2) (j := kk) (by rw [← hkl.out]; exact Nat.le_refl _) (by rw [HS.out.2.2.1]; exact hkn))
              have fz := fun i => own_frozen how.out i
              have f0 := fz (kk * 3)
              have f1 := fz (kk * 3 + 1)
              have f2 := fz (kk * 3 + 2)
              have o1 := own_setCell (ownsRow_upd how.out (Upd.refl (fun _ => False) wr).drew (fun _ _ => id)) (i := kk * 3) (by omega) (.string tx0)
              have o2 := own_setCell o1 (i := kk * 3 + 1) (by omega) (.string tx1)
              have o3 := own_setCell o2 (i := kk * 3 + 2) (by omega) (.string tx2)
              have hes := ed_set (L := cmpct d (k + r + 2)) (k := kk) (by rw [hclen, HS.out.2.2.1]; exact hkn) ⟨tx0, tx1, tx2⟩
              dsimp only at hes
              have hst := cmpct_step hkt (by rw [← hkl.out, HS.out.2.2.1]; exact hkn)
              rw [← hkl.out, HXY2.out.1] at hst
              rw [hes, hst] at o3
              have u3 := ((hu.out.drew.setCell (p := ⟨g, kk * 3, none⟩) (.inl rfl) (.string tx0)).setCell (p := ⟨g, kk * 3 + 1, none⟩) (.inl rfl) (.string tx1)).setCell (p := ⟨g, kk * 3 + 2, none⟩) (.inl rfl) (.string tx2)
              have HO := Lib.hid (And.intro o3 (And.intro u3 hkt))
              have hknI : (kk : Int) < (n : Int) := by omega
              clear o1 o2 o3 hes hst u3 hkt fz hclen
              go_wp2
              go_roundw
              case rel => exact ⟨kk + 1, r + 1, by omega, by go_num, by go_num, by omega, Lib.hid (by rw [hkl.out, show k + (r + 1) + 2 = k + r + 2 + 1 by omega, Lib.compactUpTo_succ d (k + r + 2), HO.out.2.2]; simp), Lib.hid (by rw [show k + (r + 1) + 2 = k + r + 2 + 1 by omega]; exact HO.out.1), Lib.hid HO.out.2.1⟩
              case measure => simp [intOf]; omega
          · obtain rfl : r + 1 = ln := by omega
            have hmn : k + r + 2 = n := by have := HB.out.2.2.2.1; omega
            have hkn : kk < n := by omega
            have hknI : (kk : Int) < (n : Int) := by omega
            have hkc : kk < cap := by omega
            obtain ⟨w6, hcl, hr6, u6⟩ := clear_own how.out kk hkn (cap - kk)
            have hkl' : (Lib.compactUpTo d n).length = kk := by rw [hkl.out, hmn]
            have FIN := Lib.hid (show CmpP w g cap L (.returned (.slice (some ⟨g, 0, none⟩) kk cap)) w6 from ⟨_, HS.out.1, by rw [hkl', HS.out.2.1]; omega, by rw [hkl'], by
              rw [hmn, cmpct, edCells, List.flatMap_append, List.take_left' (by
                show (edCells (Lib.compactUpTo d n)).length = kk * 3
                rw [edCells_len, hkl'])] at hr6
              exact hr6, hu.out.trans u6 (fun i e => .inl e)⟩)
            clear hr6 u6 hkl' hmn hlt3
            go_wp2
            go_ret
            exact FIN.out
      · rw [decide_eq_false he] at heq
        have HE := Lib.hid he
        clear he
        go_upto_region 6 with (fail)
        refine wp_region_ord (fun w' => w'.cell? ⟨g, (k + 1) * 3, none⟩ = some (.string sx0) ∧ w'.cell? ⟨g, (k + 1) * 3 + 1, none⟩ = some (.string sx1) ∧ w'.cell? ⟨g, (k + 1) * 3 + 2, none⟩ = some (.string sx2) ∧ w'.cell? ⟨g, k * 3, none⟩ = some (.string sy0) ∧ w'.cell? ⟨g, k * 3 + 1, none⟩ = some (.string sy1) ∧ w'.cell? ⟨g, k * 3 + 2, none⟩ = some (.string sy2)) 10 [(0, true), (1, true), (2, true), (3, true), (4, true), (5, true), (6, true), (7, true), (8, true), (9, true)] (by kernel_rfl) (by kernel_rfl) (fun _ _ d _ _ h => by cases d <;> exact h) ⟨x0, x1, x2, y0, y1, y2⟩ ?_
        iterate 10 (refine ord_take (v := ?_) rfl (by first | with_reducible rfl | kernel_rfl) ?_ ?_; rotate_left; (focus (intro wS hS; (try dsimp only at hS); go_split_ands; go_simp; (try with_reducible rfl); done)); (try simp only [Act.put, List.getElem_toArray, List.getElem_cons_succ, List.getElem_cons_zero, List.setIfInBounds_toArray, List.set_cons_zero, List.set_cons_succ]))
        refine ord_done ?_
        clear x0 x1 x2 y0 y1 y2 heq
        go_wp2
        go_roundw
        case rel => exact ⟨k + 1, q + 1, by omega, by go_num, rfl, Lib.hid (fun j hj => by
          rcases Nat.lt_succ_iff_lt_or_eq.1 hj with h | rfl
          · exact hall.out j h
          · exact Lib.keeps_pos (by rw [Nat.add_sub_cancel, HXY.out.1, HXY.out.2]; exact HE.out))⟩
        case measure => simp [intOf]; omega
    · obtain rfl : n = k + 1 := by omega
      have hc := cmpct_all hall.out (by rw [HS.out.2.2.1]; exact Nat.le_refl _)
      have FIN := Lib.hid (show CmpP w g cap L (.returned (.slice (some ⟨g, 0, none⟩) (k + 1) cap)) (w.drewN q) from ⟨_, HS.out.1, by rw [hc.1, HS.out.2.1, List.length_take]; omega, by rw [hc.1, List.length_take, Array.length_toList, HS.out.2.2.1, Nat.min_self], by
        rw [hc.1, List.take_of_length_le (by rw [Array.length_toList, HS.out.2.2.1]; exact Nat.le_refl _)]
        exact RowR.of_own (ownsRow_upd HS.out.2.2.2 ((Upd.refl (fun _ => False) w).drewN q) (fun _ _ => id)), (Upd.refl _ w).drewN q⟩)
      clear hc
      go_wp2
      go_ret
      exact FIN.out
end Go.Proofs.YtnmkieiehjajlaaGreatDoor
