/- Edges: edges in order, each once; two graphs that are the same; Edges: the graph of nodes and edges in any order; Edges: Of; two graphs that are the same; Edges: cut to what this seat wants. -/
import Derived.Test.YtnmkieiehjajlaaGreatDoorZ14
set_option linter.unusedVariables false
set_option linter.unusedSimpArgs false
namespace Go.Proofs.YtnmkieiehjajlaaGreatDoor
open Go.RowKit Go.Sort Go.Shelf

theorem flat_ed (d : Array Ed) : (flatK Ed.cells 3 d).toList = edCells d.toList := by
  apply List.ext_getElem?
  intro j
  by_cases hj : j < d.size * 3
  · have hi : j / 3 < d.size := Nat.div_lt_of_lt_mul (by omega)
    have hm : j % 3 < 3 := Nat.mod_lt _ (by decide)
    have hjd : j / 3 * 3 + j % 3 = j := by omega
    have h2 := flat_get Ed.cells 3 (fun _ => rfl) d.toList (j / 3) (j % 3) d[j / 3]! (by rw [Array.getElem?_toList, getElem!_pos d _ hi, Array.getElem?_eq_getElem hi]) hm
    rw [hjd] at h2
    show _ = (d.toList.flatMap Ed.cells)[j]?
    rw [h2]
    have h3 := get_flatK Ed.cells 3 d j hj
    have h4 : j < (flatK Ed.cells 3 d).size := by rw [size_flatK]; exact hj
    rw [Array.getElem?_toList, Array.getElem?_eq_getElem h4, ← getElem!_pos (flatK Ed.cells 3 d) j h4, h3]
    have h5 : j % 3 < (Ed.cells d[j / 3]!).length := hm
    rw [List.getElem?_eq_getElem h5, getElem!_pos (Ed.cells d[j / 3]!) _ h5]
  · rw [List.getElem?_eq_none (by rw [Array.length_toList, size_flatK]; omega), List.getElem?_eq_none (by rw [edCells_len, Array.length_toList]; omega)]
theorem sortF_ed (w : World) (base g cap : Nat) (L : List Ed) (h : w.ownsRow base 52 3 (.slice (some ⟨g, 0, none⟩) L.length cap) L.length (edCells L)) (hl : L.length ≤ 140737488355328) :
    Calls Tryz.prog 196 #[.slice (some ⟨g, 0, none⟩) L.length cap, .func (.func 134) #[] #[]] w fun e w' => e = .returned (.tuple #[]) ∧ ∃ d : Array Ed, InOrd ltE L d ∧ w'.ownsRow base 52 3 (.slice (some ⟨g, 0, none⟩) L.length cap) L.length (edCells d.toList) ∧ Upd (fun q => q = g) w w' := by
  have eg : ∀ args w, (callFunc 134 args).run Tryz.prog w = .ok (.enter 134 args) w := enters_of Tryz.func134 (by kernel_rfl) rfl
  have hcmp : CmpLays Tryz.prog 134 #[] Ed.cells 3 cmpE g 0 L.toArray.size w := fun m os dk _ x y => (order_edge x y _).mono fun e w' hh => hh
  have hHo : w.ownsRow base 52 3 (.slice (some ⟨g, 0, none⟩) L.length cap) L.length ((flatK Ed.cells 3 L.toArray).toList.map id) := by rw [List.map_id, flat_ed]; exact h
  have hH : HoldsK Ed.cells 3 w g 0 L.toArray := holds_own hHo
  have hg := (h.lt g rfl).2
  have hcon := AnyQ.slices_SortFunc sortE 3 (fun w => Tryz.isAgg52 w) (fun w => Tryz.sizeOf52 w) Ed.cells (fun _ => rfl) (fun x v hv => by simp [Ed.cells] at hv; rcases hv with rfl | rfl | rfl <;> rfl) cmpE swo_ed 134 #[] g 0 cap L.toArray w eg hcmp hH hg (by simp; omega)
  change Calls Tryz.prog 196 _ _ _ at hcon
  rw [show L.toArray.size = L.length from by simp] at hcon
  refine hcon.mono ?_
  rintro e w' ⟨rfl, d', n, os, hp, hs, rfl⟩
  have hlt : ltOf cmpE = ltE := by funext x y; exact cmpE_lt x y
  rw [hlt] at hs
  have ho := InOrd.of (L := L) (by simpa using hp) (by simpa using hs)
  have key := own_put (enc := id) (m := n) (os := os) h (flatK Ed.cells 3 d') (by rw [size_flatK, ho.n])
  rw [List.map_id, flat_ed] at key
  exact ⟨rfl, d', ho, key.1, key.2⟩
set_option maxHeartbeats 1000000 in
set_option maxRecDepth 20000 in
theorem compact_zeroE (w : World) (p : Option Addr) (cap : Nat) : Calls Tryz.prog 197 #[.slice p 0 cap] w (Only w (.slice p 0 cap)) := by
  go_enter Tryz.func197, Tryz.ntmps197
  go_wp2
  go_ret
  exact ⟨rfl, rfl⟩
theorem NewE.base {w w0 : World} {M : List Ed} {e : Ending} {w' : World} (h : NewE w M e w') (hb : Below w0.heap.size w0 w) : NewE w0 M e w' := by
  obtain ⟨v, rfl, own, b⟩ := h
  exact ⟨v, rfl, ownsRow_base own (fun q hq => Nat.le_trans hb.size (own.lt q hq).1), hb.trans (b.mono hb.size)⟩
/-- A list's edges in order, each once, come back. -/
def SetE (w : World) (L : List Ed) (e : Ending) (w' : World) : Prop := ∃ M, SetOf ltE L M ∧ M.length ≤ L.length ∧ NewE w M e w'

set_option maxHeartbeats 2000000 in
set_option maxRecDepth 20000 in
theorem sorted_ed (w : World) (A : Option Addr) (c : Nat) (L : List Ed) (h : RowR w A (edCells L)) (hl : L.length * 48 ≤ 140737488355328) :
    Calls Tryz.prog 158 #[.slice A L.length c, .func (.func 134) #[] #[]] w (SetE w L) := by
  have HH := Lib.hid h
  clear h
  go_enter Tryz.func158, Tryz.ntmps158
  go_wp2_with fail
  refine (clone_ed w A c L HH.out hl).mono ?_
  rintro e w1 ⟨v, rfl, own1, b1⟩
  obtain ⟨A1, c1, rfl, hc1, hA1⟩ := own_form own1
  by_cases h0 : L.length = 0
  · obtain rfl : L = [] := List.eq_nil_of_length_eq_zero h0
    have HB := Lib.hid b1
    clear own1 b1 h0 hl hc1 hA1
    have hs0 := AnyF.slices_SortFunc_none sortE A1 c1 (.func (.func 134) #[] #[]) w1
    change Calls Tryz.prog 196 _ _ _ at hs0
    have HS0 := Lib.hid hs0
    clear hs0
    go_wp2_with fail
    refine HS0.out.mono ?_
    rintro e w2 ⟨rfl, rfl⟩
    go_wp2_with fail
    refine (compact_zeroE _ _ _).mono ?_
    rintro e w2 ⟨rfl, rfl⟩
    go_wp2_with fail
    refine (clone_ed _ A1 c1 [] (fun j u hj => by simp [edCells] at hj) (by simp)).mono ?_
    intro e w3 hn
    have hn' := hn.base HB.out
    obtain ⟨v3, rfl, own3, b3⟩ := hn'
    have FIN := Lib.hid (show SetE w [] (.returned v3) w3 from ⟨[], SetOf.self (lt := ltE) .nil, Nat.le_refl _, v3, rfl, own3, b3⟩)
    clear hn own3 b3
    go_wp2
    go_ret
    exact FIN.out
  · obtain ⟨g, rfl⟩ : ∃ g, A1 = some ⟨g, 0, none⟩ := by
      rcases own1.2 with ⟨-, h2⟩ | ⟨g, cap, cur, hv, -⟩
      · exact (h0 h2).elim
      · injection hv with hv
        exact ⟨g, hv⟩
    obtain ⟨n, hn⟩ : ∃ n, L.length = n := ⟨_, rfl⟩
    have hs := sortF_ed w1 w.heap.size g c1 L own1 (by omega)
    rw [hn] at hs ⊢
    have hgb := (own1.lt g rfl).1
    have HB := Lib.hid (And.intro b1 (And.intro hs hn))
    clear own1 b1 h0 hc1 hA1 hs hn
    go_wp2_with fail
    refine HB.out.2.1.mono ?_
    rintro e w2 ⟨rfl, dd, ho, own2, u2⟩
    have H2 := Lib.hid (And.intro ho (And.intro own2 (HB.out.1.trans (u2.below (fun q _ e => by omega) HB.out.1.size))))
    clear ho own2 u2
    go_wp2_with fail
    refine (compact_ed w2 w.heap.size g c1 n L dd H2.out.1 HB.out.2.2 H2.out.2.1 (by have := HB.out.2.2; omega)).mono ?_
    rintro e w3 ⟨M, hM, hlen, rfl, hr3, u3⟩
    have H3 := Lib.hid (And.intro hM (And.intro hlen (And.intro hr3 (H2.out.2.2.trans (u3.below (fun q _ e => by omega) H2.out.2.2.size)))))
    have hml : M.length * 48 ≤ 140737488355328 := by omega
    clear hM hlen hr3 u3
    obtain ⟨k, hk⟩ : ∃ k, M.length = k := ⟨_, rfl⟩
    have hcl := clone_ed w3 (some ⟨g, 0, none⟩) c1 M H3.out.2.2.1 hml
    rw [hk] at hcl ⊢
    have HCL := Lib.hid hcl
    clear hcl hk hml
    go_wp2_with fail
    refine HCL.out.mono ?_
    intro e w4 hn
    have hn' := hn.base H3.out.2.2.2
    obtain ⟨v4, rfl, own4, b4⟩ := hn'
    have FIN := Lib.hid (show SetE w L (.returned v4) w4 from ⟨M, H3.out.1, H3.out.2.1, v4, rfl, own4, b4⟩)
    clear hn own4 b4
    go_wp2
    go_ret
    exact FIN.out
end Go.Proofs.YtnmkieiehjajlaaGreatDoor
namespace Go.Proofs.YtnmkieiehjajlaaGreatDoor
open Go.RowKit

def endsL (x : Ed) : List Txt := [x.fr, x.to]
def allT (N : List Txt) (E : List Ed) : List Txt := N ++ E.flatMap endsL
def gN (N : List Txt) (E : List Ed) : List Txt := setOf ltT (allT N E)
def gE (E : List Ed) : List Ed := setOf ltE E
theorem allT_len (N : List Txt) (E : List Ed) : (allT N E).length = N.length + E.length * 2 := by
  rw [allT, List.length_append, flat_len endsL 2 (fun _ => rfl)]
theorem mem_all {N : List Txt} {E : List Ed} {s : Txt} : s ∈ allT N E ↔ s ∈ N ∨ ∃ x ∈ E, s = x.fr ∨ s = x.to := by
  rw [allT, List.mem_append, List.mem_flatMap]
  simp [endsL]
theorem short_made {N : List Txt} {E : List Ed} (h : Short N E) : Short (gN N E) (gE E) := by
  refine ⟨fun s hs => ?_, fun x hx => h.e x (((setOf_is stoE E).mem x).1 hx)⟩
  rcases mem_all.1 (((setOf_is stoT (allT N E)).mem s).1 hs) with h1 | ⟨x, hx, rfl | rfl⟩
  · exact h.n s h1
  · exact (h.e x hx).1
  · exact (h.e x hx).2.2
theorem fit_made {N : List Txt} {E : List Ed} (h : Short N E) {M : List Txt} {F : List Ed} (hM : M = gN N E) (hF : F = gE E) (h1 : M.length * 16 ≤ 140737488355328) (h2 : F.length * 48 ≤ 140737488355328) : FitG M F := by
  subst hM; subst hF
  have k := short_made h
  refine ⟨h1, h2, fun s hs => ?_, fun x hx => ?_⟩
  · have := k.n s hs; unfold TxtOk; omega
  · have := k.e x hx; unfold EdOk TxtOk; omega
/-- What comes of it. -/
def MadeP (w : World) (N : List Txt) (E : List Ed) (e : Ending) (w' : World) : Prop :=
  (capsI (gN N E) (gE E) = 0 ∧ ∃ A c B d, e = .returned (.tuple #[twoV A (gN N E).length c B (gE E).length d, .int .i64 0]) ∧ w'.ownsRow w.heap.size 9 1 (.slice A (gN N E).length c) (gN N E).length (txtCells (gN N E)) ∧ w'.ownsRow w.heap.size 52 3 (.slice B (gE E).length d) (gE E).length (edCells (gE E)) ∧ Below w.heap.size w w') ∨
  (capsI (gN N E) (gE E) ≠ 0 ∧ e = .returned (.tuple #[twoV none 0 0 none 0 0, .int .i64 (capsI (gN N E) (gE E))]) ∧ Below w.heap.size w w')
theorem push_two (w : World) (base : Nat) (v : Value) (L : List Txt) (own : w.ownsRow base 9 1 v L.length (txtCells L)) (s t : Txt) (hl : (L.length + 2) * 16 ≤ 140737488355328) (hb : base ≤ w.heap.size) :
    ∃ v' w', (Builtin.append_ #[22, 22] 22 #[v, .slice (some ⟨w.heap.size, 0, none⟩) 2 2]).run Tryz.prog (w.alloc (.cells #[.string s, .string t] 9)) = .ok v' w' ∧ w'.ownsRow base 9 1 v' (L ++ [s, t]).length (txtCells (L ++ [s, t])) ∧ Below base w w' := by
  obtain ⟨v', w', happ, own', up, -⟩ := push_own w base 22 9 1 16 _ Tryz.underlying22 info_string rfl (by decide) v L.length _ own [.string s, .string t] 2 rfl (by simp; exact ⟨rfl, rfl⟩) hl (by unfold maxLen; omega) hb
  refine ⟨v', w', happ, ?_, up.below (fun k _ e => (own.lt k e).1) hb⟩
  rw [List.length_append, txtCells, List.map_append]
  exact own'
theorem allT_step {N : List Txt} {E : List Ed} {k : Nat} {x : Ed} (h : E[k]? = some x) : allT N (E.take (k + 1)) = allT N (E.take k) ++ [x.fr, x.to] := by
  rw [allT, allT, take_snoc' h, List.flatMap_append, List.append_assoc]
  rfl

set_option maxHeartbeats 2000000 in
set_option maxRecDepth 20000 in
theorem made_any (w : World) (A : Option Addr) (c : Nat) (B : Option Addr) (d : Nat) (N : List Txt) (E : List Ed) (h : ForG w A c B d N E) (hs : Short N E) (hb : (N.length + E.length * 2) * 16 ≤ 140737488355328) :
    Calls Tryz.prog 120 #[.slice A N.length c, .slice B E.length d] w (MadeP w N E) := by
  have k0 := Blk.new w 54 #[.slice none 0 0, .slice none 0 0]
  have u0 : Below w.heap.size w (w.alloc (.cells #[.slice none 0 0, .slice none 0 0] 54)) := (Below.refl _ _).alloc (Nat.le_refl _) _
  have he : E.length * 48 ≤ 140737488355328 := h.fit.e
  have hn : N.length * 16 ≤ 140737488355328 := h.fit.n
  have HB := Lib.hid (show ∀ (j : Nat) (x : Ed), E[j]? = some x → ∃ b o, B = some ⟨b, o, none⟩ ∧ b < w.heap.size from fun j x hx => by obtain ⟨b, o, e, y0, -⟩ := h.re.ed hx; exact ⟨b, o, e, World.block_lt_of_cell? _ _ y0⟩)
  have H := Lib.hid (And.intro (h.below u0) (And.intro k0 (And.intro u0 hs)))
  clear h k0 u0 hs
  go_enter Tryz.func120, Tryz.ntmps120
  go_upto_region 1 with (fail)
  generalize w.alloc (.cells #[.slice none 0 0, .slice none 0 0] 54) = W0 at H ⊢
  have hz0 : w.heap.size + 1 ≤ W0.heap.size := H.out.2.1.lt
  go_wp2_with fail
  refine (clone_txt W0 A c N H.out.1.rn hn).mono ?_
  rintro e w1 ⟨v, rfl, own1, b1⟩
  obtain ⟨A1, c1, rfl, -, -⟩ := own_form own1
  have H1 := Lib.hid (And.intro own1 b1)
  clear own1 b1
  go_wp2_with fail
  go_loopw [6, 8, 15] (fun v _ i wr => ∃ k : Nat, k ≤ E.length ∧ i = .int .i64 k ∧ Hid (Below W0.heap.size W0 wr) ∧ Hid (wr.ownsRow W0.heap.size 9 1 v (allT N (E.take k)).length (txtCells (allT N (E.take k))))) (fun _ _ i _ => E.length - (intOf i).toNat)
  case atStart => exact ⟨0, Nat.zero_le _, rfl, Lib.hid H1.out.2, Lib.hid (by simpa [allT] using H1.out.1)⟩
  case round =>
    obtain ⟨k, hk, rfl, hbw, how⟩ := hrel
    obtain ⟨A5, c5, rfl, -, -⟩ := own_form how.out
    have hal := allT_len N (E.take k)
    have htl : (E.take k).length ≤ k := by rw [List.length_take]; omega
    obtain ⟨n5, hn5⟩ : ∃ n5, (allT N (E.take k)).length = n5 := ⟨_, rfl⟩
    by_cases hlt : k < E.length
    · have hltI : (k : Int) < (E.length : Int) := by omega
      have hkw : IntKind.i64.wrap ((k : Int) + 1) = (k : Int) + 1 := IntWalk.i64_in _ (by omega)
      obtain ⟨⟨s0, s1, s2⟩, hx⟩ : ∃ x, E[k]? = some x := ⟨E[k], List.getElem?_eq_getElem _⟩
      obtain ⟨ab, ao, rfl, hab⟩ := HB.out k _ hx
      obtain ⟨ab', ao', e, y0, y1, y2⟩ := H.out.1.re.ed hx
      injection e with e; injection e with e e2; subst e; subst e2
      dsimp only at y0 y1 y2
      have cc := fun i => hbw.out.cell (p := ⟨ab, i, none⟩) (by show ab < _; omega)
      have x0 := (cc _).trans y0
      have x1 := (cc _).trans y1
      have x2 := (cc _).trans y2
      have kx := Blk.new wr 52 #[.string s0, .string s1, .string s2]
      have bx : Below wr.heap.size wr (wr.alloc (.cells #[.string s0, .string s1, .string s2] 52)) := (Below.refl _ _).alloc (Nat.le_refl _) _
      have ox := how.out.alloc (.cells #[.string s0, .string s1, .string s2] 52)
      have HX := Lib.hid (And.intro hx (And.intro kx (And.intro (hbw.out.trans (bx.mono hbw.out.size)) ox)))
      clear hx kx bx ox y0 y1 y2 cc
      go_upto_region 5 with (fail)
      generalize wr.alloc (.cells #[.string s0, .string s1, .string s2] 52) = W5 at HX ⊢
      clear x0 x1 x2
      have x0 : W5.cell? ⟨wr.heap.size, 0, none⟩ = some (.string s0) := HX.out.2.1.cell 0
      have x2 : W5.cell? ⟨wr.heap.size, 2, none⟩ = some (.string s2) := HX.out.2.1.cell 2
      obtain ⟨v6, w6, happ, own6, b6⟩ := push_two W5 W0.heap.size _ _ HX.out.2.2.2 s0 s2 (by omega) HX.out.2.2.1.size
      rw [hn5] at happ ⊢
      have H6 := Lib.hid (And.intro own6 (HX.out.2.2.1.trans b6))
      clear own6 b6 hn5 hal
      go_wp2_with (at_builtin; refine wpList_append_run rfl _ _ _ rfl rfl rfl happ ?_)
      go_roundw
      case rel => exact ⟨k + 1, by omega, by go_num, Lib.hid H6.out.2, Lib.hid (by rw [allT_step HX.out.1]; exact H6.out.1)⟩
      case measure => simp [intOf]; omega
    · obtain rfl : k = E.length := by omega
      obtain ⟨W4, hW4⟩ : ∃ W, W = wr := ⟨_, rfl⟩
      subst hW4
      have ow := how.out
      rw [List.take_length] at ow hn5
      have rw4 := RowR.of_own ow
      have hl5 : (allT N E).length * 16 ≤ 140737488355328 := by rw [allT_len]; exact hb
      have hsT := sorted_txt W4 A5 c5 (allT N E) rw4 hl5
      rw [hn5] at hsT
      rw [List.take_length, hn5]
      have HT := Lib.hid hsT
      have H4 := Lib.hid hbw.out
      clear ow hn5 rw4 hsT how hbw hal htl hk hlt hl5
      go_wp2_with fail
      refine HT.out.mono ?_
      rintro e w5 ⟨M, hM, hMl, v5, rfl, own5, b5⟩
      have eM : M = gN N E := hM.is stoT
      have H5 := Lib.hid (And.intro own5 (And.intro (H4.out.trans (b5.mono H4.out.size)) eM))
      have hM16 : M.length * 16 ≤ 140737488355328 := by rw [allT_len] at hMl; omega
      clear hM hMl own5 b5 eM
      go_wp2_with fail
      refine (sorted_ed w5 B d E (H.out.1.below H5.out.2.1).re he).mono ?_
      rintro e w6 ⟨F, hF, hFl, v6, rfl, own6, b6⟩
      have eF : F = gE E := hF.is stoE
      have hF48 : F.length * 48 ≤ 140737488355328 := by omega
      obtain ⟨A6, c6, rfl, hc6, -⟩ := own_form H5.out.1
      obtain ⟨A7, c7, rfl, hc7, -⟩ := own_form own6
      have o5 := ownsRow_upd H5.out.1 (Upd.of_below b6 (fun _ => False)) (fun _ _ => id)
      have H6 := Lib.hid (And.intro o5 (And.intro own6 (And.intro (H5.out.2.1.trans (b6.mono H5.out.2.1.size)) (And.intro eF (And.intro hc6 hc7)))))
      clear hF hFl own6 b6 eF o5 hc6 hc7
      go_upto_region 8 with (fail)
      have k7 := Blk.new w6 54 #[.slice A6 M.length c6, .slice A7 F.length c7]
      have b7 : Below w6.heap.size w6 (w6.alloc (.cells #[.slice A6 M.length c6, .slice A7 F.length c7] 54)) := (Below.refl _ _).alloc (Nat.le_refl _) _
      have o7 := H6.out.1.alloc (.cells #[.slice A6 M.length c6, .slice A7 F.length c7] 54)
      have o8 := H6.out.2.1.alloc (.cells #[.slice A6 M.length c6, .slice A7 F.length c7] 54)
      have H7 := Lib.hid (And.intro k7 (And.intro o7 (And.intro o8 (H6.out.2.2.1.trans (b7.mono H6.out.2.2.1.size)))))
      clear k7 b7 o7 o8
      generalize w6.alloc (.cells #[.slice A6 M.length c6, .slice A7 F.length c7] 54) = W7 at H7 ⊢
      have q0 : W7.cell? ⟨w6.heap.size, 0, none⟩ = some (.slice A6 M.length c6) := H7.out.1.cell 0
      have q1 : W7.cell? ⟨w6.heap.size, 1, none⟩ = some (.slice A7 F.length c7) := H7.out.1.cell 1
      have hG : ForG W7 A6 c6 A7 c7 M F := ⟨RowR.of_own H7.out.2.1, RowR.of_own H7.out.2.2.1, H6.out.2.2.2.2.1, H6.out.2.2.2.2.2, fit_made H.out.2.2.2 H5.out.2.2 H6.out.2.2.2.1 hM16 hF48⟩
      have hsh : Short M F := by rw [H5.out.2.2, H6.out.2.2.2.1]; exact short_made H.out.2.2.2
      have HG := Lib.hid (And.intro hG hsh)
      clear hG hsh
      go_wp2_with fail
      refine (caps_any W7 A6 c6 A7 c7 M F HG.out.1 HG.out.2).mono ?_
      rintro e w8 ⟨rfl, b8⟩
      have bb := H7.out.2.2.2.trans (b8.mono H7.out.2.2.2.size)
      have k8 := H.out.2.1.upd (Upd.of_below bb (fun _ => False)) id
      have c0 : w8.cell? ⟨w.heap.size, 0, none⟩ = some (.slice none 0 0) := k8.cell 0
      have c1' : w8.cell? ⟨w.heap.size, 1, none⟩ = some (.slice none 0 0) := k8.cell 1
      have f0 := k8.frozen 0
      have f1 := k8.frozen 1
      have k9 := H7.out.1.upd (Upd.of_below b8 (fun _ => False)) id
      have bw : Below w.heap.size w w8 := H.out.2.2.1.trans (bb.mono (by omega))
      have oT := ownsRow_upd H7.out.2.1 (Upd.of_below b8 (fun _ => False)) (fun _ _ => id)
      have oE := ownsRow_upd H7.out.2.2.1 (Upd.of_below b8 (fun _ => False)) (fun _ _ => id)
      have z7 := H4.out.size
      have z5 := H5.out.2.1.size
      have fin : ∀ v0 v1 : Value, (w8.setCell ⟨w.heap.size, 0, none⟩ v0).setCell ⟨w.heap.size, 1, none⟩ v1 = (w8.setCell ⟨w.heap.size, 0, none⟩ v0).setCell ⟨w.heap.size, 1, none⟩ v1 ∧ Blk ((w8.setCell ⟨w.heap.size, 0, none⟩ v0).setCell ⟨w.heap.size, 1, none⟩ v1) w.heap.size 54 #[v0, v1] ∧ Upd (fun q => q = w.heap.size) w8 ((w8.setCell ⟨w.heap.size, 0, none⟩ v0).setCell ⟨w.heap.size, 1, none⟩ v1) := fun v0 v1 =>
        ⟨rfl, (k8.set 0 v0).set 1 v1, ((Upd.refl (fun q => q = w.heap.size) w8).setCell (p := ⟨w.heap.size, 0, none⟩) (.inl rfl) v0).setCell (p := ⟨w.heap.size, 1, none⟩) (.inl rfl) v1⟩
      obtain ⟨cp, hcp⟩ : ∃ cp, capsI M F = cp := ⟨_, rfl⟩
      have hcg : capsI (gN N E) (gE E) = cp := by rw [← H5.out.2.2, ← H6.out.2.2.2.1]; exact hcp
      rw [hcp]
      by_cases h0 : cp = 0
      · subst h0
        obtain ⟨-, kF, uF⟩ := fin (.slice A6 M.length c6) (.slice A7 F.length c7)
        have e0 := kF.cell 0
        have e1 := kF.cell 1
        simp only [List.getElem?_toArray, List.getElem?_cons_succ, List.getElem?_cons_zero] at e0 e1
        have q0 : w8.cell? ⟨w6.heap.size, 0, none⟩ = some (.slice A6 M.length c6) := k9.cell 0
        have q1 : w8.cell? ⟨w6.heap.size, 1, none⟩ = some (.slice A7 F.length c7) := k9.cell 1
        have post : MadeP w N E (.returned (.tuple #[twoV A6 M.length c6 A7 F.length c7, .int .i64 0])) ((w8.setCell ⟨w.heap.size, 0, none⟩ (.slice A6 M.length c6)).setCell ⟨w.heap.size, 1, none⟩ (.slice A7 F.length c7)) := by
          refine .inl ⟨hcg, A6, c6, A7, c7, by rw [← H5.out.2.2, ← H6.out.2.2.2.1], ?_, ?_, bw.trans (uF.below (fun q _ e => by omega) bw.size)⟩
          · rw [← H5.out.2.2]
            exact ownsRow_base (ownsRow_upd oT uF (fun q hq e => by have := (oT.lt q hq).1; omega)) (fun q hq => by have := (oT.lt q hq).1; omega)
          · rw [← H6.out.2.2.2.1]
            exact ownsRow_base (ownsRow_upd oE uF (fun q hq e => by have := (oE.lt q hq).1; omega)) (fun q hq => by have := (oE.lt q hq).1; omega)
        have FIN := Lib.hid post
        clear post kF uF fin hcp hcg oT oE k8 k9 bb bw b8
        go_wp2
        refine bodyPost_ret (v := .tuple #[twoV A6 M.length c6 A7 F.length c7, .int .i64 0]) (by simp [results, Tryz.f120, go_sem, twoV, e0, e1]) rfl FIN.out
      · obtain ⟨-, kF, uF⟩ := fin (.slice none 0 0) (.slice none 0 0)
        have e0 := kF.cell 0
        have e1 := kF.cell 1
        simp only [List.getElem?_toArray, List.getElem?_cons_succ, List.getElem?_cons_zero] at e0 e1
        have post : MadeP w N E (.returned (.tuple #[twoV none 0 0 none 0 0, .int .i64 cp])) ((w8.setCell ⟨w.heap.size, 0, none⟩ (.slice none 0 0)).setCell ⟨w.heap.size, 1, none⟩ (.slice none 0 0)) :=
          .inr ⟨by rw [hcg]; exact h0, by rw [hcg], bw.trans (uF.below (fun q _ e => by omega) bw.size)⟩
        have FIN := Lib.hid post
        have hne : (cp == 0) = false := by simpa using h0
        have hne2 : (cp != 0) = true := by simpa using h0
        clear post kF uF fin hcp hcg oT oE k8 k9 bb bw b8 h0
        go_wp2
        refine bodyPost_ret (v := .tuple #[twoV none 0 0 none 0 0, .int .i64 cp]) (by simp [results, Tryz.f120, go_sem, twoV, e0, e1]) rfl FIN.out
end Go.Proofs.YtnmkieiehjajlaaGreatDoor
namespace Go.Proofs.YtnmkieiehjajlaaGreatDoor
open Go.RowKit

/-- What Of answers. -/
def OfP (w : World) (N : List Txt) (E : List Ed) (e : Ending) (w' : World) : Prop :=
  (namedB N E = false ∧ e = .returned (.tuple #[twoV none 0 0 none 0 0, .int .i64 173]) ∧ Below w.heap.size w w') ∨ (namedB N E = true ∧ MadeP w N E e w')

set_option maxHeartbeats 1000000 in
set_option maxRecDepth 20000 in
theorem eof_any (w : World) (A : Option Addr) (c : Nat) (B : Option Addr) (d : Nat) (N : List Txt) (E : List Ed) (h : ForG w A c B d N E) (hb : (N.length + E.length * 2) * 16 ≤ 140737488355328) :
    Calls Tryz.prog 80 #[.slice A N.length c, .slice B E.length d] w (OfP w N E) := by
  have k0 := Blk.new w 54 #[.slice none 0 0, .slice none 0 0]
  have u0 : Below w.heap.size w (w.alloc (.cells #[.slice none 0 0, .slice none 0 0] 54)) := (Below.refl _ _).alloc (Nat.le_refl _) _
  have H := Lib.hid (And.intro (h.below u0) (And.intro k0 u0))
  clear h k0 u0
  obtain ⟨b0, hb0⟩ : ∃ b, namedB N E = b := ⟨_, rfl⟩
  have HN := Lib.hid hb0
  clear hb0
  go_enter Tryz.func80, Tryz.ntmps80
  go_upto_region 1 with (fail)
  generalize w.alloc (.cells #[.slice none 0 0, .slice none 0 0] 54) = W0 at H ⊢
  have hz0 : w.heap.size + 1 ≤ W0.heap.size := H.out.2.1.lt
  go_wp2_with fail
  refine (named_any W0 A c B d N E H.out.1).mono ?_
  rintro e w1 ⟨rfl, b1⟩
  rw [HN.out]
  have k1 := H.out.2.1.upd (Upd.of_below b1 (fun _ => False)) id
  have fin : ∀ w8 : World, Blk w8 w.heap.size 54 #[.slice none 0 0, .slice none 0 0] → ∀ v0 v1 : Value, Blk ((w8.setCell ⟨w.heap.size, 0, none⟩ v0).setCell ⟨w.heap.size, 1, none⟩ v1) w.heap.size 54 #[v0, v1] ∧ Upd (fun q => q = w.heap.size) w8 ((w8.setCell ⟨w.heap.size, 0, none⟩ v0).setCell ⟨w.heap.size, 1, none⟩ v1) := fun w8 k8 v0 v1 =>
    ⟨(k8.set 0 v0).set 1 v1, ((Upd.refl (fun q => q = w.heap.size) w8).setCell (p := ⟨w.heap.size, 0, none⟩) (.inl rfl) v0).setCell (p := ⟨w.heap.size, 1, none⟩) (.inl rfl) v1⟩
  have H1 := Lib.hid (And.intro (H.out.1.below b1) (And.intro k1 (H.out.2.2.trans (b1.mono H.out.2.2.size))))
  have FN := Lib.hid fin
  have z1 := b1.size
  clear k1 b1 fin
  cases b0
  · have c0 : w1.cell? ⟨w.heap.size, 0, none⟩ = some (.slice none 0 0) := H1.out.2.1.cell 0
    have c1' : w1.cell? ⟨w.heap.size, 1, none⟩ = some (.slice none 0 0) := H1.out.2.1.cell 1
    have f0 := H1.out.2.1.frozen 0
    have f1 := H1.out.2.1.frozen 1
    obtain ⟨kF, uF⟩ := FN.out _ H1.out.2.1 (.slice none 0 0) (.slice none 0 0)
    have e0 := kF.cell 0
    have e1 := kF.cell 1
    simp only [List.getElem?_toArray, List.getElem?_cons_succ, List.getElem?_cons_zero] at e0 e1
    have FIN := Lib.hid (show OfP w N E (.returned (.tuple #[twoV none 0 0 none 0 0, .int .i64 173])) _ from .inl ⟨HN.out, rfl, H1.out.2.2.trans (uF.below (fun q _ e => by omega) H1.out.2.2.size)⟩)
    clear kF uF
    go_wp2
    refine bodyPost_ret (v := .tuple #[twoV none 0 0 none 0 0, .int .i64 173]) (by simp [results, Tryz.f80, go_sem, twoV, e0, e1]) rfl FIN.out
  · go_wp2_with fail
    refine (made_any w1 A c B d N E H1.out.1 (Short.of HN.out) hb).mono ?_
    rintro e w2 (⟨hc, A2, c2, B2, d2, rfl, oT, oE, b2⟩ | ⟨hc, rfl, b2⟩)
    · have k2 := H1.out.2.1.upd (Upd.of_below b2 (fun _ => False)) id
      have c0 : w2.cell? ⟨w.heap.size, 0, none⟩ = some (.slice none 0 0) := k2.cell 0
      have c1' : w2.cell? ⟨w.heap.size, 1, none⟩ = some (.slice none 0 0) := k2.cell 1
      have f0 := k2.frozen 0
      have f1 := k2.frozen 1
      obtain ⟨n, hn⟩ : ∃ n, (gN N E).length = n := ⟨_, rfl⟩
      obtain ⟨m, hm⟩ : ∃ m, (gE E).length = m := ⟨_, rfl⟩
      obtain ⟨kF, uF⟩ := FN.out _ k2 (.slice A2 n c2) (.slice B2 m d2)
      have e0 := kF.cell 0
      have e1 := kF.cell 1
      simp only [List.getElem?_toArray, List.getElem?_cons_succ, List.getElem?_cons_zero] at e0 e1
      have bw := H1.out.2.2.trans (b2.mono H1.out.2.2.size)
      have FIN := Lib.hid (show OfP w N E (.returned (.tuple #[twoV A2 n c2 B2 m d2, .int .i64 0])) _ from .inr ⟨HN.out, .inl ⟨hc, A2, c2, B2, d2, by rw [hn, hm], ownsRow_base (ownsRow_upd oT uF (fun q hq e => by have := (oT.lt q hq).1; omega)) (fun q hq => by have := (oT.lt q hq).1; omega), ownsRow_base (ownsRow_upd oE uF (fun q hq e => by have := (oE.lt q hq).1; omega)) (fun q hq => by have := (oE.lt q hq).1; omega), bw.trans (uF.below (fun q _ e => by omega) bw.size)⟩⟩)
      rw [hn, hm]
      unfold twoV
      clear kF uF oT oE b2 bw k2 hc hn hm
      go_wp2
      refine bodyPost_ret (v := .tuple #[twoV A2 n c2 B2 m d2, .int .i64 0]) (by simp [results, Tryz.f80, go_sem, twoV, e0, e1]) rfl FIN.out
    · have k2 := H1.out.2.1.upd (Upd.of_below b2 (fun _ => False)) id
      have c0 : w2.cell? ⟨w.heap.size, 0, none⟩ = some (.slice none 0 0) := k2.cell 0
      have c1' : w2.cell? ⟨w.heap.size, 1, none⟩ = some (.slice none 0 0) := k2.cell 1
      have f0 := k2.frozen 0
      have f1 := k2.frozen 1
      obtain ⟨cp, hcp⟩ : ∃ cp, capsI (gN N E) (gE E) = cp := ⟨_, rfl⟩
      obtain ⟨kF, uF⟩ := FN.out _ k2 (.slice none 0 0) (.slice none 0 0)
      have e0 := kF.cell 0
      have e1 := kF.cell 1
      simp only [List.getElem?_toArray, List.getElem?_cons_succ, List.getElem?_cons_zero] at e0 e1
      have bw := H1.out.2.2.trans (b2.mono H1.out.2.2.size)
      have FIN := Lib.hid (show OfP w N E (.returned (.tuple #[twoV none 0 0 none 0 0, .int .i64 cp])) _ from .inr ⟨HN.out, .inr ⟨hc, by rw [hcp], bw.trans (uF.below (fun q _ e => by omega) bw.size)⟩⟩)
      rw [hcp]
      unfold twoV
      clear kF uF b2 bw k2 hc hcp
      go_wp2
      refine bodyPost_ret (v := .tuple #[twoV none 0 0 none 0 0, .int .i64 cp]) (by simp [results, Tryz.f80, go_sem, twoV, e0, e1]) rfl FIN.out
end Go.Proofs.YtnmkieiehjajlaaGreatDoor
namespace Go.Proofs.YtnmkieiehjajlaaGreatDoor
open Go.RowKit

def sameB (N : List Txt) (E : List Ed) (N' : List Txt) (E' : List Ed) : Bool := decide (N = N') && decide (E = E')
end Go.Proofs.YtnmkieiehjajlaaGreatDoor
