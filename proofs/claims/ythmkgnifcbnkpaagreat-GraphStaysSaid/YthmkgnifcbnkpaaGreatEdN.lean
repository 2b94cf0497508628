/- Edges: edges in order, each once; two graphs that are the same. -/
import Derived.Test.YthmkgnifcbnkpaaGreatEdM
namespace Go.Proofs.YthmkgnifcbnkpaaGreat
open Go.RowKit Go.Sort Go.Shelf

theorem flat_ed (d : Array Ed) : (flatK Ed.cells 3 d).toList = edCells d.toList := by
  apply List.ext_getElem?
  intro j
  by_cases hj : j < d.size * 3
  · have hi : j / 3 < d.size := Nat.div_lt_of_lt_mul (by omega)
    have hm : j % 3 < 3 := Nat.mod_lt _ (by decide)
    have hjd : j / 3 * 3 + j % 3 = j := by omega
    have h2 := flat_get Ed.cells 3 (fun _ => rfl) d.toList (j / 3) (j % 3) d[j / 3]! (by rw [Array.getElem?_toList, getElem!_pos d _ hi, Array.getElem?_eq_getElem hi]) hm
    rw [hjd] at h2
    show _ = (d.toList.flatMap Ed.cells)[j]?
    rw [h2]
    have h3 := get_flatK Ed.cells 3 d j hj
    have h4 : j < (flatK Ed.cells 3 d).size := by rw [size_flatK]; exact hj
    rw [Array.getElem?_toList, Array.getElem?_eq_getElem h4, ← getElem!_pos (flatK Ed.cells 3 d) j h4, h3]
    have h5 : j % 3 < (Ed.cells d[j / 3]!).length := hm
    rw [List.getElem?_eq_getElem h5, getElem!_pos (Ed.cells d[j / 3]!) _ h5]
  · rw [List.getElem?_eq_none (by rw [Array.length_toList, size_flatK]; omega), List.getElem?_eq_none (by rw [edCells_len, Array.length_toList]; omega)]
theorem sortF_ed (w : World) (base g cap : Nat) (L : List Ed) (h : w.ownsRow base 39 3 (.slice (some ⟨g, 0, none⟩) L.length cap) L.length (edCells L)) (hl : L.length ≤ 140737488355328) :
    Calls Tryz.prog 114 #[.slice (some ⟨g, 0, none⟩) L.length cap, .func (.func 85) #[] #[]] w fun e w' => e = .returned (.tuple #[]) ∧ ∃ d : Array Ed, InOrd ltE L d ∧ w'.ownsRow base 39 3 (.slice (some ⟨g, 0, none⟩) L.length cap) L.length (edCells d.toList) ∧ Upd (fun q => q = g) w w' := by
  have eg : ∀ args w, (callFunc 85 args).run Tryz.prog w = .ok (.enter 85 args) w := enters_of Tryz.func85 (by kernel_rfl) rfl
  have hcmp : CmpLays Tryz.prog 85 #[] Ed.cells 3 cmpE g 0 L.toArray.size w := fun m os dk _ x y => (order_edge x y _).mono fun e w' hh => hh
  have hHo : w.ownsRow base 39 3 (.slice (some ⟨g, 0, none⟩) L.length cap) L.length ((flatK Ed.cells 3 L.toArray).toList.map id) := by rw [List.map_id, flat_ed]; exact h
  have hH : HoldsK Ed.cells 3 w g 0 L.toArray := holds_own hHo
  have hg := (h.lt g rfl).2
  have hcon := AnyQ.slices_SortFunc sortE 3 (fun w => Tryz.isAgg39 w) (fun w => Tryz.sizeOf39 w) Ed.cells (fun _ => rfl) (fun x v hv => by simp [Ed.cells] at hv; rcases hv with rfl | rfl | rfl <;> rfl) cmpE swo_ed 85 #[] g 0 cap L.toArray w eg hcmp hH hg (by simp; omega)
  change Calls Tryz.prog 114 _ _ _ at hcon
  rw [show L.toArray.size = L.length from by simp] at hcon
  refine hcon.mono ?_
  rintro e w' ⟨rfl, d', n, os, hp, hs, rfl⟩
  have hlt : ltOf cmpE = ltE := by funext x y; exact cmpE_lt x y
  rw [hlt] at hs
  have ho := InOrd.of (L := L) (by simpa using hp) (by simpa using hs)
  have key := own_put (enc := id) (m := n) (os := os) h (flatK Ed.cells 3 d') (by rw [size_flatK, ho.n])
  rw [List.map_id, flat_ed] at key
  exact ⟨rfl, d', ho, key.1, key.2⟩
set_option maxHeartbeats 1000000 in
set_option maxRecDepth 20000 in
theorem compact_zeroE (w : World) (p : Option Addr) (cap : Nat) : Calls Tryz.prog 115 #[.slice p 0 cap] w (Only w (.slice p 0 cap)) := by
  go_enter Tryz.func115, Tryz.ntmps115
  go_wp2
  go_ret
  exact ⟨rfl, rfl⟩
theorem NewE.base {w w0 : World} {M : List Ed} {e : Ending} {w' : World} (h : NewE w M e w') (hb : Below w0.heap.size w0 w) : NewE w0 M e w' := by
  obtain ⟨v, rfl, own, b⟩ := h
  exact ⟨v, rfl, ownsRow_base own (fun q hq => Nat.le_trans hb.size (own.lt q hq).1), hb.trans (b.mono hb.size)⟩
/-- A list's edges in order, each once, come back. -/
def SetE (w : World) (L : List Ed) (e : Ending) (w' : World) : Prop := ∃ M, SetOf ltE L M ∧ M.length ≤ L.length ∧ NewE w M e w'

set_option maxHeartbeats 2000000 in
set_option maxRecDepth 20000 in
theorem sorted_ed (w : World) (A : Option Addr) (c : Nat) (L : List Ed) (h : RowR w A (edCells L)) (hl : L.length * 48 ≤ 140737488355328) :
    Calls Tryz.prog 84 #[.slice A L.length c, .func (.func 85) #[] #[]] w (SetE w L) := by
  have HH := Lib.hid h
  clear h
  go_enter Tryz.func84, Tryz.ntmps84
  go_wp2_with fail
  refine (clone_ed w A c L HH.out hl).mono ?_
  rintro e w1 ⟨v, rfl, own1, b1⟩
  obtain ⟨A1, c1, rfl, hc1, hA1⟩ := own_form own1
  by_cases h0 : L.length = 0
  · obtain rfl : L = [] := List.eq_nil_of_length_eq_zero h0
    have HB := Lib.hid b1
    clear own1 b1 h0 hl hc1 hA1
    have hs0 := AnyF.slices_SortFunc_none sortE A1 c1 (.func (.func 85) #[] #[]) w1
    change Calls Tryz.prog 114 _ _ _ at hs0
    have HS0 := Lib.hid hs0
    clear hs0
    go_wp2_with fail
    refine HS0.out.mono ?_
    rintro e w2 ⟨rfl, rfl⟩
    go_wp2_with fail
    refine (compact_zeroE _ _ _).mono ?_
    rintro e w2 ⟨rfl, rfl⟩
    go_wp2_with fail
    refine (clone_ed _ A1 c1 [] (fun j u hj => by simp [edCells] at hj) (by simp)).mono ?_
    intro e w3 hn
    have hn' := hn.base HB.out
    obtain ⟨v3, rfl, own3, b3⟩ := hn'
    have FIN := Lib.hid (show SetE w [] (.returned v3) w3 from ⟨[], SetOf.self (lt := ltE) .nil, Nat.le_refl _, v3, rfl, own3, b3⟩)
    clear hn own3 b3
    go_wp2
    go_ret
    exact FIN.out
  · obtain ⟨g, rfl⟩ : ∃ g, A1 = some ⟨g, 0, none⟩ := by
      rcases own1.2 with ⟨-, h2⟩ | ⟨g, cap, cur, hv, -⟩
      · exact (h0 h2).elim
      · injection hv with hv
        exact ⟨g, hv⟩
    obtain ⟨n, hn⟩ : ∃ n, L.length = n := ⟨_, rfl⟩
    have hs := sortF_ed w1 w.heap.size g c1 L own1 (by omega)
    rw [hn] at hs ⊢
    have hgb := (own1.lt g rfl).1
    have HB := Lib.hid (And.intro b1 (And.intro hs hn))
    clear own1 b1 h0 hc1 hA1 hs hn
    go_wp2_with fail
    refine HB.out.2.1.mono ?_
    rintro e w2 ⟨rfl, dd, ho, own2, u2⟩
    have H2 := Lib.hid (And.intro ho (And.intro own2 (HB.out.1.trans (u2.below (fun q _ e => by omega) HB.out.1.size))))
    clear ho own2 u2
    go_wp2_with fail
    refine (compact_ed w2 w.heap.size g c1 n L dd H2.out.1 HB.out.2.2 H2.out.2.1 (by have := HB.out.2.2; omega)).mono ?_
    rintro e w3 ⟨M, hM, hlen, rfl, hr3, u3⟩
    have H3 := Lib.hid (And.intro hM (And.intro hlen (And.intro hr3 (H2.out.2.2.trans (u3.below (fun q _ e => by omega) H2.out.2.2.size)))))
    have hml : M.length * 48 ≤ 140737488355328 := by omega
    clear hM hlen hr3 u3
    obtain ⟨k, hk⟩ : ∃ k, M.length = k := ⟨_, rfl⟩
    have hcl := clone_ed w3 (some ⟨g, 0, none⟩) c1 M H3.out.2.2.1 hml
    rw [hk] at hcl ⊢
    have HCL := Lib.hid hcl
    clear hcl hk hml
    go_wp2_with fail
    refine HCL.out.mono ?_
    intro e w4 hn
    have hn' := hn.base H3.out.2.2.2
    obtain ⟨v4, rfl, own4, b4⟩ := hn'
    have FIN := Lib.hid (show SetE w L (.returned v4) w4 from ⟨M, H3.out.1, H3.out.2.1, v4, rfl, own4, b4⟩)
    clear hn own4 b4
    go_wp2
    go_ret
    exact FIN.out
end Go.Proofs.YthmkgnifcbnkpaaGreat
