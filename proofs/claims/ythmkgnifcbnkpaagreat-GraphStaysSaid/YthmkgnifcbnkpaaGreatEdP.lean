/- Edges: Of; two graphs that are the same. -/
import Derived.Test.YthmkgnifcbnkpaaGreatEdO
namespace Go.Proofs.YthmkgnifcbnkpaaGreat
open Go.RowKit

/-- What Of answers. -/
def OfP (w : World) (N : List Txt) (E : List Ed) (e : Ending) (w' : World) : Prop :=
  (namedB N E = false ∧ e = .returned (.tuple #[twoV none 0 0 none 0 0, .int .i64 173]) ∧ Below w.heap.size w w') ∨ (namedB N E = true ∧ MadeP w N E e w')

set_option maxHeartbeats 1000000 in
set_option maxRecDepth 20000 in
theorem eof_any (w : World) (A : Option Addr) (c : Nat) (B : Option Addr) (d : Nat) (N : List Txt) (E : List Ed) (h : ForG w A c B d N E) (hb : (N.length + E.length * 2) * 16 ≤ 140737488355328) :
    Calls Tryz.prog 14 #[.slice A N.length c, .slice B E.length d] w (OfP w N E) := by
  have k0 := Blk.new w 25 #[.slice none 0 0, .slice none 0 0]
  have u0 : Below w.heap.size w (w.alloc (.cells #[.slice none 0 0, .slice none 0 0] 25)) := (Below.refl _ _).alloc (Nat.le_refl _) _
  have H := Lib.hid (And.intro (h.below u0) (And.intro k0 u0))
  clear h k0 u0
  obtain ⟨b0, hb0⟩ : ∃ b, namedB N E = b := ⟨_, rfl⟩
  have HN := Lib.hid hb0
  clear hb0
  go_enter Tryz.func14, Tryz.ntmps14
  go_upto_region 1 with (fail)
  generalize w.alloc (.cells #[.slice none 0 0, .slice none 0 0] 25) = W0 at H ⊢
  have hz0 : w.heap.size + 1 ≤ W0.heap.size := H.out.2.1.lt
  go_wp2_with fail
  refine (named_any W0 A c B d N E H.out.1).mono ?_
  rintro e w1 ⟨rfl, b1⟩
  rw [HN.out]
  have k1 := H.out.2.1.upd (Upd.of_below b1 (fun _ => False)) id
  have fin : ∀ w8 : World, Blk w8 w.heap.size 25 #[.slice none 0 0, .slice none 0 0] → ∀ v0 v1 : Value, Blk ((w8.setCell ⟨w.heap.size, 0, none⟩ v0).setCell ⟨w.heap.size, 1, none⟩ v1) w.heap.size 25 #[v0, v1] ∧ Upd (fun q => q = w.heap.size) w8 ((w8.setCell ⟨w.heap.size, 0, none⟩ v0).setCell ⟨w.heap.size, 1, none⟩ v1) := fun w8 k8 v0 v1 =>
    ⟨(k8.set 0 v0).set 1 v1, ((Upd.refl (fun q => q = w.heap.size) w8).setCell (p := ⟨w.heap.size, 0, none⟩) (.inl rfl) v0).setCell (p := ⟨w.heap.size, 1, none⟩) (.inl rfl) v1⟩
  have H1 := Lib.hid (And.intro (H.out.1.below b1) (And.intro k1 (H.out.2.2.trans (b1.mono H.out.2.2.size))))
  have FN := Lib.hid fin
  have z1 := b1.size
  clear k1 b1 fin
  cases b0
  · have c0 : w1.cell? ⟨w.heap.size, 0, none⟩ = some (.slice none 0 0) := H1.out.2.1.cell 0
    have c1' : w1.cell? ⟨w.heap.size, 1, none⟩ = some (.slice none 0 0) := H1.out.2.1.cell 1
    have f0 := H1.out.2.1.frozen 0
    have f1 := H1.out.2.1.frozen 1
    obtain ⟨kF, uF⟩ := FN.out _ H1.out.2.1 (.slice none 0 0) (.slice none 0 0)
    have e0 := kF.cell 0
    have e1 := kF.cell 1
    simp only [List.getElem?_toArray, List.getElem?_cons_succ, List.getElem?_cons_zero] at e0 e1
    have FIN := Lib.hid (show OfP w N E (.returned (.tuple #[twoV none 0 0 none 0 0, .int .i64 173])) _ from .inl ⟨HN.out, rfl, H1.out.2.2.trans (uF.below (fun q _ e => by omega) H1.out.2.2.size)⟩)
    clear kF uF
    go_wp2
    refine bodyPost_ret (v := .tuple #[twoV none 0 0 none 0 0, .int .i64 173]) (by simp [results, Tryz.f14, go_sem, twoV, e0, e1]) rfl FIN.out
  · go_wp2_with fail
    refine (made_any w1 A c B d N E H1.out.1 (Short.of HN.out) hb).mono ?_
    rintro e w2 (⟨hc, A2, c2, B2, d2, rfl, oT, oE, b2⟩ | ⟨hc, rfl, b2⟩)
    · have k2 := H1.out.2.1.upd (Upd.of_below b2 (fun _ => False)) id
      have c0 : w2.cell? ⟨w.heap.size, 0, none⟩ = some (.slice none 0 0) := k2.cell 0
      have c1' : w2.cell? ⟨w.heap.size, 1, none⟩ = some (.slice none 0 0) := k2.cell 1
      have f0 := k2.frozen 0
      have f1 := k2.frozen 1
      obtain ⟨n, hn⟩ : ∃ n, (gN N E).length = n := ⟨_, rfl⟩
      obtain ⟨m, hm⟩ : ∃ m, (gE E).length = m := ⟨_, rfl⟩
      obtain ⟨kF, uF⟩ := FN.out _ k2 (.slice A2 n c2) (.slice B2 m d2)
      have e0 := kF.cell 0
      have e1 := kF.cell 1
      simp only [List.getElem?_toArray, List.getElem?_cons_succ, List.getElem?_cons_zero] at e0 e1
      have bw := H1.out.2.2.trans (b2.mono H1.out.2.2.size)
      have FIN := Lib.hid (show OfP w N E (.returned (.tuple #[twoV A2 n c2 B2 m d2, .int .i64 0])) _ from .inr ⟨HN.out, .inl ⟨hc, A2, c2, B2, d2, by rw [hn, hm], ownsRow_base (ownsRow_upd oT uF (fun q hq e => by have := (oT.lt q hq).1; omega)) (fun q hq => by have := (oT.lt q hq).1; omega), ownsRow_base (ownsRow_upd oE uF (fun q hq e => by have := (oE.lt q hq).1; omega)) (fun q hq => by have := (oE.lt q hq).1; omega), bw.trans (uF.below (fun q _ e => by omega) bw.size)⟩⟩)
      rw [hn, hm]
      unfold twoV
      clear kF uF oT oE b2 bw k2 hc hn hm
      go_wp2
      refine bodyPost_ret (v := .tuple #[twoV A2 n c2 B2 m d2, .int .i64 0]) (by simp [results, Tryz.f14, go_sem, twoV, e0, e1]) rfl FIN.out
    · have k2 := H1.out.2.1.upd (Upd.of_below b2 (fun _ => False)) id
      have c0 : w2.cell? ⟨w.heap.size, 0, none⟩ = some (.slice none 0 0) := k2.cell 0
      have c1' : w2.cell? ⟨w.heap.size, 1, none⟩ = some (.slice none 0 0) := k2.cell 1
      have f0 := k2.frozen 0
      have f1 := k2.frozen 1
      obtain ⟨cp, hcp⟩ : ∃ cp, capsI (gN N E) (gE E) = cp := ⟨_, rfl⟩
      obtain ⟨kF, uF⟩ := FN.out _ k2 (.slice none 0 0) (.slice none 0 0)
      have e0 := kF.cell 0
      have e1 := kF.cell 1
      simp only [List.getElem?_toArray, List.getElem?_cons_succ, List.getElem?_cons_zero] at e0 e1
      have bw := H1.out.2.2.trans (b2.mono H1.out.2.2.size)
      have FIN := Lib.hid (show OfP w N E (.returned (.tuple #[twoV none 0 0 none 0 0, .int .i64 cp])) _ from .inr ⟨HN.out, .inr ⟨hc, by rw [hcp], bw.trans (uF.below (fun q _ e => by omega) bw.size)⟩⟩)
      rw [hcp]
      unfold twoV
      clear kF uF b2 bw k2 hc hcp
      go_wp2
      refine bodyPost_ret (v := .tuple #[twoV none 0 0 none 0 0, .int .i64 cp]) (by simp [results, Tryz.f14, go_sem, twoV, e0, e1]) rfl FIN.out
end Go.Proofs.YthmkgnifcbnkpaaGreat
