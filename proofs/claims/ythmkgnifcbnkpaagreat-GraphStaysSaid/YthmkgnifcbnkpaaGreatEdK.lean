/- Edges: what is too many; may a graph be? -/
import Derived.Test.YthmkgnifcbnkpaaGreatEdJ
namespace Go.Proofs.YthmkgnifcbnkpaaGreat
open Go.RowKit

/-- A list in order, each once. -/
def setOf {α : Type} [DecidableEq α] (lt : α → α → Bool) (L : List α) : List α := cpt (L.mergeSort fun x y => !lt y x)
theorem setOf_is {α : Type} [DecidableEq α] {lt : α → α → Bool} (hs : Sto lt) (L : List α) : SetOf lt L (setOf lt L) := by
  have h1 : (L.mergeSort fun x y => !lt y x).Pairwise fun a b => (!lt b a) = true := List.pairwise_mergeSort (fun a b c => hs.le_trans a b c) (fun a b => hs.le_total a b) L
  have h2 := cpt_set hs (h1.imp fun {a b} h => by simpa using h)
  exact ⟨h2.up, fun x => (h2.mem x).trans (List.mergeSort_perm _ _).mem_iff⟩
theorem SetOf.is {α : Type} [DecidableEq α] {lt : α → α → Bool} (hs : Sto lt) {L M : List α} (h : SetOf lt L M) : M = setOf lt L := h.uniq hs (setOf_is hs L) (fun _ => Iff.rfl)

def capsI (N : List Txt) (E : List Ed) : Int := if 32 < N.length then 260 else if 16 < (setOf ltT (lbs E)).length then 261 else if 256 < E.length then 262 else if 2048 < (textL N E).length then 174 else 0
def checkI (N : List Txt) (E : List Ed) : Int := if formB N E = false then 2 else if namedB N E = false then 173 else capsI N E
theorem reti {a b : Int} (h : a = b) : Ending.returned (.int .i64 a) = .returned (.int .i64 b) := by rw [h]

set_option maxHeartbeats 1000000 in
set_option maxRecDepth 20000 in
theorem caps_any (w : World) (A : Option Addr) (c : Nat) (B : Option Addr) (d : Nat) (N : List Txt) (E : List Ed) (h : ForG w A c B d N E) (hs : Short N E) :
    Calls Tryz.prog 49 #[twoV A N.length c B E.length d] w (Sam w (.int .i64 (capsI N E))) := by
  have k0 := Blk.new w 25 #[.slice A N.length c, .slice B E.length d]
  have u0 : Below w.heap.size w (w.alloc (.cells #[.slice A N.length c, .slice B E.length d] 25)) := (Below.refl _ _).alloc (Nat.le_refl _) _
  have H := Lib.hid (And.intro (h.below u0) (And.intro k0 (And.intro u0 hs)))
  clear h k0 u0 hs
  unfold twoV
  go_enter Tryz.func49, Tryz.ntmps49
  go_upto_region 1 with (fail)
  generalize w.alloc (.cells #[.slice A N.length c, .slice B E.length d] 25) = W0 at H ⊢
  have q0 : W0.cell? ⟨w.heap.size, 0, none⟩ = some (.slice A N.length c) := H.out.2.1.cell 0
  have q1 : W0.cell? ⟨w.heap.size, 1, none⟩ = some (.slice B E.length d) := H.out.2.1.cell 1
  by_cases h1 : 32 < N.length
  · have h1I : (32 : Int) < (N.length : Int) := by omega
    have HX := Lib.hid (show (260 : Int) = capsI N E by rw [capsI, if_pos h1])
    clear h1
    go_wp2
    go_ret
    exact ⟨reti HX.out, H.out.2.2.1⟩
  have h1I : ¬ (32 : Int) < (N.length : Int) := by omega
  go_wp2_with fail
  refine (labels_any W0 A c B d N E H.out.1).mono ?_
  rintro e w1 ⟨M, hM, hlen, v, rfl, own1, b1⟩
  obtain ⟨A1, c1, rfl, -, -⟩ := own_form own1
  have eM := hM.is stoT
  have k1 := H.out.2.1.upd (Upd.of_below b1 (fun _ => False)) id
  have H1 := Lib.hid (And.intro (H.out.1.below b1) (And.intro k1 (H.out.2.2.1.trans (b1.mono H.out.2.2.1.size))))
  have hME : M.length = (setOf ltT (lbs E)).length := by rw [← eM]
  clear own1 b1 q0 q1 k1 hM eM
  have q0 : w1.cell? ⟨w.heap.size, 0, none⟩ = some (.slice A N.length c) := H1.out.2.1.cell 0
  have q1 : w1.cell? ⟨w.heap.size, 1, none⟩ = some (.slice B E.length d) := H1.out.2.1.cell 1
  obtain ⟨k, hk⟩ : ∃ k, M.length = k := ⟨_, rfl⟩
  rw [hk] at hME ⊢
  have HM := Lib.hid hME
  by_cases h2 : 16 < k
  · have h2I : (16 : Int) < (k : Int) := by omega
    have HX := Lib.hid (show (261 : Int) = capsI N E by rw [capsI, if_neg h1, if_pos (by rw [← HM.out]; exact h2)])
    clear h2 h1 hk hME hlen
    go_wp2
    go_ret
    exact ⟨reti HX.out, H1.out.2.2⟩
  have h2I : ¬ (16 : Int) < (k : Int) := by omega
  by_cases h3 : 256 < E.length
  · have h3I : (256 : Int) < (E.length : Int) := by omega
    have HX := Lib.hid (show (262 : Int) = capsI N E by rw [capsI, if_neg h1, if_neg (by rw [← HM.out]; exact h2), if_pos h3])
    clear h2 h1 h3 hk hME hlen
    go_wp2
    go_ret
    exact ⟨reti HX.out, H1.out.2.2⟩
  have h3I : ¬ (256 : Int) < (E.length : Int) := by omega
  have HH := Lib.hid (And.intro h1 (And.intro h2 h3))
  clear h1 h2 h3 hk hME hlen
  go_wp2_with fail
  refine (text_any w1 A c B d N E H1.out.1 H.out.2.2.2 (by have := HH.out.1; omega) (by have := HH.out.2.2; omega)).mono ?_
  rintro e w2 ⟨rfl, b2⟩
  have HB := Lib.hid (H1.out.2.2.trans (b2.mono H1.out.2.2.size))
  clear b2 q0 q1
  obtain ⟨t, ht⟩ : ∃ t : Txt, (⟨(textL N E).toArray⟩ : Txt) = t := ⟨_, rfl⟩
  have hts : t.size = (textL N E).length := by rw [← ht]; simp [ByteArray.size]
  rw [ht]
  by_cases h4 : 2048 < t.size
  · have h4I : (2048 : Int) < (t.size : Int) := by omega
    have HX := Lib.hid (show (174 : Int) = capsI N E by rw [capsI, if_neg HH.out.1, if_neg (by rw [← HM.out]; exact HH.out.2.1), if_neg HH.out.2.2, if_pos (by omega)])
    clear h4 ht hts
    go_wp2
    go_ret
    exact ⟨reti HX.out, HB.out⟩
  · have h4I : ¬ (2048 : Int) < (t.size : Int) := by omega
    have HX := Lib.hid (show (0 : Int) = capsI N E by rw [capsI, if_neg HH.out.1, if_neg (by rw [← HM.out]; exact HH.out.2.1), if_neg HH.out.2.2, if_neg (by omega)])
    clear h4 ht hts
    go_wp2
    go_ret
    exact ⟨reti HX.out, HB.out⟩

set_option maxHeartbeats 1000000 in
set_option maxRecDepth 20000 in
theorem echeck_any (w : World) (A : Option Addr) (c : Nat) (B : Option Addr) (d : Nat) (N : List Txt) (E : List Ed) (h : ForG w A c B d N E) :
    Calls Tryz.prog 18 #[twoV A N.length c B E.length d] w (Sam w (.int .i64 (checkI N E))) := by
  have k0 := Blk.new w 25 #[.slice A N.length c, .slice B E.length d]
  have u0 : Below w.heap.size w (w.alloc (.cells #[.slice A N.length c, .slice B E.length d] 25)) := (Below.refl _ _).alloc (Nat.le_refl _) _
  have H := Lib.hid (And.intro (h.below u0) (And.intro k0 u0))
  clear h k0 u0
  obtain ⟨b0, hb0⟩ : ∃ b, formB N E = b := ⟨_, rfl⟩
  obtain ⟨b1, hb1⟩ : ∃ b, namedB N E = b := ⟨_, rfl⟩
  have HB := Lib.hid (And.intro hb0 hb1)
  clear hb0 hb1
  unfold twoV
  go_enter Tryz.func18, Tryz.ntmps18
  go_upto_region 1 with (fail)
  generalize w.alloc (.cells #[.slice A N.length c, .slice B E.length d] 25) = W0 at H ⊢
  have q0 : W0.cell? ⟨w.heap.size, 0, none⟩ = some (.slice A N.length c) := H.out.2.1.cell 0
  have q1 : W0.cell? ⟨w.heap.size, 1, none⟩ = some (.slice B E.length d) := H.out.2.1.cell 1
  go_wp2_with fail
  refine (form_any W0 A c B d N E H.out.1).mono ?_
  rintro e w1 ⟨rfl, u1⟩
  rw [HB.out.1]
  have k1 := H.out.2.1.upd (Upd.of_below u1 (fun _ => False)) id
  have H1 := Lib.hid (And.intro (H.out.1.below u1) (And.intro k1 (H.out.2.2.trans (u1.mono H.out.2.2.size))))
  clear u1 q0 q1 k1
  have q0 : w1.cell? ⟨w.heap.size, 0, none⟩ = some (.slice A N.length c) := H1.out.2.1.cell 0
  have q1 : w1.cell? ⟨w.heap.size, 1, none⟩ = some (.slice B E.length d) := H1.out.2.1.cell 1
  cases b0
  · go_wp2
    go_ret
    exact ⟨reti (by rw [checkI, if_pos HB.out.1]), H1.out.2.2⟩
  go_wp2_with fail
  refine (named_any w1 A c B d N E H1.out.1).mono ?_
  rintro e w2 ⟨rfl, u2⟩
  rw [HB.out.2]
  have k2 := H1.out.2.1.upd (Upd.of_below u2 (fun _ => False)) id
  have H2 := Lib.hid (And.intro (H1.out.1.below u2) (And.intro k2 (H1.out.2.2.trans (u2.mono H1.out.2.2.size))))
  clear u2 q0 q1 k2
  have q0 : w2.cell? ⟨w.heap.size, 0, none⟩ = some (.slice A N.length c) := H2.out.2.1.cell 0
  have q1 : w2.cell? ⟨w.heap.size, 1, none⟩ = some (.slice B E.length d) := H2.out.2.1.cell 1
  cases b1
  · go_wp2
    go_ret
    exact ⟨reti (by rw [checkI, if_neg (by rw [HB.out.1]; simp), if_pos HB.out.2]), H2.out.2.2⟩
  go_wp2_with fail
  refine (caps_any w2 A c B d N E H2.out.1 (Short.of HB.out.2)).mono ?_
  rintro e w3 ⟨rfl, u3⟩
  have FIN := Lib.hid (H2.out.2.2.trans (u3.mono H2.out.2.2.size))
  have HE := Lib.hid (show capsI N E = checkI N E by rw [checkI, if_neg (by rw [HB.out.1]; simp), if_neg (by rw [HB.out.2]; simp)])
  clear u3 q0 q1
  go_wp2
  go_ret
  exact ⟨reti HE.out, FIN.out⟩
end Go.Proofs.YthmkgnifcbnkpaaGreat
