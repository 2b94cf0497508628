/- Forests: which spots end: trim.ends, trim.Ends; bywayref29.Ends. -/
import Derived.Test.YtbppbgdmoihooaaTrX
import Derived.Test.YtbppbgdmoihooaaTrW
namespace Go.Proofs.Ytbppbgdmoihooaa
open Go.RowKit

def BoolsAt (w : World) (I : List Bool) (e : Ending) (w' : World) : Prop := ∃ g, e = .returned (.slice (some ⟨g, 0, none⟩) I.length I.length) ∧ Blk w' g 4 (bools I) ∧ w.heap.size ≤ g ∧ Below w.heap.size w w'

set_option maxHeartbeats 2000000 in
set_option maxRecDepth 20000 in
theorem ends_any (w : World) (A : Option Addr) (c : Nat) (B : Option Addr) (d : Nat) (S : List Fct) (P : List Pk) (T : List Int) (h : ForR w A c B d S P) (ho : OkFor S P) (hT : Settled P S.length T) :
    Calls Try.prog 71 #[forV A S.length c B P.length d] w (BoolsAt w (endsB T)) := by
  have k0 := Blk.new w 75 #[.slice A S.length c, .slice B P.length d]
  have u0 : Below w.heap.size w (w.alloc (.cells #[.slice A S.length c, .slice B P.length d] 75)) := (Below.refl _ _).alloc (Nat.le_refl _) _
  have hS8 : S.length ≤ 140737488355328 := by have := h.fit.s; omega
  have hmk := fun w : World => mk_bools w S.length hS8
  have H := Lib.hid (And.intro h (And.intro k0 (And.intro u0 (And.intro ho hT))))
  clear h k0 u0 ho hT
  go_enter Try.func71, Try.ntmps71
  unfold forV
  go_upto_region 1 with (fail)
  have z0 : w.heap.size < (w.alloc (.cells #[.slice A S.length c, .slice B P.length d] 75)).heap.size := by simp
  generalize w.alloc (.cells #[.slice A S.length c, .slice B P.length d] 75) = W0 at H z0 ⊢
  have q0 : W0.cell? ⟨w.heap.size, 0, none⟩ = some (.slice A S.length c) := H.out.2.1.cell 0
  have q1 : W0.cell? ⟨w.heap.size, 1, none⟩ = some (.slice B P.length d) := H.out.2.1.cell 1
  go_upto_region 2 with (fail)
  have g1 := Blk.new W0 4 (bools (List.replicate S.length false))
  have b1 : Below W0.heap.size W0 (W0.alloc (.cells (bools (List.replicate S.length false)) 4)) := (Below.refl _ _).alloc (Nat.le_refl _) _
  have HG := Lib.hid (And.intro g1 (And.intro b1 z0))
  clear g1 b1 q0 q1 hmk z0
  generalize W0.alloc (.cells (bools (List.replicate S.length false)) 4) = W1 at HG ⊢
  have k1 := H.out.2.1.upd (Upd.of_below HG.out.2.1 (fun _ => False)) id
  have q0 : W1.cell? ⟨w.heap.size, 0, none⟩ = some (.slice A S.length c) := k1.cell 0
  have q1 : W1.cell? ⟨w.heap.size, 1, none⟩ = some (.slice B P.length d) := k1.cell 1
  clear k1
  go_wp2_with fail
  refine (small_any W1 A c B d S P (H.out.1.below (H.out.2.2.1.trans (HG.out.2.1.mono H.out.2.2.1.size))) H.out.2.2.2.1).mono ?_
  rintro e w2 ⟨sb, mb, yb, T', Y, rfl, hS⟩
  obtain rfl := Settled.uniq H.out.2.2.2.2 hS.t H.out.2.2.2.1.spots
  have c1 : w2.cell? ⟨sb, 2, none⟩ = some (.slice (some ⟨mb, 0, none⟩) S.length S.length) := hS.s.blk.cell 2
  have HS := Lib.hid (And.intro hS (And.intro (HG.out.1.upd (Upd.of_below hS.l (fun _ => False)) id) ((H.out.2.2.1.trans (HG.out.2.1.mono H.out.2.2.1.size)).trans (hS.l.mono (Nat.le_trans H.out.2.2.1.size HG.out.2.1.size)))))
  clear hS q0 q1
  go_wp2
  go_loopw [16] (fun iv wr => ∃ (k : Nat) (I : List Bool), k ≤ S.length ∧ iv = .int .i64 k ∧ I.length = S.length ∧ (∀ j : Nat, j < k → atB I (j : Int) = decide (0 < at0 T (j : Int))) ∧ Blk wr W0.heap.size 4 (bools I) ∧ Upd (fun q => q = W0.heap.size) w2 wr) (fun iv _ => S.length - (intOf iv).toNat)
  case atStart => exact ⟨0, _, Nat.zero_le _, rfl, by simp, fun j hj => by omega, HS.out.2.1, Upd.refl _ _⟩
  case round =>
    obtain ⟨k, I, hk, rfl, hI, hat, kg, up⟩ := hrel
    have HR := Lib.hid (And.intro hI (And.intro hat (And.intro kg up)))
    clear hat
    by_cases hlt : k < S.length
    · have hltI : (k : Int) < (S.length : Int) := by omega
      obtain ⟨v, hv⟩ : ∃ v, at0 T (k : Int) = v := ⟨_, rfl⟩
      have m0 : wr.cell? ⟨mb, k, none⟩ = some (.int .i64 v) := by
        rw [(HS.out.1.s.m.upd up (fun e => by have := HS.out.1.n.2.1; have := HG.out.1.lt; omega)).cell k, ← hv]
        exact ints_get (at0_get (by rw [HS.out.1.t.len]; exact hlt))
      have m1 := kg.cell k
      rw [bools_get (atB_get (by omega))] at m1
      have m2 := kg.frozen k
      have kn := kg.set k (.bool (decide (0 < v)))
      rw [bools_set] at kn
      have un := up.setCell (p := ⟨W0.heap.size, k, none⟩) (.inl rfl) (.bool (decide (0 < v)))
      have HN := Lib.hid (And.intro kn (And.intro un hv))
      clear kn un hv kg up hI
      go_wp2
      go_roundw
      case rel =>
        refine ⟨k + 1, I.set k (decide (0 < v)), by omega, by go_num, by rw [List.length_set]; exact HR.out.1, fun j hj => ?_, HN.out.1, HN.out.2.1⟩
        rw [atB_set (by rw [HR.out.1]; exact hlt)]
        by_cases e : j = k
        · subst e
          rw [if_pos (by simp), HN.out.2.2]
        · rw [if_neg (by omega)]
          exact HR.out.2.1 j (by omega)
      case measure => simp [intOf]; omega
    · obtain rfl : k = S.length := by omega
      clear hlt kg up hI
      go_wp2
      go_ret
      obtain ⟨hI, hat, kg, up⟩ := HR.out
      have hTl := HS.out.1.t.len
      obtain rfl : I = endsB T := ext_atB (by rw [endsB_len, hI, hTl]) (fun s hs => by
        rw [hat s (by omega), endsB_at (by omega)])
      exact ⟨W0.heap.size, congrArg (fun n => Ending.returned (.slice (some ⟨W0.heap.size, 0, none⟩) n n)) (by rw [endsB_len, hTl]), kg, by have := HG.out.2.2; omega, HS.out.2.2.trans (up.below (fun q _ e => by have := HG.out.2.2; omega) HS.out.2.2.size)⟩

set_option maxHeartbeats 2000000 in
set_option maxRecDepth 20000 in
theorem rends_any (w : World) (A : Option Addr) (c : Nat) (B : Option Addr) (d : Nat) (S : List Fct) (P : List Pk) (T : List Int) (h : ForR w A c B d S P) (ho : OkFor S P) (hT : Settled P S.length T) :
    Calls Try.prog 37 #[forV A S.length c B P.length d] w (BoolsAt w (endsB T)) := by
  have k0 := Blk.new w 75 #[.slice A S.length c, .slice B P.length d]
  have u0 : Below w.heap.size w (w.alloc (.cells #[.slice A S.length c, .slice B P.length d] 75)) := (Below.refl _ _).alloc (Nat.le_refl _) _
  have hS8 : S.length ≤ 140737488355328 := by have := h.fit.s; omega
  have hmk := fun w : World => mk_bools w S.length hS8
  have H := Lib.hid (And.intro h (And.intro k0 (And.intro u0 (And.intro ho hT))))
  have HM := Lib.hid hmk
  clear h k0 u0 ho hT hmk
  go_enter Try.func37, Try.ntmps37
  unfold forV
  go_upto_region 1 with (fail)
  generalize w.alloc (.cells #[.slice A S.length c, .slice B P.length d] 75) = W0 at H ⊢
  have q0 : W0.cell? ⟨w.heap.size, 0, none⟩ = some (.slice A S.length c) := H.out.2.1.cell 0
  have q1 : W0.cell? ⟨w.heap.size, 1, none⟩ = some (.slice B P.length d) := H.out.2.1.cell 1
  go_wp2_with fail
  refine (rsmall_any W0 A c B d S P (H.out.1.below H.out.2.2.1) H.out.2.2.2.1).mono ?_
  rintro e w1 ⟨gm, kk, rfl, hk, km, hgm, b1⟩
  rw [← H.out.2.2.2.2.same H.out.2.2.2.1.spots hk] at km
  have hmk := HM.out
  have HS := Lib.hid (And.intro km (And.intro (H.out.2.2.1.trans (b1.mono H.out.2.2.1.size)) hk))
  have z1 := km.lt
  clear q0 q1 hk km hgm b1
  go_upto_region 3 with (fail)
  have g1 := Blk.new w1 4 (bools (List.replicate S.length false))
  have b1 : Below w1.heap.size w1 (w1.alloc (.cells (bools (List.replicate S.length false)) 4)) := (Below.refl _ _).alloc (Nat.le_refl _) _
  have HG := Lib.hid (And.intro g1 (And.intro b1 (HS.out.1.upd (Upd.of_below b1 (fun _ => False)) id)))
  clear g1 b1 hmk
  generalize w1.alloc (.cells (bools (List.replicate S.length false)) 4) = W1 at HG ⊢
  have hTl : T.length = S.length := H.out.2.2.2.2.len
  go_wp2
  go_loopw [5] (fun iv wr => ∃ (k : Nat) (I : List Bool), k ≤ S.length ∧ iv = .int .i64 k ∧ I.length = S.length ∧ (∀ j : Nat, j < k → atB I (j : Int) = decide (0 < at0 T (j : Int))) ∧ Blk wr w1.heap.size 4 (bools I) ∧ Upd (fun q => q = w1.heap.size) W1 wr) (fun iv _ => S.length - (intOf iv).toNat)
  case atStart => exact ⟨0, _, Nat.zero_le _, rfl, by simp, fun j hj => by omega, HG.out.1, Upd.refl _ _⟩
  case round =>
    obtain ⟨k, I, hk, rfl, hI, hat, kg, up⟩ := hrel
    have HR := Lib.hid (And.intro hI (And.intro hat (And.intro kg up)))
    clear hat
    by_cases hlt : k < S.length
    · have hltI : (k : Int) < (S.length : Int) := by omega
      obtain ⟨v, hv⟩ : ∃ v, at0 T (k : Int) = v := ⟨_, rfl⟩
      have m0 : wr.cell? ⟨gm, k, none⟩ = some (.int .i64 v) := by
        rw [(HG.out.2.2.upd up (fun e => by omega)).cell k, ← hv]
        exact ints_get (at0_get (by omega))
      have m1 := kg.cell k
      rw [bools_get (atB_get (by omega))] at m1
      have m2 := kg.frozen k
      have kn := kg.set k (.bool (decide (0 < v)))
      rw [bools_set] at kn
      have un := up.setCell (p := ⟨w1.heap.size, k, none⟩) (.inl rfl) (.bool (decide (0 < v)))
      have HN := Lib.hid (And.intro kn (And.intro un hv))
      have HTl := Lib.hid hTl
      clear kn un hv kg up hI hTl
      go_wp2
      go_roundw
      case rel =>
        refine ⟨k + 1, I.set k (decide (0 < v)), by omega, by go_num, by rw [List.length_set]; exact HR.out.1, fun j hj => ?_, HN.out.1, HN.out.2.1⟩
        rw [atB_set (by rw [HR.out.1]; exact hlt)]
        by_cases e : j = k
        · subst e
          rw [if_pos (by simp), HN.out.2.2]
        · rw [if_neg (by omega)]
          exact HR.out.2.1 j (by omega)
      case measure => simp [intOf]; omega
    · obtain rfl : k = S.length := by omega
      have HTl := Lib.hid hTl
      clear hlt kg up hI hTl
      go_wp2
      go_ret
      have hTl := HTl.out
      obtain ⟨hI, hat, kg, up⟩ := HR.out
      obtain rfl : I = endsB T := ext_atB (by rw [endsB_len, hI, hTl]) (fun s hs => by
        rw [hat s (by omega), endsB_at (by omega)])
      have z2 := HS.out.2.1.size
      refine ⟨w1.heap.size, congrArg (fun n => Ending.returned (.slice (some ⟨w1.heap.size, 0, none⟩) n n)) (by rw [endsB_len, hTl]), kg, by omega, (HS.out.2.1.trans (HG.out.2.1.mono z2)).trans (up.below (fun q _ e => by omega) (by have := HG.out.2.1.size; omega))⟩
end Go.Proofs.Ytbppbgdmoihooaa
