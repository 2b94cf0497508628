/- Forests: how many packs the shortest derivations have, by the document (bywayref29.Small). -/
import Derived.Test.YtbppbgdmoihooaaTrM
namespace Go.Proofs.Ytbppbgdmoihooaa
open Go.RowKit

theorem weight_lt {u v : List Int} (hl : u.length = v.length) (hu : Val u) (hv : Val v) (h : ∀ s : Nat, rk (at0 u s) ≤ rk (at0 v s)) (hne : u ≠ v) : weight u < weight v := by
  induction u generalizing v with
  | nil => cases v with
    | nil => exact (hne rfl).elim
    | cons b v => simp at hl
  | cons a u ih => cases v with
    | nil => simp at hl
    | cons b v =>
      have h0 : rk a ≤ rk b := by have := h 0; simpa [at0] using this
      have ht : ∀ s : Nat, rk (at0 u s) ≤ rk (at0 v s) := fun s => by
        have := h (s + 1)
        have e1 : ((s + 1 : Nat) : Int).toNat = s + 1 := by omega
        unfold at0 at this ⊢
        rw [e1] at this
        simpa using this
      have hu' : Val u := fun x hx => hu x (by simp [hx])
      have hv' : Val v := fun x hx => hv x (by simp [hx])
      by_cases e : u = v
      · subst e
        have hab : a ≠ b := fun e => hne (by rw [e])
        have : rk a ≠ rk b := fun e => hab (rk_inj (hu a (by simp)) (hv b (by simp)) e)
        simp [weight]
        omega
      · have := ih (by simpa using hl) hu' hv' ht e
        simp [weight] at this ⊢
        omega

/-- The document's round, in the midst. -/
def midF (P : List Pk) (old : List Int) (n i : Nat) : List Int := (P.take i).foldl (roundStep old) (List.replicate n 0)
theorem midF_succ {P : List Pk} {old : List Int} {n i : Nat} {p : Pk} (h : P[i]? = some p) : midF P old n (i + 1) = roundStep old (midF P old n i) p := by
  unfold midF
  rw [tk_snoc h, List.foldl_append]
  rfl
theorem midF_len (P : List Pk) (old : List Int) (n i : Nat) : (midF P old n i).length = n := by unfold midF; rw [fold_len]; simp
theorem midF_val {P : List Pk} {old : List Int} {n : Nat} (ho : Val old) (hp : SpotsIn n P) (i : Nat) : Val (midF P old n i) :=
  (roundF_rnd (P := P.take i) ho (fun p hm => hp p (List.mem_of_mem_take hm))).val

/-- The last round's list comes back. -/
def RSmall (w : World) (n : Nat) (P : List Pk) (e : Ending) (w' : World) : Prop :=
  ∃ g k, e = .returned (.slice (some ⟨g, 0, none⟩) n n) ∧ rounds P n (k + 1) = rounds P n k ∧ Blk w' g 3 (ints (rounds P n k)) ∧ w.heap.size ≤ g ∧ Below w.heap.size w w'

set_option maxHeartbeats 4000000 in
set_option maxRecDepth 20000 in
theorem rsmall_any (w : World) (A : Option Addr) (c : Nat) (B : Option Addr) (d : Nat) (S : List Fct) (P : List Pk) (h : ForR w A c B d S P) (ho : OkFor S P) :
    Calls Try.prog 40 #[forV A S.length c B P.length d] w (RSmall w S.length P) := by
  have k0 := Blk.new w 75 #[.slice A S.length c, .slice B P.length d]
  have u0 : Below w.heap.size w (w.alloc (.cells #[.slice A S.length c, .slice B P.length d] 75)) := (Below.refl _ _).alloc (Nat.le_refl _) _
  have z0 : (w.alloc (.cells #[.slice A S.length c, .slice B P.length d] 75)).heap.size = w.heap.size + 1 := by simp
  have hS8 : S.length * 8 ≤ 140737488355328 := by have := h.fit.s; omega
  have hmk := fun w : World => mk_ints w S.length hS8
  have hdI : (P.length : Int) ≤ (d : Int) := by have := h.hd; omega
  have hP8 : P.length ≤ 100000000000000 := by have := h.fit.p; omega
  have H := Lib.hid (And.intro h (And.intro ho (And.intro k0 (And.intro u0 z0))))
  clear h ho k0 u0 z0
  go_enter Try.func40, Try.ntmps40
  unfold forV
  go_upto_region 1 with (fail)
  generalize w.alloc (.cells #[.slice A S.length c, .slice B P.length d] 75) = W0 at H ⊢
  have q0 : W0.cell? ⟨w.heap.size, 0, none⟩ = some (.slice A S.length c) := H.out.2.2.1.cell 0
  have start : Blk (W0.alloc (.cells (ints (List.replicate S.length 0)) 3)) W0.heap.size 3 (ints (rounds P S.length 0)) := Blk.new _ _ _
  have bst : Below W0.heap.size W0 (W0.alloc (.cells (ints (List.replicate S.length 0)) 3)) := (Below.refl _ _).alloc (Nat.le_refl _) _
  have HS := Lib.hid (And.intro start bst)
  clear start bst
  go_wp2
  clear q0
  generalize W0.alloc (.cells (ints (List.replicate S.length 0)) 3) = W1 at HS ⊢
  go_loopg [3] (weight (rounds P S.length 0) + 1) (fun g ov wr => ∃ k ob : Nat, ov = .slice (some ⟨ob, 0, none⟩) S.length S.length ∧ Blk wr ob 3 (ints (rounds P S.length k)) ∧ weight (rounds P S.length k) < g ∧ Below W0.heap.size W0 wr ∧ W0.heap.size ≤ ob)
  case atStart => exact ⟨0, W0.heap.size, rfl, HS.out.1, Nat.lt_succ_self _, HS.out.2, Nat.le_refl _⟩
  case round =>
    obtain ⟨k, ob, rfl, hob, hwt, bel, hge⟩ := hrel
    obtain ⟨wo, rfl⟩ : ∃ wo : World, wo = wr := ⟨_, rfl⟩
    have kb := H.out.2.2.1.upd (Upd.of_below bel (fun _ => False)) id
    have q0 : wo.cell? ⟨w.heap.size, 0, none⟩ = some (.slice A S.length c) := kb.cell 0
    have hval := rounds_val H.out.2.1.spots k
    have hlen := rounds_len P S.length k
    obtain ⟨old, hold⟩ : ∃ old, rounds P S.length k = old := ⟨_, rfl⟩
    rw [hold] at hob hval hlen hwt
    have kn : Blk (wo.alloc (.cells (ints (List.replicate S.length 0)) 3)) wo.heap.size 3 (ints (midF P old S.length 0)) := Blk.new _ _ _
    have HB := Lib.hid (And.intro hob (And.intro hwt (And.intro bel (And.intro hge (And.intro hval (And.intro hlen (And.intro hold kb)))))))
    have HN := Lib.hid (And.intro kn (And.intro ((Below.refl wo.heap.size wo).alloc (Nat.le_refl _) (.cells (ints (List.replicate S.length 0)) 3)) (by simp : (wo.alloc (.cells (ints (List.replicate S.length 0)) 3)).heap.size = wo.heap.size + 1)))
    clear hob hwt bel hge hval hlen hold kb kn
    go_upto_region 3 with (fail)
    clear q0
    generalize wo.alloc (.cells (ints (List.replicate S.length 0)) 3) = W2 at HN ⊢
    go_wp2
    go_loopw [5] (fun iv wr => ∃ i : Nat, i ≤ P.length ∧ iv = .int .i64 i ∧ Blk wr wo.heap.size 3 (ints (midF P old S.length i)) ∧ Upd (fun q => q = wo.heap.size) W2 wr) (fun iv _ => P.length - (intOf iv).toNat)
    case atStart => exact ⟨0, Nat.zero_le _, rfl, HN.out.1, Upd.refl _ _⟩
    case round =>
      obtain ⟨i, hi, rfl, kn, upd⟩ := hrel
      have lw := HB.out.2.2.2.2.2.2.2.lt
      have lob := HB.out.1.lt
      have bW2 : Below w.heap.size w W2 := H.out.2.2.2.1.trans ((HB.out.2.2.1.trans (HN.out.2.1.mono HB.out.2.2.1.size)).mono H.out.2.2.2.1.size)
      have bwr : Below w.heap.size w wr := bW2.trans (upd.below (fun q _ e => by omega) bW2.size)
      have kbr := (HB.out.2.2.2.2.2.2.2.upd (Upd.of_below HN.out.2.1 (fun _ => False)) id).upd upd (by omega)
      have kob := (HB.out.1.upd (Upd.of_below HN.out.2.1 (fun _ => False)) id).upd upd (by omega)
      have q0 : wr.cell? ⟨w.heap.size, 0, none⟩ = some (.slice A S.length c) := kbr.cell 0
      have q1 : wr.cell? ⟨w.heap.size, 1, none⟩ = some (.slice B P.length d) := kbr.cell 1
      have HR := Lib.hid (And.intro kn (And.intro upd (And.intro bwr (And.intro kob kbr))))
      clear kn upd bwr kob kbr bW2
      by_cases hlt : i < P.length
      · obtain ⟨⟨p0, p1, p2, p3, p4⟩, hp⟩ : ∃ p, P[i]? = some p := ⟨P[i], List.getElem?_eq_getElem hlt⟩
        have hpk := H.out.2.1.pk hp
        obtain ⟨⟨s, e, hs⟩, hlr⟩ := hpk
        dsimp only at e
        subst e
        have hpk : PkIn S.length ⟨(s : Int), p1, p2, p3, p4⟩ := ⟨⟨s, rfl, hs⟩, hlr⟩
        obtain ⟨gb, go, rfl, a0, a1, a2, a3, a4⟩ := (H.out.1.rp.below HR.out.2.2.1).pack hp
        have hsI : (s : Int) < (S.length : Int) := by omega
        have hlt' : (i : Int) < (P.length : Int) := by omega
        have kx := Blk.new wr 125 #[.int .i64 (s : Int), .int .i64 p1, .int .i64 p2, .int .i64 p3, .int .i64 p4]
        have bx : Below wr.heap.size wr (wr.alloc (.cells #[.int .i64 (s : Int), .int .i64 p1, .int .i64 p2, .int .i64 p3, .int .i64 p4] 125)) := (Below.refl _ _).alloc (Nat.le_refl _) _
        have HK := Lib.hid (And.intro kx (And.intro bx (And.intro hp hpk)))
        clear kx bx hp hpk hlr
        go_upto_region 7 with (fail)
        clear a0 a1 a2 a3 a4 q0 q1
        generalize wr.alloc (.cells #[.int .i64 (s : Int), .int .i64 p1, .int .i64 p2, .int .i64 p3, .int .i64 p4] 125) = wa at HK ⊢
        have x0 : wa.cell? ⟨wr.heap.size, 0, none⟩ = some (.int .i64 (s : Int)) := HK.out.1.cell 0
        have x1 : wa.cell? ⟨wr.heap.size, 1, none⟩ = some (.int .i64 p1) := HK.out.1.cell 1
        have x2 : wa.cell? ⟨wr.heap.size, 2, none⟩ = some (.int .i64 p2) := HK.out.1.cell 2
        have x3 : wa.cell? ⟨wr.heap.size, 3, none⟩ = some (.int .i64 p3) := HK.out.1.cell 3
        have x4 : wa.cell? ⟨wr.heap.size, 4, none⟩ = some (.int .i64 p4) := HK.out.1.cell 4
        go_wp2_with fail
        refine (steps_any wa ob S.length S.length old ⟨(s : Int), p1, p2, p3, p4⟩ (HR.out.2.2.2.1.upd (Upd.of_below HK.out.2.1 (fun _ => False)) id) HB.out.2.2.2.2.2.1 (Nat.le_refl _) HB.out.2.2.2.2.1 HK.out.2.2.2).mono ?_
        rintro e w4 ⟨rfl, b4⟩
        clear x0 x1 x2 x3 x4
        obtain ⟨st, hst⟩ : ∃ st, steps ⟨(s : Int), p1, p2, p3, p4⟩ old = st := ⟨_, rfl⟩
        rw [hst]
        obtain ⟨o, hoo⟩ : ∃ o, at0 (midF P old S.length i) (s : Int) = o := ⟨_, rfl⟩
        have k4 := (HR.out.1.upd (Upd.of_below HK.out.2.1 (fun _ => False)) id).upd (Upd.of_below b4 (fun _ => False)) id
        have x0 : w4.cell? ⟨wr.heap.size, 0, none⟩ = some (.int .i64 (s : Int)) := (HK.out.1.upd (Upd.of_below b4 (fun _ => False)) id).cell 0
        have m0 := k4.cell s
        rw [ints_get (at0_get (by rw [midF_len]; exact hs)), hoo] at m0
        have m1 := k4.frozen s
        have u4 : Upd (fun q => q = wo.heap.size) W2 w4 := (HR.out.2.1.trans (Upd.of_below HK.out.2.1 (fun _ => False)) (fun _ h => h.elim)).trans (Upd.of_below b4 (fun _ => False)) (fun _ h => h.elim)
        have hsv : 0 ≤ st ∧ st ≤ 4097 := by rw [← hst]; exact steps_val HB.out.2.2.2.2.1
        have hov : 0 ≤ o ∧ o ≤ 4097 := by rw [← hoo]; exact (midF_val HB.out.2.2.2.2.1 H.out.2.1.spots i).at _
        have hnb : nextB (midF P old S.length i) ⟨(s : Int), p1, p2, p3, p4⟩ st = (decide (st > 0) && (decide (o = 0) || decide (st < o))) := by unfold nextB; rw [hoo]
        have hms : midF P old S.length (i + 1) = if nextB (midF P old S.length i) ⟨(s : Int), p1, p2, p3, p4⟩ st then (midF P old S.length i).set s st else midF P old S.length i := by
          rw [midF_succ HK.out.2.2.1]
          unfold roundStep
          rw [hst]
          rfl
        rw [hnb] at hms
        have kset := k4.set s (.int .i64 st)
        rw [ints_set] at kset
        have uset := u4.setCell (p := ⟨wo.heap.size, s, none⟩) (.inl rfl) (.int .i64 st)
        have H4 := Lib.hid (And.intro k4 (And.intro u4 (And.intro hms (And.intro kset uset))))
        clear k4 u4 hms kset uset hst hoo hnb b4
        by_cases hs0 : st = 0
        · subst hs0
          go_wp2
          go_roundw
          case rel => exact ⟨i + 1, by omega, by go_num, by rw [H4.out.2.2.1]; simpa using H4.out.1, H4.out.2.1⟩
          case measure => simp [intOf]; omega
        · have e0 : decide (0 < st) = true := by simp; omega
          by_cases ho0 : o = 0
          · subst ho0
            have KS := Lib.hid hs0
            have hpos : st > 0 := by omega
            have KP := Lib.hid hpos
            clear hs0 hpos
            go_wp2
            go_roundw
            case rel => exact ⟨i + 1, by omega, by go_num, by rw [H4.out.2.2.1, if_pos (by simp; exact KP.out)]; exact H4.out.2.2.2.1, H4.out.2.2.2.2⟩
            case measure => simp [intOf]; omega
          · have e1 : (o == 0) = false := by simpa using ho0
            by_cases hlo : st < o
            · have e2 : decide (st < o) = true := by simpa using hlo
              have KP := Lib.hid (And.intro (show st > 0 by omega) hlo)
              clear hs0 ho0 hlo
              go_wp2
              go_roundw
              case rel => exact ⟨i + 1, by omega, by go_num, by rw [H4.out.2.2.1, if_pos (by simp; exact ⟨KP.out.1, .inr KP.out.2⟩)]; exact H4.out.2.2.2.1, H4.out.2.2.2.2⟩
              case measure => simp [intOf]; omega
            · have e2 : decide (st < o) = false := by simpa using hlo
              have KP := Lib.hid (And.intro ho0 hlo)
              clear hs0 ho0 hlo
              go_wp2
              go_roundw
              case rel => exact ⟨i + 1, by omega, by go_num, by rw [H4.out.2.2.1, if_neg (by simp; intro _; exact ⟨KP.out.1, by have := KP.out.2; omega⟩)]; exact H4.out.1, H4.out.2.1⟩
              case measure => simp [intOf]; omega
      · obtain rfl : i = P.length := by omega
        clear hlt
        have knw := HR.out.1
        have hfin : midF P old S.length P.length = rounds P S.length (k + 1) := by
          show _ = roundF P (rounds P S.length k) S.length
          rw [HB.out.2.2.2.2.2.2.1]
          unfold midF roundF
          rw [List.take_length]
        rw [hfin] at knw
        obtain ⟨nx, hnx⟩ : ∃ nx, rounds P S.length (k + 1) = nx := ⟨_, rfl⟩
        rw [hnx] at knw
        have HF := Lib.hid (And.intro knw hnx)
        clear knw hnx hfin
        obtain ⟨w8, rfl⟩ : ∃ w8 : World, w8 = wr := ⟨_, rfl⟩
        go_wp2
        clear q0 q1
        have lo : old.length = S.length := HB.out.2.2.2.2.2.1
        have ln : nx.length = S.length := by rw [← HF.out.2]; exact rounds_len _ _ _
        have LO := Lib.hid (And.intro lo ln)
        clear lo ln
        go_loopw [8, 9] (fun bv iv wr => ∃ (b : Bool) (i nq : Nat), i ≤ S.length ∧ bv = .bool b ∧ iv = .int .i64 i ∧ (b = true ↔ old.take i = nx.take i) ∧ wr = w8.drewN nq) (fun _ iv _ => S.length - (intOf iv).toNat)
        case atStart => exact ⟨true, 0, 0, Nat.zero_le _, rfl, rfl, by simp, rfl⟩
        case round =>
          obtain ⟨b, i, nq, hi, rfl, rfl, hb, rfl⟩ := hrel
          have HC := Lib.hid hb
          clear hb
          by_cases hlt : i < S.length
          · have o1 : old[i]? = some (at0 old (i : Int)) := at0_get (by have := LO.out.1; omega)
            have o2 : nx[i]? = some (at0 nx (i : Int)) := at0_get (by have := LO.out.2; omega)
            have c1 := HR.out.2.2.2.1.cell i
            rw [ints_get o1] at c1
            have c2 := HF.out.1.cell i
            rw [ints_get o2] at c2
            have t1 := tk_snoc o1
            have t2 := tk_snoc o2
            obtain ⟨x, hx⟩ : ∃ x, at0 old (i : Int) = x := ⟨_, rfl⟩
            obtain ⟨y, hy⟩ : ∃ y, at0 nx (i : Int) = y := ⟨_, rfl⟩
            rw [hx] at c1 t1
            rw [hy] at c2 t2
            have hltI : (i : Int) < (S.length : Int) := by omega
            have HT := Lib.hid (And.intro t1 t2)
            clear t1 t2 o1 o2 hx hy
            cases b with
            | false =>
              go_wp2
              go_quiet (fail)
              go_wp2
              go_roundw
              case rel =>
                refine ⟨false, i + 1, _, by omega, rfl, by go_num, ⟨fun h => (by cases h), fun h => ?_⟩, rfl⟩
                rw [HT.out.1, HT.out.2] at h
                have := List.append_inj' h rfl
                exact HC.out.2 this.1
              case measure => simp [intOf]; omega
            | true =>
              by_cases hxy : x = y
              · have e1 : (x == y) = true := by simpa using hxy
                have KX := Lib.hid hxy
                clear hxy
                go_wp2
                go_quiet (fail)
                go_wp2
                go_roundw
                case rel =>
                  refine ⟨true, i + 1, _, by omega, rfl, by go_num, ⟨fun _ => ?_, fun _ => rfl⟩, rfl⟩
                  rw [HT.out.1, HT.out.2, HC.out.1 (by first | rfl | trivial), KX.out]
                case measure => simp [intOf]; omega
              · have e1 : (x == y) = false := by simpa using hxy
                have KX := Lib.hid hxy
                clear hxy
                go_wp2
                go_quiet (fail)
                go_wp2
                go_roundw
                case rel =>
                  refine ⟨false, i + 1, _, by omega, rfl, by go_num, ⟨fun h => (by cases h), fun h => ?_⟩, rfl⟩
                  rw [HT.out.1, HT.out.2] at h
                  have := (List.append_inj' h rfl).2
                  injection this with this
                  exact (KX.out this).elim
                case measure => simp [intOf]; omega
          · obtain rfl : i = S.length := by omega
            clear hlt
            have hall := HC.out
            rw [List.take_of_length_le (by have := LO.out.1; omega), List.take_of_length_le (by have := LO.out.2; omega)] at hall
            have HA := Lib.hid hall
            clear hall
            have bfin : Below wo.heap.size wo w8 := HN.out.2.1.trans (HR.out.2.1.below (fun q _ e => by omega) HN.out.2.1.size)
            have BF := Lib.hid bfin
            clear bfin
            cases b with
            | true =>
              go_wp2
              go_ret
              have heq := HA.out.1 (by first | rfl | trivial)
              refine ⟨wo.heap.size, k, rfl, by rw [HF.out.2, HB.out.2.2.2.2.2.2.1]; exact heq.symm, ?_, by omega, below_drewN HR.out.2.2.1 _⟩
              rw [HB.out.2.2.2.2.2.2.1, heq]
              exact HF.out.1.drewN _
            | false =>
              go_wp2
              go_roundg (weight old)
              case measure => exact HB.out.2.1
              case rel =>
                refine ⟨k + 1, wo.heap.size, rfl, by rw [HF.out.2]; exact HF.out.1.drewN _, ?_, below_drewN (HB.out.2.2.1.trans (BF.out.mono HB.out.2.2.1.size)) _, HB.out.2.2.1.size⟩
                rw [← HB.out.2.2.2.2.2.2.1]
                refine weight_lt (by rw [rounds_len, rounds_len]) (rounds_val H.out.2.1.spots _) (rounds_val H.out.2.1.spots _) (rounds_down H.out.2.1.spots k) (fun e => ?_)
                rw [HF.out.2, HB.out.2.2.2.2.2.2.1] at e
                have := HA.out.2 e.symm
                cases this
end Go.Proofs.Ytbppbgdmoihooaa
