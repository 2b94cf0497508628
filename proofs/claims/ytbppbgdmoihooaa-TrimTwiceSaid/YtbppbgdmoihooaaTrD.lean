/- Forests: do a pack's parts go together, by the document (bywayref22.Goes). -/
import Derived.Test.YtbppbgdmoihooaaTrC
import Derived.Deep.Cut
namespace Go.Proofs.Ytbppbgdmoihooaa
open Go.RowKit

theorem inB_low {n : Nat} {k : Int} (h : k < 0) : inB n k = false := by simp [inB]; omega
theorem inB_high {n : Nat} {k : Int} (h : (n : Int) ≤ k) : inB n k = false := by simp [inB]; omega

set_option maxHeartbeats 4000000 in
set_option maxRecDepth 20000 in
theorem rgoes_any (w : World) (A : Option Addr) (c : Nat) (B : Option Addr) (m d : Nat) (S : List Fct) (p : Pk) (hr : RowR w A (factCells S)) (hc : S.length ≤ c) :
    Calls Try.prog 65 #[forV A S.length c B m d, p.agg] w fun e w' => e = .returned (.bool (p.goes S)) ∧ Below w.heap.size w w' := by
  obtain ⟨sp, pr, mi, le, ri⟩ := p
  unfold Pk.agg forV
  have k0 := (Blk.new w 75 #[.slice A S.length c, .slice B m d]).alloc (.cells #[.int .i64 sp, .int .i64 pr, .int .i64 mi, .int .i64 le, .int .i64 ri] 125)
  have k1 := Blk.new (w.alloc (.cells #[.slice A S.length c, .slice B m d] 75)) 125 #[.int .i64 sp, .int .i64 pr, .int .i64 mi, .int .i64 le, .int .i64 ri]
  simp only [World.size_alloc] at k1
  have u1 : Below w.heap.size w ((w.alloc (.cells #[.slice A S.length c, .slice B m d] 75)).alloc (.cells #[.int .i64 sp, .int .i64 pr, .int .i64 mi, .int .i64 le, .int .i64 ri] 125)) := ((Below.refl _ _).alloc (Nat.le_refl _) _).alloc (by simp) _
  have z1 : ((w.alloc (.cells #[.slice A S.length c, .slice B m d] 75)).alloc (.cells #[.int .i64 sp, .int .i64 pr, .int .i64 mi, .int .i64 le, .int .i64 ri] 125)).heap.size = w.heap.size + 2 := by simp
  have hcI : (S.length : Int) ≤ (c : Int) := by omega
  have H0 := Lib.hid (And.intro k0 (And.intro k1 (And.intro u1 (And.intro z1 (And.intro hr hc)))))
  clear k0 k1 u1 z1 hr hc
  by_cases s0 : sp < 0
  · have e0 : decide (sp < 0) = true := by simpa using s0
    have kk := Lib.hid s0
    clear s0
    go_enter Try.func65, Try.ntmps65
    go_wp2
    go_ret
    exact ⟨by simp [Pk.goes, inB_low kk.out], H0.out.2.2.1⟩
  have e0 : decide (sp < 0) = false := by simpa using s0
  by_cases s1 : (S.length : Int) ≤ sp
  · have e1 : decide ((S.length : Int) ≤ sp) = true := by simpa using s1
    have kk := Lib.hid s1
    clear s0 s1
    go_enter Try.func65, Try.ntmps65
    go_wp2
    go_ret
    exact ⟨by simp [Pk.goes, inB_high kk.out], H0.out.2.2.1⟩
  have hs : inB S.length sp = true := inB_iff.2 ⟨by omega, by omega⟩
  clear s0 s1 e0
  obtain ⟨i, rfl, hi⟩ := inB_get hs
  have e1 : decide (S.length ≤ i) = false := by simp; omega
  by_cases hp : pr < 0
  · have ep : decide (pr < 0) = true := by simpa using hp
    have kk := Lib.hid hp
    clear hp
    go_enter Try.func65, Try.ntmps65
    go_wp2
    go_ret
    exact ⟨by have := kk.out; simp [Pk.goes, this], H0.out.2.2.1⟩
  have ep : decide (pr < 0) = false := by simpa using hp
  by_cases hm : mi < 0
  · have em : decide (mi < 0) = true := by simpa using hm
    have kk := Lib.hid hm
    clear hp hm
    go_enter Try.func65, Try.ntmps65
    go_wp2
    go_ret
    exact ⟨by have := kk.out; simp [Pk.goes, this], H0.out.2.2.1⟩
  have em : decide (mi < 0) = false := by simpa using hm
  have kp := Lib.hid hp
  have km := Lib.hid hm
  have ks := Lib.hid hs
  clear hp hm hs
  by_cases hl : le = -1
  · subst hl
    by_cases hri : ri = -1
    · subst hri
      go_enter Try.func65, Try.ntmps65
      go_wp2
      go_ret
      exact ⟨by have h1 := kp.out; have h2 := km.out; simp [Pk.goes, h1, h2, ks.out]; rfl, H0.out.2.2.1⟩
    · have er : (ri == -1) = false := by simpa using hri
      have kr := Lib.hid hri
      clear hri
      go_enter Try.func65, Try.ntmps65
      go_wp2
      go_ret
      exact ⟨by have h1 := kp.out; have h2 := km.out; have h3 := kr.out; simp [Pk.goes, h1, h2, h3, ks.out, inB_low (n := S.length) (k := -1) (by omega)], H0.out.2.2.1⟩
  have el : (le == -1) = false := by simpa using hl
  have kl := Lib.hid hl
  by_cases s0 : le < 0
  · have e0 : decide (le < 0) = true := by simpa using s0
    have kk := Lib.hid s0
    clear s0 hl
    go_enter Try.func65, Try.ntmps65
    go_wp2
    go_ret
    exact ⟨by have h1 := kp.out; have h2 := km.out; have h3 := kl.out; simp [Pk.goes, h1, h2, h3, inB_low kk.out], H0.out.2.2.1⟩
  by_cases s1 : (S.length : Int) ≤ le
  · have e0 : decide (le < 0) = false := by simpa using s0
    have e2 : decide ((S.length : Int) ≤ le) = true := by simpa using s1
    have kk := Lib.hid s1
    clear s0 s1 hl
    go_enter Try.func65, Try.ntmps65
    go_wp2
    go_ret
    exact ⟨by have h1 := kp.out; have h2 := km.out; have h3 := kl.out; simp [Pk.goes, h1, h2, h3, inB_high kk.out], H0.out.2.2.1⟩
  have hlb : inB S.length le = true := inB_iff.2 ⟨by omega, by omega⟩
  obtain ⟨j, rfl, hj⟩ := inB_get hlb
  have e2 : decide (S.length ≤ j) = false := by simp; omega
  have klb := Lib.hid hlb
  clear s0 s1 hlb hl el
  by_cases s0 : ri < 0
  · have e0 : decide (ri < 0) = true := by simpa using s0
    have kk := Lib.hid s0
    clear s0
    go_enter Try.func65, Try.ntmps65
    go_wp2
    go_ret
    exact ⟨by have h1 := kp.out; have h2 := km.out; have h3 := kl.out; simp [Pk.goes, h1, h2, h3, inB_low kk.out], H0.out.2.2.1⟩
  by_cases s1 : (S.length : Int) ≤ ri
  · have e0 : decide (ri < 0) = false := by simpa using s0
    have e3 : decide ((S.length : Int) ≤ ri) = true := by simpa using s1
    have kk := Lib.hid s1
    clear s0 s1
    go_enter Try.func65, Try.ntmps65
    go_wp2
    go_ret
    exact ⟨by have h1 := kp.out; have h2 := km.out; have h3 := kl.out; simp [Pk.goes, h1, h2, h3, inB_high kk.out], H0.out.2.2.1⟩
  have hrb : inB S.length ri = true := inB_iff.2 ⟨by omega, by omega⟩
  obtain ⟨k, rfl, hk⟩ := inB_get hrb
  have e3 : decide (S.length ≤ k) = false := by simp; omega
  have krb := Lib.hid hrb
  clear s0 s1 hrb
  obtain ⟨⟨s0, s1, s2⟩, hfs⟩ : ∃ s, S[i]? = some s := ⟨S[i], List.getElem?_eq_getElem hi⟩
  obtain ⟨⟨l0, l1, l2⟩, hfl⟩ : ∃ s, S[j]? = some s := ⟨S[j], List.getElem?_eq_getElem hj⟩
  obtain ⟨⟨t0, t1, t2⟩, hfr⟩ : ∃ s, S[k]? = some s := ⟨S[k], List.getElem?_eq_getElem hk⟩
  obtain ⟨k0, k1, u1, z1, hr, hc⟩ := H0.out
  obtain ⟨gb, go, rfl, a0, a1, a2⟩ := (hr.below u1).fact hfs
  obtain ⟨gb', go', e', b0, b1, b2⟩ := (hr.below u1).fact hfl
  injection e' with e'; injection e' with e' e''; subst e'; subst e''
  obtain ⟨gb', go', e', d0, d1, d2⟩ := (hr.below u1).fact hfr
  injection e' with e'; injection e' with e' e''; subst e'; subst e''
  have val : (⟨(i : Int), pr, mi, (j : Int), (k : Int)⟩ : Pk).goes S = meetB ⟨s0, s1, s2⟩ ⟨l0, l1, l2⟩ ⟨t0, t1, t2⟩ mi := by
    have h1 := kp.out; have h2 := km.out; have h3 := kl.out
    simp [Pk.goes, h1, h2, h3, ks.out, klb.out, krb.out, hfs, hfl, hfr]
  have VAL := Lib.hid val
  have klh := Lib.hid kl.out
  have n0 : decide ((i : Int) < 0) = false := by simp
  have n1 : decide ((j : Int) < 0) = false := by simp
  have n2 : decide ((k : Int) < 0) = false := by simp
  have n3 : ((j : Int) == -1) = false := by simp <;> omega
  go_enter Try.func65, Try.ntmps65
  clear val hfs hfl hfr kl
  go_upto_region 8 with (fail)
  generalize (w.alloc (.cells #[.slice (some ⟨gb, go, none⟩) S.length c, .slice B m d] 75)).alloc (.cells #[.int .i64 (i : Int), .int .i64 pr, .int .i64 mi, .int .i64 (j : Int), .int .i64 (k : Int)] 125) = W at k0 k1 u1 z1 a0 a1 a2 b0 b1 b2 d0 d1 d2 ⊢
  have lg := World.block_lt_of_cell? W _ a0
  simp only at lg
  have y0 : w.heap.size < W.heap.size := by omega
  have y1 : w.heap.size < W.heap.size + 1 := by omega
  have y2 : w.heap.size < W.heap.size + 1 + 1 := by omega
  have y3 : w.heap.size + 1 < W.heap.size := by omega
  have y4 : w.heap.size + 1 < W.heap.size + 1 := by omega
  have y5 : w.heap.size + 1 < W.heap.size + 1 + 1 := by omega
  have g1 : gb < W.heap.size + 1 := by omega
  have g2 : gb < W.heap.size + 1 + 1 := by omega
  have q0 : W.cell? ⟨w.heap.size, 0, none⟩ = some (.slice (some ⟨gb, go, none⟩) S.length c) := k0.cell 0
  have r0 := k1.cell 0
  have r1 := k1.cell 1
  have r2 := k1.cell 2
  have r3 := k1.cell 3
  have r4 := k1.cell 4
  simp only [List.getElem?_toArray, List.getElem?_cons_succ, List.getElem?_cons_zero] at r0 r1 r2 r3 r4
  have HB := Lib.hid u1
  clear k0 k1 u1 z1 hr H0
  have HV := Lib.hid (And.intro VAL.out (And.intro hi (And.intro hj (And.intro hk klh.out))))
  go_wp2
  all_goals first
    | (go_ret
       refine ⟨?_, ?_⟩
       · rw [HV.out.1]
         first | (simp_all [meetB]; done) | (simp_all [meetB]; rfl)
       · exact HB.out.trans ((by (repeat (first | exact Below.refl _ _ | apply Below.drew | refine Below.alloc ?_ (by first | exact Nat.le_refl _ | (simp; done) | (simp; omega)) _ | refine Below.setCell ?_ (by first | exact Nat.le_refl _ | (simp; done) | (simp; omega)) _)) : Below W.heap.size W _).mono HB.out.size))
    | (exfalso; simp_all; done)
    | (exfalso; omega)
end Go.Proofs.Ytbppbgdmoihooaa
