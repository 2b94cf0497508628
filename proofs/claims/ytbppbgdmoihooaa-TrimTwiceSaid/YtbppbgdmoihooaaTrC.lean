/- Forests: do a pack's parts go together (sppf.goes, bywayref22.Goes). -/
import Derived.Test.YtbppbgdmoihooaaTrB
import Derived.Test.YtbppbgdmoihooaaOrdPre
namespace Go.Proofs.Ytbppbgdmoihooaa
open Go.RowKit

theorem below_undrew2 (B : Nat) (W : World) : Below B W W.drew := ⟨rfl, rfl, rfl, Nat.le_refl _, fun _ _ => rfl⟩
theorem below_undrew (B : Nat) (W : World) : Below B W.drew W := ⟨rfl, rfl, rfl, Nat.le_refl _, fun _ _ => rfl⟩
def inB (n : Nat) (k : Int) : Bool := decide (0 ≤ k) && decide (k < (n : Int))
theorem inB_iff {n : Nat} {k : Int} : inB n k = true ↔ 0 ≤ k ∧ k < (n : Int) := by simp [inB]
theorem inB_get {n : Nat} {k : Int} (h : inB n k = true) : ∃ i : Nat, k = i ∧ i < n := by
  rw [inB_iff] at h
  exact ⟨k.toNat, by omega, by omega⟩

/-- The parts of three facts meet. -/
def meetB (s l r : Fct) (mid : Int) : Bool := decide (l.fr = s.fr) && decide (l.to = mid) && decide (r.fr = mid) && decide (r.to = s.to)
def Pk.goes (S : List Fct) (p : Pk) : Bool :=
  if inB S.length p.spot = true ∧ ¬ p.prod < 0 ∧ ¬ p.mid < 0 then
    if p.left = -1 ∧ p.right = -1 then decide (p.mid = 0)
    else if inB S.length p.left = true ∧ inB S.length p.right = true then
      match S[p.spot.toNat]?, S[p.left.toNat]?, S[p.right.toNat]? with
      | some s, some l, some r => meetB s l r p.mid
      | _, _, _ => false
    else false
  else false

set_option maxRecDepth 20000 in
theorem place_any (w : World) (b : Nat) (A : Option Addr) (n c : Nat) (k : Int) (h : w.cell? ⟨b, 0, none⟩ = some (.slice A n c)) :
    Calls Try.prog 87 #[.int .i64 k, .pointer (some ⟨b, 0, none⟩)] w fun e w' => e = .returned (.bool (inB n k)) ∧ w = w' := by
  by_cases h0 : 0 ≤ k
  · go_enter Try.func87, Try.ntmps87
    go_wp2
    go_ret
    exact ⟨by simp [inB, h0], rfl⟩
  · have e0 : decide (0 ≤ k) = false := by simpa using h0
    have kk := Lib.hid h0
    clear h0
    go_enter Try.func87, Try.ntmps87
    go_wp2
    go_ret
    exact ⟨by have := kk.out; simp [inB]; omega, rfl⟩

set_option maxHeartbeats 2000000 in
set_option maxRecDepth 20000 in
theorem goes_any (w : World) (A : Option Addr) (c : Nat) (B : Option Addr) (m d : Nat) (S : List Fct) (p : Pk) (hr : RowR w A (factCells S)) (hc : S.length ≤ c) :
    Calls Try.prog 75 #[forV A S.length c B m d, p.agg] w fun e w' => e = .returned (.bool (p.goes S)) ∧ Below w.heap.size w w' := by
  obtain ⟨sp, pr, mi, le, ri⟩ := p
  unfold Pk.agg forV
  have k0 := (Blk.new w 75 #[.slice A S.length c, .slice B m d]).alloc (.cells #[.int .i64 sp, .int .i64 pr, .int .i64 mi, .int .i64 le, .int .i64 ri] 125)
  have k1 := Blk.new (w.alloc (.cells #[.slice A S.length c, .slice B m d] 75)) 125 #[.int .i64 sp, .int .i64 pr, .int .i64 mi, .int .i64 le, .int .i64 ri]
  simp only [World.size_alloc] at k1
  have u1 : Below w.heap.size w ((w.alloc (.cells #[.slice A S.length c, .slice B m d] 75)).alloc (.cells #[.int .i64 sp, .int .i64 pr, .int .i64 mi, .int .i64 le, .int .i64 ri] 125)) := ((Below.refl _ _).alloc (Nat.le_refl _) _).alloc (by simp) _
  have z1 : ((w.alloc (.cells #[.slice A S.length c, .slice B m d] 75)).alloc (.cells #[.int .i64 sp, .int .i64 pr, .int .i64 mi, .int .i64 le, .int .i64 ri] 125)).heap.size = w.heap.size + 2 := by simp
  have hcI : (S.length : Int) ≤ (c : Int) := by omega
  go_enter Try.func75, Try.ntmps75
  go_wp2_with fail
  generalize (w.alloc (.cells #[.slice A S.length c, .slice B m d] 75)).alloc (.cells #[.int .i64 sp, .int .i64 pr, .int .i64 mi, .int .i64 le, .int .i64 ri] 125) = W at k0 k1 u1 z1 ⊢
  have q0 : W.cell? ⟨w.heap.size, 0, none⟩ = some (.slice A S.length c) := k0.cell 0
  have r0 := k1.cell 0
  have r1 := k1.cell 1
  have r2 := k1.cell 2
  have r3 := k1.cell 3
  have r4 := k1.cell 4
  simp only [List.getElem?_toArray, List.getElem?_cons_succ, List.getElem?_cons_zero] at r0 r1 r2 r3 r4
  have hrW := hr.below u1
  have HB := Lib.hid (And.intro u1 (And.intro z1 (And.intro hrW hc)))
  clear k0 k1 u1 z1 hr hrW hc
  by_cases hs : inB S.length sp = true
  · by_cases hp : pr < 0
    · have ep : decide (pr < 0) = true := by simpa using hp
      have kk := Lib.hid hp
      clear hp
      go_wp2_with (go_at_call 87; refine (place_any _ _ _ _ _ _ q0).mono ?_; rintro e w' ⟨rfl, rfl⟩)
      go_ret
      exact ⟨by have := kk.out; simp [Pk.goes, this], HB.out.1⟩
    · by_cases hm : mi < 0
      · have ep : decide (pr < 0) = false := by simpa using hp
        have em : decide (mi < 0) = true := by simpa using hm
        have kk := Lib.hid hm
        clear hp hm
        go_wp2_with (go_at_call 87; refine (place_any _ _ _ _ _ _ q0).mono ?_; rintro e w' ⟨rfl, rfl⟩)
        go_ret
        exact ⟨by have := kk.out; simp [Pk.goes, this], HB.out.1⟩
      · have ep : decide (pr < 0) = false := by simpa using hp
        have em : decide (mi < 0) = false := by simpa using hm
        have kp := Lib.hid hp
        have km := Lib.hid hm
        clear hp hm
        by_cases hl : le = -1
        · subst hl
          by_cases hri : ri = -1
          · subst hri
            go_wp2_with (go_at_call 87; refine (place_any _ _ _ _ _ _ q0).mono ?_; rintro e w' ⟨rfl, rfl⟩)
            go_ret
            exact ⟨by have h1 := kp.out; have h2 := km.out; simp [Pk.goes, h1, h2, hs]; rfl, HB.out.1⟩
          · have er : (ri == -1) = false := by simpa using hri
            have kr := Lib.hid hri
            have hlb : inB S.length (-1) = false := by simp [inB]
            clear hri
            go_wp2_with (go_at_call 87; refine (place_any _ _ _ _ _ _ q0).mono ?_; rintro e w' ⟨rfl, rfl⟩)
            go_ret
            exact ⟨by have h1 := kp.out; have h2 := km.out; have h3 := kr.out; simp [Pk.goes, h1, h2, h3, hs, hlb], HB.out.1⟩
        · have el : (le == -1) = false := by simpa using hl
          have kl := Lib.hid hl
          clear hl
          by_cases hlb : inB S.length le = true
          · by_cases hrb : inB S.length ri = true
            · obtain ⟨i, rfl, hi⟩ := inB_get hs
              obtain ⟨j, rfl, hj⟩ := inB_get hlb
              obtain ⟨k, rfl, hk⟩ := inB_get hrb
              obtain ⟨⟨s0, s1, s2⟩, hfs⟩ : ∃ s, S[i]? = some s := ⟨S[i], List.getElem?_eq_getElem hi⟩
              obtain ⟨⟨l0, l1, l2⟩, hfl⟩ : ∃ s, S[j]? = some s := ⟨S[j], List.getElem?_eq_getElem hj⟩
              obtain ⟨⟨t0, t1, t2⟩, hfr⟩ : ∃ s, S[k]? = some s := ⟨S[k], List.getElem?_eq_getElem hk⟩
              obtain ⟨gb, go, rfl, a0, a1, a2⟩ := HB.out.2.2.1.fact hfs
              obtain ⟨gb', go', e', b0, b1, b2⟩ := HB.out.2.2.1.fact hfl
              injection e' with e'; injection e' with e' e''; subst e'; subst e''
              obtain ⟨gb', go', e', d0, d1, d2⟩ := HB.out.2.2.1.fact hfr
              injection e' with e'; injection e' with e' e''; subst e'; subst e''
              have HF := Lib.hid (And.intro hfs (And.intro hfl hfr))
              clear hfs hfl hfr
              have val : (⟨(i : Int), pr, mi, (j : Int), (k : Int)⟩ : Pk).goes S = meetB ⟨s0, s1, s2⟩ ⟨l0, l1, l2⟩ ⟨t0, t1, t2⟩ mi := by
                have h1 := kp.out; have h2 := km.out; have h3 := kl.out
                simp [Pk.goes, h1, h2, h3, hs, hlb, hrb, HF.out.1, HF.out.2.1, HF.out.2.2]
              have VAL := Lib.hid val
              clear val
              go_wp2_with (go_at_call 87; refine (place_any _ _ _ _ _ _ q0).mono ?_; rintro e w' ⟨rfl, rfl⟩)
              clear kl kp hs hlb hrb el
              have keep : ∀ w' : World, Below W.heap.size W.drew w' → w'.cell? ⟨w.heap.size, 0, none⟩ = some (.slice (some ⟨gb, go, none⟩) S.length c) ∧ w'.cell? ⟨w.heap.size + 1, 0, none⟩ = some (.int .i64 (i : Int)) ∧ w'.cell? ⟨w.heap.size + 1, 3, none⟩ = some (.int .i64 (j : Int)) ∧ w'.cell? ⟨w.heap.size + 1, 4, none⟩ = some (.int .i64 (k : Int)) ∧
                  w'.cell? ⟨gb, go + i * 3, none⟩ = some (.int .i64 s0) ∧ w'.cell? ⟨gb, go + i * 3 + 1, none⟩ = some (.int .i64 s1) ∧ w'.cell? ⟨gb, go + i * 3 + 2, none⟩ = some (.int .i64 s2) ∧
                  w'.cell? ⟨gb, go + j * 3, none⟩ = some (.int .i64 l0) ∧ w'.cell? ⟨gb, go + j * 3 + 1, none⟩ = some (.int .i64 l1) ∧ w'.cell? ⟨gb, go + j * 3 + 2, none⟩ = some (.int .i64 l2) ∧
                  w'.cell? ⟨gb, go + k * 3, none⟩ = some (.int .i64 t0) ∧ w'.cell? ⟨gb, go + k * 3 + 1, none⟩ = some (.int .i64 t1) ∧ w'.cell? ⟨gb, go + k * 3 + 2, none⟩ = some (.int .i64 t2) ∧ w'.cell? ⟨w.heap.size + 1, 2, none⟩ = some (.int .i64 mi) := by
                intro w' hb
                have up : ∀ b o u, W.cell? ⟨b, o, none⟩ = some u → w'.cell? ⟨b, o, none⟩ = some u := fun b o u h => (hb.cell (p := ⟨b, o, none⟩) (World.block_lt_of_cell? W _ h)).trans h
                exact ⟨up _ _ _ q0, up _ _ _ r0, up _ _ _ r3, up _ _ _ r4, up _ _ _ a0, up _ _ _ a1, up _ _ _ a2, up _ _ _ b0, up _ _ _ b1, up _ _ _ b2, up _ _ _ d0, up _ _ _ d1, up _ _ _ d2, up _ _ _ r2⟩
              have KP := Lib.hid keep
              clear keep
              refine wp_region_pre (fun w' => w'.cell? ⟨w.heap.size, 0, none⟩ = some (.slice (some ⟨gb, go, none⟩) S.length c) ∧ w'.cell? ⟨w.heap.size + 1, 0, none⟩ = some (.int .i64 (i : Int)) ∧ w'.cell? ⟨w.heap.size + 1, 3, none⟩ = some (.int .i64 (j : Int)) ∧ w'.cell? ⟨w.heap.size + 1, 4, none⟩ = some (.int .i64 (k : Int)) ∧
                  w'.cell? ⟨gb, go + i * 3, none⟩ = some (.int .i64 s0) ∧ w'.cell? ⟨gb, go + i * 3 + 1, none⟩ = some (.int .i64 s1) ∧ w'.cell? ⟨gb, go + i * 3 + 2, none⟩ = some (.int .i64 s2) ∧
                  w'.cell? ⟨gb, go + j * 3, none⟩ = some (.int .i64 l0) ∧ w'.cell? ⟨gb, go + j * 3 + 1, none⟩ = some (.int .i64 l1) ∧ w'.cell? ⟨gb, go + j * 3 + 2, none⟩ = some (.int .i64 l2) ∧
                  w'.cell? ⟨gb, go + k * 3, none⟩ = some (.int .i64 t0) ∧ w'.cell? ⟨gb, go + k * 3 + 1, none⟩ = some (.int .i64 t1) ∧ w'.cell? ⟨gb, go + k * 3 + 2, none⟩ = some (.int .i64 t2) ∧ w'.cell? ⟨w.heap.size + 1, 2, none⟩ = some (.int .i64 mi)) 6
                [0, 1, 2, 3, 4, 5, 6, 7, 8, 9, 10, 11, 12, 13, 14, 15, 16, 17] (by kernel_rfl) (by kernel_rfl) (fun _ _ d _ _ h => by cases d <;> exact h) (KP.out _ (Below.refl _ _)) ?_
              iterate 18 (refine pre_take (v := ?_) rfl (by first | with_reducible rfl | kernel_rfl) ?_ ?_; rotate_left; (focus (intro wS hS; (try dsimp only at hS); go_split_ands; go_simp; (try with_reducible rfl); done)); (try simp only [Act.put, List.getElem_toArray, List.getElem_cons_succ, List.getElem_cons_zero, List.setIfInBounds_toArray, List.set_cons_zero, List.set_cons_succ]))
              refine pre_done ?_
              have zW : W.drew.heap.size = W.heap.size := rfl
              refine any_step (L := [18, 19, 20]) (by kernel_rfl) (by simp) ?_
              intro ix hix
              simp only [List.mem_cons, List.not_mem_nil, or_false] at hix
              rcases hix with rfl | rfl | rfl
              · refine any_do rfl rfl (fun K hK => ?_)
                go_simp
                refine hK _ _ (KP.out _ (by (repeat (first | exact below_undrew _ _ | exact Below.refl _ _ | apply Below.drew | refine Below.alloc ?_ (by first | exact Nat.le_refl _ | (simp; done) | (simp; omega)) _ | refine Below.setCell ?_ (by first | exact Nat.le_refl _ | (simp; done) | (simp; omega)) _)))) ?_
                clear hK K
                refine any_step (L := [19, 20]) (by kernel_rfl) (by simp) ?_
                intro ix hix
                simp only [List.mem_cons, List.not_mem_nil, or_false] at hix
                rcases hix with rfl | rfl
                · refine any_do rfl rfl (fun K hK => ?_)
                  go_simp
                  refine hK _ _ (KP.out _ (by (repeat (first | exact below_undrew _ _ | exact Below.refl _ _ | apply Below.drew | refine Below.alloc ?_ (by first | exact Nat.le_refl _ | (simp; done) | (simp; omega)) _ | refine Below.setCell ?_ (by first | exact Nat.le_refl _ | (simp; done) | (simp; omega)) _)))) ?_
                  clear hK K
                  refine any_step (L := [20]) (by kernel_rfl) (by simp) ?_
                  intro ix hix
                  simp only [List.mem_cons, List.not_mem_nil, or_false] at hix
                  subst hix
                  refine any_do rfl rfl (fun K hK => ?_)
                  go_simp
                  refine hK _ _ (KP.out _ (by (repeat (first | exact below_undrew _ _ | exact Below.refl _ _ | apply Below.drew | refine Below.alloc ?_ (by first | exact Nat.le_refl _ | (simp; done) | (simp; omega)) _ | refine Below.setCell ?_ (by first | exact Nat.le_refl _ | (simp; done) | (simp; omega)) _)))) ?_
                  clear hK K
                  refine any_step (L := [21]) (by kernel_rfl) (by simp) ?_
                  intro ix hix
                  simp only [List.mem_cons, List.not_mem_nil, or_false] at hix
                  subst hix
                  refine any_do rfl rfl (fun K hK => ?_)
                  go_simp
                  refine hK _ _ (KP.out _ (by (repeat (first | exact below_undrew _ _ | exact Below.refl _ _ | apply Below.drew | refine Below.alloc ?_ (by first | exact Nat.le_refl _ | (simp; done) | (simp; omega)) _ | refine Below.setCell ?_ (by first | exact Nat.le_refl _ | (simp; done) | (simp; omega)) _)))) ?_
                  clear hK K
                  refine any_step (L := [22]) (by kernel_rfl) (by simp) ?_
                  intro ix hix
                  simp only [List.mem_cons, List.not_mem_nil, or_false] at hix
                  subst hix
                  refine any_do rfl rfl (fun K hK => ?_)
                  go_simp
                  refine hK _ _ (KP.out _ (by (repeat (first | exact below_undrew _ _ | exact Below.refl _ _ | apply Below.drew | refine Below.alloc ?_ (by first | exact Nat.le_refl _ | (simp; done) | (simp; omega)) _ | refine Below.setCell ?_ (by first | exact Nat.le_refl _ | (simp; done) | (simp; omega)) _)))) ?_
                  clear hK K
                  refine any_step (L := [23]) (by kernel_rfl) (by simp) ?_
                  intro ix hix
                  simp only [List.mem_cons, List.not_mem_nil, or_false] at hix
                  subst hix
                  refine any_do rfl rfl (fun K hK => ?_)
                  go_simp
                  refine hK _ _ (KP.out _ (by (repeat (first | exact below_undrew _ _ | exact Below.refl _ _ | apply Below.drew | refine Below.alloc ?_ (by first | exact Nat.le_refl _ | (simp; done) | (simp; omega)) _ | refine Below.setCell ?_ (by first | exact Nat.le_refl _ | (simp; done) | (simp; omega)) _)))) ?_
                  clear hK K
                  refine any_done (by kernel_rfl) ?_
                  have kx := ((Blk.new W 101 #[.int .i64 s0, .int .i64 s1, .int .i64 s2]).alloc (.cells #[.int .i64 l0, .int .i64 l1, .int .i64 l2] 101)).alloc (.cells #[.int .i64 t0, .int .i64 t1, .int .i64 t2] 101)
                  have ky := (Blk.new (W.alloc (.cells #[.int .i64 s0, .int .i64 s1, .int .i64 s2] 101)) 101 #[.int .i64 l0, .int .i64 l1, .int .i64 l2]).alloc (.cells #[.int .i64 t0, .int .i64 t1, .int .i64 t2] 101)
                  have kz := Blk.new ((W.alloc (.cells #[.int .i64 s0, .int .i64 s1, .int .i64 s2] 101)).alloc (.cells #[.int .i64 l0, .int .i64 l1, .int .i64 l2] 101)) 101 #[.int .i64 t0, .int .i64 t1, .int .i64 t2]
                  simp only [World.size_alloc] at ky kz
                  have bX : Below W.heap.size W.drew (((W.alloc (.cells #[.int .i64 s0, .int .i64 s1, .int .i64 s2] 101)).alloc (.cells #[.int .i64 l0, .int .i64 l1, .int .i64 l2] 101)).alloc (.cells #[.int .i64 t0, .int .i64 t1, .int .i64 t2] 101)).drew := by (repeat (first | exact below_undrew _ _ | exact Below.refl _ _ | apply Below.drew | refine Below.alloc ?_ (by first | exact Nat.le_refl _ | (simp; done) | (simp; omega)) _ | refine Below.setCell ?_ (by first | exact Nat.le_refl _ | (simp; done) | (simp; omega)) _))
                  have p2 := (KP.out _ bX).2.2.2.2.2.2.2.2.2.2.2.2.2
                  replace kx := kx.drew
                  replace ky := ky.drew
                  replace kz := kz.drew
                  generalize (((W.alloc (.cells #[.int .i64 s0, .int .i64 s1, .int .i64 s2] 101)).alloc (.cells #[.int .i64 l0, .int .i64 l1, .int .i64 l2] 101)).alloc (.cells #[.int .i64 t0, .int .i64 t1, .int .i64 t2] 101)).drew = wX at kx ky kz p2 bX ⊢
                  have x1 := kx.cell 1
                  have x2 := kx.cell 2
                  have y1 := ky.cell 1
                  have y2 := ky.cell 2
                  have z1 := kz.cell 1
                  have z2 := kz.cell 2
                  simp only [List.getElem?_toArray, List.getElem?_cons_succ, List.getElem?_cons_zero] at x1 x2 y1 y2 z1 z2
                  have HX := Lib.hid bX
                  clear kx ky kz bX
                  go_wp2
                  all_goals
                    go_ret
                    exact ⟨by rw [VAL.out]; first | (simp_all [meetB]; done) | (simp_all [meetB]; rfl), HB.out.1.trans ((below_undrew2 _ _).trans (HX.out.mono HB.out.1.size))⟩
                · refine any_do rfl rfl (fun K hK => ?_)
                  go_simp
                  refine hK _ _ (KP.out _ (by (repeat (first | exact below_undrew _ _ | exact Below.refl _ _ | apply Below.drew | refine Below.alloc ?_ (by first | exact Nat.le_refl _ | (simp; done) | (simp; omega)) _ | refine Below.setCell ?_ (by first | exact Nat.le_refl _ | (simp; done) | (simp; omega)) _)))) ?_
                  clear hK K
                  refine any_step (L := [19]) (by kernel_rfl) (by simp) ?_
                  intro ix hix
                  simp only [List.mem_cons, List.not_mem_nil, or_false] at hix
                  subst hix
                  refine any_do rfl rfl (fun K hK => ?_)
                  go_simp
                  refine hK _ _ (KP.out _ (by (repeat (first | exact below_undrew _ _ | exact Below.refl _ _ | apply Below.drew | refine Below.alloc ?_ (by first | exact Nat.le_refl _ | (simp; done) | (simp; omega)) _ | refine Below.setCell ?_ (by first | exact Nat.le_refl _ | (simp; done) | (simp; omega)) _)))) ?_
                  clear hK K
                  refine any_step (L := [21]) (by kernel_rfl) (by simp) ?_
                  intro ix hix
                  simp only [List.mem_cons, List.not_mem_nil, or_false] at hix
                  subst hix
                  refine any_do rfl rfl (fun K hK => ?_)
                  go_simp
                  refine hK _ _ (KP.out _ (by (repeat (first | exact below_undrew _ _ | exact Below.refl _ _ | apply Below.drew | refine Below.alloc ?_ (by first | exact Nat.le_refl _ | (simp; done) | (simp; omega)) _ | refine Below.setCell ?_ (by first | exact Nat.le_refl _ | (simp; done) | (simp; omega)) _)))) ?_
                  clear hK K
                  refine any_step (L := [22]) (by kernel_rfl) (by simp) ?_
                  intro ix hix
                  simp only [List.mem_cons, List.not_mem_nil, or_false] at hix
                  subst hix
                  refine any_do rfl rfl (fun K hK => ?_)
                  go_simp
                  refine hK _ _ (KP.out _ (by (repeat (first | exact below_undrew _ _ | exact Below.refl _ _ | apply Below.drew | refine Below.alloc ?_ (by first | exact Nat.le_refl _ | (simp; done) | (simp; omega)) _ | refine Below.setCell ?_ (by first | exact Nat.le_refl _ | (simp; done) | (simp; omega)) _)))) ?_
                  clear hK K
                  refine any_step (L := [23]) (by kernel_rfl) (by simp) ?_
                  intro ix hix
                  simp only [List.mem_cons, List.not_mem_nil, or_false] at hix
                  subst hix
                  refine any_do rfl rfl (fun K hK => ?_)
                  go_simp
                  refine hK _ _ (KP.out _ (by (repeat (first | exact below_undrew _ _ | exact Below.refl _ _ | apply Below.drew | refine Below.alloc ?_ (by first | exact Nat.le_refl _ | (simp; done) | (simp; omega)) _ | refine Below.setCell ?_ (by first | exact Nat.le_refl _ | (simp; done) | (simp; omega)) _)))) ?_
                  clear hK K
                  refine any_done (by kernel_rfl) ?_
                  have kx := ((Blk.new W 101 #[.int .i64 s0, .int .i64 s1, .int .i64 s2]).alloc (.cells #[.int .i64 t0, .int .i64 t1, .int .i64 t2] 101)).alloc (.cells #[.int .i64 l0, .int .i64 l1, .int .i64 l2] 101)
                  have ky := (Blk.new (W.alloc (.cells #[.int .i64 s0, .int .i64 s1, .int .i64 s2] 101)) 101 #[.int .i64 t0, .int .i64 t1, .int .i64 t2]).alloc (.cells #[.int .i64 l0, .int .i64 l1, .int .i64 l2] 101)
                  have kz := Blk.new ((W.alloc (.cells #[.int .i64 s0, .int .i64 s1, .int .i64 s2] 101)).alloc (.cells #[.int .i64 t0, .int .i64 t1, .int .i64 t2] 101)) 101 #[.int .i64 l0, .int .i64 l1, .int .i64 l2]
                  simp only [World.size_alloc] at ky kz
                  have bX : Below W.heap.size W.drew (((W.alloc (.cells #[.int .i64 s0, .int .i64 s1, .int .i64 s2] 101)).alloc (.cells #[.int .i64 t0, .int .i64 t1, .int .i64 t2] 101)).alloc (.cells #[.int .i64 l0, .int .i64 l1, .int .i64 l2] 101)).drew := by (repeat (first | exact below_undrew _ _ | exact Below.refl _ _ | apply Below.drew | refine Below.alloc ?_ (by first | exact Nat.le_refl _ | (simp; done) | (simp; omega)) _ | refine Below.setCell ?_ (by first | exact Nat.le_refl _ | (simp; done) | (simp; omega)) _))
                  have p2 := (KP.out _ bX).2.2.2.2.2.2.2.2.2.2.2.2.2
                  replace kx := kx.drew
                  replace ky := ky.drew
                  replace kz := kz.drew
                  generalize (((W.alloc (.cells #[.int .i64 s0, .int .i64 s1, .int .i64 s2] 101)).alloc (.cells #[.int .i64 t0, .int .i64 t1, .int .i64 t2] 101)).alloc (.cells #[.int .i64 l0, .int .i64 l1, .int .i64 l2] 101)).drew = wX at kx ky kz p2 bX ⊢
                  have x1 := kx.cell 1
                  have x2 := kx.cell 2
                  have y1 := ky.cell 1
                  have y2 := ky.cell 2
                  have z1 := kz.cell 1
                  have z2 := kz.cell 2
                  simp only [List.getElem?_toArray, List.getElem?_cons_succ, List.getElem?_cons_zero] at x1 x2 y1 y2 z1 z2
                  have HX := Lib.hid bX
                  clear kx ky kz bX
                  go_wp2
                  all_goals
                    go_ret
                    exact ⟨by rw [VAL.out]; first | (simp_all [meetB]; done) | (simp_all [meetB]; rfl), HB.out.1.trans ((below_undrew2 _ _).trans (HX.out.mono HB.out.1.size))⟩
              · refine any_do rfl rfl (fun K hK => ?_)
                go_simp
                refine hK _ _ (KP.out _ (by (repeat (first | exact below_undrew _ _ | exact Below.refl _ _ | apply Below.drew | refine Below.alloc ?_ (by first | exact Nat.le_refl _ | (simp; done) | (simp; omega)) _ | refine Below.setCell ?_ (by first | exact Nat.le_refl _ | (simp; done) | (simp; omega)) _)))) ?_
                clear hK K
                refine any_step (L := [18, 20]) (by kernel_rfl) (by simp) ?_
                intro ix hix
                simp only [List.mem_cons, List.not_mem_nil, or_false] at hix
                rcases hix with rfl | rfl
                · refine any_do rfl rfl (fun K hK => ?_)
                  go_simp
                  refine hK _ _ (KP.out _ (by (repeat (first | exact below_undrew _ _ | exact Below.refl _ _ | apply Below.drew | refine Below.alloc ?_ (by first | exact Nat.le_refl _ | (simp; done) | (simp; omega)) _ | refine Below.setCell ?_ (by first | exact Nat.le_refl _ | (simp; done) | (simp; omega)) _)))) ?_
                  clear hK K
                  refine any_step (L := [20]) (by kernel_rfl) (by simp) ?_
                  intro ix hix
                  simp only [List.mem_cons, List.not_mem_nil, or_false] at hix
                  subst hix
                  refine any_do rfl rfl (fun K hK => ?_)
                  go_simp
                  refine hK _ _ (KP.out _ (by (repeat (first | exact below_undrew _ _ | exact Below.refl _ _ | apply Below.drew | refine Below.alloc ?_ (by first | exact Nat.le_refl _ | (simp; done) | (simp; omega)) _ | refine Below.setCell ?_ (by first | exact Nat.le_refl _ | (simp; done) | (simp; omega)) _)))) ?_
                  clear hK K
                  refine any_step (L := [21]) (by kernel_rfl) (by simp) ?_
                  intro ix hix
                  simp only [List.mem_cons, List.not_mem_nil, or_false] at hix
                  subst hix
                  refine any_do rfl rfl (fun K hK => ?_)
                  go_simp
                  refine hK _ _ (KP.out _ (by (repeat (first | exact below_undrew _ _ | exact Below.refl _ _ | apply Below.drew | refine Below.alloc ?_ (by first | exact Nat.le_refl _ | (simp; done) | (simp; omega)) _ | refine Below.setCell ?_ (by first | exact Nat.le_refl _ | (simp; done) | (simp; omega)) _)))) ?_
                  clear hK K
                  refine any_step (L := [22]) (by kernel_rfl) (by simp) ?_
                  intro ix hix
                  simp only [List.mem_cons, List.not_mem_nil, or_false] at hix
                  subst hix
                  refine any_do rfl rfl (fun K hK => ?_)
                  go_simp
                  refine hK _ _ (KP.out _ (by (repeat (first | exact below_undrew _ _ | exact Below.refl _ _ | apply Below.drew | refine Below.alloc ?_ (by first | exact Nat.le_refl _ | (simp; done) | (simp; omega)) _ | refine Below.setCell ?_ (by first | exact Nat.le_refl _ | (simp; done) | (simp; omega)) _)))) ?_
                  clear hK K
                  refine any_step (L := [23]) (by kernel_rfl) (by simp) ?_
                  intro ix hix
                  simp only [List.mem_cons, List.not_mem_nil, or_false] at hix
                  subst hix
                  refine any_do rfl rfl (fun K hK => ?_)
                  go_simp
                  refine hK _ _ (KP.out _ (by (repeat (first | exact below_undrew _ _ | exact Below.refl _ _ | apply Below.drew | refine Below.alloc ?_ (by first | exact Nat.le_refl _ | (simp; done) | (simp; omega)) _ | refine Below.setCell ?_ (by first | exact Nat.le_refl _ | (simp; done) | (simp; omega)) _)))) ?_
                  clear hK K
                  refine any_done (by kernel_rfl) ?_
                  have kx := ((Blk.new W 101 #[.int .i64 l0, .int .i64 l1, .int .i64 l2]).alloc (.cells #[.int .i64 s0, .int .i64 s1, .int .i64 s2] 101)).alloc (.cells #[.int .i64 t0, .int .i64 t1, .int .i64 t2] 101)
                  have ky := (Blk.new (W.alloc (.cells #[.int .i64 l0, .int .i64 l1, .int .i64 l2] 101)) 101 #[.int .i64 s0, .int .i64 s1, .int .i64 s2]).alloc (.cells #[.int .i64 t0, .int .i64 t1, .int .i64 t2] 101)
                  have kz := Blk.new ((W.alloc (.cells #[.int .i64 l0, .int .i64 l1, .int .i64 l2] 101)).alloc (.cells #[.int .i64 s0, .int .i64 s1, .int .i64 s2] 101)) 101 #[.int .i64 t0, .int .i64 t1, .int .i64 t2]
                  simp only [World.size_alloc] at ky kz
                  have bX : Below W.heap.size W.drew (((W.alloc (.cells #[.int .i64 l0, .int .i64 l1, .int .i64 l2] 101)).alloc (.cells #[.int .i64 s0, .int .i64 s1, .int .i64 s2] 101)).alloc (.cells #[.int .i64 t0, .int .i64 t1, .int .i64 t2] 101)).drew := by (repeat (first | exact below_undrew _ _ | exact Below.refl _ _ | apply Below.drew | refine Below.alloc ?_ (by first | exact Nat.le_refl _ | (simp; done) | (simp; omega)) _ | refine Below.setCell ?_ (by first | exact Nat.le_refl _ | (simp; done) | (simp; omega)) _))
                  have p2 := (KP.out _ bX).2.2.2.2.2.2.2.2.2.2.2.2.2
                  replace kx := kx.drew
                  replace ky := ky.drew
                  replace kz := kz.drew
                  generalize (((W.alloc (.cells #[.int .i64 l0, .int .i64 l1, .int .i64 l2] 101)).alloc (.cells #[.int .i64 s0, .int .i64 s1, .int .i64 s2] 101)).alloc (.cells #[.int .i64 t0, .int .i64 t1, .int .i64 t2] 101)).drew = wX at kx ky kz p2 bX ⊢
                  have x1 := kx.cell 1
                  have x2 := kx.cell 2
                  have y1 := ky.cell 1
                  have y2 := ky.cell 2
                  have z1 := kz.cell 1
                  have z2 := kz.cell 2
                  simp only [List.getElem?_toArray, List.getElem?_cons_succ, List.getElem?_cons_zero] at x1 x2 y1 y2 z1 z2
                  have HX := Lib.hid bX
                  clear kx ky kz bX
                  go_wp2
                  all_goals
                    go_ret
                    exact ⟨by rw [VAL.out]; first | (simp_all [meetB]; done) | (simp_all [meetB]; rfl), HB.out.1.trans ((below_undrew2 _ _).trans (HX.out.mono HB.out.1.size))⟩
                · refine any_do rfl rfl (fun K hK => ?_)
                  go_simp
                  refine hK _ _ (KP.out _ (by (repeat (first | exact below_undrew _ _ | exact Below.refl _ _ | apply Below.drew | refine Below.alloc ?_ (by first | exact Nat.le_refl _ | (simp; done) | (simp; omega)) _ | refine Below.setCell ?_ (by first | exact Nat.le_refl _ | (simp; done) | (simp; omega)) _)))) ?_
                  clear hK K
                  refine any_step (L := [18]) (by kernel_rfl) (by simp) ?_
                  intro ix hix
                  simp only [List.mem_cons, List.not_mem_nil, or_false] at hix
                  subst hix
                  refine any_do rfl rfl (fun K hK => ?_)
                  go_simp
                  refine hK _ _ (KP.out _ (by (repeat (first | exact below_undrew _ _ | exact Below.refl _ _ | apply Below.drew | refine Below.alloc ?_ (by first | exact Nat.le_refl _ | (simp; done) | (simp; omega)) _ | refine Below.setCell ?_ (by first | exact Nat.le_refl _ | (simp; done) | (simp; omega)) _)))) ?_
                  clear hK K
                  refine any_step (L := [21]) (by kernel_rfl) (by simp) ?_
                  intro ix hix
                  simp only [List.mem_cons, List.not_mem_nil, or_false] at hix
                  subst hix
                  refine any_do rfl rfl (fun K hK => ?_)
                  go_simp
                  refine hK _ _ (KP.out _ (by (repeat (first | exact below_undrew _ _ | exact Below.refl _ _ | apply Below.drew | refine Below.alloc ?_ (by first | exact Nat.le_refl _ | (simp; done) | (simp; omega)) _ | refine Below.setCell ?_ (by first | exact Nat.le_refl _ | (simp; done) | (simp; omega)) _)))) ?_
                  clear hK K
                  refine any_step (L := [22]) (by kernel_rfl) (by simp) ?_
                  intro ix hix
                  simp only [List.mem_cons, List.not_mem_nil, or_false] at hix
                  subst hix
                  refine any_do rfl rfl (fun K hK => ?_)
                  go_simp
                  refine hK _ _ (KP.out _ (by (repeat (first | exact below_undrew _ _ | exact Below.refl _ _ | apply Below.drew | refine Below.alloc ?_ (by first | exact Nat.le_refl _ | (simp; done) | (simp; omega)) _ | refine Below.setCell ?_ (by first | exact Nat.le_refl _ | (simp; done) | (simp; omega)) _)))) ?_
                  clear hK K
                  refine any_step (L := [23]) (by kernel_rfl) (by simp) ?_
                  intro ix hix
                  simp only [List.mem_cons, List.not_mem_nil, or_false] at hix
                  subst hix
                  refine any_do rfl rfl (fun K hK => ?_)
                  go_simp
                  refine hK _ _ (KP.out _ (by (repeat (first | exact below_undrew _ _ | exact Below.refl _ _ | apply Below.drew | refine Below.alloc ?_ (by first | exact Nat.le_refl _ | (simp; done) | (simp; omega)) _ | refine Below.setCell ?_ (by first | exact Nat.le_refl _ | (simp; done) | (simp; omega)) _)))) ?_
                  clear hK K
                  refine any_done (by kernel_rfl) ?_
                  have kx := ((Blk.new W 101 #[.int .i64 l0, .int .i64 l1, .int .i64 l2]).alloc (.cells #[.int .i64 t0, .int .i64 t1, .int .i64 t2] 101)).alloc (.cells #[.int .i64 s0, .int .i64 s1, .int .i64 s2] 101)
                  have ky := (Blk.new (W.alloc (.cells #[.int .i64 l0, .int .i64 l1, .int .i64 l2] 101)) 101 #[.int .i64 t0, .int .i64 t1, .int .i64 t2]).alloc (.cells #[.int .i64 s0, .int .i64 s1, .int .i64 s2] 101)
                  have kz := Blk.new ((W.alloc (.cells #[.int .i64 l0, .int .i64 l1, .int .i64 l2] 101)).alloc (.cells #[.int .i64 t0, .int .i64 t1, .int .i64 t2] 101)) 101 #[.int .i64 s0, .int .i64 s1, .int .i64 s2]
                  simp only [World.size_alloc] at ky kz
                  have bX : Below W.heap.size W.drew (((W.alloc (.cells #[.int .i64 l0, .int .i64 l1, .int .i64 l2] 101)).alloc (.cells #[.int .i64 t0, .int .i64 t1, .int .i64 t2] 101)).alloc (.cells #[.int .i64 s0, .int .i64 s1, .int .i64 s2] 101)).drew := by (repeat (first | exact below_undrew _ _ | exact Below.refl _ _ | apply Below.drew | refine Below.alloc ?_ (by first | exact Nat.le_refl _ | (simp; done) | (simp; omega)) _ | refine Below.setCell ?_ (by first | exact Nat.le_refl _ | (simp; done) | (simp; omega)) _))
                  have p2 := (KP.out _ bX).2.2.2.2.2.2.2.2.2.2.2.2.2
                  replace kx := kx.drew
                  replace ky := ky.drew
                  replace kz := kz.drew
                  generalize (((W.alloc (.cells #[.int .i64 l0, .int .i64 l1, .int .i64 l2] 101)).alloc (.cells #[.int .i64 t0, .int .i64 t1, .int .i64 t2] 101)).alloc (.cells #[.int .i64 s0, .int .i64 s1, .int .i64 s2] 101)).drew = wX at kx ky kz p2 bX ⊢
                  have x1 := kx.cell 1
                  have x2 := kx.cell 2
                  have y1 := ky.cell 1
                  have y2 := ky.cell 2
                  have z1 := kz.cell 1
                  have z2 := kz.cell 2
                  simp only [List.getElem?_toArray, List.getElem?_cons_succ, List.getElem?_cons_zero] at x1 x2 y1 y2 z1 z2
                  have HX := Lib.hid bX
                  clear kx ky kz bX
                  go_wp2
                  all_goals
                    go_ret
                    exact ⟨by rw [VAL.out]; first | (simp_all [meetB]; done) | (simp_all [meetB]; rfl), HB.out.1.trans ((below_undrew2 _ _).trans (HX.out.mono HB.out.1.size))⟩
              · refine any_do rfl rfl (fun K hK => ?_)
                go_simp
                refine hK _ _ (KP.out _ (by (repeat (first | exact below_undrew _ _ | exact Below.refl _ _ | apply Below.drew | refine Below.alloc ?_ (by first | exact Nat.le_refl _ | (simp; done) | (simp; omega)) _ | refine Below.setCell ?_ (by first | exact Nat.le_refl _ | (simp; done) | (simp; omega)) _)))) ?_
                clear hK K
                refine any_step (L := [18, 19]) (by kernel_rfl) (by simp) ?_
                intro ix hix
                simp only [List.mem_cons, List.not_mem_nil, or_false] at hix
                rcases hix with rfl | rfl
                · refine any_do rfl rfl (fun K hK => ?_)
                  go_simp
                  refine hK _ _ (KP.out _ (by (repeat (first | exact below_undrew _ _ | exact Below.refl _ _ | apply Below.drew | refine Below.alloc ?_ (by first | exact Nat.le_refl _ | (simp; done) | (simp; omega)) _ | refine Below.setCell ?_ (by first | exact Nat.le_refl _ | (simp; done) | (simp; omega)) _)))) ?_
                  clear hK K
                  refine any_step (L := [19]) (by kernel_rfl) (by simp) ?_
                  intro ix hix
                  simp only [List.mem_cons, List.not_mem_nil, or_false] at hix
                  subst hix
                  refine any_do rfl rfl (fun K hK => ?_)
                  go_simp
                  refine hK _ _ (KP.out _ (by (repeat (first | exact below_undrew _ _ | exact Below.refl _ _ | apply Below.drew | refine Below.alloc ?_ (by first | exact Nat.le_refl _ | (simp; done) | (simp; omega)) _ | refine Below.setCell ?_ (by first | exact Nat.le_refl _ | (simp; done) | (simp; omega)) _)))) ?_
                  clear hK K
                  refine any_step (L := [21]) (by kernel_rfl) (by simp) ?_
                  intro ix hix
                  simp only [List.mem_cons, List.not_mem_nil, or_false] at hix
                  subst hix
                  refine any_do rfl rfl (fun K hK => ?_)
                  go_simp
                  refine hK _ _ (KP.out _ (by (repeat (first | exact below_undrew _ _ | exact Below.refl _ _ | apply Below.drew | refine Below.alloc ?_ (by first | exact Nat.le_refl _ | (simp; done) | (simp; omega)) _ | refine Below.setCell ?_ (by first | exact Nat.le_refl _ | (simp; done) | (simp; omega)) _)))) ?_
                  clear hK K
                  refine any_step (L := [22]) (by kernel_rfl) (by simp) ?_
                  intro ix hix
                  simp only [List.mem_cons, List.not_mem_nil, or_false] at hix
                  subst hix
                  refine any_do rfl rfl (fun K hK => ?_)
                  go_simp
                  refine hK _ _ (KP.out _ (by (repeat (first | exact below_undrew _ _ | exact Below.refl _ _ | apply Below.drew | refine Below.alloc ?_ (by first | exact Nat.le_refl _ | (simp; done) | (simp; omega)) _ | refine Below.setCell ?_ (by first | exact Nat.le_refl _ | (simp; done) | (simp; omega)) _)))) ?_
                  clear hK K
                  refine any_step (L := [23]) (by kernel_rfl) (by simp) ?_
                  intro ix hix
                  simp only [List.mem_cons, List.not_mem_nil, or_false] at hix
                  subst hix
                  refine any_do rfl rfl (fun K hK => ?_)
                  go_simp
                  refine hK _ _ (KP.out _ (by (repeat (first | exact below_undrew _ _ | exact Below.refl _ _ | apply Below.drew | refine Below.alloc ?_ (by first | exact Nat.le_refl _ | (simp; done) | (simp; omega)) _ | refine Below.setCell ?_ (by first | exact Nat.le_refl _ | (simp; done) | (simp; omega)) _)))) ?_
                  clear hK K
                  refine any_done (by kernel_rfl) ?_
                  have kx := ((Blk.new W 101 #[.int .i64 t0, .int .i64 t1, .int .i64 t2]).alloc (.cells #[.int .i64 s0, .int .i64 s1, .int .i64 s2] 101)).alloc (.cells #[.int .i64 l0, .int .i64 l1, .int .i64 l2] 101)
                  have ky := (Blk.new (W.alloc (.cells #[.int .i64 t0, .int .i64 t1, .int .i64 t2] 101)) 101 #[.int .i64 s0, .int .i64 s1, .int .i64 s2]).alloc (.cells #[.int .i64 l0, .int .i64 l1, .int .i64 l2] 101)
                  have kz := Blk.new ((W.alloc (.cells #[.int .i64 t0, .int .i64 t1, .int .i64 t2] 101)).alloc (.cells #[.int .i64 s0, .int .i64 s1, .int .i64 s2] 101)) 101 #[.int .i64 l0, .int .i64 l1, .int .i64 l2]
                  simp only [World.size_alloc] at ky kz
                  have bX : Below W.heap.size W.drew (((W.alloc (.cells #[.int .i64 t0, .int .i64 t1, .int .i64 t2] 101)).alloc (.cells #[.int .i64 s0, .int .i64 s1, .int .i64 s2] 101)).alloc (.cells #[.int .i64 l0, .int .i64 l1, .int .i64 l2] 101)).drew := by (repeat (first | exact below_undrew _ _ | exact Below.refl _ _ | apply Below.drew | refine Below.alloc ?_ (by first | exact Nat.le_refl _ | (simp; done) | (simp; omega)) _ | refine Below.setCell ?_ (by first | exact Nat.le_refl _ | (simp; done) | (simp; omega)) _))
                  have p2 := (KP.out _ bX).2.2.2.2.2.2.2.2.2.2.2.2.2
                  replace kx := kx.drew
                  replace ky := ky.drew
                  replace kz := kz.drew
                  generalize (((W.alloc (.cells #[.int .i64 t0, .int .i64 t1, .int .i64 t2] 101)).alloc (.cells #[.int .i64 s0, .int .i64 s1, .int .i64 s2] 101)).alloc (.cells #[.int .i64 l0, .int .i64 l1, .int .i64 l2] 101)).drew = wX at kx ky kz p2 bX ⊢
                  have x1 := kx.cell 1
                  have x2 := kx.cell 2
                  have y1 := ky.cell 1
                  have y2 := ky.cell 2
                  have z1 := kz.cell 1
                  have z2 := kz.cell 2
                  simp only [List.getElem?_toArray, List.getElem?_cons_succ, List.getElem?_cons_zero] at x1 x2 y1 y2 z1 z2
                  have HX := Lib.hid bX
                  clear kx ky kz bX
                  go_wp2
                  all_goals
                    go_ret
                    exact ⟨by rw [VAL.out]; first | (simp_all [meetB]; done) | (simp_all [meetB]; rfl), HB.out.1.trans ((below_undrew2 _ _).trans (HX.out.mono HB.out.1.size))⟩
                · refine any_do rfl rfl (fun K hK => ?_)
                  go_simp
                  refine hK _ _ (KP.out _ (by (repeat (first | exact below_undrew _ _ | exact Below.refl _ _ | apply Below.drew | refine Below.alloc ?_ (by first | exact Nat.le_refl _ | (simp; done) | (simp; omega)) _ | refine Below.setCell ?_ (by first | exact Nat.le_refl _ | (simp; done) | (simp; omega)) _)))) ?_
                  clear hK K
                  refine any_step (L := [18]) (by kernel_rfl) (by simp) ?_
                  intro ix hix
                  simp only [List.mem_cons, List.not_mem_nil, or_false] at hix
                  subst hix
                  refine any_do rfl rfl (fun K hK => ?_)
                  go_simp
                  refine hK _ _ (KP.out _ (by (repeat (first | exact below_undrew _ _ | exact Below.refl _ _ | apply Below.drew | refine Below.alloc ?_ (by first | exact Nat.le_refl _ | (simp; done) | (simp; omega)) _ | refine Below.setCell ?_ (by first | exact Nat.le_refl _ | (simp; done) | (simp; omega)) _)))) ?_
                  clear hK K
                  refine any_step (L := [21]) (by kernel_rfl) (by simp) ?_
                  intro ix hix
                  simp only [List.mem_cons, List.not_mem_nil, or_false] at hix
                  subst hix
                  refine any_do rfl rfl (fun K hK => ?_)
                  go_simp
                  refine hK _ _ (KP.out _ (by (repeat (first | exact below_undrew _ _ | exact Below.refl _ _ | apply Below.drew | refine Below.alloc ?_ (by first | exact Nat.le_refl _ | (simp; done) | (simp; omega)) _ | refine Below.setCell ?_ (by first | exact Nat.le_refl _ | (simp; done) | (simp; omega)) _)))) ?_
                  clear hK K
                  refine any_step (L := [22]) (by kernel_rfl) (by simp) ?_
                  intro ix hix
                  simp only [List.mem_cons, List.not_mem_nil, or_false] at hix
                  subst hix
                  refine any_do rfl rfl (fun K hK => ?_)
                  go_simp
                  refine hK _ _ (KP.out _ (by (repeat (first | exact below_undrew _ _ | exact Below.refl _ _ | apply Below.drew | refine Below.alloc ?_ (by first | exact Nat.le_refl _ | (simp; done) | (simp; omega)) _ | refine Below.setCell ?_ (by first | exact Nat.le_refl _ | (simp; done) | (simp; omega)) _)))) ?_
                  clear hK K
                  refine any_step (L := [23]) (by kernel_rfl) (by simp) ?_
                  intro ix hix
                  simp only [List.mem_cons, List.not_mem_nil, or_false] at hix
                  subst hix
                  refine any_do rfl rfl (fun K hK => ?_)
                  go_simp
                  refine hK _ _ (KP.out _ (by (repeat (first | exact below_undrew _ _ | exact Below.refl _ _ | apply Below.drew | refine Below.alloc ?_ (by first | exact Nat.le_refl _ | (simp; done) | (simp; omega)) _ | refine Below.setCell ?_ (by first | exact Nat.le_refl _ | (simp; done) | (simp; omega)) _)))) ?_
                  clear hK K
                  refine any_done (by kernel_rfl) ?_
                  have kx := ((Blk.new W 101 #[.int .i64 t0, .int .i64 t1, .int .i64 t2]).alloc (.cells #[.int .i64 l0, .int .i64 l1, .int .i64 l2] 101)).alloc (.cells #[.int .i64 s0, .int .i64 s1, .int .i64 s2] 101)
                  have ky := (Blk.new (W.alloc (.cells #[.int .i64 t0, .int .i64 t1, .int .i64 t2] 101)) 101 #[.int .i64 l0, .int .i64 l1, .int .i64 l2]).alloc (.cells #[.int .i64 s0, .int .i64 s1, .int .i64 s2] 101)
                  have kz := Blk.new ((W.alloc (.cells #[.int .i64 t0, .int .i64 t1, .int .i64 t2] 101)).alloc (.cells #[.int .i64 l0, .int .i64 l1, .int .i64 l2] 101)) 101 #[.int .i64 s0, .int .i64 s1, .int .i64 s2]
                  simp only [World.size_alloc] at ky kz
                  have bX : Below W.heap.size W.drew (((W.alloc (.cells #[.int .i64 t0, .int .i64 t1, .int .i64 t2] 101)).alloc (.cells #[.int .i64 l0, .int .i64 l1, .int .i64 l2] 101)).alloc (.cells #[.int .i64 s0, .int .i64 s1, .int .i64 s2] 101)).drew := by (repeat (first | exact below_undrew _ _ | exact Below.refl _ _ | apply Below.drew | refine Below.alloc ?_ (by first | exact Nat.le_refl _ | (simp; done) | (simp; omega)) _ | refine Below.setCell ?_ (by first | exact Nat.le_refl _ | (simp; done) | (simp; omega)) _))
                  have p2 := (KP.out _ bX).2.2.2.2.2.2.2.2.2.2.2.2.2
                  replace kx := kx.drew
                  replace ky := ky.drew
                  replace kz := kz.drew
                  generalize (((W.alloc (.cells #[.int .i64 t0, .int .i64 t1, .int .i64 t2] 101)).alloc (.cells #[.int .i64 l0, .int .i64 l1, .int .i64 l2] 101)).alloc (.cells #[.int .i64 s0, .int .i64 s1, .int .i64 s2] 101)).drew = wX at kx ky kz p2 bX ⊢
                  have x1 := kx.cell 1
                  have x2 := kx.cell 2
                  have y1 := ky.cell 1
                  have y2 := ky.cell 2
                  have z1 := kz.cell 1
                  have z2 := kz.cell 2
                  simp only [List.getElem?_toArray, List.getElem?_cons_succ, List.getElem?_cons_zero] at x1 x2 y1 y2 z1 z2
                  have HX := Lib.hid bX
                  clear kx ky kz bX
                  go_wp2
                  all_goals
                    go_ret
                    exact ⟨by rw [VAL.out]; first | (simp_all [meetB]; done) | (simp_all [meetB]; rfl), HB.out.1.trans ((below_undrew2 _ _).trans (HX.out.mono HB.out.1.size))⟩
            · have hrb' : inB S.length ri = false := by simpa using hrb
              clear hrb
              go_wp2_with (go_at_call 87; refine (place_any _ _ _ _ _ _ q0).mono ?_; rintro e w' ⟨rfl, rfl⟩)
              go_ret
              exact ⟨by have h1 := kp.out; have h2 := km.out; have h3 := kl.out; simp [Pk.goes, h1, h2, h3, hs, hrb'], HB.out.1⟩
          · have hlb' : inB S.length le = false := by simpa using hlb
            clear hlb
            go_wp2_with (go_at_call 87; refine (place_any _ _ _ _ _ _ q0).mono ?_; rintro e w' ⟨rfl, rfl⟩)
            go_ret
            exact ⟨by have h1 := kp.out; have h2 := km.out; have h3 := kl.out; simp [Pk.goes, h1, h2, h3, hs, hlb'], HB.out.1⟩
  · have hs' : inB S.length sp = false := by simpa using hs
    clear hs
    go_wp2_with (go_at_call 87; refine (place_any _ _ _ _ _ _ q0).mono ?_; rintro e w' ⟨rfl, rfl⟩)
    go_ret
    exact ⟨by simp [Pk.goes, hs'], HB.out.1⟩
end Go.Proofs.Ytbppbgdmoihooaa
