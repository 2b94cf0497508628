/- Forests: a pack's steps, by the document (bywayref29.Steps). -/
import Derived.Test.YtbppbgdmoihooaaTrL
namespace Go.Proofs.Ytbppbgdmoihooaa
open Go.RowKit

theorem Sam.of {w w' : World} {x y : Int} (h : x = y) (hb : Below w.heap.size w w') : Sam w (.int .i64 y) (.returned (.int .i64 x)) w' := ⟨by rw [h], hb⟩

set_option maxHeartbeats 2000000 in
set_option maxRecDepth 20000 in
theorem steps_any (w : World) (g n c : Nat) (v : List Int) (p : Pk) (hg : Blk w g 3 (ints v)) (hl : v.length = n) (hc : n ≤ c) (hv : Val v) (hp : PkIn n p) :
    Calls Try.prog 70 #[p.agg, .slice (some ⟨g, 0, none⟩) n c] w (Sam w (.int .i64 (steps p v))) := by
  obtain ⟨p0, p1, p2, p3, p4⟩ := p
  obtain ⟨-, hlr⟩ := hp
  unfold Pk.agg
  have bA : Below w.heap.size w (w.alloc (.cells #[.int .i64 p0, .int .i64 p1, .int .i64 p2, .int .i64 p3, .int .i64 p4] 125)) := (Below.refl _ _).alloc (Nat.le_refl _) _
  have hcI : (n : Int) ≤ (c : Int) := by omega
  rcases hlr with hl3 | ⟨l, r, e1, e2, hl3, hr3⟩
  · dsimp only at hl3
    have e : decide (p3 < 0) = true := by simpa using hl3
    have HL := Lib.hid (And.intro hl3 bA)
    clear hl3 bA hg hl hv
    go_enter Try.func70, Try.ntmps70
    go_wp2
    go_ret
    exact Sam.of (by simp [steps, HL.out.1]) HL.out.2
  · dsimp only at e1 e2
    subst e1
    subst e2
    have hlI : (l : Int) < (n : Int) := by omega
    have hrI : (r : Int) < (n : Int) := by omega
    have n0 : decide ((l : Int) < 0) = false := by simp
    obtain ⟨a, ha⟩ : ∃ a, at0 v (l : Int) = a := ⟨_, rfl⟩
    obtain ⟨b, hb⟩ : ∃ b, at0 v (r : Int) = b := ⟨_, rfl⟩
    have hab := hv.at (l : Int)
    have hbv := hv.at (r : Int)
    rw [ha] at hab
    rw [hb] at hbv
    have m0 := hg.cell l
    rw [ints_get (at0_get (by omega)), ha] at m0
    have m1 := hg.cell r
    rw [ints_get (at0_get (by omega)), hb] at m1
    have lg := hg.lt
    have hst : steps ⟨p0, p1, p2, (l : Int), (r : Int)⟩ v = if a = 0 ∨ b = 0 then 0 else if 1 + a + b > 4096 then 4097 else 1 + a + b := by
      unfold steps
      rw [if_neg (by simp), ha, hb]
    have HS := Lib.hid (And.intro hst bA)
    have kx := Blk.new w 125 #[.int .i64 p0, .int .i64 p1, .int .i64 p2, .int .i64 (l : Int), .int .i64 (r : Int)]
    have x3 := kx.cell 3
    have x4 := kx.cell 4
    have y0 := (World.cell?_alloc_lt w (.cells #[.int .i64 p0, .int .i64 p1, .int .i64 p2, .int .i64 (l : Int), .int .i64 (r : Int)] 125) ⟨g, l, none⟩ lg).trans m0
    have y1 := (World.cell?_alloc_lt w (.cells #[.int .i64 p0, .int .i64 p1, .int .i64 p2, .int .i64 (l : Int), .int .i64 (r : Int)] 125) ⟨g, r, none⟩ lg).trans m1
    simp only [List.getElem?_toArray, List.getElem?_cons_succ, List.getElem?_cons_zero] at x3 x4
    have HX := Lib.hid (And.intro x3 (And.intro x4 (And.intro y0 y1)))
    clear hst bA hg hl hv ha hb kx x3 x4 y0 y1
    by_cases ha0 : a = 0
    · subst ha0
      clear HX
      go_enter Try.func70, Try.ntmps70
      go_wp2
      go_ret
      exact Sam.of (by rw [HS.out.1]; simp) HS.out.2
    · have ea : (a == 0) = false := by simpa using ha0
      by_cases hb0 : b = 0
      · subst hb0
        clear HX
        have ka := Lib.hid ha0
        clear ha0
        go_enter Try.func70, Try.ntmps70
        go_wp2
        go_ret
        exact Sam.of (by rw [HS.out.1]; simp) HS.out.2
      · have eb : (b == 0) = false := by simpa using hb0
        have kab := Lib.hid (And.intro ha0 hb0)
        have hst2 : steps ⟨p0, p1, p2, (l : Int), (r : Int)⟩ v = if 1 + a + b > 4096 then 4097 else 1 + a + b := by rw [HS.out.1, if_neg (by omega)]
        have HT := Lib.hid (And.intro hst2 HS.out.2)
        clear ha0 hb0 hst2 HS
        by_cases hbig : 1 + a + b > 4096
        · have e4 : decide ((4096 : Int) < 1 + a + b) = true := by simpa using hbig
          have KB := Lib.hid hbig
          clear hbig
          go_enter Try.func70, Try.ntmps70
          go_wp2
          obtain ⟨x3, x4, y0, y1⟩ := HX.out
          generalize w.alloc (.cells #[.int .i64 p0, .int .i64 p1, .int .i64 p2, .int .i64 (l : Int), .int .i64 (r : Int)] 125) = Wa at x3 x4 y0 y1 HT ⊢
          clear HX
          go_quiet (fail)
          go_wp2
          go_ret
          exact Sam.of (by rw [HT.out.1, if_pos KB.out]) (below_drewN HT.out.2 _)
        · have e4 : decide ((4096 : Int) < 1 + a + b) = false := by simpa using hbig
          have KB := Lib.hid hbig
          clear hbig
          go_enter Try.func70, Try.ntmps70
          go_wp2
          obtain ⟨x3, x4, y0, y1⟩ := HX.out
          generalize w.alloc (.cells #[.int .i64 p0, .int .i64 p1, .int .i64 p2, .int .i64 (l : Int), .int .i64 (r : Int)] 125) = Wa at x3 x4 y0 y1 HT ⊢
          clear HX
          go_quiet (fail)
          go_wp2
          go_ret
          exact Sam.of (by have := KB.out; rw [HT.out.1, if_neg (by omega)]) (below_drewN HT.out.2 _)
end Go.Proofs.Ytbppbgdmoihooaa
