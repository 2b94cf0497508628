/- Forests: a pack makes its spot's derivation shorter (smalls.better). -/
import Derived.Test.YtbppbgdmoihooaaTrH
import Derived.Test.YtbppbgdmoihooaaTrI
namespace Go.Proofs.Ytbppbgdmoihooaa
open Go.RowKit

/-- A pack's spot and parts are there. -/
def PkIn (n : Nat) (p : Pk) : Prop := (∃ s : Nat, p.spot = s ∧ s < n) ∧ (p.left < 0 ∨ ∃ l r : Nat, p.left = l ∧ p.right = r ∧ l < n ∧ r < n)
theorem PkIn.of_goes {S : List Fct} {p : Pk} (h : p.goes S = true) : PkIn S.length p := by
  unfold Pk.goes at h
  split at h
  · rename_i h1
    obtain ⟨s, e, hs⟩ := inB_get h1.1
    refine ⟨⟨s, e, hs⟩, ?_⟩
    split at h
    · rename_i h2
      exact .inl (by omega)
    · split at h
      · rename_i h3
        obtain ⟨l, e1, hl⟩ := inB_get h3.1
        obtain ⟨r, e2, hr⟩ := inB_get h3.2
        exact .inr ⟨l, r, e1, e2, hl, hr⟩
      · cases h
  · cases h

def ints (T : List Int) : Array Value := (T.map (Value.int .i64)).toArray
theorem ints_get {T : List Int} {i : Nat} {x : Int} (h : T[i]? = some x) : (ints T)[i]? = some (.int .i64 x) := by simp [ints, h]
theorem ints_set (T : List Int) (i : Nat) (x : Int) : (ints T).setIfInBounds i (.int .i64 x) = ints (T.set i x) := by simp [ints, List.map_set]
theorem at0_get {T : List Int} {i : Nat} (h : i < T.length) : T[i]? = some (at0 T (i : Int)) := by
  unfold at0
  simp [List.getElem?_eq_getElem h]

/-- A *smalls at block sb. -/
structure SmI (w : World) (sb : Nat) (A : Option Addr) (c : Nat) (B : Option Addr) (d : Nat) (S : List Fct) (P : List Pk) (mb yb : Nat) (T Y : List Int) : Prop where
  blk : Blk w sb 133 #[.slice A S.length c, .slice B P.length d, .slice (some ⟨mb, 0, none⟩) S.length S.length, .slice (some ⟨yb, 0, none⟩) S.length S.length]
  m : Blk w mb 3 (ints T)
  y : Blk w yb 3 (ints Y)
  lm : T.length = S.length
  ly : Y.length = S.length
  f : ForR w A c B d S P
  sm : sb ≠ mb
  sy : sb ≠ yb
  my : mb ≠ yb
theorem SmI.below {w w' : World} {sb : Nat} {A : Option Addr} {c : Nat} {B : Option Addr} {d : Nat} {S : List Fct} {P : List Pk} {mb yb : Nat} {T Y : List Int} (h : SmI w sb A c B d S P mb yb T Y) (hb : Below w.heap.size w w') : SmI w' sb A c B d S P mb yb T Y :=
  ⟨h.blk.upd (Upd.of_below hb (fun _ => False)) id, h.m.upd (Upd.of_below hb (fun _ => False)) id, h.y.upd (Upd.of_below hb (fun _ => False)) id, h.lm, h.ly, h.f.below hb, h.sm, h.sy, h.my⟩

def Sam (w : World) (v : Value) (e : Ending) (w' : World) : Prop := e = .returned v ∧ Below w.heap.size w w'

set_option maxHeartbeats 8000000 in
set_option maxRecDepth 20000 in
theorem better_no (w : World) (sb : Nat) (A : Option Addr) (c : Nat) (B : Option Addr) (d : Nat) (S : List Fct) (P : List Pk) (mb yb : Nat) (T Y : List Int) (i : Nat) (p : Pk) (h : SmI w sb A c B d S P mb yb T Y) (hv : Val T) (hi : P[i]? = some p) (hp : PkIn S.length p) (hb : betterB p T = false) :
    Calls Try.prog 84 #[.pointer (some ⟨sb, 0, none⟩), .int .i64 (i : Int)] w (Sam w (.bool false)) := by
  obtain ⟨p0, p1, p2, p3, p4⟩ := p
  obtain ⟨⟨s, e, hs⟩, hlr⟩ := hp
  dsimp only at e
  subst e
  obtain ⟨gb, go, rfl, a0, a1, a2, a3, a4⟩ := h.f.rp.pack hi
  have hil := (List.getElem?_eq_some_iff.1 hi).1
  have hdI : (P.length : Int) ≤ (d : Int) := by have := h.f.hd; omega
  have hiI : (i : Int) < (P.length : Int) := by omega
  have hsI : (s : Int) < (S.length : Int) := by omega
  have c1 : w.cell? ⟨sb, 1, none⟩ = some (.slice (some ⟨gb, go, none⟩) P.length d) := h.blk.cell 1
  obtain ⟨o, ho⟩ : ∃ o, at0 T (s : Int) = o := ⟨_, rfl⟩
  have hob := hv.at (s : Int)
  rw [ho] at hob
  have kx := Blk.new w 125 #[.int .i64 (s : Int), .int .i64 p1, .int .i64 p2, .int .i64 p3, .int .i64 p4]
  have bA : Below w.heap.size w (w.alloc (.cells #[.int .i64 (s : Int), .int .i64 p1, .int .i64 p2, .int .i64 p3, .int .i64 p4] 125)) := (Below.refl _ _).alloc (Nat.le_refl _) _
  have hA := h.below bA
  have m0 : (w.alloc (.cells #[.int .i64 (s : Int), .int .i64 p1, .int .i64 p2, .int .i64 p3, .int .i64 p4] 125)).cell? ⟨mb, s, none⟩ = some (.int .i64 o) := by rw [hA.m.cell, ints_get (at0_get (by have := h.lm; omega)), ho]
  have HX := Lib.hid (And.intro kx (And.intro bA (And.intro hA (And.intro m0 (And.intro h hs)))))
  clear kx bA hA m0
  rcases hlr with hl | ⟨l, r, e1, e2, hl, hr⟩
  · dsimp only at hl
    have el : decide (0 ≤ p3) = false := by simp; omega
    have hb' : o > 0 ∧ o ≤ 1 := by
      unfold betterB steps at hb
      simp [hl, ho] at hb
      omega
    obtain rfl : o = 1 := by omega
    have HM := Lib.hid (And.intro True.intro True.intro)
    clear hb hb' hl h hv hi ho hs
    go_enter Try.func84, Try.ntmps84
    go_wp2
    generalize w.alloc (.cells #[.int .i64 (s : Int), .int .i64 p1, .int .i64 p2, .int .i64 p3, .int .i64 p4] 125) = Wa at HX HM ⊢
    clear c1 a0 a1 a2 a3 a4
    have x0 : Wa.cell? ⟨w.heap.size, 0, none⟩ = some (.int .i64 (s : Int)) := HX.out.1.cell 0
    have x3 : Wa.cell? ⟨w.heap.size, 3, none⟩ = some (.int .i64 p3) := HX.out.1.cell 3
    have x4 : Wa.cell? ⟨w.heap.size, 4, none⟩ = some (.int .i64 p4) := HX.out.1.cell 4
    have c2 : Wa.cell? ⟨sb, 1 + 1, none⟩ = some (.slice (some ⟨mb, 0, none⟩) S.length S.length) := HX.out.2.2.1.blk.cell 2
    have c3 : Wa.cell? ⟨sb, 2, none⟩ = some (.slice (some ⟨mb, 0, none⟩) S.length S.length) := HX.out.2.2.1.blk.cell 2
    have m0 := HX.out.2.2.2.1
    obtain ⟨hml, hmr⟩ := HM.out
    go_quiet (fail)
    go_wp2
    go_ret
    exact ⟨rfl, below_drewN HX.out.2.1 _⟩
  · dsimp only at e1 e2
    subst e1
    subst e2
    have hlI : (l : Int) < (S.length : Int) := by omega
    have hrI : (r : Int) < (S.length : Int) := by omega
    obtain ⟨a, ha⟩ : ∃ a, at0 T (l : Int) = a := ⟨_, rfl⟩
    obtain ⟨b, hbb⟩ : ∃ b, at0 T (r : Int) = b := ⟨_, rfl⟩
    have hab := hv.at (l : Int)
    have hbv := hv.at (r : Int)
    rw [ha] at hab
    rw [hbb] at hbv
    have hml := HX.out.2.2.1.m.cell l
    rw [ints_get (at0_get (by have := h.lm; omega)), ha] at hml
    have hmr := HX.out.2.2.1.m.cell r
    rw [ints_get (at0_get (by have := h.lm; omega)), hbb] at hmr
    have hb' : a = 0 ∨ b = 0 ∨ (a ≠ 0 ∧ b ≠ 0 ∧ 0 < o ∧ o ≤ (if 1 + a + b > 4096 then 4097 else 1 + a + b)) := by
      unfold betterB steps at hb
      rw [ho, ha, hbb] at hb
      simp at hb
      grind
    have HM := Lib.hid (And.intro hml hmr)
    clear hb h hv hi ho ha hbb hml hmr hs
    by_cases ha0 : a = 0
    · subst ha0
      clear hb'
      go_enter Try.func84, Try.ntmps84
      go_wp2
      generalize w.alloc (.cells #[.int .i64 (s : Int), .int .i64 p1, .int .i64 p2, .int .i64 (l : Int), .int .i64 (r : Int)] 125) = Wa at HX HM ⊢
      clear c1 a0 a1 a2 a3 a4
      have x0 : Wa.cell? ⟨w.heap.size, 0, none⟩ = some (.int .i64 (s : Int)) := HX.out.1.cell 0
      have x3 : Wa.cell? ⟨w.heap.size, 3, none⟩ = some (.int .i64 (l : Int)) := HX.out.1.cell 3
      have x4 : Wa.cell? ⟨w.heap.size, 4, none⟩ = some (.int .i64 (r : Int)) := HX.out.1.cell 4
      have c2 : Wa.cell? ⟨sb, 1 + 1, none⟩ = some (.slice (some ⟨mb, 0, none⟩) S.length S.length) := HX.out.2.2.1.blk.cell 2
      have c3 : Wa.cell? ⟨sb, 2, none⟩ = some (.slice (some ⟨mb, 0, none⟩) S.length S.length) := HX.out.2.2.1.blk.cell 2
      have m0 := HX.out.2.2.2.1
      obtain ⟨hml, hmr⟩ := HM.out
      go_quiet (fail)
      go_wp2
      go_ret
      exact ⟨rfl, below_drewN HX.out.2.1 _⟩
    · have ea : (a == 0) = false := by simpa using ha0
      by_cases hb0 : b = 0
      · subst hb0
        clear hb' ha0
        go_enter Try.func84, Try.ntmps84
        go_wp2
        generalize w.alloc (.cells #[.int .i64 (s : Int), .int .i64 p1, .int .i64 p2, .int .i64 (l : Int), .int .i64 (r : Int)] 125) = Wa at HX HM ⊢
        clear c1 a0 a1 a2 a3 a4
        have x0 : Wa.cell? ⟨w.heap.size, 0, none⟩ = some (.int .i64 (s : Int)) := HX.out.1.cell 0
        have x3 : Wa.cell? ⟨w.heap.size, 3, none⟩ = some (.int .i64 (l : Int)) := HX.out.1.cell 3
        have x4 : Wa.cell? ⟨w.heap.size, 4, none⟩ = some (.int .i64 (r : Int)) := HX.out.1.cell 4
        have c2 : Wa.cell? ⟨sb, 1 + 1, none⟩ = some (.slice (some ⟨mb, 0, none⟩) S.length S.length) := HX.out.2.2.1.blk.cell 2
        have c3 : Wa.cell? ⟨sb, 2, none⟩ = some (.slice (some ⟨mb, 0, none⟩) S.length S.length) := HX.out.2.2.1.blk.cell 2
        have m0 := HX.out.2.2.2.1
        obtain ⟨hml, hmr⟩ := HM.out
        go_quiet (fail)
        go_wp2
        go_ret
        exact ⟨rfl, below_drewN HX.out.2.1 _⟩
      · have eb : (b == 0) = false := by simpa using hb0
        obtain ⟨nn, hnn⟩ : ∃ nn, (if 1 + a + b > 4096 then (4097 : Int) else 1 + a + b) = nn := ⟨_, rfl⟩
        rw [hnn] at hb'
        have o0 : decide (0 < o) = true := by simp; omega
        have o1 : decide (o ≤ 4097) = true := by simp; omega
        have o2 : decide (o ≤ 1 + a + b) = true := by simp; split at hnn <;> omega
        have HN := Lib.hid hnn
        clear hb' ha0 hb0 hnn
        go_enter Try.func84, Try.ntmps84
        go_wp2
        generalize w.alloc (.cells #[.int .i64 (s : Int), .int .i64 p1, .int .i64 p2, .int .i64 (l : Int), .int .i64 (r : Int)] 125) = Wa at HX HM ⊢
        clear c1 a0 a1 a2 a3 a4
        have x0 : Wa.cell? ⟨w.heap.size, 0, none⟩ = some (.int .i64 (s : Int)) := HX.out.1.cell 0
        have x3 : Wa.cell? ⟨w.heap.size, 3, none⟩ = some (.int .i64 (l : Int)) := HX.out.1.cell 3
        have x4 : Wa.cell? ⟨w.heap.size, 4, none⟩ = some (.int .i64 (r : Int)) := HX.out.1.cell 4
        have c2 : Wa.cell? ⟨sb, 1 + 1, none⟩ = some (.slice (some ⟨mb, 0, none⟩) S.length S.length) := HX.out.2.2.1.blk.cell 2
        have c3 : Wa.cell? ⟨sb, 2, none⟩ = some (.slice (some ⟨mb, 0, none⟩) S.length S.length) := HX.out.2.2.1.blk.cell 2
        have m0 := HX.out.2.2.2.1
        obtain ⟨hml, hmr⟩ := HM.out
        go_quiet (fail)
        go_wp2
        all_goals
          go_quiet (fail)
          go_wp2
          go_ret
          exact ⟨rfl, below_drewN HX.out.2.1 _⟩

set_option maxHeartbeats 8000000 in
set_option maxRecDepth 20000 in
theorem better_yes (w : World) (sb : Nat) (A : Option Addr) (c : Nat) (B : Option Addr) (d : Nat) (S : List Fct) (P : List Pk) (mb yb : Nat) (T Y : List Int) (i : Nat) (p : Pk) (h : SmI w sb A c B d S P mb yb T Y) (hv : Val T) (hi : P[i]? = some p) (hp : PkIn S.length p) (hb : betterB p T = true) (wb : World) (hwb : ForR wb A c B d S P) (hwl : Below wb.heap.size wb w) (hwm : wb.heap.size ≤ mb ∧ wb.heap.size ≤ yb) :
    Calls Try.prog 84 #[.pointer (some ⟨sb, 0, none⟩), .int .i64 (i : Int)] w (fun e w' => e = .returned (.bool true) ∧ SmI w' sb A c B d S P mb yb (T.set p.spot.toNat (steps p T)) (Y.set p.spot.toNat (i : Int)) ∧ Upd (fun q => q = mb ∨ q = yb) w w') := by
  obtain ⟨p0, p1, p2, p3, p4⟩ := p
  obtain ⟨⟨s, e, hs⟩, hlr⟩ := hp
  dsimp only at e
  subst e
  obtain ⟨gb, go, rfl, a0, a1, a2, a3, a4⟩ := h.f.rp.pack hi
  have hil := (List.getElem?_eq_some_iff.1 hi).1
  have hdI : (P.length : Int) ≤ (d : Int) := by have := h.f.hd; omega
  have hiI : (i : Int) < (P.length : Int) := by omega
  have hsI : (s : Int) < (S.length : Int) := by omega
  have c1 : w.cell? ⟨sb, 1, none⟩ = some (.slice (some ⟨gb, go, none⟩) P.length d) := h.blk.cell 1
  obtain ⟨o, ho⟩ : ∃ o, at0 T (s : Int) = o := ⟨_, rfl⟩
  have hob := hv.at (s : Int)
  rw [ho] at hob
  have kx := Blk.new w 125 #[.int .i64 (s : Int), .int .i64 p1, .int .i64 p2, .int .i64 p3, .int .i64 p4]
  have bA : Below w.heap.size w (w.alloc (.cells #[.int .i64 (s : Int), .int .i64 p1, .int .i64 p2, .int .i64 p3, .int .i64 p4] 125)) := (Below.refl _ _).alloc (Nat.le_refl _) _
  have hA := h.below bA
  have m0 : (w.alloc (.cells #[.int .i64 (s : Int), .int .i64 p1, .int .i64 p2, .int .i64 p3, .int .i64 p4] 125)).cell? ⟨mb, s, none⟩ = some (.int .i64 o) := by rw [hA.m.cell, ints_get (at0_get (by have := h.lm; omega)), ho]
  have HX := Lib.hid (And.intro kx (And.intro bA (And.intro hA (And.intro m0 (And.intro h hs)))))
  clear kx bA hA m0
  rcases hlr with hl | ⟨l, r, e1, e2, hl, hr⟩
  · dsimp only at hl
    have el : decide (0 ≤ p3) = false := by simp; omega
    have hst : steps ⟨(s : Int), p1, p2, p3, p4⟩ T = 1 := by simp [steps, hl]
    have hb' : o = 0 ∨ o > 1 := by
      unfold betterB at hb
      rw [hst] at hb
      simp [ho] at hb
      omega
    have HST := Lib.hid hst
    have HF := Lib.hid (And.intro hwb (And.intro hwl hwm))
    clear hwb hwl hwm
    have HM := Lib.hid (And.intro True.intro True.intro)
    clear hb hst hl h hv hi ho hs
    by_cases o0 : o = 0
    · subst o0
      clear hb'
      go_enter Try.func84, Try.ntmps84
      go_wp2
      generalize w.alloc (.cells #[.int .i64 (s : Int), .int .i64 p1, .int .i64 p2, .int .i64 p3, .int .i64 p4] 125) = Wa at HX HM ⊢
      clear c1 a0 a1 a2 a3 a4
      have x0 : Wa.cell? ⟨w.heap.size, 0, none⟩ = some (.int .i64 (s : Int)) := HX.out.1.cell 0
      have x3 : Wa.cell? ⟨w.heap.size, 3, none⟩ = some (.int .i64 p3) := HX.out.1.cell 3
      have x4 : Wa.cell? ⟨w.heap.size, 4, none⟩ = some (.int .i64 p4) := HX.out.1.cell 4
      have c2 : Wa.cell? ⟨sb, 1 + 1, none⟩ = some (.slice (some ⟨mb, 0, none⟩) S.length S.length) := HX.out.2.2.1.blk.cell 2
      have c3 : Wa.cell? ⟨sb, 2, none⟩ = some (.slice (some ⟨mb, 0, none⟩) S.length S.length) := HX.out.2.2.1.blk.cell 2
      have m0 := HX.out.2.2.2.1
      obtain ⟨hml, hmr⟩ := HM.out
      go_quiet (fail)
      go_wp2
      generalize hd : World.drewN Wa _ = Wd
      have bD : Below w.heap.size w Wd := by rw [← hd]; exact below_drewN HX.out.2.1 _
      have kD : SmI Wd sb A c (some ⟨gb, go, none⟩) d S P mb yb T Y := by rw [← hd]; exact HX.out.2.2.1.below (below_drewN (Below.refl _ _) _)
      have xD : Blk Wd w.heap.size 125 #[.int .i64 (s : Int), .int .i64 p1, .int .i64 p2, .int .i64 p3, .int .i64 p4] := by rw [← hd]; exact HX.out.1
      have mD : Wd.cell? ⟨mb, s, none⟩ = some (.int .i64 0) := by rw [← hd]; exact HX.out.2.2.2.1
      have hlt : sb < w.heap.size ∧ mb < w.heap.size ∧ yb < w.heap.size := ⟨HX.out.2.2.2.2.1.blk.lt, HX.out.2.2.2.2.1.m.lt, HX.out.2.2.2.2.1.y.lt⟩
      have HD := Lib.hid (And.intro bD (And.intro kD (And.intro xD (And.intro mD hlt))))
      clear hd bD kD xD mD hlt x0 x3 x4 c2 c3 m0
      have SS : Hid (∀ w' : World, Blk w' sb 133 #[.slice A S.length c, .slice (some ⟨gb, go, none⟩) P.length d, .slice (some ⟨mb, 0, none⟩) S.length S.length, .slice (some ⟨yb, 0, none⟩) S.length S.length] → Blk w' w.heap.size 125 #[.int .i64 (s : Int), .int .i64 p1, .int .i64 p2, .int .i64 p3, .int .i64 p4] → w'.cell? ⟨sb, 1 + 1, none⟩ = some (.slice (some ⟨mb, 0, none⟩) S.length S.length) ∧ w'.cell? ⟨sb, 2, none⟩ = some (.slice (some ⟨mb, 0, none⟩) S.length S.length) ∧ w'.cell? ⟨sb, 1 + 1 + 1, none⟩ = some (.slice (some ⟨yb, 0, none⟩) S.length S.length) ∧ w'.cell? ⟨sb, 3, none⟩ = some (.slice (some ⟨yb, 0, none⟩) S.length S.length) ∧ w'.cell? ⟨w.heap.size, 0, none⟩ = some (.int .i64 (s : Int))) := Lib.hid (fun w' h1 h2 => ⟨h1.cell 2, h1.cell 2, h1.cell 3, h1.cell 3, h2.cell 0⟩)
      refine wp_region_ord (fun w' => w'.cell? ⟨sb, 1 + 1, none⟩ = some (.slice (some ⟨mb, 0, none⟩) S.length S.length) ∧ w'.cell? ⟨sb, 2, none⟩ = some (.slice (some ⟨mb, 0, none⟩) S.length S.length) ∧ w'.cell? ⟨sb, 1 + 1 + 1, none⟩ = some (.slice (some ⟨yb, 0, none⟩) S.length S.length) ∧ w'.cell? ⟨sb, 3, none⟩ = some (.slice (some ⟨yb, 0, none⟩) S.length S.length) ∧ w'.cell? ⟨w.heap.size, 0, none⟩ = some (.int .i64 (s : Int))) 18 [(0, true), (1, true), (2, true), (3, true), (4, true), (5, true), (6, true), (7, true), (8, true), (9, true), (10, true), (11, true), (12, true), (13, true), (14, true), (15, false), (16, true), (17, false)] (by kernel_rfl) (by kernel_rfl) (fun _ _ d _ _ h => by cases d <;> exact h) (SS.out _ HD.out.2.1.blk.drew HD.out.2.2.1.drew) ?_
      iterate 15 (refine ord_take (v := ?_) rfl (by first | with_reducible rfl | kernel_rfl) ?_ ?_; rotate_left; (focus (intro wS hS; (try dsimp only at hS); go_split_ands; go_simp; (try with_reducible rfl); done)); (try simp only [Act.put, List.getElem_toArray, List.getElem_cons_succ, List.getElem_cons_zero, List.setIfInBounds_toArray, List.set_cons_zero, List.set_cons_succ]))
      have m1 : Wd.cell? ⟨mb, s, none⟩ = some (.int .i64 0) := HD.out.2.2.2.1
      have m2 : Wd.frozen? ⟨mb, s, none⟩ = false := HD.out.2.1.m.frozen s
      have b8 := HD.out.2.1.blk.far (p := ⟨mb, s, none⟩) HD.out.2.1.sm (.int .i64 (1))
      have x8 := HD.out.2.2.1.far (p := ⟨mb, s, none⟩) (by have := HD.out.2.2.2.2; show w.heap.size ≠ mb; omega) (.int .i64 (1))
      have m8 := HD.out.2.1.m.set s (.int .i64 (1))
      rw [ints_set] at m8
      have y8 := HD.out.2.1.y.far (p := ⟨mb, s, none⟩) (Ne.symm HD.out.2.1.my) (.int .i64 (1))
      have u8 : Upd (fun q => q = mb ∨ q = yb) w (Wd.setCell ⟨mb, s, none⟩ (.int .i64 (1))) := (Upd.of_below HD.out.1 _).setCell (.inl (.inl rfl)) _
      have H8 := Lib.hid (And.intro b8 (And.intro x8 (And.intro m8 (And.intro y8 u8))))
      clear b8 x8 m8 y8 u8
      refine ord_do rfl rfl (fun K hK => ?_)
      go_simp
      refine hK _ _ (fun _ => SS.out _ H8.out.1 H8.out.2.1) ?_
      clear hK K m1 m2
      generalize Wd.setCell ⟨mb, s, none⟩ (.int .i64 (1)) = W8 at H8 ⊢
      (try simp only [Act.put, List.getElem_toArray, List.getElem_cons_succ, List.getElem_cons_zero, List.setIfInBounds_toArray, List.set_cons_zero, List.set_cons_succ])
      iterate 1 (refine ord_take (v := ?_) rfl (by first | with_reducible rfl | kernel_rfl) ?_ ?_; rotate_left; (focus (intro wS hS; (try dsimp only at hS); go_split_ands; go_simp; (try with_reducible rfl); done)); (try simp only [Act.put, List.getElem_toArray, List.getElem_cons_succ, List.getElem_cons_zero, List.setIfInBounds_toArray, List.set_cons_zero, List.set_cons_succ]))
      have hys : s < Y.length := by have := HX.out.2.2.1.ly; have := HX.out.2.2.2.2.2; omega
      have n1 : W8.cell? ⟨yb, s, none⟩ = some (.int .i64 (at0 Y (s : Int))) := by rw [H8.out.2.2.2.1.cell, ints_get (at0_get hys)]
      have n2 : W8.frozen? ⟨yb, s, none⟩ = false := H8.out.2.2.2.1.frozen s
      refine ord_do rfl rfl (fun K hK => ?_)
      go_simp
      have b9 := H8.out.1.far (p := ⟨yb, s, none⟩) HX.out.2.2.1.sy (.int .i64 (i : Int))
      have x9 := H8.out.2.1.far (p := ⟨yb, s, none⟩) (by have := HD.out.2.2.2.2; show w.heap.size ≠ yb; omega) (.int .i64 (i : Int))
      have m9 := H8.out.2.2.1.far (p := ⟨yb, s, none⟩) HX.out.2.2.1.my (.int .i64 (i : Int))
      have y9 := H8.out.2.2.2.1.set s (.int .i64 (i : Int))
      rw [ints_set] at y9
      have u9 : Upd (fun q => q = mb ∨ q = yb) w ((W8.setCell ⟨yb, s, none⟩ (.int .i64 (i : Int))).drew) := (H8.out.2.2.2.2.setCell (.inl (.inr rfl)) _).drew
      refine hK _ _ (fun _ => SS.out _ b9 x9) ?_
      clear hK K n1 n2
      have fin : SmI ((W8.setCell ⟨yb, s, none⟩ (.int .i64 (i : Int))).drew) sb A c (some ⟨gb, go, none⟩) d S P mb yb (T.set s (1)) (Y.set s (i : Int)) := by
        have hf := HX.out.2.2.2.2.1
        exact ⟨b9.drew, m9.drew, y9.drew, by rw [List.length_set]; exact hf.lm, by rw [List.length_set]; exact hf.ly, HF.out.1.below (HF.out.2.1.trans (u9.below (fun q _ hq => by have := HF.out.2.2; rcases hq with rfl | rfl <;> omega) HF.out.2.1.size)), hf.sm, hf.sy, hf.my⟩
      have FIN := Lib.hid (And.intro fin u9)
      clear fin u9 b9 x9 m9 y9
      generalize (W8.setCell ⟨yb, s, none⟩ (.int .i64 (i : Int))).drew = W9 at FIN ⊢
      refine ord_done ?_
      go_wp2
      go_ret
      refine ⟨rfl, ?_, FIN.out.2⟩
      have := FIN.out.1
      rw [HST.out]
      simpa using this
    · have e0 : decide (0 < o) = true := by simp; omega
      have e1 : decide (o ≤ 1) = false := by simp; omega
      clear hb' o0
      go_enter Try.func84, Try.ntmps84
      go_wp2
      generalize w.alloc (.cells #[.int .i64 (s : Int), .int .i64 p1, .int .i64 p2, .int .i64 p3, .int .i64 p4] 125) = Wa at HX HM ⊢
      clear c1 a0 a1 a2 a3 a4
      have x0 : Wa.cell? ⟨w.heap.size, 0, none⟩ = some (.int .i64 (s : Int)) := HX.out.1.cell 0
      have x3 : Wa.cell? ⟨w.heap.size, 3, none⟩ = some (.int .i64 p3) := HX.out.1.cell 3
      have x4 : Wa.cell? ⟨w.heap.size, 4, none⟩ = some (.int .i64 p4) := HX.out.1.cell 4
      have c2 : Wa.cell? ⟨sb, 1 + 1, none⟩ = some (.slice (some ⟨mb, 0, none⟩) S.length S.length) := HX.out.2.2.1.blk.cell 2
      have c3 : Wa.cell? ⟨sb, 2, none⟩ = some (.slice (some ⟨mb, 0, none⟩) S.length S.length) := HX.out.2.2.1.blk.cell 2
      have m0 := HX.out.2.2.2.1
      obtain ⟨hml, hmr⟩ := HM.out
      go_quiet (fail)
      go_wp2
      generalize hd : World.drewN Wa _ = Wd
      have bD : Below w.heap.size w Wd := by rw [← hd]; exact below_drewN HX.out.2.1 _
      have kD : SmI Wd sb A c (some ⟨gb, go, none⟩) d S P mb yb T Y := by rw [← hd]; exact HX.out.2.2.1.below (below_drewN (Below.refl _ _) _)
      have xD : Blk Wd w.heap.size 125 #[.int .i64 (s : Int), .int .i64 p1, .int .i64 p2, .int .i64 p3, .int .i64 p4] := by rw [← hd]; exact HX.out.1
      have mD : Wd.cell? ⟨mb, s, none⟩ = some (.int .i64 o) := by rw [← hd]; exact HX.out.2.2.2.1
      have hlt : sb < w.heap.size ∧ mb < w.heap.size ∧ yb < w.heap.size := ⟨HX.out.2.2.2.2.1.blk.lt, HX.out.2.2.2.2.1.m.lt, HX.out.2.2.2.2.1.y.lt⟩
      have HD := Lib.hid (And.intro bD (And.intro kD (And.intro xD (And.intro mD hlt))))
      clear hd bD kD xD mD hlt x0 x3 x4 c2 c3 m0
      have SS : Hid (∀ w' : World, Blk w' sb 133 #[.slice A S.length c, .slice (some ⟨gb, go, none⟩) P.length d, .slice (some ⟨mb, 0, none⟩) S.length S.length, .slice (some ⟨yb, 0, none⟩) S.length S.length] → Blk w' w.heap.size 125 #[.int .i64 (s : Int), .int .i64 p1, .int .i64 p2, .int .i64 p3, .int .i64 p4] → w'.cell? ⟨sb, 1 + 1, none⟩ = some (.slice (some ⟨mb, 0, none⟩) S.length S.length) ∧ w'.cell? ⟨sb, 2, none⟩ = some (.slice (some ⟨mb, 0, none⟩) S.length S.length) ∧ w'.cell? ⟨sb, 1 + 1 + 1, none⟩ = some (.slice (some ⟨yb, 0, none⟩) S.length S.length) ∧ w'.cell? ⟨sb, 3, none⟩ = some (.slice (some ⟨yb, 0, none⟩) S.length S.length) ∧ w'.cell? ⟨w.heap.size, 0, none⟩ = some (.int .i64 (s : Int))) := Lib.hid (fun w' h1 h2 => ⟨h1.cell 2, h1.cell 2, h1.cell 3, h1.cell 3, h2.cell 0⟩)
      refine wp_region_ord (fun w' => w'.cell? ⟨sb, 1 + 1, none⟩ = some (.slice (some ⟨mb, 0, none⟩) S.length S.length) ∧ w'.cell? ⟨sb, 2, none⟩ = some (.slice (some ⟨mb, 0, none⟩) S.length S.length) ∧ w'.cell? ⟨sb, 1 + 1 + 1, none⟩ = some (.slice (some ⟨yb, 0, none⟩) S.length S.length) ∧ w'.cell? ⟨sb, 3, none⟩ = some (.slice (some ⟨yb, 0, none⟩) S.length S.length) ∧ w'.cell? ⟨w.heap.size, 0, none⟩ = some (.int .i64 (s : Int))) 18 [(0, true), (1, true), (2, true), (3, true), (4, true), (5, true), (6, true), (7, true), (8, true), (9, true), (10, true), (11, true), (12, true), (13, true), (14, true), (15, false), (16, true), (17, false)] (by kernel_rfl) (by kernel_rfl) (fun _ _ d _ _ h => by cases d <;> exact h) (SS.out _ HD.out.2.1.blk.drew HD.out.2.2.1.drew) ?_
      iterate 15 (refine ord_take (v := ?_) rfl (by first | with_reducible rfl | kernel_rfl) ?_ ?_; rotate_left; (focus (intro wS hS; (try dsimp only at hS); go_split_ands; go_simp; (try with_reducible rfl); done)); (try simp only [Act.put, List.getElem_toArray, List.getElem_cons_succ, List.getElem_cons_zero, List.setIfInBounds_toArray, List.set_cons_zero, List.set_cons_succ]))
      have m1 : Wd.cell? ⟨mb, s, none⟩ = some (.int .i64 o) := HD.out.2.2.2.1
      have m2 : Wd.frozen? ⟨mb, s, none⟩ = false := HD.out.2.1.m.frozen s
      have b8 := HD.out.2.1.blk.far (p := ⟨mb, s, none⟩) HD.out.2.1.sm (.int .i64 (1))
      have x8 := HD.out.2.2.1.far (p := ⟨mb, s, none⟩) (by have := HD.out.2.2.2.2; show w.heap.size ≠ mb; omega) (.int .i64 (1))
      have m8 := HD.out.2.1.m.set s (.int .i64 (1))
      rw [ints_set] at m8
      have y8 := HD.out.2.1.y.far (p := ⟨mb, s, none⟩) (Ne.symm HD.out.2.1.my) (.int .i64 (1))
      have u8 : Upd (fun q => q = mb ∨ q = yb) w (Wd.setCell ⟨mb, s, none⟩ (.int .i64 (1))) := (Upd.of_below HD.out.1 _).setCell (.inl (.inl rfl)) _
      have H8 := Lib.hid (And.intro b8 (And.intro x8 (And.intro m8 (And.intro y8 u8))))
      clear b8 x8 m8 y8 u8
      refine ord_do rfl rfl (fun K hK => ?_)
      go_simp
      refine hK _ _ (fun _ => SS.out _ H8.out.1 H8.out.2.1) ?_
      clear hK K m1 m2
      generalize Wd.setCell ⟨mb, s, none⟩ (.int .i64 (1)) = W8 at H8 ⊢
      (try simp only [Act.put, List.getElem_toArray, List.getElem_cons_succ, List.getElem_cons_zero, List.setIfInBounds_toArray, List.set_cons_zero, List.set_cons_succ])
      iterate 1 (refine ord_take (v := ?_) rfl (by first | with_reducible rfl | kernel_rfl) ?_ ?_; rotate_left; (focus (intro wS hS; (try dsimp only at hS); go_split_ands; go_simp; (try with_reducible rfl); done)); (try simp only [Act.put, List.getElem_toArray, List.getElem_cons_succ, List.getElem_cons_zero, List.setIfInBounds_toArray, List.set_cons_zero, List.set_cons_succ]))
      have hys : s < Y.length := by have := HX.out.2.2.1.ly; have := HX.out.2.2.2.2.2; omega
      have n1 : W8.cell? ⟨yb, s, none⟩ = some (.int .i64 (at0 Y (s : Int))) := by rw [H8.out.2.2.2.1.cell, ints_get (at0_get hys)]
      have n2 : W8.frozen? ⟨yb, s, none⟩ = false := H8.out.2.2.2.1.frozen s
      refine ord_do rfl rfl (fun K hK => ?_)
      go_simp
      have b9 := H8.out.1.far (p := ⟨yb, s, none⟩) HX.out.2.2.1.sy (.int .i64 (i : Int))
      have x9 := H8.out.2.1.far (p := ⟨yb, s, none⟩) (by have := HD.out.2.2.2.2; show w.heap.size ≠ yb; omega) (.int .i64 (i : Int))
      have m9 := H8.out.2.2.1.far (p := ⟨yb, s, none⟩) HX.out.2.2.1.my (.int .i64 (i : Int))
      have y9 := H8.out.2.2.2.1.set s (.int .i64 (i : Int))
      rw [ints_set] at y9
      have u9 : Upd (fun q => q = mb ∨ q = yb) w ((W8.setCell ⟨yb, s, none⟩ (.int .i64 (i : Int))).drew) := (H8.out.2.2.2.2.setCell (.inl (.inr rfl)) _).drew
      refine hK _ _ (fun _ => SS.out _ b9 x9) ?_
      clear hK K n1 n2
      have fin : SmI ((W8.setCell ⟨yb, s, none⟩ (.int .i64 (i : Int))).drew) sb A c (some ⟨gb, go, none⟩) d S P mb yb (T.set s (1)) (Y.set s (i : Int)) := by
        have hf := HX.out.2.2.2.2.1
        exact ⟨b9.drew, m9.drew, y9.drew, by rw [List.length_set]; exact hf.lm, by rw [List.length_set]; exact hf.ly, HF.out.1.below (HF.out.2.1.trans (u9.below (fun q _ hq => by have := HF.out.2.2; rcases hq with rfl | rfl <;> omega) HF.out.2.1.size)), hf.sm, hf.sy, hf.my⟩
      have FIN := Lib.hid (And.intro fin u9)
      clear fin u9 b9 x9 m9 y9
      generalize (W8.setCell ⟨yb, s, none⟩ (.int .i64 (i : Int))).drew = W9 at FIN ⊢
      refine ord_done ?_
      go_wp2
      go_ret
      refine ⟨rfl, ?_, FIN.out.2⟩
      have := FIN.out.1
      rw [HST.out]
      simpa using this
  · dsimp only at e1 e2
    subst e1
    subst e2
    have hlI : (l : Int) < (S.length : Int) := by omega
    have hrI : (r : Int) < (S.length : Int) := by omega
    obtain ⟨a, ha⟩ : ∃ a, at0 T (l : Int) = a := ⟨_, rfl⟩
    obtain ⟨b, hbb⟩ : ∃ b, at0 T (r : Int) = b := ⟨_, rfl⟩
    have hab := hv.at (l : Int)
    have hbv := hv.at (r : Int)
    rw [ha] at hab
    rw [hbb] at hbv
    have hml := HX.out.2.2.1.m.cell l
    rw [ints_get (at0_get (by have := h.lm; omega)), ha] at hml
    have hmr := HX.out.2.2.1.m.cell r
    rw [ints_get (at0_get (by have := h.lm; omega)), hbb] at hmr
    have hst : steps ⟨(s : Int), p1, p2, (l : Int), (r : Int)⟩ T = if a = 0 ∨ b = 0 then 0 else if 1 + a + b > 4096 then 4097 else 1 + a + b := by
      unfold steps
      rw [if_neg (by simp), ha, hbb]
    have hb' : a ≠ 0 ∧ b ≠ 0 ∧ (o = 0 ∨ (o > 1 + a + b ∧ o > 0)) := by
      unfold betterB at hb
      rw [hst, ho] at hb
      simp at hb
      grind
    rw [if_neg (by omega)] at hst
    have HM := Lib.hid (And.intro hml hmr)
    have HST0 := Lib.hid hst
    have HF := Lib.hid (And.intro hwb (And.intro hwl hwm))
    have ea : (a == 0) = false := by simpa using hb'.1
    have eb : (b == 0) = false := by simpa using hb'.2.1
    obtain ⟨ha0, hb0, hb'⟩ := hb'
    clear hb h hv hi ho ha hbb hml hmr hs hst hwb hwl hwm ha0 hb0
    by_cases o0 : o = 0
    · subst o0
      clear hb'
      go_enter Try.func84, Try.ntmps84
      go_wp2
      generalize w.alloc (.cells #[.int .i64 (s : Int), .int .i64 p1, .int .i64 p2, .int .i64 (l : Int), .int .i64 (r : Int)] 125) = Wa at HX HM ⊢
      clear c1 a0 a1 a2 a3 a4
      have x0 : Wa.cell? ⟨w.heap.size, 0, none⟩ = some (.int .i64 (s : Int)) := HX.out.1.cell 0
      have x3 : Wa.cell? ⟨w.heap.size, 3, none⟩ = some (.int .i64 (l : Int)) := HX.out.1.cell 3
      have x4 : Wa.cell? ⟨w.heap.size, 4, none⟩ = some (.int .i64 (r : Int)) := HX.out.1.cell 4
      have c2 : Wa.cell? ⟨sb, 1 + 1, none⟩ = some (.slice (some ⟨mb, 0, none⟩) S.length S.length) := HX.out.2.2.1.blk.cell 2
      have c3 : Wa.cell? ⟨sb, 2, none⟩ = some (.slice (some ⟨mb, 0, none⟩) S.length S.length) := HX.out.2.2.1.blk.cell 2
      have m0 := HX.out.2.2.2.1
      obtain ⟨hml, hmr⟩ := HM.out
      go_quiet (fail)
      go_wp2
      case inl =>
        rename_i hmin
        have HST : Hid (steps ⟨(s : Int), p1, p2, (l : Int), (r : Int)⟩ T = 4097) := Lib.hid (by rw [HST0.out]; split <;> omega)
        go_quiet (fail)
        go_wp2
        generalize hd : World.drewN Wa _ = Wd
        have bD : Below w.heap.size w Wd := by rw [← hd]; exact below_drewN HX.out.2.1 _
        have kD : SmI Wd sb A c (some ⟨gb, go, none⟩) d S P mb yb T Y := by rw [← hd]; exact HX.out.2.2.1.below (below_drewN (Below.refl _ _) _)
        have xD : Blk Wd w.heap.size 125 #[.int .i64 (s : Int), .int .i64 p1, .int .i64 p2, .int .i64 (l : Int), .int .i64 (r : Int)] := by rw [← hd]; exact HX.out.1
        have mD : Wd.cell? ⟨mb, s, none⟩ = some (.int .i64 0) := by rw [← hd]; exact HX.out.2.2.2.1
        have hlt : sb < w.heap.size ∧ mb < w.heap.size ∧ yb < w.heap.size := ⟨HX.out.2.2.2.2.1.blk.lt, HX.out.2.2.2.2.1.m.lt, HX.out.2.2.2.2.1.y.lt⟩
        have HD := Lib.hid (And.intro bD (And.intro kD (And.intro xD (And.intro mD hlt))))
        clear hd bD kD xD mD hlt x0 x3 x4 c2 c3 m0
        have SS : Hid (∀ w' : World, Blk w' sb 133 #[.slice A S.length c, .slice (some ⟨gb, go, none⟩) P.length d, .slice (some ⟨mb, 0, none⟩) S.length S.length, .slice (some ⟨yb, 0, none⟩) S.length S.length] → Blk w' w.heap.size 125 #[.int .i64 (s : Int), .int .i64 p1, .int .i64 p2, .int .i64 (l : Int), .int .i64 (r : Int)] → w'.cell? ⟨sb, 1 + 1, none⟩ = some (.slice (some ⟨mb, 0, none⟩) S.length S.length) ∧ w'.cell? ⟨sb, 2, none⟩ = some (.slice (some ⟨mb, 0, none⟩) S.length S.length) ∧ w'.cell? ⟨sb, 1 + 1 + 1, none⟩ = some (.slice (some ⟨yb, 0, none⟩) S.length S.length) ∧ w'.cell? ⟨sb, 3, none⟩ = some (.slice (some ⟨yb, 0, none⟩) S.length S.length) ∧ w'.cell? ⟨w.heap.size, 0, none⟩ = some (.int .i64 (s : Int))) := Lib.hid (fun w' h1 h2 => ⟨h1.cell 2, h1.cell 2, h1.cell 3, h1.cell 3, h2.cell 0⟩)
        refine wp_region_ord (fun w' => w'.cell? ⟨sb, 1 + 1, none⟩ = some (.slice (some ⟨mb, 0, none⟩) S.length S.length) ∧ w'.cell? ⟨sb, 2, none⟩ = some (.slice (some ⟨mb, 0, none⟩) S.length S.length) ∧ w'.cell? ⟨sb, 1 + 1 + 1, none⟩ = some (.slice (some ⟨yb, 0, none⟩) S.length S.length) ∧ w'.cell? ⟨sb, 3, none⟩ = some (.slice (some ⟨yb, 0, none⟩) S.length S.length) ∧ w'.cell? ⟨w.heap.size, 0, none⟩ = some (.int .i64 (s : Int))) 18 [(0, true), (1, true), (2, true), (3, true), (4, true), (5, true), (6, true), (7, true), (8, true), (9, true), (10, true), (11, true), (12, true), (13, true), (14, true), (15, false), (16, true), (17, false)] (by kernel_rfl) (by kernel_rfl) (fun _ _ d _ _ h => by cases d <;> exact h) (SS.out _ HD.out.2.1.blk.drew HD.out.2.2.1.drew) ?_
        iterate 15 (refine ord_take (v := ?_) rfl (by first | with_reducible rfl | kernel_rfl) ?_ ?_; rotate_left; (focus (intro wS hS; (try dsimp only at hS); go_split_ands; go_simp; (try with_reducible rfl); done)); (try simp only [Act.put, List.getElem_toArray, List.getElem_cons_succ, List.getElem_cons_zero, List.setIfInBounds_toArray, List.set_cons_zero, List.set_cons_succ]))
        have m1 : Wd.cell? ⟨mb, s, none⟩ = some (.int .i64 0) := HD.out.2.2.2.1
        have m2 : Wd.frozen? ⟨mb, s, none⟩ = false := HD.out.2.1.m.frozen s
        have b8 := HD.out.2.1.blk.far (p := ⟨mb, s, none⟩) HD.out.2.1.sm (.int .i64 (4097))
        have x8 := HD.out.2.2.1.far (p := ⟨mb, s, none⟩) (by have := HD.out.2.2.2.2; show w.heap.size ≠ mb; omega) (.int .i64 (4097))
        have m8 := HD.out.2.1.m.set s (.int .i64 (4097))
        rw [ints_set] at m8
        have y8 := HD.out.2.1.y.far (p := ⟨mb, s, none⟩) (Ne.symm HD.out.2.1.my) (.int .i64 (4097))
        have u8 : Upd (fun q => q = mb ∨ q = yb) w (Wd.setCell ⟨mb, s, none⟩ (.int .i64 (4097))) := (Upd.of_below HD.out.1 _).setCell (.inl (.inl rfl)) _
        have H8 := Lib.hid (And.intro b8 (And.intro x8 (And.intro m8 (And.intro y8 u8))))
        clear b8 x8 m8 y8 u8
        refine ord_do rfl rfl (fun K hK => ?_)
        go_simp
        refine hK _ _ (fun _ => SS.out _ H8.out.1 H8.out.2.1) ?_
        clear hK K m1 m2
        generalize Wd.setCell ⟨mb, s, none⟩ (.int .i64 (4097)) = W8 at H8 ⊢
        (try simp only [Act.put, List.getElem_toArray, List.getElem_cons_succ, List.getElem_cons_zero, List.setIfInBounds_toArray, List.set_cons_zero, List.set_cons_succ])
        iterate 1 (refine ord_take (v := ?_) rfl (by first | with_reducible rfl | kernel_rfl) ?_ ?_; rotate_left; (focus (intro wS hS; (try dsimp only at hS); go_split_ands; go_simp; (try with_reducible rfl); done)); (try simp only [Act.put, List.getElem_toArray, List.getElem_cons_succ, List.getElem_cons_zero, List.setIfInBounds_toArray, List.set_cons_zero, List.set_cons_succ]))
        have hys : s < Y.length := by have := HX.out.2.2.1.ly; have := HX.out.2.2.2.2.2; omega
        have n1 : W8.cell? ⟨yb, s, none⟩ = some (.int .i64 (at0 Y (s : Int))) := by rw [H8.out.2.2.2.1.cell, ints_get (at0_get hys)]
        have n2 : W8.frozen? ⟨yb, s, none⟩ = false := H8.out.2.2.2.1.frozen s
        refine ord_do rfl rfl (fun K hK => ?_)
        go_simp
        have b9 := H8.out.1.far (p := ⟨yb, s, none⟩) HX.out.2.2.1.sy (.int .i64 (i : Int))
        have x9 := H8.out.2.1.far (p := ⟨yb, s, none⟩) (by have := HD.out.2.2.2.2; show w.heap.size ≠ yb; omega) (.int .i64 (i : Int))
        have m9 := H8.out.2.2.1.far (p := ⟨yb, s, none⟩) HX.out.2.2.1.my (.int .i64 (i : Int))
        have y9 := H8.out.2.2.2.1.set s (.int .i64 (i : Int))
        rw [ints_set] at y9
        have u9 : Upd (fun q => q = mb ∨ q = yb) w ((W8.setCell ⟨yb, s, none⟩ (.int .i64 (i : Int))).drew) := (H8.out.2.2.2.2.setCell (.inl (.inr rfl)) _).drew
        refine hK _ _ (fun _ => SS.out _ b9 x9) ?_
        clear hK K n1 n2
        have fin : SmI ((W8.setCell ⟨yb, s, none⟩ (.int .i64 (i : Int))).drew) sb A c (some ⟨gb, go, none⟩) d S P mb yb (T.set s (4097)) (Y.set s (i : Int)) := by
          have hf := HX.out.2.2.2.2.1
          exact ⟨b9.drew, m9.drew, y9.drew, by rw [List.length_set]; exact hf.lm, by rw [List.length_set]; exact hf.ly, HF.out.1.below (HF.out.2.1.trans (u9.below (fun q _ hq => by have := HF.out.2.2; rcases hq with rfl | rfl <;> omega) HF.out.2.1.size)), hf.sm, hf.sy, hf.my⟩
        have FIN := Lib.hid (And.intro fin u9)
        clear fin u9 b9 x9 m9 y9
        generalize (W8.setCell ⟨yb, s, none⟩ (.int .i64 (i : Int))).drew = W9 at FIN ⊢
        refine ord_done ?_
        go_wp2
        go_ret
        refine ⟨rfl, ?_, FIN.out.2⟩
        have := FIN.out.1
        rw [HST.out]
        simpa using this
      case inr =>
        rename_i hmin
        have HST : Hid (steps ⟨(s : Int), p1, p2, (l : Int), (r : Int)⟩ T = 1 + a + b) := Lib.hid (by rw [HST0.out]; split <;> omega)
        go_quiet (fail)
        go_wp2
        generalize hd : World.drewN Wa _ = Wd
        have bD : Below w.heap.size w Wd := by rw [← hd]; exact below_drewN HX.out.2.1 _
        have kD : SmI Wd sb A c (some ⟨gb, go, none⟩) d S P mb yb T Y := by rw [← hd]; exact HX.out.2.2.1.below (below_drewN (Below.refl _ _) _)
        have xD : Blk Wd w.heap.size 125 #[.int .i64 (s : Int), .int .i64 p1, .int .i64 p2, .int .i64 (l : Int), .int .i64 (r : Int)] := by rw [← hd]; exact HX.out.1
        have mD : Wd.cell? ⟨mb, s, none⟩ = some (.int .i64 0) := by rw [← hd]; exact HX.out.2.2.2.1
        have hlt : sb < w.heap.size ∧ mb < w.heap.size ∧ yb < w.heap.size := ⟨HX.out.2.2.2.2.1.blk.lt, HX.out.2.2.2.2.1.m.lt, HX.out.2.2.2.2.1.y.lt⟩
        have HD := Lib.hid (And.intro bD (And.intro kD (And.intro xD (And.intro mD hlt))))
        clear hd bD kD xD mD hlt x0 x3 x4 c2 c3 m0
        have SS : Hid (∀ w' : World, Blk w' sb 133 #[.slice A S.length c, .slice (some ⟨gb, go, none⟩) P.length d, .slice (some ⟨mb, 0, none⟩) S.length S.length, .slice (some ⟨yb, 0, none⟩) S.length S.length] → Blk w' w.heap.size 125 #[.int .i64 (s : Int), .int .i64 p1, .int .i64 p2, .int .i64 (l : Int), .int .i64 (r : Int)] → w'.cell? ⟨sb, 1 + 1, none⟩ = some (.slice (some ⟨mb, 0, none⟩) S.length S.length) ∧ w'.cell? ⟨sb, 2, none⟩ = some (.slice (some ⟨mb, 0, none⟩) S.length S.length) ∧ w'.cell? ⟨sb, 1 + 1 + 1, none⟩ = some (.slice (some ⟨yb, 0, none⟩) S.length S.length) ∧ w'.cell? ⟨sb, 3, none⟩ = some (.slice (some ⟨yb, 0, none⟩) S.length S.length) ∧ w'.cell? ⟨w.heap.size, 0, none⟩ = some (.int .i64 (s : Int))) := Lib.hid (fun w' h1 h2 => ⟨h1.cell 2, h1.cell 2, h1.cell 3, h1.cell 3, h2.cell 0⟩)
        refine wp_region_ord (fun w' => w'.cell? ⟨sb, 1 + 1, none⟩ = some (.slice (some ⟨mb, 0, none⟩) S.length S.length) ∧ w'.cell? ⟨sb, 2, none⟩ = some (.slice (some ⟨mb, 0, none⟩) S.length S.length) ∧ w'.cell? ⟨sb, 1 + 1 + 1, none⟩ = some (.slice (some ⟨yb, 0, none⟩) S.length S.length) ∧ w'.cell? ⟨sb, 3, none⟩ = some (.slice (some ⟨yb, 0, none⟩) S.length S.length) ∧ w'.cell? ⟨w.heap.size, 0, none⟩ = some (.int .i64 (s : Int))) 18 [(0, true), (1, true), (2, true), (3, true), (4, true), (5, true), (6, true), (7, true), (8, true), (9, true), (10, true), (11, true), (12, true), (13, true), (14, true), (15, false), (16, true), (17, false)] (by kernel_rfl) (by kernel_rfl) (fun _ _ d _ _ h => by cases d <;> exact h) (SS.out _ HD.out.2.1.blk.drew HD.out.2.2.1.drew) ?_
        iterate 15 (refine ord_take (v := ?_) rfl (by first | with_reducible rfl | kernel_rfl) ?_ ?_; rotate_left; (focus (intro wS hS; (try dsimp only at hS); go_split_ands; go_simp; (try with_reducible rfl); done)); (try simp only [Act.put, List.getElem_toArray, List.getElem_cons_succ, List.getElem_cons_zero, List.setIfInBounds_toArray, List.set_cons_zero, List.set_cons_succ]))
        have m1 : Wd.cell? ⟨mb, s, none⟩ = some (.int .i64 0) := HD.out.2.2.2.1
        have m2 : Wd.frozen? ⟨mb, s, none⟩ = false := HD.out.2.1.m.frozen s
        have b8 := HD.out.2.1.blk.far (p := ⟨mb, s, none⟩) HD.out.2.1.sm (.int .i64 (1 + a + b))
        have x8 := HD.out.2.2.1.far (p := ⟨mb, s, none⟩) (by have := HD.out.2.2.2.2; show w.heap.size ≠ mb; omega) (.int .i64 (1 + a + b))
        have m8 := HD.out.2.1.m.set s (.int .i64 (1 + a + b))
        rw [ints_set] at m8
        have y8 := HD.out.2.1.y.far (p := ⟨mb, s, none⟩) (Ne.symm HD.out.2.1.my) (.int .i64 (1 + a + b))
        have u8 : Upd (fun q => q = mb ∨ q = yb) w (Wd.setCell ⟨mb, s, none⟩ (.int .i64 (1 + a + b))) := (Upd.of_below HD.out.1 _).setCell (.inl (.inl rfl)) _
        have H8 := Lib.hid (And.intro b8 (And.intro x8 (And.intro m8 (And.intro y8 u8))))
        clear b8 x8 m8 y8 u8
        refine ord_do rfl rfl (fun K hK => ?_)
        go_simp
        refine hK _ _ (fun _ => SS.out _ H8.out.1 H8.out.2.1) ?_
        clear hK K m1 m2
        generalize Wd.setCell ⟨mb, s, none⟩ (.int .i64 (1 + a + b)) = W8 at H8 ⊢
        (try simp only [Act.put, List.getElem_toArray, List.getElem_cons_succ, List.getElem_cons_zero, List.setIfInBounds_toArray, List.set_cons_zero, List.set_cons_succ])
        iterate 1 (refine ord_take (v := ?_) rfl (by first | with_reducible rfl | kernel_rfl) ?_ ?_; rotate_left; (focus (intro wS hS; (try dsimp only at hS); go_split_ands; go_simp; (try with_reducible rfl); done)); (try simp only [Act.put, List.getElem_toArray, List.getElem_cons_succ, List.getElem_cons_zero, List.setIfInBounds_toArray, List.set_cons_zero, List.set_cons_succ]))
        have hys : s < Y.length := by have := HX.out.2.2.1.ly; have := HX.out.2.2.2.2.2; omega
        have n1 : W8.cell? ⟨yb, s, none⟩ = some (.int .i64 (at0 Y (s : Int))) := by rw [H8.out.2.2.2.1.cell, ints_get (at0_get hys)]
        have n2 : W8.frozen? ⟨yb, s, none⟩ = false := H8.out.2.2.2.1.frozen s
        refine ord_do rfl rfl (fun K hK => ?_)
        go_simp
        have b9 := H8.out.1.far (p := ⟨yb, s, none⟩) HX.out.2.2.1.sy (.int .i64 (i : Int))
        have x9 := H8.out.2.1.far (p := ⟨yb, s, none⟩) (by have := HD.out.2.2.2.2; show w.heap.size ≠ yb; omega) (.int .i64 (i : Int))
        have m9 := H8.out.2.2.1.far (p := ⟨yb, s, none⟩) HX.out.2.2.1.my (.int .i64 (i : Int))
        have y9 := H8.out.2.2.2.1.set s (.int .i64 (i : Int))
        rw [ints_set] at y9
        have u9 : Upd (fun q => q = mb ∨ q = yb) w ((W8.setCell ⟨yb, s, none⟩ (.int .i64 (i : Int))).drew) := (H8.out.2.2.2.2.setCell (.inl (.inr rfl)) _).drew
        refine hK _ _ (fun _ => SS.out _ b9 x9) ?_
        clear hK K n1 n2
        have fin : SmI ((W8.setCell ⟨yb, s, none⟩ (.int .i64 (i : Int))).drew) sb A c (some ⟨gb, go, none⟩) d S P mb yb (T.set s (1 + a + b)) (Y.set s (i : Int)) := by
          have hf := HX.out.2.2.2.2.1
          exact ⟨b9.drew, m9.drew, y9.drew, by rw [List.length_set]; exact hf.lm, by rw [List.length_set]; exact hf.ly, HF.out.1.below (HF.out.2.1.trans (u9.below (fun q _ hq => by have := HF.out.2.2; rcases hq with rfl | rfl <;> omega) HF.out.2.1.size)), hf.sm, hf.sy, hf.my⟩
        have FIN := Lib.hid (And.intro fin u9)
        clear fin u9 b9 x9 m9 y9
        generalize (W8.setCell ⟨yb, s, none⟩ (.int .i64 (i : Int))).drew = W9 at FIN ⊢
        refine ord_done ?_
        go_wp2
        go_ret
        refine ⟨rfl, ?_, FIN.out.2⟩
        have := FIN.out.1
        rw [HST.out]
        simpa using this
    · have e0 : decide (0 < o) = true := by simp; omega
      have e1 : decide (o ≤ 1 + a + b) = false := by simp; omega
      have ho1 : o > 1 + a + b := by omega
      clear hb' o0
      go_enter Try.func84, Try.ntmps84
      go_wp2
      generalize w.alloc (.cells #[.int .i64 (s : Int), .int .i64 p1, .int .i64 p2, .int .i64 (l : Int), .int .i64 (r : Int)] 125) = Wa at HX HM ⊢
      clear c1 a0 a1 a2 a3 a4
      have x0 : Wa.cell? ⟨w.heap.size, 0, none⟩ = some (.int .i64 (s : Int)) := HX.out.1.cell 0
      have x3 : Wa.cell? ⟨w.heap.size, 3, none⟩ = some (.int .i64 (l : Int)) := HX.out.1.cell 3
      have x4 : Wa.cell? ⟨w.heap.size, 4, none⟩ = some (.int .i64 (r : Int)) := HX.out.1.cell 4
      have c2 : Wa.cell? ⟨sb, 1 + 1, none⟩ = some (.slice (some ⟨mb, 0, none⟩) S.length S.length) := HX.out.2.2.1.blk.cell 2
      have c3 : Wa.cell? ⟨sb, 2, none⟩ = some (.slice (some ⟨mb, 0, none⟩) S.length S.length) := HX.out.2.2.1.blk.cell 2
      have m0 := HX.out.2.2.2.1
      obtain ⟨hml, hmr⟩ := HM.out
      go_quiet (fail)
      go_wp2
      have HST : Hid (steps ⟨(s : Int), p1, p2, (l : Int), (r : Int)⟩ T = 1 + a + b) := Lib.hid (by rw [HST0.out]; split <;> omega)
      go_quiet (fail)
      go_wp2
      generalize hd : World.drewN Wa _ = Wd
      have bD : Below w.heap.size w Wd := by rw [← hd]; exact below_drewN HX.out.2.1 _
      have kD : SmI Wd sb A c (some ⟨gb, go, none⟩) d S P mb yb T Y := by rw [← hd]; exact HX.out.2.2.1.below (below_drewN (Below.refl _ _) _)
      have xD : Blk Wd w.heap.size 125 #[.int .i64 (s : Int), .int .i64 p1, .int .i64 p2, .int .i64 (l : Int), .int .i64 (r : Int)] := by rw [← hd]; exact HX.out.1
      have mD : Wd.cell? ⟨mb, s, none⟩ = some (.int .i64 o) := by rw [← hd]; exact HX.out.2.2.2.1
      have hlt : sb < w.heap.size ∧ mb < w.heap.size ∧ yb < w.heap.size := ⟨HX.out.2.2.2.2.1.blk.lt, HX.out.2.2.2.2.1.m.lt, HX.out.2.2.2.2.1.y.lt⟩
      have HD := Lib.hid (And.intro bD (And.intro kD (And.intro xD (And.intro mD hlt))))
      clear hd bD kD xD mD hlt x0 x3 x4 c2 c3 m0
      have SS : Hid (∀ w' : World, Blk w' sb 133 #[.slice A S.length c, .slice (some ⟨gb, go, none⟩) P.length d, .slice (some ⟨mb, 0, none⟩) S.length S.length, .slice (some ⟨yb, 0, none⟩) S.length S.length] → Blk w' w.heap.size 125 #[.int .i64 (s : Int), .int .i64 p1, .int .i64 p2, .int .i64 (l : Int), .int .i64 (r : Int)] → w'.cell? ⟨sb, 1 + 1, none⟩ = some (.slice (some ⟨mb, 0, none⟩) S.length S.length) ∧ w'.cell? ⟨sb, 2, none⟩ = some (.slice (some ⟨mb, 0, none⟩) S.length S.length) ∧ w'.cell? ⟨sb, 1 + 1 + 1, none⟩ = some (.slice (some ⟨yb, 0, none⟩) S.length S.length) ∧ w'.cell? ⟨sb, 3, none⟩ = some (.slice (some ⟨yb, 0, none⟩) S.length S.length) ∧ w'.cell? ⟨w.heap.size, 0, none⟩ = some (.int .i64 (s : Int))) := Lib.hid (fun w' h1 h2 => ⟨h1.cell 2, h1.cell 2, h1.cell 3, h1.cell 3, h2.cell 0⟩)
      refine wp_region_ord (fun w' => w'.cell? ⟨sb, 1 + 1, none⟩ = some (.slice (some ⟨mb, 0, none⟩) S.length S.length) ∧ w'.cell? ⟨sb, 2, none⟩ = some (.slice (some ⟨mb, 0, none⟩) S.length S.length) ∧ w'.cell? ⟨sb, 1 + 1 + 1, none⟩ = some (.slice (some ⟨yb, 0, none⟩) S.length S.length) ∧ w'.cell? ⟨sb, 3, none⟩ = some (.slice (some ⟨yb, 0, none⟩) S.length S.length) ∧ w'.cell? ⟨w.heap.size, 0, none⟩ = some (.int .i64 (s : Int))) 18 [(0, true), (1, true), (2, true), (3, true), (4, true), (5, true), (6, true), (7, true), (8, true), (9, true), (10, true), (11, true), (12, true), (13, true), (14, true), (15, false), (16, true), (17, false)] (by kernel_rfl) (by kernel_rfl) (fun _ _ d _ _ h => by cases d <;> exact h) (SS.out _ HD.out.2.1.blk.drew HD.out.2.2.1.drew) ?_
      iterate 15 (refine ord_take (v := ?_) rfl (by first | with_reducible rfl | kernel_rfl) ?_ ?_; rotate_left; (focus (intro wS hS; (try dsimp only at hS); go_split_ands; go_simp; (try with_reducible rfl); done)); (try simp only [Act.put, List.getElem_toArray, List.getElem_cons_succ, List.getElem_cons_zero, List.setIfInBounds_toArray, List.set_cons_zero, List.set_cons_succ]))
      have m1 : Wd.cell? ⟨mb, s, none⟩ = some (.int .i64 o) := HD.out.2.2.2.1
      have m2 : Wd.frozen? ⟨mb, s, none⟩ = false := HD.out.2.1.m.frozen s
      have b8 := HD.out.2.1.blk.far (p := ⟨mb, s, none⟩) HD.out.2.1.sm (.int .i64 (1 + a + b))
      have x8 := HD.out.2.2.1.far (p := ⟨mb, s, none⟩) (by have := HD.out.2.2.2.2; show w.heap.size ≠ mb; omega) (.int .i64 (1 + a + b))
      have m8 := HD.out.2.1.m.set s (.int .i64 (1 + a + b))
      rw [ints_set] at m8
      have y8 := HD.out.2.1.y.far (p := ⟨mb, s, none⟩) (Ne.symm HD.out.2.1.my) (.int .i64 (1 + a + b))
      have u8 : Upd (fun q => q = mb ∨ q = yb) w (Wd.setCell ⟨mb, s, none⟩ (.int .i64 (1 + a + b))) := (Upd.of_below HD.out.1 _).setCell (.inl (.inl rfl)) _
      have H8 := Lib.hid (And.intro b8 (And.intro x8 (And.intro m8 (And.intro y8 u8))))
      clear b8 x8 m8 y8 u8
      refine ord_do rfl rfl (fun K hK => ?_)
      go_simp
      refine hK _ _ (fun _ => SS.out _ H8.out.1 H8.out.2.1) ?_
      clear hK K m1 m2
      generalize Wd.setCell ⟨mb, s, none⟩ (.int .i64 (1 + a + b)) = W8 at H8 ⊢
      (try simp only [Act.put, List.getElem_toArray, List.getElem_cons_succ, List.getElem_cons_zero, List.setIfInBounds_toArray, List.set_cons_zero, List.set_cons_succ])
      iterate 1 (refine ord_take (v := ?_) rfl (by first | with_reducible rfl | kernel_rfl) ?_ ?_; rotate_left; (focus (intro wS hS; (try dsimp only at hS); go_split_ands; go_simp; (try with_reducible rfl); done)); (try simp only [Act.put, List.getElem_toArray, List.getElem_cons_succ, List.getElem_cons_zero, List.setIfInBounds_toArray, List.set_cons_zero, List.set_cons_succ]))
      have hys : s < Y.length := by have := HX.out.2.2.1.ly; have := HX.out.2.2.2.2.2; omega
      have n1 : W8.cell? ⟨yb, s, none⟩ = some (.int .i64 (at0 Y (s : Int))) := by rw [H8.out.2.2.2.1.cell, ints_get (at0_get hys)]
      have n2 : W8.frozen? ⟨yb, s, none⟩ = false := H8.out.2.2.2.1.frozen s
      refine ord_do rfl rfl (fun K hK => ?_)
      go_simp
      have b9 := H8.out.1.far (p := ⟨yb, s, none⟩) HX.out.2.2.1.sy (.int .i64 (i : Int))
      have x9 := H8.out.2.1.far (p := ⟨yb, s, none⟩) (by have := HD.out.2.2.2.2; show w.heap.size ≠ yb; omega) (.int .i64 (i : Int))
      have m9 := H8.out.2.2.1.far (p := ⟨yb, s, none⟩) HX.out.2.2.1.my (.int .i64 (i : Int))
      have y9 := H8.out.2.2.2.1.set s (.int .i64 (i : Int))
      rw [ints_set] at y9
      have u9 : Upd (fun q => q = mb ∨ q = yb) w ((W8.setCell ⟨yb, s, none⟩ (.int .i64 (i : Int))).drew) := (H8.out.2.2.2.2.setCell (.inl (.inr rfl)) _).drew
      refine hK _ _ (fun _ => SS.out _ b9 x9) ?_
      clear hK K n1 n2
      have fin : SmI ((W8.setCell ⟨yb, s, none⟩ (.int .i64 (i : Int))).drew) sb A c (some ⟨gb, go, none⟩) d S P mb yb (T.set s (1 + a + b)) (Y.set s (i : Int)) := by
        have hf := HX.out.2.2.2.2.1
        exact ⟨b9.drew, m9.drew, y9.drew, by rw [List.length_set]; exact hf.lm, by rw [List.length_set]; exact hf.ly, HF.out.1.below (HF.out.2.1.trans (u9.below (fun q _ hq => by have := HF.out.2.2; rcases hq with rfl | rfl <;> omega) HF.out.2.1.size)), hf.sm, hf.sy, hf.my⟩
      have FIN := Lib.hid (And.intro fin u9)
      clear fin u9 b9 x9 m9 y9
      generalize (W8.setCell ⟨yb, s, none⟩ (.int .i64 (i : Int))).drew = W9 at FIN ⊢
      refine ord_done ?_
      go_wp2
      go_ret
      refine ⟨rfl, ?_, FIN.out.2⟩
      have := FIN.out.1
      rw [HST.out]
      simpa using this
end Go.Proofs.Ytbppbgdmoihooaa
