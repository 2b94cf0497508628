/- Forests: trim.small. -/
import Derived.Test.YtbppbgdmoihooaaTrK
import Derived.Laws.MakeOwn
namespace Go.Proofs.Ytbppbgdmoihooaa
open Go.RowKit

/-- By which pack a spot's derivation comes. -/
def ByAt (P : List Pk) (n : Nat) (T Y : List Int) : Prop := ∀ s : Nat, s < n → at0 T s ≠ 0 → ∃ (i : Nat) (p : Pk), at0 Y s = i ∧ P[i]? = some p ∧ p.spot = s ∧ rk (steps p T) ≤ rk (at0 T s)
theorem ByAt.start (P : List Pk) (n : Nat) (Y : List Int) : ByAt P n (List.replicate n 0) Y := fun s _ h => (h (zeros_top n s)).elim
theorem ByAt.step {P : List Pk} {n : Nat} {T Y : List Int} (h : ByAt P n T Y) (hl : T.length = n) (hly : Y.length = n) (hv : Val T) {i : Nat} {p : Pk} (hi : P[i]? = some p) (hp : 0 ≤ p.spot ∧ p.spot < (n : Int)) (hb : betterB p T = true) :
    ByAt P n (T.set p.spot.toNat (steps p T)) (Y.set p.spot.toNat (i : Int)) := by
  have hi1 : p.spot.toNat < T.length := by omega
  have hi2 : p.spot.toNat < Y.length := by omega
  have hst := steps_val (p := p) hv
  have hv' := hv.set p.spot.toNat hst
  have hat := fun j => at0_set (x := steps p T) hi1 j
  have hay := fun j => at0_set (x := (i : Int)) hi2 j
  have hlow : ∀ j, rk (at0 (T.set p.spot.toNat (steps p T)) j) ≤ rk (at0 T j) := by
    intro j
    rw [hat]
    split
    · rename_i e
      have e2 : at0 T j = at0 T p.spot := by unfold at0; rw [e]
      rw [e2]
      unfold betterB at hb
      have := hv.at p.spot
      unfold rk
      simp at hb
      grind
    · exact Nat.le_refl _
  intro s hs hne
  by_cases e : (s : Int).toNat = p.spot.toNat
  · refine ⟨i, p, by rw [hay, if_pos e], hi, by omega, ?_⟩
    rw [hat (s : Int), if_pos e]
    exact steps_mono hv' hv hlow
  · rw [hat, if_neg e] at hne ⊢
    obtain ⟨j, q, h1, h2, h3, h4⟩ := h s hs hne
    exact ⟨j, q, by rw [hay, if_neg e]; exact h1, h2, h3, Nat.le_trans (steps_mono hv' hv hlow) h4⟩

theorem made_ints (n : Nat) : madeCells #[Value.int .i64 0] n = ints (List.replicate n 0) := by
  apply Array.ext
  · simp [madeCells, ints]
  · intro i h1 h2
    simp [madeCells, ints, Nat.mod_one]
theorem mk_ints (w : World) (n : Nat) (hn : n * 8 ≤ 140737488355328) : (Instr.makeSlice 44 (.int .i64 (n : Int)) (.int .i64 (n : Int))).run Try.prog w = .ok (.slice (some ⟨w.heap.size, 0, none⟩) n n) (w.alloc (.cells (ints (List.replicate n 0)) 3)) := by
  obtain ⟨i0, hi0, hz0, hz1, hz2⟩ := info_parts info_int
  have hr := run_make (P := Try.prog) w 44 3 i0 _ Try.underlying44 hi0 hz0 .i64 .i64 n n (by omega) (Int.le_refl _) (by rw [hz2]; omega) (by omega)
  rw [hz1] at hr
  simp only [Int.toNat_natCast, Nat.mul_one] at hr
  rw [← made_ints]
  exact hr

theorem OkFor.spots {S : List Fct} {P : List Pk} (h : OkFor S P) : SpotsIn S.length P := fun p hp => by
  obtain ⟨i, hi⟩ := List.mem_iff_getElem?.1 hp
  obtain ⟨⟨s, e, hs⟩, -⟩ := PkIn.of_goes (h.p.1 i p (List.getElem?_eq_some_iff.1 hi).1 hi)
  omega
theorem OkFor.pk {S : List Fct} {P : List Pk} (h : OkFor S P) {i : Nat} {p : Pk} (hi : P[i]? = some p) : PkIn S.length p := PkIn.of_goes (h.p.1 i p (List.getElem?_eq_some_iff.1 hi).1 hi)

def okAt (P : List Pk) (x : List Int × List Int) (i : Nat) : Bool := match P[i]? with
  | some p => betterB p x.1
  | none => false
def nextAt (P : List Pk) (x : List Int × List Int) (i : Nat) : List Int × List Int := match P[i]? with
  | some p => (x.1.set p.spot.toNat (steps p x.1), x.2.set p.spot.toNat (i : Int))
  | none => x

/-- What small hands back holds. -/
structure SmallAt (w w' : World) (sb : Nat) (A : Option Addr) (c : Nat) (B : Option Addr) (d : Nat) (S : List Fct) (P : List Pk) (mb yb : Nat) (T Y : List Int) : Prop where
  s : SmI w' sb A c B d S P mb yb T Y
  t : Settled P S.length T
  b : ByAt P S.length T Y
  l : Below w.heap.size w w'
  n : w.heap.size ≤ sb ∧ w.heap.size ≤ mb ∧ w.heap.size ≤ yb

set_option maxRecDepth 20000 in
theorem small_settle (w W : World) (sb : Nat) (A : Option Addr) (c : Nat) (B : Option Addr) (d : Nat) (S : List Fct) (P : List Pk) (mb yb : Nat) (h0 : ForR w A c B d S P) (ho : OkFor S P) (hb : Below w.heap.size w W) (hn : w.heap.size ≤ sb ∧ w.heap.size ≤ mb ∧ w.heap.size ≤ yb)
    (h : SmI W sb A c B d S P mb yb (List.replicate S.length 0) (List.replicate S.length 0)) :
    Calls Try.prog 83 #[.int .i64 (P.length : Int), .func (.func 84) #[.pointer (some ⟨sb, 0, none⟩)] #[]] W fun e w' => (∃ v, e = .returned v) ∧ ∃ T Y, SmallAt w w' sb A c B d S P mb yb T Y := by
  have hP8 : P.length ≤ 100000000000000 := by have := h0.fit.p; omega
  refine (settle_better W P.length (.pointer (some ⟨sb, 0, none⟩)) (fun W' (x : List Int × List Int) => SmI W' sb A c B d S P mb yb x.1 x.2 ∧ Mid P S.length x.1 ∧ ByAt P S.length x.1 x.2 ∧ Below w.heap.size w W') (okAt P) (nextAt P) (fun x => weight x.1) hP8 ?_ ?_ (List.replicate S.length 0, List.replicate S.length 0) ⟨h, Mid.start P _, ByAt.start P _ _, hb⟩).mono ?_
  · rintro W1 ⟨T, Y⟩ i hi ⟨hs, hm, hby, hbl⟩
    obtain ⟨p, hp⟩ : ∃ p, P[i]? = some p := ⟨P[i], List.getElem?_eq_getElem hi⟩
    have hpk := ho.pk hp
    have hmem := List.mem_of_getElem? hp
    simp only [okAt, nextAt, hp]
    cases hbt : betterB p T with
    | true =>
      refine (better_yes W1 sb A c B d S P mb yb T Y i p hs hm.val hp hpk hbt w h0 hbl hn.2).mono ?_
      rintro e w' ⟨rfl, h1, h2⟩
      refine ⟨rfl, fun _ => ⟨h1, (hm.step ho.spots hmem hbt).1, hby.step hm.len hs.ly hm.val hp (ho.spots p hmem) hbt, hbl.trans (h2.below (fun q _ hq => by rcases hq with rfl | rfl <;> omega) hbl.size)⟩, fun h => (by cases h)⟩
    | false =>
      refine (better_no W1 sb A c B d S P mb yb T Y i p hs hm.val hp hpk hbt).mono ?_
      rintro e w' ⟨rfl, h2⟩
      exact ⟨rfl, fun h => (by cases h), fun _ => ⟨hs.below h2, hm, hby, hbl.trans (h2.mono hbl.size)⟩⟩
  · rintro W1 ⟨T, Y⟩ i ⟨hs, hm, hby, hbl⟩ hi hok
    obtain ⟨p, hp⟩ : ∃ p, P[i]? = some p := ⟨P[i], List.getElem?_eq_getElem hi⟩
    simp only [okAt, nextAt, hp] at hok ⊢
    exact (hm.step ho.spots (List.mem_of_getElem? hp) hok).2
  · rintro e w' ⟨hv, ⟨T, Y⟩, ⟨hs, hm, hby, hbl⟩, hall⟩
    refine ⟨hv, T, Y, hs, hm.settled (fun p hp => ?_), hby, hbl, hn⟩
    obtain ⟨i, hi⟩ := List.mem_iff_getElem?.1 hp
    have := hall i (List.getElem?_eq_some_iff.1 hi).1
    simpa only [okAt, hi] using this

def SmallPost (w : World) (A : Option Addr) (c : Nat) (B : Option Addr) (d : Nat) (S : List Fct) (P : List Pk) (e : Ending) (w' : World) : Prop :=
  ∃ sb mb yb T Y, e = .returned (.pointer (some ⟨sb, 0, none⟩)) ∧ SmallAt w w' sb A c B d S P mb yb T Y

set_option maxHeartbeats 2000000 in
set_option maxRecDepth 20000 in
theorem small_any (w : World) (A : Option Addr) (c : Nat) (B : Option Addr) (d : Nat) (S : List Fct) (P : List Pk) (h : ForR w A c B d S P) (ho : OkFor S P) :
    Calls Try.prog 68 #[forV A S.length c B P.length d] w (SmallPost w A c B d S P) := by
  have k0 := Blk.new w 75 #[.slice A S.length c, .slice B P.length d]
  have u0 : Below w.heap.size w (w.alloc (.cells #[.slice A S.length c, .slice B P.length d] 75)) := (Below.refl _ _).alloc (Nat.le_refl _) _
  have hS8 : S.length * 8 ≤ 140737488355328 := by have := h.fit.s; omega
  have hmk := fun w : World => mk_ints w S.length hS8
  have H := Lib.hid (And.intro h (And.intro ho (And.intro k0 u0)))
  have z0 : (w.alloc (.cells #[.slice A S.length c, .slice B P.length d] 75)).heap.size = w.heap.size + 1 := by simp
  have HZ := Lib.hid z0
  clear h ho k0 u0 z0
  go_enter Try.func68, Try.ntmps68
  unfold forV
  go_wp2_with fail
  generalize w.alloc (.cells #[.slice A S.length c, .slice B P.length d] 75) = W0 at H HZ ⊢
  have up : ∀ w' : World, Below W0.heap.size W0.drew w' → w'.cell? ⟨w.heap.size, 0, none⟩ = some (.slice A S.length c) ∧ w'.cell? ⟨w.heap.size, 1, none⟩ = some (.slice B P.length d) := fun w' hb => by
    have hk := (H.out.2.2.1.drew).upd (Upd.of_below hb (fun _ => False)) id
    exact ⟨hk.cell 0, hk.cell 1⟩
  have UP := Lib.hid up
  clear up
  refine wp_region_pre (fun w' => w'.cell? ⟨w.heap.size, 0, none⟩ = some (.slice A S.length c) ∧ w'.cell? ⟨w.heap.size, 1, none⟩ = some (.slice B P.length d)) 5 [0, 1, 2, 3, 5, 6, 7] (by kernel_rfl) (by kernel_rfl) (fun _ _ d _ _ h => by cases d <;> exact h) (UP.out _ (Below.refl _ _)) ?_
  iterate 7 (refine pre_take (v := ?_) rfl (by first | with_reducible rfl | kernel_rfl) ?_ ?_; rotate_left; (focus (intro wS hS; (try dsimp only at hS); go_split_ands; go_simp; (try with_reducible rfl); done)); (try simp only [Act.put, List.getElem_toArray, List.getElem_cons_succ, List.getElem_cons_zero, List.setIfInBounds_toArray, List.set_cons_zero, List.set_cons_succ]))
  refine pre_done ?_
  refine any_step (L := [4, 8]) (by kernel_rfl) (by simp) ?_
  intro ix hix
  simp only [List.mem_cons, List.not_mem_nil, or_false] at hix
  rcases hix with rfl | rfl
  · refine any_do rfl rfl (fun K hK => ?_)
    go_simp
    refine hK _ _ (UP.out _ ((below_undrew _ _).trans (by (repeat (first | exact Below.refl _ _ | apply Below.drew | refine Below.alloc ?_ (by first | exact Nat.le_refl _ | (simp; done) | (simp; omega)) _ | refine Below.setCell ?_ (by first | exact Nat.le_refl _ | (simp; done) | (simp; omega)) _))))) ?_
    clear hK K
    refine any_step (L := [8]) (by kernel_rfl) (by simp) ?_
    intro ix hix
    simp only [List.mem_cons, List.not_mem_nil, or_false] at hix
    subst hix
    refine any_do rfl rfl (fun K hK => ?_)
    go_simp
    refine hK _ _ (UP.out _ ((below_undrew _ _).trans (by (repeat (first | exact Below.refl _ _ | apply Below.drew | refine Below.alloc ?_ (by first | exact Nat.le_refl _ | (simp; done) | (simp; omega)) _ | refine Below.setCell ?_ (by first | exact Nat.le_refl _ | (simp; done) | (simp; omega)) _))))) ?_
    clear hK K
    refine any_step (L := [9]) (by kernel_rfl) (by simp) ?_
    intro ix hix
    simp only [List.mem_cons, List.not_mem_nil, or_false] at hix
    subst hix
    refine any_do rfl rfl (fun K hK => ?_)
    go_simp
    refine hK _ _ (UP.out _ ((below_undrew _ _).trans (by (repeat (first | exact Below.refl _ _ | apply Below.drew | refine Below.alloc ?_ (by first | exact Nat.le_refl _ | (simp; done) | (simp; omega)) _ | refine Below.setCell ?_ (by first | exact Nat.le_refl _ | (simp; done) | (simp; omega)) _))))) ?_
    clear hK K
    refine any_step (L := [10]) (by kernel_rfl) (by simp) ?_
    intro ix hix
    simp only [List.mem_cons, List.not_mem_nil, or_false] at hix
    subst hix
    refine any_do rfl rfl (fun K hK => ?_)
    go_simp
    refine hK _ _ (UP.out _ ((below_undrew _ _).trans (by (repeat (first | exact Below.refl _ _ | apply Below.drew | refine Below.alloc ?_ (by first | exact Nat.le_refl _ | (simp; done) | (simp; omega)) _ | refine Below.setCell ?_ (by first | exact Nat.le_refl _ | (simp; done) | (simp; omega)) _))))) ?_
    clear hK K
    refine any_step (L := [11]) (by kernel_rfl) (by simp) ?_
    intro ix hix
    simp only [List.mem_cons, List.not_mem_nil, or_false] at hix
    subst hix
    refine any_do rfl rfl (fun K hK => ?_)
    go_simp
    refine hK _ _ (UP.out _ ((below_undrew _ _).trans (by (repeat (first | exact Below.refl _ _ | apply Below.drew | refine Below.alloc ?_ (by first | exact Nat.le_refl _ | (simp; done) | (simp; omega)) _ | refine Below.setCell ?_ (by first | exact Nat.le_refl _ | (simp; done) | (simp; omega)) _))))) ?_
    clear hK K
    refine any_done (by kernel_rfl) ?_
    have k1 := (((Blk.new W0 3 (ints (List.replicate S.length 0))).alloc (.cells (ints (List.replicate S.length 0)) 3)).alloc (.cells #[.slice A S.length c, .slice B P.length d, .slice (some ⟨W0.heap.size, 0, none⟩) S.length S.length, .slice (some ⟨W0.heap.size + 1, 0, none⟩) S.length S.length] 133)).drew
    have k2 := ((Blk.new (W0.alloc (.cells (ints (List.replicate S.length 0)) 3)) 3 (ints (List.replicate S.length 0))).alloc (.cells #[.slice A S.length c, .slice B P.length d, .slice (some ⟨W0.heap.size, 0, none⟩) S.length S.length, .slice (some ⟨W0.heap.size + 1, 0, none⟩) S.length S.length] 133)).drew
    have k3 := (Blk.new ((W0.alloc (.cells (ints (List.replicate S.length 0)) 3)).alloc (.cells (ints (List.replicate S.length 0)) 3)) 133 #[.slice A S.length c, .slice B P.length d, .slice (some ⟨W0.heap.size, 0, none⟩) S.length S.length, .slice (some ⟨W0.heap.size + 1, 0, none⟩) S.length S.length]).drew
    simp only [World.size_alloc] at k2 k3
    have kF := (((H.out.2.2.1.alloc (.cells (ints (List.replicate S.length 0)) 3)).alloc (.cells (ints (List.replicate S.length 0)) 3)).alloc (.cells #[.slice A S.length c, .slice B P.length d, .slice (some ⟨W0.heap.size, 0, none⟩) S.length S.length, .slice (some ⟨W0.heap.size + 1, 0, none⟩) S.length S.length] 133)).drew
    have bX : Below w.heap.size w (((W0.alloc (.cells (ints (List.replicate S.length 0)) 3)).alloc (.cells (ints (List.replicate S.length 0)) 3)).alloc (.cells #[.slice A S.length c, .slice B P.length d, .slice (some ⟨W0.heap.size, 0, none⟩) S.length S.length, .slice (some ⟨W0.heap.size + 1, 0, none⟩) S.length S.length] 133)).drew := H.out.2.2.2.trans ((by (repeat (first | exact Below.refl _ _ | apply Below.drew | refine Below.alloc ?_ (by first | exact Nat.le_refl _ | (simp; done) | (simp; omega)) _ | refine Below.setCell ?_ (by first | exact Nat.le_refl _ | (simp; done) | (simp; omega)) _)) : Below W0.heap.size W0 (((W0.alloc (.cells (ints (List.replicate S.length 0)) 3)).alloc (.cells (ints (List.replicate S.length 0)) 3)).alloc (.cells #[.slice A S.length c, .slice B P.length d, .slice (some ⟨W0.heap.size, 0, none⟩) S.length S.length, .slice (some ⟨W0.heap.size + 1, 0, none⟩) S.length S.length] 133)).drew).mono H.out.2.2.2.size)
    generalize (((W0.alloc (.cells (ints (List.replicate S.length 0)) 3)).alloc (.cells (ints (List.replicate S.length 0)) 3)).alloc (.cells #[.slice A S.length c, .slice B P.length d, .slice (some ⟨W0.heap.size, 0, none⟩) S.length S.length, .slice (some ⟨W0.heap.size + 1, 0, none⟩) S.length S.length] 133)).drew = X at k1 k2 k3 kF bX ⊢
    have q1 : X.cell? ⟨w.heap.size, 1, none⟩ = some (.slice B P.length d) := kF.cell 1
    have sI : SmI X (W0.heap.size + 1 + 1) A c B d S P (W0.heap.size) (W0.heap.size + 1) (List.replicate S.length 0) (List.replicate S.length 0) := ⟨k3, k1, k2, by simp, by simp, H.out.1.below bX, by omega, by omega, by omega⟩
    have HS := Lib.hid (And.intro sI bX)
    clear k1 k2 k3 kF sI bX hmk
    go_wp2_with fail
    refine (small_settle w X (W0.heap.size + 1 + 1) A c B d S P (W0.heap.size) (W0.heap.size + 1) H.out.1 H.out.2.1 HS.out.2 (by have := HZ.out; omega) HS.out.1).mono ?_
    rintro e w9 ⟨⟨v, rfl⟩, T, Y, hsm⟩
    have HM := Lib.hid hsm
    clear hsm
    go_wp2
    go_ret
    exact ⟨_, _, _, T, Y, rfl, HM.out⟩
  · refine any_do rfl rfl (fun K hK => ?_)
    go_simp
    refine hK _ _ (UP.out _ ((below_undrew _ _).trans (by (repeat (first | exact Below.refl _ _ | apply Below.drew | refine Below.alloc ?_ (by first | exact Nat.le_refl _ | (simp; done) | (simp; omega)) _ | refine Below.setCell ?_ (by first | exact Nat.le_refl _ | (simp; done) | (simp; omega)) _))))) ?_
    clear hK K
    refine any_step (L := [4]) (by kernel_rfl) (by simp) ?_
    intro ix hix
    simp only [List.mem_cons, List.not_mem_nil, or_false] at hix
    subst hix
    refine any_do rfl rfl (fun K hK => ?_)
    go_simp
    refine hK _ _ (UP.out _ ((below_undrew _ _).trans (by (repeat (first | exact Below.refl _ _ | apply Below.drew | refine Below.alloc ?_ (by first | exact Nat.le_refl _ | (simp; done) | (simp; omega)) _ | refine Below.setCell ?_ (by first | exact Nat.le_refl _ | (simp; done) | (simp; omega)) _))))) ?_
    clear hK K
    refine any_step (L := [9]) (by kernel_rfl) (by simp) ?_
    intro ix hix
    simp only [List.mem_cons, List.not_mem_nil, or_false] at hix
    subst hix
    refine any_do rfl rfl (fun K hK => ?_)
    go_simp
    refine hK _ _ (UP.out _ ((below_undrew _ _).trans (by (repeat (first | exact Below.refl _ _ | apply Below.drew | refine Below.alloc ?_ (by first | exact Nat.le_refl _ | (simp; done) | (simp; omega)) _ | refine Below.setCell ?_ (by first | exact Nat.le_refl _ | (simp; done) | (simp; omega)) _))))) ?_
    clear hK K
    refine any_step (L := [10]) (by kernel_rfl) (by simp) ?_
    intro ix hix
    simp only [List.mem_cons, List.not_mem_nil, or_false] at hix
    subst hix
    refine any_do rfl rfl (fun K hK => ?_)
    go_simp
    refine hK _ _ (UP.out _ ((below_undrew _ _).trans (by (repeat (first | exact Below.refl _ _ | apply Below.drew | refine Below.alloc ?_ (by first | exact Nat.le_refl _ | (simp; done) | (simp; omega)) _ | refine Below.setCell ?_ (by first | exact Nat.le_refl _ | (simp; done) | (simp; omega)) _))))) ?_
    clear hK K
    refine any_step (L := [11]) (by kernel_rfl) (by simp) ?_
    intro ix hix
    simp only [List.mem_cons, List.not_mem_nil, or_false] at hix
    subst hix
    refine any_do rfl rfl (fun K hK => ?_)
    go_simp
    refine hK _ _ (UP.out _ ((below_undrew _ _).trans (by (repeat (first | exact Below.refl _ _ | apply Below.drew | refine Below.alloc ?_ (by first | exact Nat.le_refl _ | (simp; done) | (simp; omega)) _ | refine Below.setCell ?_ (by first | exact Nat.le_refl _ | (simp; done) | (simp; omega)) _))))) ?_
    clear hK K
    refine any_done (by kernel_rfl) ?_
    have k1 := (((Blk.new W0 3 (ints (List.replicate S.length 0))).alloc (.cells (ints (List.replicate S.length 0)) 3)).alloc (.cells #[.slice A S.length c, .slice B P.length d, .slice (some ⟨W0.heap.size + 1, 0, none⟩) S.length S.length, .slice (some ⟨W0.heap.size, 0, none⟩) S.length S.length] 133)).drew
    have k2 := ((Blk.new (W0.alloc (.cells (ints (List.replicate S.length 0)) 3)) 3 (ints (List.replicate S.length 0))).alloc (.cells #[.slice A S.length c, .slice B P.length d, .slice (some ⟨W0.heap.size + 1, 0, none⟩) S.length S.length, .slice (some ⟨W0.heap.size, 0, none⟩) S.length S.length] 133)).drew
    have k3 := (Blk.new ((W0.alloc (.cells (ints (List.replicate S.length 0)) 3)).alloc (.cells (ints (List.replicate S.length 0)) 3)) 133 #[.slice A S.length c, .slice B P.length d, .slice (some ⟨W0.heap.size + 1, 0, none⟩) S.length S.length, .slice (some ⟨W0.heap.size, 0, none⟩) S.length S.length]).drew
    simp only [World.size_alloc] at k2 k3
    have kF := (((H.out.2.2.1.alloc (.cells (ints (List.replicate S.length 0)) 3)).alloc (.cells (ints (List.replicate S.length 0)) 3)).alloc (.cells #[.slice A S.length c, .slice B P.length d, .slice (some ⟨W0.heap.size + 1, 0, none⟩) S.length S.length, .slice (some ⟨W0.heap.size, 0, none⟩) S.length S.length] 133)).drew
    have bX : Below w.heap.size w (((W0.alloc (.cells (ints (List.replicate S.length 0)) 3)).alloc (.cells (ints (List.replicate S.length 0)) 3)).alloc (.cells #[.slice A S.length c, .slice B P.length d, .slice (some ⟨W0.heap.size + 1, 0, none⟩) S.length S.length, .slice (some ⟨W0.heap.size, 0, none⟩) S.length S.length] 133)).drew := H.out.2.2.2.trans ((by (repeat (first | exact Below.refl _ _ | apply Below.drew | refine Below.alloc ?_ (by first | exact Nat.le_refl _ | (simp; done) | (simp; omega)) _ | refine Below.setCell ?_ (by first | exact Nat.le_refl _ | (simp; done) | (simp; omega)) _)) : Below W0.heap.size W0 (((W0.alloc (.cells (ints (List.replicate S.length 0)) 3)).alloc (.cells (ints (List.replicate S.length 0)) 3)).alloc (.cells #[.slice A S.length c, .slice B P.length d, .slice (some ⟨W0.heap.size + 1, 0, none⟩) S.length S.length, .slice (some ⟨W0.heap.size, 0, none⟩) S.length S.length] 133)).drew).mono H.out.2.2.2.size)
    generalize (((W0.alloc (.cells (ints (List.replicate S.length 0)) 3)).alloc (.cells (ints (List.replicate S.length 0)) 3)).alloc (.cells #[.slice A S.length c, .slice B P.length d, .slice (some ⟨W0.heap.size + 1, 0, none⟩) S.length S.length, .slice (some ⟨W0.heap.size, 0, none⟩) S.length S.length] 133)).drew = X at k1 k2 k3 kF bX ⊢
    have q1 : X.cell? ⟨w.heap.size, 1, none⟩ = some (.slice B P.length d) := kF.cell 1
    have sI : SmI X (W0.heap.size + 1 + 1) A c B d S P (W0.heap.size + 1) (W0.heap.size) (List.replicate S.length 0) (List.replicate S.length 0) := ⟨k3, k2, k1, by simp, by simp, H.out.1.below bX, by omega, by omega, by omega⟩
    have HS := Lib.hid (And.intro sI bX)
    clear k1 k2 k3 kF sI bX hmk
    go_wp2_with fail
    refine (small_settle w X (W0.heap.size + 1 + 1) A c B d S P (W0.heap.size + 1) (W0.heap.size) H.out.1 H.out.2.1 HS.out.2 (by have := HZ.out; omega) HS.out.1).mono ?_
    rintro e w9 ⟨⟨v, rfl⟩, T, Y, hsm⟩
    have HM := Lib.hid hsm
    clear hsm
    go_wp2
    go_ret
    exact ⟨_, _, _, T, Y, rfl, HM.out⟩
end Go.Proofs.Ytbppbgdmoihooaa
