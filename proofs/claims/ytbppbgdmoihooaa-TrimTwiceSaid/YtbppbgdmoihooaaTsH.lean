/- Forests: trim.rings. -/
import Derived.Test.YtbppbgdmoihooaaTsG
namespace Go.Proofs.Ytbppbgdmoihooaa
open Go.RowKit Go.Shelf
attribute [local go_sem] Oper.semAt_some

def collD (D : Nat) : Deferred := { target := .collected D, args := #[] }
/-- All that a function has gathered of finished rounds is let go. -/
theorem leaves_coll {P : Program} {fn : Func} {tmps : Array Value} {R : Ending → World → Prop} {F : Fence} {n B : Nat} (E : World → Prop) (hE : ∀ w1 D, B ≤ D → w1.heap[D]? = some (.deferred (some [])) → E w1 → E (w1.putObj D (.deferred none)))
    (hfin : ∀ w1, E w1 → ∃ v, (results fn tmps).run P w1 = .ok v w1 ∧ R (.returned v) w1) : ∀ (Ds : List Nat) (w : World), Ds.Nodup → (∀ D ∈ Ds, B ≤ D ∧ w.heap[D]? = some (.deferred (some []))) → E w → LeavesInM F n P fn tmps R (Ds.map collD) .returning w
  | [], w, _, _, h => hfin w h
  | D :: Ds, w, hn, hd, h => by
    obtain ⟨h1, h2⟩ := hd D (by simp)
    rw [List.nodup_cons] at hn
    refine ⟨by simp, .inl ⟨D, _, rfl, run_takeDeferred h2, ?_⟩⟩
    refine leaves_coll E hE hfin Ds _ hn.2 (fun D' hD' => ?_) (hE w D h1 h2 h)
    obtain ⟨h3, h4⟩ := hd D' (by simp [hD'])
    exact ⟨h3, ((grownBy_putObj' w D (.deferred none)).block D' (Array.getElem?_eq_some_iff.1 h4).1 (fun e => by injection e with e; exact hn.1 (e ▸ hD'))).trans h4⟩

theorem spotL_map (s : Int) (P : List Pk) (Q : Pk → Prop) (hQ : ∀ p ∈ ofSpot s P, Q p) : (spotL s P Q hQ).map (·.1) = ofSpot s P := by
  unfold spotL
  simp

/-- In the midst of the spots. -/
structure RgI (P : List Pk) (n go B : Nat) (W1 wr : World) (k : Nat) (R : List Bool) (Ds : List Nat) : Prop where
  len : R.length = n
  is : ∀ j : Nat, j < k → (atB R (j : Int) = true ↔ Rch P (partX P (j : Int)) (j : Int))
  g : Blk wr go 4 (bools R)
  u : Upd (fun q => q = go) W1 wr
  nd : Ds.Nodup
  ds : ∀ D ∈ Ds, B ≤ D ∧ wr.heap[D]? = some (.deferred (some []))
/-- What a round over a spot's packs has marked. -/
def MarkI (n gi : Nat) (W0 : World) (pre : List Pk) (W : World) : Prop :=
  ∃ J : List Bool, J.length = n ∧ (∀ x : Nat, x < n → (atB J (x : Int) = true ↔ ∃ p ∈ pre, ¬ p.left < 0 ∧ ((x : Int) = p.left ∨ (x : Int) = p.right))) ∧ Blk W gi 4 (bools J) ∧ Upd (fun q => q = gi) W0 W
theorem mark_step {n : Nat} {J : List Bool} {pre : List Pk} {p : Pk} {l r : Nat} (hl : J.length = n) (h : ∀ x : Nat, x < n → (atB J (x : Int) = true ↔ ∃ p ∈ pre, ¬ p.left < 0 ∧ ((x : Int) = p.left ∨ (x : Int) = p.right))) (el : p.left = l) (er : p.right = r) (hln : l < n) (hrn : r < n) :
    ∀ x : Nat, x < n → (atB ((J.set l true).set r true) (x : Int) = true ↔ ∃ q ∈ pre ++ [p], ¬ q.left < 0 ∧ ((x : Int) = q.left ∨ (x : Int) = q.right)) := by
  intro x hx
  rw [atB_set (by rw [List.length_set]; omega), atB_set (by omega)]
  simp only [Int.toNat_natCast]
  have hp : (∃ q ∈ pre ++ [p], ¬ q.left < 0 ∧ ((x : Int) = q.left ∨ (x : Int) = q.right)) ↔ (∃ q ∈ pre, ¬ q.left < 0 ∧ ((x : Int) = q.left ∨ (x : Int) = q.right)) ∨ x = l ∨ x = r := by
    constructor
    · rintro ⟨q, hq, h1, h2⟩
      rcases List.mem_append.1 hq with hq | hq
      · exact .inl ⟨q, hq, h1, h2⟩
      · obtain rfl := List.mem_singleton.1 hq
        right; omega
    · rintro (⟨q, hq, h1, h2⟩ | h)
      · exact ⟨q, by simp [hq], h1, h2⟩
      · exact ⟨p, by simp, by omega, by omega⟩
  rw [hp, ← h x hx]
  by_cases e1 : x = r
  · simp [e1]
  · by_cases e2 : x = l
    · simp [e2]
    · simp [e1, e2]

set_option maxHeartbeats 8000000 in
set_option maxRecDepth 100000 in
theorem rings_any (w : World) (A : Option Addr) (c : Nat) (B : Option Addr) (d : Nat) (S : List Fct) (P : List Pk) (h : ForR w A c B d S P) (ho : ∀ p ∈ P, PkIn S.length p) :
    Calls Try.prog 72 #[forV A S.length c B P.length d] w (fun e w' => ∃ R, RingB P S.length R ∧ BoolsAt w R e w') := by
  have k0 := Blk.new w 75 #[.slice A S.length c, .slice B P.length d]
  have u0 : Below w.heap.size w (w.alloc (.cells #[.slice A S.length c, .slice B P.length d] 75)) := (Below.refl _ _).alloc (Nat.le_refl _) _
  have hS8 : S.length ≤ 140737488355328 := by have := h.fit.s; omega
  have hP8 : P.length * 40 ≤ 140737488355328 := h.fit.p
  have hmk := fun w : World => mk_bools w S.length hS8
  have z0 : w.heap.size < (w.alloc (.cells #[.slice A S.length c, .slice B P.length d] 75)).heap.size := by simp
  have H := Lib.hid (And.intro h (And.intro k0 (And.intro u0 (And.intro ho z0))))
  have HM := Lib.hid hmk
  clear h k0 u0 ho z0
  refine (callsIn_wide (n := 5)).1 ?_
  refine callsIn_of_wp_marks Try.func72 rfl trivial ?_ rfl
  simp only [Try.ntmps72, List.size_toArray, List.length_cons, List.length_nil, Nat.reduceAdd, Nat.reduceSub, Array.replicate_succ, Array.replicate_zero, List.push_toArray, List.append_toArray, List.nil_append, List.cons_append]
  refine wpIn_wide.2 ?_
  unfold forV
  go_upto_region 1 with (fail)
  generalize w.alloc (.cells #[.slice A S.length c, .slice B P.length d] 75) = W0 at H ⊢
  have q0 : W0.cell? ⟨w.heap.size, 0, none⟩ = some (.slice A S.length c) := H.out.2.1.cell 0
  go_upto_region 2 with (fail)
  have g1 := Blk.new W0 4 (bools (List.replicate S.length false))
  have b1 : Below W0.heap.size W0 (W0.alloc (.cells (bools (List.replicate S.length false)) 4)) := (Below.refl _ _).alloc (Nat.le_refl _) _
  have z1 : W0.heap.size < (W0.alloc (.cells (bools (List.replicate S.length false)) 4)).heap.size := by simp
  have HG := Lib.hid (And.intro g1 (And.intro b1 z1))
  clear g1 b1 q0 hmk z1
  generalize W0.alloc (.cells (bools (List.replicate S.length false)) 4) = W1 at HG ⊢
  go_wp2
  refine wp_loop (fun a wr => ∃ (k : Nat) (R : List Bool) (Ds : List Nat) (u4 u5 u6 u14 u15 u16 u17 u18 u19 u20 u21 u22 u23 u24 u25 u26 u27 u28 u29 u30 u31 u32 u33 u34 u35 u36 u37 u38 u39 u40 u41 u42 u43 u44 : Value), a = ⟨#[.agg #[.slice A S.length c, .slice B P.length d], .pointer (some ⟨w.heap.size, 0, none⟩), .slice none 0 0, .slice (some ⟨W0.heap.size, 0, none⟩) S.length S.length, u4, u5, u6, .pointer (some ⟨w.heap.size, 0, none⟩), .slice A S.length c, .int .i64 (S.length : Int), .slice (some ⟨W0.heap.size, 0, none⟩) S.length S.length, .slice (some ⟨W0.heap.size, 0, none⟩) S.length S.length, .int .i64 (S.length : Int), .int .i64 (k : Int), u14, u15, u16, u17, u18, u19, u20, u21, u22, u23, u24, u25, u26, u27, u28, u29, u30, u31, u32, u33, u34, u35, u36, u37, u38, u39, u40, u41, u42, u43, u44, undef], Ds.map collD⟩ ∧ k ≤ S.length ∧ RgI P S.length W0.heap.size W1.heap.size W1 wr k R Ds) (fun a _ => S.length - (intOf (a.tmps.getD 13 undef)).toNat) ?_ ?_
  · exact ⟨0, _, [], _, _, _, _, _, _, _, _, _, _, _, _, _, _, _, _, _, _, _, _, _, _, _, _, _, _, _, _, _, _, _, _, _, _, rfl, Nat.zero_le _, by simp, fun j hj => by omega, HG.out.1, Upd.refl _ _, List.nodup_nil, fun D hD => by cases hD⟩
  · rintro a wr ⟨k, R, Ds, u4, u5, u6, u14, u15, u16, u17, u18, u19, u20, u21, u22, u23, u24, u25, u26, u27, u28, u29, u30, u31, u32, u33, u34, u35, u36, u37, u38, u39, u40, u41, u42, u43, u44, rfl, hk, hI⟩
    have bw : Below w.heap.size w wr := (H.out.2.2.1.trans (HG.out.2.1.mono H.out.2.2.1.size)).trans (hI.u.below (fun q _ e => by have := H.out.2.2.2.2; omega) (Nat.le_trans H.out.2.2.1.size HG.out.2.1.size))
    have kb := (H.out.2.1.upd (Upd.of_below HG.out.2.1 (fun _ => False)) id).upd hI.u (by have := H.out.2.2.2.2; omega)
    have q0 : wr.cell? ⟨w.heap.size, 0, none⟩ = some (.slice A S.length c) := kb.cell 0
    by_cases hlt : k < S.length
    · have hltI : (k : Int) < (S.length : Int) := by omega
      have HR := Lib.hid (And.intro hI (And.intro bw kb))
      clear hI bw kb
      have hmk := HM.out
      go_upto_region 6 with (fail)
      have gi0 := (Blk.new wr 4 (bools (List.replicate S.length false))).alloc (.cells #[.slice (some ⟨wr.heap.size, 0, none⟩) S.length S.length] 84)
      have ki0 := Blk.new (wr.alloc (.cells (bools (List.replicate S.length false)) 4)) 84 #[.slice (some ⟨wr.heap.size, 0, none⟩) S.length S.length]
      simp only [World.size_alloc] at ki0
      have b2 : Below wr.heap.size wr ((wr.alloc (.cells (bools (List.replicate S.length false)) 4)).alloc (.cells #[.slice (some ⟨wr.heap.size, 0, none⟩) S.length S.length] 84)) := by (repeat (first | exact Below.refl _ _ | apply Below.drew | refine Below.alloc ?_ (by first | exact Nat.le_refl _ | (simp; done) | (simp; omega)) _ | refine Below.setCell ?_ (by first | exact Nat.le_refl _ | (simp; done) | (simp; omega)) _))
      have z2 : ((wr.alloc (.cells (bools (List.replicate S.length false)) 4)).alloc (.cells #[.slice (some ⟨wr.heap.size, 0, none⟩) S.length S.length] 84)).heap.size = wr.heap.size + 1 + 1 := by simp
      have HX := Lib.hid (And.intro gi0 (And.intro ki0 (And.intro b2 z2)))
      clear gi0 ki0 b2 z2 q0 hmk
      generalize (wr.alloc (.cells (bools (List.replicate S.length false)) 4)).alloc (.cells #[.slice (some ⟨wr.heap.size, 0, none⟩) S.length S.length] 84) = W2 at HX ⊢
      have k2 := HR.out.2.2.upd (Upd.of_below HX.out.2.2.1 (fun _ => False)) id
      have q0 : W2.cell? ⟨w.heap.size, 0, none⟩ = some (.slice A S.length c) := k2.cell 0
      have q1 : W2.cell? ⟨w.heap.size, 1, none⟩ = some (.slice B P.length d) := k2.cell 1
      have bw2 := HR.out.2.1.trans (HX.out.2.2.1.mono HR.out.2.1.size)
      have HY := Lib.hid (And.intro bw2 k2)
      clear bw2 k2
      go_wp2_with fail
      refine (packs_any W2 A c B d S P (k : Int) (H.out.1.below HY.out.1)).mono ?_
      rintro e w3 ⟨bl, bs, v, rfl, kl, ks, own3, b3, hbl, hbs⟩
      clear q0 q1
      have HP := Lib.hid (And.intro kl (And.intro ks (And.intro own3 (And.intro b3 (And.intro hbl hbs)))))
      clear kl ks own3 b3 hbl hbs
      go_wp2
      have hQ : ∀ p ∈ ofSpot (k : Int) P, PkIn S.length p := fun p hp => H.out.2.2.2.1 p (List.mem_filter.1 hp).1
      have z2 := HX.out.2.2.2
      have z3 := HP.out.2.2.2.1.size
      have gi3 := HX.out.1.upd (Upd.of_below HP.out.2.2.2.1 (fun _ => False)) id
      have ki3 := HX.out.2.1.upd (Upd.of_below HP.out.2.2.2.1 (fun _ => False)) id
      have HZ := Lib.hid (And.intro gi3 ki3)
      clear gi3 ki3
      refine wp_range_end 5 (by omega) (gf := 89) (lb := #[.pointer (some ⟨bl, 0, none⟩), .pointer (some ⟨bs, 0, none⟩)]) rfl (enters_of Try.func89 (by kernel_rfl) rfl)
        (packs_stops Fence.wide (5 - 1) trivial rfl (by omega) bl bs w3.heap.size W2.heap.size (fun q => q = wr.heap.size) P (k : Int) v (PkIn S.length) hQ hP8 w3 HP.out.1.lt (Nat.le_refl _) (HP.out.1.cell 0) (HP.out.2.1.cell 0) ⟨HP.out.2.1.lt, by have := HP.out.2.2.2.2.2; omega⟩ HP.out.2.2.1 (fun q hq => ⟨(HP.out.2.2.1.lt q hq).2, by have := (HP.out.2.2.1.lt q hq).1; omega⟩))
        KpF.trans (KpF.put (Nat.le_refl _)) (Below.refl _ _) (fun _ => rfl)
        (fun pre W => MarkI S.length wr.heap.size w3 (pre.map (·.1)) W) (fun _ _ _ => False)
        ?hI ?hIx ?h0
        (fun T x b => (T.setIfInBounds 23 x.1.agg).setIfInBounds 6 (.pointer (some ⟨b, 0, none⟩)))
        (fun x b W => Blk W b 125 x.1.cells.toArray ∧ w3.heap.size ≤ b)
        ?hBx ?assign ?body (fun W => MarkI S.length wr.heap.size w3 (ofSpot (k : Int) P) W) ?done ?stop ?fine
      case hI =>
        rintro s X Y row ⟨J, h1, h2, h3, h4⟩ hg hr
        exact ⟨J, h1, h2, h3.keep hg hr, h4.keep hg (Nat.le_refl _) hr⟩
      case hIx => exact fun c s X Y row h hg hr => h
      case h0 => exact ⟨_, by simp, fun x hx => by simp [atB, hx], HZ.out.1, Upd.refl _ _⟩
      case hBx => exact fun x b s X Y row h hg hr => ⟨h.1.keep hg hr, h.2⟩
      case assign =>
        rintro l pre ⟨⟨p0, p1, p2, p3, p4⟩, hp⟩ W K hi hK
        dsimp only [encP, Pk.agg]
        have HI := Lib.hid hi
        clear hi
        gi_wp2
        obtain ⟨J, h1, h2, h3, h4⟩ := HI.out
        exact hK W.heap.size _ ((KeepsOthers.alloc W _).from _) (Upd.alloc (Upd.refl _ _) _) ⟨J, h1, h2, h3.alloc _, h4.alloc _⟩ ⟨Blk.new W _ _, h4.size⟩
      case done =>
        rintro xs W rfl hi
        rw [spotL_map] at hi
        exact hi
      case stop => exact fun c pre W _ h => h.elim
      case body =>
        rintro lp pre ⟨⟨p0, p1, p2, p3, p4⟩, hp⟩ b W hlw hrw ⟨J, h1, h2, h3, h4⟩ ⟨kx, hbx⟩ hlt3
        have c3 : W.cell? ⟨b, 3, none⟩ = some (.int .i64 p3) := kx.cell 3
        have c4 : W.cell? ⟨b, 4, none⟩ = some (.int .i64 p4) := kx.cell 4
        have kw := HZ.out.2.upd h4 (by omega)
        have c5 : W.cell? ⟨wr.heap.size + 1, 0, none⟩ = some (.slice (some ⟨wr.heap.size, 0, none⟩) S.length S.length) := kw.cell 0
        simp only [List.setIfInBounds_toArray, List.set_cons_zero, List.set_cons_succ]
        have hlr := hp.2
        dsimp only at hlr
        rcases hlr with hl3 | ⟨lf, rt, el, er, hlf, hrt⟩
        · have n3 : decide (0 ≤ p3) = false := by simpa using hl3
          have HB := Lib.hid (show MarkI S.length wr.heap.size w3 ((pre ++ [(⟨⟨p0, p1, p2, p3, p4⟩, hp⟩ : {p : Pk // PkIn S.length p})]).map fun x : {p : Pk // PkIn S.length p} => x.1) W from ⟨J, h1, fun x hx => by
            rw [h2 x hx, List.map_append]
            constructor
            · rintro ⟨q, hq, h⟩; exact ⟨q, List.mem_append.2 (.inl hq), h⟩
            · rintro ⟨q, hq, h⟩
              rcases List.mem_append.1 hq with hq | hq
              · exact ⟨q, hq, h⟩
              · simp only [List.map_cons, List.map_nil, List.mem_singleton] at hq
                subst hq
                exact (h.1 hl3).elim, h3, h4⟩)
          clear h2 h3 h4 kx kw hl3 h1
          gi_wp2
          exact ⟨KeepsFrom.refl _ _, Upd.refl _ _, HB.out⟩
        · subst el
          subst er
          have n3 : decide ((0 : Int) ≤ (lf : Int)) = true := by simp
          have hlI : (lf : Int) < (S.length : Int) := by omega
          have hrI : (rt : Int) < (S.length : Int) := by omega
          have g3 := h3.cell lf
          rw [bools_get (atB_get (by omega))] at g3
          have f3 := h3.frozen lf
          have hk1 := h3.set lf (.bool true)
          rw [bools_set] at hk1
          have u1 : Upd (fun q => q = wr.heap.size) W (W.setCell ⟨wr.heap.size, lf, none⟩ (.bool true)) := (Upd.refl (fun q => q = wr.heap.size) W).setCell (p := ⟨wr.heap.size, lf, none⟩) (.inl rfl) _
          have g4 := hk1.cell rt
          rw [bools_get (atB_get (by rw [List.length_set]; omega))] at g4
          have f4 := hk1.frozen rt
          have hk2 := hk1.set rt (.bool true)
          rw [bools_set] at hk2
          have u2 := u1.setCell (p := ⟨wr.heap.size, rt, none⟩) (.inl rfl) (.bool true)
          have c3s : (W.setCell ⟨wr.heap.size, lf, none⟩ (.bool true)).cell? ⟨b, 3, none⟩ = some (.int .i64 (lf : Int)) := (kx.upd u1 (by omega)).cell 3
          have c4s : (W.setCell ⟨wr.heap.size, lf, none⟩ (.bool true)).cell? ⟨b, 4, none⟩ = some (.int .i64 (rt : Int)) := (kx.upd u1 (by omega)).cell 4
          have c5s : (W.setCell ⟨wr.heap.size, lf, none⟩ (.bool true)).cell? ⟨wr.heap.size + 1, 0, none⟩ = some (.slice (some ⟨wr.heap.size, 0, none⟩) S.length S.length) := (kw.upd u1 (by omega)).cell 0
          have HB := Lib.hid (show MarkI S.length wr.heap.size w3 ((pre ++ [(⟨⟨p0, p1, p2, (lf : Int), (rt : Int)⟩, hp⟩ : {p : Pk // PkIn S.length p})]).map fun x : {p : Pk // PkIn S.length p} => x.1) ((W.setCell ⟨wr.heap.size, lf, none⟩ (.bool true)).setCell ⟨wr.heap.size, rt, none⟩ (.bool true)).drew from ⟨_, by simp [h1], by
            rw [List.map_append]
            exact mark_step h1 h2 rfl rfl hlf hrt, hk2.drew, ((h4.trans u2 (fun i e => .inl e))).drew⟩)
          have HC := Lib.hid (And.intro c5s (And.intro c3s c4s))
          have HU := Lib.hid u2
          clear h2 h3 h4 kx kw h1 hk1 hk2 u1 u2 c3s c4s c5s
          gi_wp2
          refine wpIn_region_ord (fun w' => w'.cell? ⟨wr.heap.size + 1, 0, none⟩ = some (.slice (some ⟨wr.heap.size, 0, none⟩) S.length S.length) ∧ w'.cell? ⟨b, 3, none⟩ = some (.int .i64 (lf : Int)) ∧ w'.cell? ⟨b, 4, none⟩ = some (.int .i64 (rt : Int))) 9 [(0, true), (1, true), (2, true), (3, true), (4, true), (5, true), (6, true), (7, false), (8, true), (9, false)]
            (by kernel_rfl) (by kernel_rfl) (by kernel_rfl) (fun ⟨_, _, h⟩ => h) (fun _ _ _ _ _ h => h) ⟨c5, c3, c4⟩ ?_
          iterate 7 (refine ord_take (v := ?_) rfl (by first | with_reducible rfl | kernel_rfl) ?_ ?_; rotate_left; (focus (intro wS hS; (try dsimp only at hS); go_split_ands; go_simp; (try with_reducible rfl); done)); (try simp only [Act.put, List.getElem_toArray, List.getElem_cons_succ, List.getElem_cons_zero, List.setIfInBounds_toArray, List.set_cons_zero, List.set_cons_succ]))
          refine ord_do rfl rfl (fun K hK => ?_)
          go_simp
          refine hK _ _ (fun _ => HC.out) ?_
          clear hK K
          (refine ord_take (v := ?_) rfl (by first | with_reducible rfl | kernel_rfl) ?_ ?_; rotate_left; (focus (intro wS hS; (try dsimp only at hS); go_split_ands; go_simp; (try with_reducible rfl); done)); (try simp only [Act.put, List.getElem_toArray, List.getElem_cons_succ, List.getElem_cons_zero, List.setIfInBounds_toArray, List.set_cons_zero, List.set_cons_succ]))
          refine ord_do rfl rfl (fun K hK => ?_)
          go_simp
          refine hK _ _ (fun h => absurd rfl h) ?_
          clear hK K
          refine ord_done ?_
          gi_wp2
          exact ⟨(((KeepsOthers.setCell W _ _).trans (KeepsOthers.setCell _ _ _)).trans (KeepsOthers.drew _)).from _, Upd.drew (HU.out.mono (fun i _ e => .inr e)), HB.out⟩
      case fine =>
        rintro D W4 hD ⟨J, h1, h2, h3, h4⟩ hd
        have k4 := (HY.out.2.upd (Upd.of_below HP.out.2.2.2.1 (fun _ => False)) id).upd h4 (by have := HR.out.2.2.lt; omega)
        have q0 : W4.cell? ⟨w.heap.size, 0, none⟩ = some (.slice A S.length c) := k4.cell 0
        have q1 : W4.cell? ⟨w.heap.size, 1, none⟩ = some (.slice B P.length d) := k4.cell 1
        have kw := HZ.out.2.upd h4 (by omega)
        have q2 : W4.cell? ⟨wr.heap.size + 1, 0, none⟩ = some (.slice (some ⟨wr.heap.size, 0, none⟩) S.length S.length) := kw.cell 0
        have zw : w.heap.size ≤ wr.heap.size := HR.out.2.1.size
        have bw4 : Below w.heap.size w W4 := (HY.out.1.trans (HP.out.2.2.2.1.mono HY.out.1.size)).trans (h4.below (fun q _ e => by omega) (by have := HY.out.1.size; omega))
        have HF := Lib.hid (And.intro h1 (And.intro h2 (And.intro h3 (And.intro h4 (And.intro hd bw4)))))
        clear h1 h2 h3 h4 hd bw4 k4 kw
        go_wp2_with fail
        refine (spread_any w W4 wr.heap.size A c B d S P (partX P (k : Int)) J H.out.1 H.out.2.2.2.1 HF.out.2.2.2.2.2 zw HF.out.2.2.1 HF.out.1 ⟨fun x hx hb => ?_, fun x hx => ?_⟩).mono ?_
        · obtain ⟨p, hp, hl, hxp⟩ := (HF.out.2.1 x hx).1 hb
          obtain ⟨hp1, hp2⟩ := List.mem_filter.1 hp
          exact Rch.base _ ⟨p, hp1, by simpa using hp2, by omega, hxp⟩
        · obtain ⟨p, hp, hs, hl, hxp⟩ := hx
          rcases (H.out.2.2.2.1 p hp).2 with h2 | ⟨lf, rt, el, er, hlf, hrt⟩
          · exact (hl h2).elim
          · have hm : p ∈ ofSpot (k : Int) P := List.mem_filter.2 ⟨hp, by simpa using hs⟩
            rcases hxp with rfl | rfl
            · rw [el]
              exact ⟨by omega, by omega, (HF.out.2.1 lf hlf).2 ⟨p, hm, by omega, .inl el.symm⟩⟩
            · rw [er]
              exact ⟨by omega, by omega, (HF.out.2.1 rt hrt).2 ⟨p, hm, by omega, .inr er.symm⟩⟩
        rintro e w5 ⟨I, rfl, hIR, hgI, hu⟩
        obtain ⟨bv, hbv⟩ : ∃ b, atB I (k : Int) = b := ⟨_, rfl⟩
        have m0 := hgI.cell k
        rw [bools_get (atB_get (by rw [hIR.len]; exact hlt)), hbv] at m0
        have hgo := HG.out.2.2
        have hu1 := HR.out.1.u.size
        have kg5 := (((HR.out.1.g.upd (Upd.of_below HX.out.2.2.1 (fun _ => False)) id).upd (Upd.of_below HP.out.2.2.2.1 (fun _ => False)) id).upd HF.out.2.2.2.1 (by omega)).upd hu (by omega)
        have m1 := kg5.cell k
        rw [bools_get (atB_get (by rw [HR.out.1.len]; exact hlt))] at m1
        have m2 := kg5.frozen k
        have kn := kg5.set k (.bool bv)
        rw [bools_set] at kn
        have u25 : Upd (fun q => q = wr.heap.size) wr w5 := (((Upd.of_below HX.out.2.2.1 (fun q => q = wr.heap.size)).trans (Upd.of_below HP.out.2.2.2.1 (fun _ => False)) (fun _ h => h.elim)).trans HF.out.2.2.2.1 (fun i e => .inl e)).trans hu (fun i e => .inl e)
        have us : Upd (fun q => q = W0.heap.size) w5 (w5.setCell ⟨W0.heap.size, k, none⟩ (.bool bv)) := (Upd.refl (fun q => q = W0.heap.size) w5).setCell (p := ⟨W0.heap.size, k, none⟩) (.inl rfl) _
        have hiff := hIR.is k hlt
        rw [hbv] at hiff
        have hdD : D < W4.heap.size := (Array.getElem?_eq_some_iff.1 HF.out.2.2.2.2.1).1
        have dn : RgI P S.length W0.heap.size W1.heap.size W1 (w5.setCell ⟨W0.heap.size, k, none⟩ (.bool bv)) (k + 1) (R.set k bv) (D :: Ds) := by
          obtain ⟨hl, his, hg, hI0, hnd, hds⟩ := HR.out.1
          have hold : ∀ D' ∈ Ds, D' < wr.heap.size := fun D' hD' => (Array.getElem?_eq_some_iff.1 (hds D' hD').2).1
          refine ⟨by rw [List.length_set]; exact hl, fun j hj => ?_, kn, (hI0.trans u25 (fun i e => .inr (by omega))).trans us (fun i e => .inl e), ?_, fun D' hD' => ?_⟩
          · rw [atB_set (by rw [hl]; exact hlt)]
            by_cases e : j = k
            · subst e
              rw [if_pos (by simp)]
              exact hiff
            · rw [if_neg (by omega)]
              exact his j (by omega)
          · rw [List.nodup_cons]
            exact ⟨fun hm => by have := hold D hm; omega, hnd⟩
          · rcases List.mem_cons.1 hD' with rfl | hm
            · refine ⟨by omega, ?_⟩
              exact (us.block D' (Nat.lt_of_lt_of_le hdD hu.size) (by omega)).trans ((hu.block D' hdD (by omega)).trans HF.out.2.2.2.2.1)
            · have h5 := hold D' hm
              have h6 := hds D' hm
              exact ⟨h6.1, (us.block D' (Nat.lt_of_lt_of_le h5 u25.size) (by omega)).trans ((u25.block D' h5 (by omega)).trans h6.2)⟩
        have HN := Lib.hid dn
        clear kn us u25 kg5 hgI hu hIR hbv hiff dn hdD q0 q1 q2
        go_wp2
        exact ⟨⟨k + 1, R.set k bv, D :: Ds, _, _, _, _, _, _, _, _, _, _, _, _, _, _, _, _, _, _, _, _, _, _, _, _, _, _, _, _, _, _, _, _, _, _, rfl, by omega, HN.out⟩, by simp [intOf]; omega⟩
    · obtain rfl : k = S.length := by omega
      have fin : ∀ w1, (Blk w1 W0.heap.size 4 (bools R) ∧ Below w.heap.size w w1) → (∃ R, RingB P S.length R ∧ BoolsAt w R (.returned (.slice (some ⟨W0.heap.size, 0, none⟩) S.length S.length)) w1) := fun w1 h =>
        ⟨R, ⟨hI.len, hI.is⟩, W0.heap.size, congrArg (fun n => Ending.returned (.slice (some ⟨W0.heap.size, 0, none⟩) n n)) hI.len.symm, h.1, H.out.2.2.1.size, h.2⟩
      have HR := Lib.hid (And.intro hI (And.intro bw fin))
      clear hI bw kb q0 hlt fin
      go_wp2
      refine leaves_coll (B := W1.heap.size) (fun w1 => Blk w1 W0.heap.size 4 (bools R) ∧ Below w.heap.size w w1) ?_ ?_ Ds wr HR.out.1.nd HR.out.1.ds ⟨HR.out.1.g, HR.out.2.1⟩
      · rintro w1 D hB hd ⟨h1, h2⟩
        have z1 := HG.out.2.2
        have z4 := H.out.2.2.1.size
        exact ⟨h1.grown (grownBy_putObj' w1 D _) (fun e => by injection e with e; omega), h2.trans ((Upd.of_grown (grownBy_putObj' w1 D (.deferred none))).below (fun q _ e => by injection e with e; omega) h2.size)⟩
      · intro w1 h1
        exact ⟨.slice (some ⟨W0.heap.size, 0, none⟩) S.length S.length, by simp [results, Try.f72, go_sem], HR.out.2.2 w1 h1⟩
end Go.Proofs.Ytbppbgdmoihooaa
