/- Forests: trim.Count with a bound of one: how many derivations a spot has. -/
import Derived.Test.YtbppbgdmoihooaaTtD
import Derived.Laws.EntriesVeiled
namespace Go.Proofs.Ytbppbgdmoihooaa
open Go.RowKit

theorem count1_any (m r bf bg bm : Nat) (A : Option Addr) (c : Nat) (B : Option Addr) (d : Nat) (S : List Fct) (P : List Pk) (ho : OkFor S P) : ∀ (N s : Nat) (L : List Bool), L.count true < N → s < S.length → RchB P (partX P (s : Int)) S.length L → Calm P (s : Int) → ∀ w, CntS w m r bf bg bm A c B d S P →
    Calls Try.prog 78 #[.int .i64 (s : Int), .pointer (some ⟨m, 0, none⟩), .pointer (some ⟨bf, 0, none⟩), .pointer (some ⟨bg, 0, none⟩), .pointer (some ⟨bm, 0, none⟩)] w (Cnt1 w m r bf bg bm A c B d S P)
  | 0, _, _, h, _, _, _, _, _ => absurd h (Nat.not_lt_zero _)
  | N + 1, s, L, hN, hs, hL, hc, w, h => by
    obtain ⟨kv, hm, hkv⟩ := h.memo
    by_cases hin : ∃ v, ((.int .i64 (s : Int), v) : Value × Value) ∈ kv
    · obtain ⟨v, hv⟩ := hin
      obtain ⟨x, e, h12⟩ := hkv _ hv
      dsimp only at e
      subst e
      exact count1_old w m r bf bg bm A c B d S P s x kv h hm hv h12
    · refine count1_new w m r bf bg bm A c B d S P s kv h hm hkv (fun q hq e => hin ⟨q.2, by rw [← e]; exact hq⟩) hs ho ?_
      intro x hx hp w hw
      obtain ⟨L', hL'⟩ := ex_reach P (partX P (x : Int)) S.length
      exact count1_any m r bf bg bm A c B d S P ho N x L' (by have := reach_less hL hL' hp hx (hc.part hp _ (.inl rfl)); omega) hx hL' (hc.part hp) w hw

theorem find_at (w : World) (A : Option Addr) (c : Nat) (B : Option Addr) (m d : Nat) (S : List Fct) (f : Fct) (h : RowR w A (factCells S)) (hc : S.length ≤ c) (hS : S.length * 24 ≤ 140737488355328) (x : Nat) (hx : idxI S f = (x : Int)) :
    Calls Try.prog 49 #[forV A S.length c B m d, f.agg] w (Sam w (.tuple #[.int .i64 (x : Int), .bool true])) :=
  (find_any w A c B m d S f h hc hS).mono fun _ _ hf => ⟨by rw [hf.1, hx, Int.max_eq_left (by omega), decide_eq_true (by omega)], hf.2⟩

set_option maxHeartbeats 2000000 in
set_option maxRecDepth 20000 in
theorem tcount_zero (w : World) (A : Option Addr) (c : Nat) (B : Option Addr) (d : Nat) (S : List Fct) (P : List Pk) (s : Nat) (T : List Int) (h : ForR w A c B d S P) (ho : OkFor S P) (hs : s < S.length) (hT : Settled P S.length T) (hz : at0 T (s : Int) = 0) :
    Calls Try.prog 50 #[forV A S.length c B P.length d, .int .i64 (s : Int), .int .i64 1] w (Sam w (.tuple #[.int .i64 0, .bool false, .int .i64 0])) := by
  have hb : atB (endsB T) (s : Int) = false := by rw [endsB_at (by rw [hT.len]; exact hs), hz]; rfl
  have k0 := (Blk.new w 75 #[.slice A S.length c, .slice B P.length d]).alloc (.cells #[.int .i64 1] 3)
  have k1 := Blk.new (w.alloc (.cells #[.slice A S.length c, .slice B P.length d] 75)) 3 #[.int .i64 1]
  simp only [World.size_alloc] at k1
  have u0 : Below w.heap.size w ((w.alloc (.cells #[.slice A S.length c, .slice B P.length d] 75)).alloc (.cells #[.int .i64 1] 3)) := by (repeat (first | exact Below.refl _ _ | apply Below.drew | refine Below.alloc ?_ (by first | exact Nat.le_refl _ | (simp; done) | (simp; omega)) _ | refine Below.setCell ?_ (by first | exact Nat.le_refl _ | (simp; done) | (simp; omega)) _))
  have H := Lib.hid (And.intro h (And.intro k0 (And.intro k1 (And.intro u0 hb))))
  clear h k0 k1 u0 hz hb
  go_enter Try.func50, Try.ntmps50
  unfold forV
  go_upto_region 1 with (fail)
  generalize (w.alloc (.cells #[.slice A S.length c, .slice B P.length d] 75)).alloc (.cells #[.int .i64 1] 3) = W0 at H ⊢
  have q0 : W0.cell? ⟨w.heap.size, 0, none⟩ = some (.slice A S.length c) := H.out.2.1.cell 0
  have q1 : W0.cell? ⟨w.heap.size, 1, none⟩ = some (.slice B P.length d) := H.out.2.1.cell 1
  go_wp2_with fail
  refine (asked_ok W0 A c B d S P (s : Int) (H.out.1.below H.out.2.2.2.1) ho ⟨by omega, by omega⟩).mono ?_
  rintro e w1 ⟨rfl, b1⟩
  have k1 := H.out.2.1.upd (Upd.of_below b1 (fun _ => False)) id
  have k2 := H.out.2.2.1.upd (Upd.of_below b1 (fun _ => False)) id
  clear q0 q1
  have q0 : w1.cell? ⟨w.heap.size, 0, none⟩ = some (.slice A S.length c) := k1.cell 0
  have q1 : w1.cell? ⟨w.heap.size, 1, none⟩ = some (.slice B P.length d) := k1.cell 1
  have q2 : w1.cell? ⟨w.heap.size + 1, 0, none⟩ = some (.int .i64 1) := k2.cell 0
  have HC := Lib.hid (H.out.2.2.2.1.trans (b1.mono H.out.2.2.2.1.size))
  clear b1 k1 k2
  go_wp2_with fail
  refine (ends_any w1 A c B d S P T (H.out.1.below HC.out) ho hT).mono ?_
  rintro e w2 ⟨g, rfl, hg, hz, b2⟩
  rw [endsB_len, hT.len]
  have g7 := hg.cell s
  rw [bools_get (atB_get (by rw [endsB_len, hT.len]; exact hs)), H.out.2.2.2.2] at g7
  have hsI : (s : Int) < (S.length : Int) := by omega
  have HD := Lib.hid (HC.out.trans (b2.mono HC.out.size))
  clear hg b2 q0 q1 q2
  go_wp2
  exact bodyPost_ret (v := .tuple #[.int .i64 0, .bool false, .int .i64 0]) (by simp [results, Try.f50, go_sem]) rfl ⟨rfl, HD.out⟩

/-- What Count leaves behind for its own function. -/
theorem cnts_made {w : World} {bf bm : Nat} {A : Option Addr} {c : Nat} {B : Option Addr} {d : Nat} {S : List Fct} {P : List Pk} (h0 : 0 < S.length) (h1 : 0 < P.length) (kf : Blk w bf 75 #[.slice A S.length c, .slice B P.length d]) (kb : Blk w bm 3 #[.int .i64 1]) (f : ForR w A c B d S P) {W : World}
    (hW : ((w.alloc (.map #[] 0)).alloc (.cells #[.map (some w.heap.size)] 138)).alloc (.cells #[.func (.func 78) #[] #[.pointer (some ⟨w.heap.size + 1, 0, none⟩), .pointer (some ⟨bf, 0, none⟩), .pointer (some ⟨w.heap.size + 1 + 1, 0, none⟩), .pointer (some ⟨bm, 0, none⟩)]] 141) = W) :
    CntS W (w.heap.size + 1) w.heap.size bf (w.heap.size + 1 + 1) bm A c B d S P ∧ Below w.heap.size w W := by
  have lf := kf.lt
  have lb := kb.lt
  have bel : Below w.heap.size w W := by rw [← hW]; (repeat (first | exact Below.refl _ _ | apply Below.drew | refine Below.alloc ?_ (by first | exact Nat.le_refl _ | (simp; done) | (simp; omega)) _ | refine Below.setCell ?_ (by first | exact Nat.le_refl _ | (simp; done) | (simp; omega)) _))
  have u := Upd.of_below bel (fun _ => False)
  have m1 := ((MapIs.made w Try.prog 3).alloc (.cells #[.map (some w.heap.size)] 138)).alloc (.cells #[.func (.func 78) #[] #[.pointer (some ⟨w.heap.size + 1, 0, none⟩), .pointer (some ⟨bf, 0, none⟩), .pointer (some ⟨w.heap.size + 1 + 1, 0, none⟩), .pointer (some ⟨bm, 0, none⟩)]] 141)
  have a1 := (Blk.new (w.alloc (.map #[] 0)) 138 #[.map (some w.heap.size)]).alloc (.cells #[.func (.func 78) #[] #[.pointer (some ⟨w.heap.size + 1, 0, none⟩), .pointer (some ⟨bf, 0, none⟩), .pointer (some ⟨w.heap.size + 1 + 1, 0, none⟩), .pointer (some ⟨bm, 0, none⟩)]] 141)
  have a3 := Blk.new ((w.alloc (.map #[] 0)).alloc (.cells #[.map (some w.heap.size)] 138)) 141 #[.func (.func 78) #[] #[.pointer (some ⟨w.heap.size + 1, 0, none⟩), .pointer (some ⟨bf, 0, none⟩), .pointer (some ⟨w.heap.size + 1 + 1, 0, none⟩), .pointer (some ⟨bm, 0, none⟩)]]
  rw [hW] at a1 a3 m1
  simp only [World.size_alloc] at a1 a3
  refine ⟨⟨a1, kf.upd u id, a3, kb.upd u id, ⟨[], m1, fun q hq => by cases hq⟩, f.below bel, by omega, by omega, by omega, by omega, ?_, ?_⟩, bel⟩
  · rintro b o s rfl e
    obtain ⟨b', o', e', hc⟩ := f.rs 0 ((factCells S)[0]'(by rw [factCells_len]; omega)) (List.getElem?_eq_getElem _)
    injection e' with e'
    injection e' with e' _ _
    have := World.block_lt_of_cell? w _ hc
    dsimp only at this
    omega
  · rintro b o s rfl e
    obtain ⟨b', o', e', hc⟩ := f.rp 0 ((packCells P)[0]'(by rw [packCells_len]; omega)) (List.getElem?_eq_getElem _)
    injection e' with e'
    injection e' with e' _ _
    have := World.block_lt_of_cell? w _ hc
    dsimp only at this
    omega

def One1 (w : World) (e : Ending) (w' : World) : Prop := ∃ b, e = .returned (.tuple #[.int .i64 1, .bool b, .int .i64 0]) ∧ Below w.heap.size w w'
set_option maxHeartbeats 8000000 in
set_option maxRecDepth 100000 in
theorem tcount_some (w : World) (A : Option Addr) (c : Nat) (B : Option Addr) (d : Nat) (S : List Fct) (P : List Pk) (s : Nat) (T : List Int) (h : ForR w A c B d S P) (ho : OkFor S P) (hs : s < S.length) (hT : Settled P S.length T) (hz : at0 T (s : Int) ≠ 0) :
    Calls Try.prog 50 #[forV A S.length c B P.length d, .int .i64 (s : Int), .int .i64 1] w (One1 w) := by
  have hb : atB (endsB T) (s : Int) = true := (endsB_pos hT.val (by rw [hT.len]; exact hs)).2 hz
  obtain ⟨⟨f0, f1, f2⟩, hf⟩ : ∃ f, S[s]? = some f := ⟨S[s], List.getElem?_eq_getElem hs⟩
  obtain ⟨ab, ao, rfl, x0, x1, x2⟩ := h.rs.fact hf
  dsimp only at x0 x1 x2
  have xb : ab < w.heap.size := World.block_lt_of_cell? w _ x0
  have ho1 := okfor_cut ho (held_ends ho hT)
  have fit1 := fits_cut (I := endsB T) h.fit ho
  have hidx := idx_cut ho hf hb
  have hat := cutS_at hf hb
  have hS8 : S.length ≤ 140737488355328 := by have := h.fit.s; omega
  have hcS : cutS S (endsB T) = cutS S (endsB T) := rfl
  generalize hS1 : cutS S (endsB T) = S1 at ho1 fit1 hidx hat
  generalize hP1 : cutP P (endsB T) = P1 at ho1 fit1
  generalize cnt (endsB T) s = at1 at hidx hat
  have hlt1 : at1 < S1.length := (List.getElem?_eq_some_iff.1 hat).1
  have hS18 : S1.length * 24 ≤ 140737488355328 := fit1.s
  clear hcS
  have k0 := (Blk.new w 75 #[.slice (some ⟨ab, ao, none⟩) S.length c, .slice B P.length d]).alloc (.cells #[.int .i64 1] 3)
  have k1 := Blk.new (w.alloc (.cells #[.slice (some ⟨ab, ao, none⟩) S.length c, .slice B P.length d] 75)) 3 #[.int .i64 1]
  simp only [World.size_alloc] at k1
  have u0 : Below w.heap.size w ((w.alloc (.cells #[.slice (some ⟨ab, ao, none⟩) S.length c, .slice B P.length d] 75)).alloc (.cells #[.int .i64 1] 3)) := by (repeat (first | exact Below.refl _ _ | apply Below.drew | refine Below.alloc ?_ (by first | exact Nat.le_refl _ | (simp; done) | (simp; omega)) _ | refine Below.setCell ?_ (by first | exact Nat.le_refl _ | (simp; done) | (simp; omega)) _))
  have H := Lib.hid (And.intro h (And.intro k0 (And.intro k1 (And.intro u0 hb))))
  have HS := Lib.hid (And.intro hS1 (And.intro hP1 (And.intro hidx (And.intro fit1 hf))))
  have HX := Lib.hid (And.intro x0 (And.intro x1 x2))
  clear h k0 k1 u0 hz hb hS1 hP1 hidx hat fit1 hf x0 x1 x2
  go_enter Try.func50, Try.ntmps50
  unfold forV
  go_upto_region 1 with (fail)
  generalize (w.alloc (.cells #[.slice (some ⟨ab, ao, none⟩) S.length c, .slice B P.length d] 75)).alloc (.cells #[.int .i64 1] 3) = W0 at H ⊢
  have q0 : W0.cell? ⟨w.heap.size, 0, none⟩ = some (.slice (some ⟨ab, ao, none⟩) S.length c) := H.out.2.1.cell 0
  have q1 : W0.cell? ⟨w.heap.size, 1, none⟩ = some (.slice B P.length d) := H.out.2.1.cell 1
  go_wp2_with fail
  refine (asked_ok W0 _ c B d S P (s : Int) (H.out.1.below H.out.2.2.2.1) ho ⟨by omega, by omega⟩).mono ?_
  rintro e w1 ⟨rfl, b1⟩
  have k1 := H.out.2.1.upd (Upd.of_below b1 (fun _ => False)) id
  have k2 := H.out.2.2.1.upd (Upd.of_below b1 (fun _ => False)) id
  clear q0 q1
  have q0 : w1.cell? ⟨w.heap.size, 0, none⟩ = some (.slice (some ⟨ab, ao, none⟩) S.length c) := k1.cell 0
  have q1 : w1.cell? ⟨w.heap.size, 1, none⟩ = some (.slice B P.length d) := k1.cell 1
  have q2 : w1.cell? ⟨w.heap.size + 1, 0, none⟩ = some (.int .i64 1) := k2.cell 0
  have HC := Lib.hid (And.intro (H.out.2.2.2.1.trans (b1.mono H.out.2.2.2.1.size)) (And.intro k1 k2))
  clear b1 k1 k2
  go_wp2_with fail
  refine (ends_any w1 _ c B d S P T (H.out.1.below HC.out.1) ho hT).mono ?_
  rintro e w2 ⟨g, rfl, hg, hz, b2⟩
  rw [endsB_len, hT.len]
  have g7 := hg.cell s
  rw [bools_get (atB_get (by rw [endsB_len, hT.len]; exact hs)), H.out.2.2.2.2] at g7
  have hsI : (s : Int) < (S.length : Int) := by omega
  have k1 := HC.out.2.1.upd (Upd.of_below b2 (fun _ => False)) id
  have k2 := HC.out.2.2.upd (Upd.of_below b2 (fun _ => False)) id
  clear q0 q1 q2
  have q0 : w2.cell? ⟨w.heap.size, 0, none⟩ = some (.slice (some ⟨ab, ao, none⟩) S.length c) := k1.cell 0
  have q1 : w2.cell? ⟨w.heap.size, 1, none⟩ = some (.slice B P.length d) := k1.cell 1
  have HD := Lib.hid (And.intro (HC.out.1.trans (b2.mono HC.out.1.size)) (And.intro k1 (And.intro k2 hg)))
  clear hg b2 k1 k2 hz
  go_wp2_with fail
  refine (cut_any w2 _ c B d S P (endsB T) g (H.out.1.below HD.out.1) ho.goes (by rw [endsB_len, hT.len]) HD.out.2.2.2).mono ?_
  rw [HS.out.1, HS.out.2.1]
  intro e w3 hn
  obtain ⟨A1, c1, B1, d1, rfl, F1, b3⟩ := hn.at HS.out.2.2.2.1
  clear hn g7
  unfold forV
  go_upto_region 10 with (fail)
  have k1 := (HD.out.2.1.upd (Upd.of_below b3 (fun _ => False)) id).alloc (.cells #[.slice A1 S1.length c1, .slice B1 P1.length d1] 75)
  have k2 := (HD.out.2.2.1.upd (Upd.of_below b3 (fun _ => False)) id).alloc (.cells #[.slice A1 S1.length c1, .slice B1 P1.length d1] 75)
  have k3 := Blk.new w3 75 #[.slice A1 S1.length c1, .slice B1 P1.length d1]
  have u3 : Below w3.heap.size w3 (w3.alloc (.cells #[.slice A1 S1.length c1, .slice B1 P1.length d1] 75)) := (Below.refl _ _).alloc (Nat.le_refl _) _
  have b03 := HD.out.1.trans (b3.mono HD.out.1.size)
  have HE := Lib.hid (And.intro (b03.trans (u3.mono b03.size)) (And.intro k1 (And.intro k2 (And.intro k3 (F1.below u3)))))
  clear k1 k2 k3 u3 b3 b03 F1 q0 q1
  generalize w3.alloc (.cells #[.slice A1 S1.length c1, .slice B1 P1.length d1] 75) = W3 at HE ⊢
  have up : ∀ w', Below W3.heap.size W3 w' → w'.cell? ⟨w3.heap.size, 0, none⟩ = some (.slice A1 S1.length c1) ∧ w'.cell? ⟨w3.heap.size, 1, none⟩ = some (.slice B1 P1.length d1) ∧ w'.cell? ⟨w.heap.size, 0, none⟩ = some (.slice (some ⟨ab, ao, none⟩) S.length c) ∧ w'.cell? ⟨ab, ao + s * 3, none⟩ = some (.int .i64 f0) ∧ w'.cell? ⟨ab, ao + s * 3 + 1, none⟩ = some (.int .i64 f1) ∧ w'.cell? ⟨ab, ao + s * 3 + 2, none⟩ = some (.int .i64 f2) := fun w' hb => by
    have u := Upd.of_below hb (fun _ => False)
    have kk := HE.out.2.2.2.1.upd u id
    have k1 := HE.out.2.1.upd u id
    have hx := HE.out.1.trans (hb.mono HE.out.1.size)
    exact ⟨kk.cell 0, kk.cell 1, k1.cell 0, (hx.cell (p := ⟨ab, ao + s * 3, none⟩) xb).trans HX.out.1, (hx.cell (p := ⟨ab, ao + s * 3 + 1, none⟩) xb).trans HX.out.2.1, (hx.cell (p := ⟨ab, ao + s * 3 + 2, none⟩) xb).trans HX.out.2.2⟩
  have UP := Lib.hid up
  have U0 := Lib.hid (up W3 (Below.refl _ _))
  clear up
  go_wp2
  refine wp_region_ord (fun w' => w'.cell? ⟨w3.heap.size, 0, none⟩ = some (.slice A1 S1.length c1) ∧ w'.cell? ⟨w3.heap.size, 1, none⟩ = some (.slice B1 P1.length d1) ∧ w'.cell? ⟨w.heap.size, 0, none⟩ = some (.slice (some ⟨ab, ao, none⟩) S.length c) ∧ w'.cell? ⟨ab, ao + s * 3, none⟩ = some (.int .i64 f0) ∧ w'.cell? ⟨ab, ao + s * 3 + 1, none⟩ = some (.int .i64 f1) ∧ w'.cell? ⟨ab, ao + s * 3 + 2, none⟩ = some (.int .i64 f2)) 12 [(0, true), (1, true), (2, true), (3, true), (4, true), (5, true), (6, false), (7, true), (8, true), (9, true), (10, true), (11, true)] (by kernel_rfl) (by kernel_rfl) (fun _ _ d _ _ h => by cases d <;> exact h) U0.out ?_
  iterate 6 (refine ord_take (v := ?_) rfl (by first | with_reducible rfl | kernel_rfl) ?_ ?_; rotate_left; (focus (intro wS hS; (try dsimp only at hS); go_split_ands; go_simp; (try with_reducible rfl); done)); (try simp only [Act.put, List.getElem_toArray, List.getElem_cons_succ, List.getElem_cons_zero, List.setIfInBounds_toArray, List.set_cons_zero, List.set_cons_succ]))
  refine ord_do rfl rfl (fun K hK => ?_)
  go_simp
  have HF3 := Lib.hid (HE.out.2.2.2.2.below ((Below.refl W3.heap.size W3).drew))
  refine (find_at W3.drew A1 c1 B1 P1.length d1 S1 ⟨f0, f1, f2⟩ HF3.out.rs HF3.out.hc hS18 at1 HS.out.2.2.1).mono ?_
  rintro e w4 ⟨rfl, b4⟩
  have b34 : Below W3.heap.size W3 w4 := (Below.refl W3.heap.size W3).drew.trans b4
  refine hK _ _ (fun _ => UP.out _ b34) ?_
  clear hK K
  (try simp only [Act.put, List.getElem_toArray, List.getElem_cons_succ, List.getElem_cons_zero, List.setIfInBounds_toArray, List.set_cons_zero, List.set_cons_succ])
  iterate 5 (refine ord_take (v := ?_) rfl (by first | with_reducible rfl | kernel_rfl) ?_ ?_; rotate_left; (focus (intro wS hS; (try dsimp only at hS); go_split_ands; go_simp; (try with_reducible rfl); done)); (try simp only [Act.put, List.getElem_toArray, List.getElem_cons_succ, List.getElem_cons_zero, List.setIfInBounds_toArray, List.set_cons_zero, List.set_cons_succ]))
  refine ord_done ?_
  have HG := Lib.hid (And.intro b34 (And.intro (UP.out _ b34) (HE.out.2.2.2.2.below b34)))
  clear b34 b4 U0
  go_wp2
  refine wp_region_ord (fun w' => w'.cell? ⟨w3.heap.size, 0, none⟩ = some (.slice A1 S1.length c1) ∧ w'.cell? ⟨w3.heap.size, 1, none⟩ = some (.slice B1 P1.length d1)) 7 [(0, true), (1, true), (3, true), (2, false), (4, false), (5, true), (6, true)] (by kernel_rfl) (by kernel_rfl) (fun _ _ d _ _ h => by cases d <;> exact h) ⟨HG.out.2.1.1, HG.out.2.1.2.1⟩ ?_
  iterate 3 (refine ord_take (v := ?_) rfl (by first | with_reducible rfl | kernel_rfl) ?_ ?_; rotate_left; (focus (intro wS hS; (try dsimp only at hS); go_split_ands; go_simp; (try with_reducible rfl); done)); (try simp only [Act.put, List.getElem_toArray, List.getElem_cons_succ, List.getElem_cons_zero, List.setIfInBounds_toArray, List.set_cons_zero, List.set_cons_succ]))
  refine ord_do rfl rfl (fun K hK => ?_)
  go_simp
  refine (from_any w4.drew A1 c1 B1 d1 S1 P1 at1 (HG.out.2.2.below ((Below.refl w4.heap.size w4).drew)) ho1.pks hlt1).mono ?_
  rintro e w5 ⟨I, ⟨gI, rfl, hgI, hzI, b5⟩, hI⟩
  have b45 : Below w4.heap.size w4 w5 := (Below.refl w4.heap.size w4).drew.trans b5
  have b35 := HG.out.1.trans (b45.mono HG.out.1.size)
  refine hK _ _ (fun _ => ⟨(UP.out _ b35).1, (UP.out _ b35).2.1⟩) ?_
  clear hK K
  (try simp only [Act.put, List.getElem_toArray, List.getElem_cons_succ, List.getElem_cons_zero, List.setIfInBounds_toArray, List.set_cons_zero, List.set_cons_succ])
  have HI := Lib.hid (And.intro hgI (And.intro hI b35))
  clear hgI hI b45 b35 b5 hzI
  refine ord_do rfl rfl (fun K hK => ?_)
  go_simp
  refine (rings_any w5 A1 c1 B1 d1 S1 P1 (HE.out.2.2.2.2.below HI.out.2.2) ho1.pks).mono ?_
  rintro e w6 ⟨R, hR, gR, rfl, hgR, hzR, b6⟩
  have b36 := HI.out.2.2.trans (b6.mono HI.out.2.2.size)
  refine hK _ _ (fun _ => ⟨(UP.out _ b36).1, (UP.out _ b36).2.1⟩) ?_
  clear hK K
  (try simp only [Act.put, List.getElem_toArray, List.getElem_cons_succ, List.getElem_cons_zero, List.setIfInBounds_toArray, List.set_cons_zero, List.set_cons_succ])
  iterate 2 (refine ord_take (v := ?_) rfl (by first | with_reducible rfl | kernel_rfl) ?_ ?_; rotate_left; (focus (intro wS hS; (try dsimp only at hS); go_split_ands; go_simp; (try with_reducible rfl); done)); (try simp only [Act.put, List.getElem_toArray, List.getElem_cons_succ, List.getElem_cons_zero, List.setIfInBounds_toArray, List.set_cons_zero, List.set_cons_succ]))
  refine ord_done ?_
  have u36 := Upd.of_below b36 (fun _ => False)
  have HL := Lib.hid (And.intro (HI.out.1.upd (Upd.of_below b6 (fun _ => False)) id) (And.intro hgR (And.intro HI.out.2.1 (And.intro hR (And.intro (HE.out.1.trans (b36.mono HE.out.1.size)) (And.intro (HE.out.2.2.1.upd u36 id) (And.intro (HE.out.2.2.2.1.upd u36 id) (HE.out.2.2.2.2.below b36))))))))
  clear hgR hzR b6 b36 u36 HG
  rw [HI.out.2.1.len, hR.len]
  clear hR HI
  have q0 : w6.cell? ⟨w3.heap.size, 0, none⟩ = some (.slice A1 S1.length c1) := HL.out.2.2.2.2.2.2.1.cell 0
  go_wp2_with fail
  clear q0
  go_loop [60] (fun iv => ∃ k : Nat, k ≤ S1.length ∧ iv = .int .i64 k ∧ Hid (∀ i : Nat, i < k → ¬ (atB I (i : Int) = true ∧ atB R (i : Int) = true))) (fun iv => S1.length - (intOf iv).toNat)
  case atStart => exact ⟨0, Nat.zero_le _, rfl, Lib.hid (fun i hi => by omega)⟩
  case round =>
    obtain ⟨k, hk, rfl, hno⟩ := hrel
    by_cases hlt : k < S1.length
    · have hltI : (k : Int) < (S1.length : Int) := by omega
      have g1 := HL.out.1.cell k
      rw [bools_get (atB_get (by rw [HL.out.2.2.1.len]; exact hlt))] at g1
      have g2 := HL.out.2.1.cell k
      rw [bools_get (atB_get (by rw [HL.out.2.2.2.1.len]; exact hlt))] at g2
      obtain ⟨x, hx⟩ : ∃ x, atB I (k : Int) = x := ⟨_, rfl⟩
      obtain ⟨y, hy⟩ : ∃ y, atB R (k : Int) = y := ⟨_, rfl⟩
      rw [hx] at g1
      rw [hy] at g2
      have HXY := Lib.hid (And.intro hx hy)
      clear hx hy
      have q5 : w6.cell? ⟨w.heap.size + 1, 0, none⟩ = some (.int .i64 1) := HL.out.2.2.2.2.2.1.cell 0
      have hkw : IntKind.i64.wrap ((k : Int) + 1) = (k : Int) + 1 := IntWalk.i64_in _ (by omega)
      by_cases hxy : x = true ∧ y = true
      · obtain ⟨rfl, rfl⟩ := hxy
        go_wp2
        exact bodyPost_ret (v := .tuple #[.int .i64 1, .bool true, .int .i64 0]) (by simp [results, Try.f50, go_sem]) rfl ⟨true, rfl, HL.out.2.2.2.2.1⟩
      cases x <;> cases y
      case true.true => exact absurd ⟨rfl, rfl⟩ hxy
      all_goals clear hxy
      all_goals go_wp2
      all_goals
        go_round
        case rel => exact ⟨k + 1, by omega, by go_num, Lib.hid (fun i hi => (by
          rcases Nat.lt_succ_iff_lt_or_eq.1 hi with h | rfl
          · exact hno.out i h
          · rw [HXY.out.1, HXY.out.2]; simp))⟩
        case measure => simp [intOf]; omega
    · obtain rfl : k = S1.length := by omega
      have hcalm : Calm P1 (at1 : Int) := Calm.of ho1.pks hlt1 HL.out.2.2.1 HL.out.2.2.2.1 (fun i hi => hno.out i hi)
      obtain ⟨L, hL⟩ := ex_reach P1 (partX P1 (at1 : Int)) S1.length
      have HM := Lib.hid (And.intro hcalm hL)
      clear hcalm hL
      have hmm := @run_makeMap Try.prog
      go_upto_region 21 with (fail)
      obtain ⟨W7, hW7⟩ : ∃ W, ((w6.alloc (.map #[] 0)).alloc (.cells #[.map (some w6.heap.size)] 138)).alloc (.cells #[.func (.func 78) #[] #[.pointer (some ⟨w6.heap.size + 1, 0, none⟩), .pointer (some ⟨w3.heap.size, 0, none⟩), .pointer (some ⟨w6.heap.size + 1 + 1, 0, none⟩), .pointer (some ⟨w.heap.size + 1, 0, none⟩)]] 141) = W := ⟨_, rfl⟩
      have hcn := cnts_made (by omega) (by obtain ⟨p, hp, -⟩ := ho1.all at1 hlt1; exact List.length_pos_of_mem hp) HL.out.2.2.2.2.2.2.1 HL.out.2.2.2.2.2.1 HL.out.2.2.2.2.2.2.2 hW7
      rw [hW7]
      have HCN := Lib.hid hcn
      have q7 := hcn.1.kg.cell 0
      simp only [List.getElem?_toArray, List.getElem?_cons_zero] at q7
      clear hcn hW7 hmm
      go_wp2_with fail
      refine (count1_any _ _ _ _ _ A1 c1 B1 d1 S1 P1 ho1 _ at1 L (Nat.lt_succ_self _) hlt1 HM.out.2 HM.out.1 W7 HCN.out.1).mono ?_
      rintro e w8 ⟨v, h12, rfl, hS8', u8⟩
      have q8 : w8.cell? ⟨w.heap.size + 1, 0, none⟩ = some (.int .i64 1) := hS8'.kb.cell 0
      have hw := HL.out.2.2.2.2.1
      have bw8 : Below w.heap.size w w8 := ((hw.trans (HCN.out.2.mono hw.size)).trans (u8.below (fun q _ e => by subst e; exact hw.size) (Nat.le_trans hw.size HCN.out.2.size)))
      have HB8 := Lib.hid bw8
      clear q7 hw bw8 u8 hS8'
      rcases h12 with rfl | rfl
      all_goals
        go_wp2
        refine wp_region_ord (fun w' => w'.cell? ⟨w.heap.size + 1, 0, none⟩ = some (.int .i64 1)) 9 [(0, true), (1, true), (3, true), (4, true), (5, true), (2, false), (6, true), (7, true), (8, true)] (by kernel_rfl) (by kernel_rfl) (fun _ _ d _ _ h => by cases d <;> exact h) q8 ?_
        iterate 5 (refine ord_take (v := ?_) rfl (by first | with_reducible rfl | kernel_rfl) ?_ ?_; rotate_left; (focus (intro wS hS; (try dsimp only at hS); go_split_ands; go_simp; (try with_reducible rfl); done)); (try simp only [Act.put, List.getElem_toArray, List.getElem_cons_succ, List.getElem_cons_zero, List.setIfInBounds_toArray, List.set_cons_zero, List.set_cons_succ]))
        refine ord_do rfl rfl (fun K hK => ?_)
        go_simp
        refine hK _ _ (fun _ => q8) ?_
        clear hK K
        (try simp only [Act.put, List.getElem_toArray, List.getElem_cons_succ, List.getElem_cons_zero, List.setIfInBounds_toArray, List.set_cons_zero, List.set_cons_succ])
        iterate 3 (refine ord_take (v := ?_) rfl (by first | with_reducible rfl | kernel_rfl) ?_ ?_; rotate_left; (focus (intro wS hS; (try dsimp only at hS); go_split_ands; go_simp; (try with_reducible rfl); done)); (try simp only [Act.put, List.getElem_toArray, List.getElem_cons_succ, List.getElem_cons_zero, List.setIfInBounds_toArray, List.set_cons_zero, List.set_cons_succ]))
        refine ord_done ?_
        go_wp2
      · exact bodyPost_ret (v := .tuple #[.int .i64 1, .bool false, .int .i64 0]) (by simp [results, Try.f50, go_sem]) rfl ⟨false, rfl, HB8.out.drew⟩
      · exact bodyPost_ret (v := .tuple #[.int .i64 1, .bool true, .int .i64 0]) (by simp [results, Try.f50, go_sem]) rfl ⟨true, rfl, HB8.out.drew⟩
end Go.Proofs.Ytbppbgdmoihooaa
