/- The law EdgesOrder of layer 16: its walk (a draft). -/
import Derived.Test.YthmkgnifcbnkpaaGreatEoA
import Derived.Test.YthmkgnifcbnkpaaGreatBkG
import Derived.Test.YthmkgnifcbnkpaaGreatRwB
import Derived.Test.YthmkgnifcbnkpaaGreatRwA
import Derived.Deep.CutRange
namespace Go.Proofs.YthmkgnifcbnkpaaGreat
open Go.RowKit

def JoinG (w : World) (N : List Txt) (E : List Ed) (N' : List Txt) (E' : List Ed) (e : Ending) (w' : World) : Prop :=
  ∃ A c B d, e = .returned (.tuple #[twoV A (joinN N E N' E').length c B (joinE N E N' E').length d, .int .i64 (joinI N E N' E')]) ∧ ForG w' A c B d (joinN N E N' E') (joinE N E N' E') ∧ Below w.heap.size w w'
theorem join_fit (N : List Txt) (E : List Ed) (N' : List Txt) (E' : List Ed) : FitG (joinN N E N' E') (joinE N E N' E') := by
  unfold joinN joinE
  by_cases h : joinI N E N' E' = 0
  · rw [if_pos h, if_pos h]
    have h0 : ofI (N ++ N') (E ++ E') = 0 := by
      unfold joinI at h
      split at h
      · rename_i h1; exact (h1 h).elim
      split at h
      · rename_i h1; exact (h1 h).elim
      · exact h
    have hc := caps_le (ofI_caps h0)
    exact fit_made (M := gN (N ++ N') (E ++ E')) (F := gE (E ++ E')) (Short.of (ofI_named h0)) rfl rfl (by omega) (by omega)
  · rw [if_neg h, if_neg h]
    exact ⟨by simp, by simp, by simp, by simp⟩
theorem join_for (w : World) (A : Option Addr) (c : Nat) (B : Option Addr) (d : Nat) (N : List Txt) (E : List Ed) (A' : Option Addr) (c' : Nat) (B' : Option Addr) (d' : Nat) (N' : List Txt) (E' : List Ed) (h : ForG w A c B d N E) (h' : ForG w A' c' B' d' N' E') :
    Calls Tryz.prog 20 #[twoV A N.length c B E.length d, twoV A' N'.length c' B' E'.length d'] w (JoinG w N E N' E') := by
  refine (join_any w A c B d N E A' c' B' d' N' E' h h').mono ?_
  rintro e w' ⟨A1, c1, B1, d1, rfl, o1, o2, hb⟩
  exact ⟨A1, c1, B1, d1, rfl, ⟨RowR.of_own o1, RowR.of_own o2, own_le o1, own_le o2, join_fit N E N' E'⟩, hb⟩

/-- The nodes, turned by q. -/
def rot (N : List Txt) (q k : Nat) : List Txt := (List.range k).map fun i => (N[(i + q) % N.length]?).getD ⟨#[]⟩
theorem rot_len (N : List Txt) (q k : Nat) : (rot N q k).length = k := by simp [rot]
theorem rot_step {N : List Txt} {q k : Nat} {x : Txt} (h : N[(k + q) % N.length]? = some x) : rot N q (k + 1) = rot N q k ++ [x] := by
  rw [rot, List.range_succ, List.map_append, rot, List.map_singleton, h]
  rfl
theorem rot_mem {N : List Txt} {q : Nat} (hq : 0 < N.length → q < N.length) (s : Txt) : s ∈ rot N q N.length ↔ s ∈ N := by
  unfold rot
  rw [List.mem_map]
  constructor
  · rintro ⟨i, hi, rfl⟩
    have hi := List.mem_range.1 hi
    have h1 : (i + q) % N.length < N.length := Nat.mod_lt _ (by omega)
    rw [List.getElem?_eq_getElem h1]
    exact List.getElem_mem h1
  · intro hs
    obtain ⟨j, hj, e⟩ := List.getElem_of_mem hs
    have hq := hq (by omega)
    by_cases hjq : q ≤ j
    · refine ⟨j - q, List.mem_range.2 (by omega), ?_⟩
      rw [Nat.sub_add_cancel hjq, Nat.mod_eq_of_lt hj, List.getElem?_eq_getElem hj, e]
      rfl
    · refine ⟨j + N.length - q, List.mem_range.2 (by omega), ?_⟩
      rw [Nat.sub_add_cancel (by omega), Nat.add_mod_right, Nat.mod_eq_of_lt hj, List.getElem?_eq_getElem hj, e]
      rfl
theorem rot_text_le {N : List Txt} (h : ∀ s ∈ N, s.size ≤ 16) {q k : Nat} : ((rot N q k).flatMap tellN).length ≤ k * 17 := by
  have h1 := flat_le (f := tellN) (c := 17) (l := rot N q k) (fun x hx => by
    obtain ⟨i, _, rfl⟩ := List.mem_map.1 hx
    rw [tellN, List.length_append, size_list, List.length_singleton]
    cases e : N[(i + q) % N.length]? with
    | none => show (0 : Nat) + 1 ≤ 17; omega
    | some y => have := h y (List.mem_of_getElem? e); simp; omega)
  rwa [rot_len] at h1
theorem of_same (w : World) (A : Option Addr) (c : Nat) (B : Option Addr) (d : Nat) (M : List Txt) (F : List Ed) (h : ForG w A c B d M F) (hb : (M.length + F.length * 2) * 16 ≤ 140737488355328) {N : List Txt} {E : List Ed} (hc : checkI N E = 0) (hN : ∀ s, s ∈ M ↔ s ∈ N) (hE : ∀ x, x ∈ F ↔ x ∈ E) :
    Calls Tryz.prog 14 #[.slice A M.length c, .slice B F.length d] w (fun e w' => ∃ A' c' B' d', e = .returned (.tuple #[twoV A' N.length c' B' E.length d', .int .i64 0]) ∧ w'.ownsRow w.heap.size 9 1 (.slice A' N.length c') N.length (txtCells N) ∧ w'.ownsRow w.heap.size 39 3 (.slice B' E.length d') E.length (edCells E) ∧ Below w.heap.size w w') := by
  refine (of_any w A c B d M F h hb).mono ?_
  intro e w' hq
  obtain ⟨a, b, c'⟩ := same_of hc hN hE
  unfold OfQ ofN ofE at hq
  rw [if_pos a, if_pos a, a, b, c'] at hq
  exact hq
theorem tellE_len_le {F : List Ed} (h : ∀ x ∈ F, x.fr.size ≤ 16 ∧ x.lb.size ≤ 16 ∧ x.to.size ≤ 16) : (F.flatMap tellE).length ≤ F.length * 51 := flat_le (f := tellE) (c := 51) (fun x hx => by
  have := h x hx
  simp [tellE]
  omega)
-- the walk
set_option maxHeartbeats 16000000 in
set_option maxRecDepth 100000 in
theorem eorder_any (w : World) (A : Option Addr) (c : Nat) (B : Option Addr) (d : Nat) (N : List Txt) (E : List Ed) (A' : Option Addr) (c' : Nat) (B' : Option Addr) (d' : Nat) (N' : List Txt) (E' : List Ed) (turn : Int) (h : ForG w A c B d N E) (h' : ForG w A' c' B' d' N' E') :
    Calls Tryz.prog 5 #[twoV A N.length c B E.length d, twoV A' N'.length c' B' E'.length d', .int .i64 turn] w (Sam w (.bool true)) := by
  obtain ⟨zA, hzA⟩ : ∃ z, checkI N E = z := ⟨_, rfl⟩
  have hcA := fun {V : World} (h : ForG V A c B d N E) => echeck_any V A c B d N E h
  rw [hzA] at hcA
  obtain ⟨n, hn⟩ : ∃ n, N.length = n := ⟨_, rfl⟩
  obtain ⟨m, hm⟩ : ∃ m, E.length = m := ⟨_, rfl⟩
  obtain ⟨n', hn'⟩ : ∃ n, N'.length = n := ⟨_, rfl⟩
  obtain ⟨m', hm'⟩ : ∃ m, E'.length = m := ⟨_, rfl⟩
  rw [hn, hm] at hcA
  rw [hn, hm, hn', hm']
  have k0 := (Blk.new w 25 #[.slice A n c, .slice B m d]).alloc (.cells #[.slice A' n' c', .slice B' m' d'] 25)
  have k1 := Blk.new (w.alloc (.cells #[.slice A n c, .slice B m d] 25)) 25 #[.slice A' n' c', .slice B' m' d']
  simp only [World.size_alloc] at k1
  have u0 : Below w.heap.size w ((w.alloc (.cells #[.slice A n c, .slice B m d] 25)).alloc (.cells #[.slice A' n' c', .slice B' m' d'] 25)) := by (repeat (first | exact Below.refl _ _ | apply Below.drew | refine Below.alloc ?_ (by first | exact Nat.le_refl _ | (simp; done) | (simp; omega)) _ | refine Below.setCell ?_ (by first | exact Nat.le_refl _ | (simp; done) | (simp; omega)) _))
  have H := Lib.hid (And.intro (h.below u0) (And.intro (h'.below u0) (And.intro k0 (And.intro k1 u0))))
  have HZ := Lib.hid (And.intro hzA (And.intro hn (And.intro hm (And.intro hn' hm'))))
  clear h h' k0 k1 u0 hzA hn hm hn' hm'
  unfold twoV at hcA ⊢
  go_enter Tryz.func5, Tryz.ntmps5
  go_upto_region 1 with (fail)
  generalize (w.alloc (.cells #[.slice A n c, .slice B m d] 25)).alloc (.cells #[.slice A' n' c', .slice B' m' d'] 25) = W0 at H ⊢
  have up : ∀ W, Below W0.heap.size W0 W → Blk W w.heap.size 25 #[.slice A n c, .slice B m d] ∧ Blk W (w.heap.size + 1) 25 #[.slice A' n' c', .slice B' m' d'] ∧ ForG W A c B d N E ∧ ForG W A' c' B' d' N' E' ∧ Below w.heap.size w W := fun W hb => by
    have u := Upd.of_below hb (fun _ => False)
    exact ⟨H.out.2.2.1.upd u id, H.out.2.2.2.1.upd u id, H.out.1.below hb, H.out.2.1.below hb, H.out.2.2.2.2.trans (hb.mono H.out.2.2.2.2.size)⟩
  have UP := Lib.hid up
  have hsz : w.heap.size + 1 < W0.heap.size := H.out.2.2.2.1.lt
  clear up
  have q0 : W0.cell? ⟨w.heap.size, 0, none⟩ = some (.slice A n c) := H.out.2.2.1.cell 0
  have q1 : W0.cell? ⟨w.heap.size, 1, none⟩ = some (.slice B m d) := H.out.2.2.1.cell 1
  go_wp2_with fail
  refine (hcA H.out.1).mono ?_
  rintro e W1 ⟨rfl, b1⟩
  have HB1 := Lib.hid b1
  have hs1 : W0.heap.size ≤ W1.heap.size := b1.size
  clear q0 q1 b1
  by_cases hz : zA = 0
  rotate_left
  · have hzI : (zA == 0) = false := by simpa using hz
    go_wp2_with fail
    refine (awake_any W1).mono ?_
    rintro e W9 ⟨rfl, b9⟩
    have bw := (UP.out _ HB1.out).2.2.2.2
    have FIN := Lib.hid (bw.trans (b9.mono bw.size))
    clear b9 bw
    go_wp2
    go_ret
    exact ⟨rfl, FIN.out⟩
  subst hz
  clear hcA
  have hc0 := HZ.out.1
  have hn32 : n ≤ 32 := by have := (caps_le (check_caps hc0).2.2).1; rw [HZ.out.2.1] at this; exact this
  have hm256 : m ≤ 256 := by have := (caps_le (check_caps hc0).2.2).2.2.1; rw [HZ.out.2.2.1] at this; exact this
  have HSH := Lib.hid (Short.of (check_caps hc0).2.1)
  have HC0 := Lib.hid hc0
  clear hc0
  have q0 : W1.cell? ⟨w.heap.size, 0, none⟩ = some (.slice A n c) := (UP.out _ HB1.out).1.cell 0
  have q1 : W1.cell? ⟨w.heap.size, 1, none⟩ = some (.slice B m d) := (UP.out _ HB1.out).1.cell 1
  go_upto_if 30 with (fail)
  go_cut [2] from 23 (fun s2 wc => ∃ z : Int, s2 = .int .i64 z ∧ Hid (∃ q : Nat, 0 < n → (q < n ∧ z = (q : Int))) ∧ wc = W1)
  case first =>
    go_wp2
    · go_meet
      case rel =>
        rename_i h0
        obtain ⟨q, hq, e⟩ := turn_is turn (n := n) (by simpa using h0)
        exact ⟨_, rfl, Lib.hid ⟨q, fun _ => ⟨hq, e⟩⟩, rfl⟩
    · go_meet
      case rel =>
        rename_i h0
        exact ⟨turn, rfl, Lib.hid ⟨0, fun h => (h0 (by simpa using h)).elim⟩, rfl⟩
  case rest =>
    obtain ⟨z, rfl, hq, hwc⟩ := hcut
    subst wc
    obtain ⟨q, hq⟩ := hq.out
    have HQ := Lib.hid hq
    clear hq q0 q1
    go_wp2_with fail
    go_loopw [7, 9, 10] (fun v s i wr => ∃ (k : Nat) (T : Txt), k ≤ n ∧ i = .int .i64 k ∧ s = .string T ∧ Hid (T.data.toList = (rot N q k).flatMap tellN) ∧ Hid (Below W1.heap.size W1 wr) ∧ Hid (wr.ownsRow W1.heap.size 9 1 v k (txtCells (rot N q k)))) (fun _ _ i _ => n - (intOf i).toNat)
    case atStart => exact ⟨0, ⟨#[]⟩, Nat.zero_le _, rfl, rfl, Lib.hid (by simp [rot]), Lib.hid (Below.refl _ _), Lib.hid (by simpa [rot, txtCells] using World.ownsRow_nil W1 W1.heap.size 9 1)⟩
    case round =>
      obtain ⟨k, T, hk, rfl, rfl, hT, hbw, how⟩ := hrel
      have HBW := Lib.hid (HB1.out.trans (hbw.out.mono hs1))
      by_cases hlt : k < n
      · have hltI : (k : Int) < (n : Int) := by omega
        obtain ⟨hqn, rfl⟩ := HQ.out (by omega)
        have hkw : IntKind.i64.wrap ((k : Int) + 1) = (k : Int) + 1 := IntWalk.i64_in _ (by omega)
        have hkq : IntKind.i64.wrap ((k : Int) + (q : Int)) = (k : Int) + (q : Int) := IntWalk.i64_in _ (by omega)
        obtain ⟨j, hj⟩ : ∃ j, (k + q) % n = j := ⟨_, rfl⟩
        have hjn : j < n := by rw [← hj]; exact Nat.mod_lt _ (by omega)
        have hjI : (j : Int) < (n : Int) := by omega
        have hn0 : ¬ (n = 0) := by omega
        have hrem : ((k : Int) + (q : Int)).tmod (n : Int) = (j : Int) := by
          rw [Int.tmod_eq_emod_of_nonneg (by omega), ← hj, Int.natCast_emod, Int.natCast_add]
        obtain ⟨x, hx⟩ : ∃ x, N[j]? = some x := ⟨N[j]'(by rw [HZ.out.2.1]; exact hjn), List.getElem?_eq_getElem _⟩
        have hst : rot N q (k + 1) = rot N q k ++ [x] := rot_step (by rw [HZ.out.2.1, hj]; exact hx)
        obtain ⟨ab, ao, rfl, x0⟩ := (UP.out _ HBW.out).2.2.1.rn.txt hx
        have hx16 : x.size ≤ 16 := HSH.out.n x (List.mem_of_getElem? hx)
        have hT17 : T.size ≤ 32 * 17 := by
          have h1 := rot_text_le HSH.out.n (q := q) (k := k)
          rw [← hT.out, size_list] at h1
          omega
        have a1 := add_okk T x (by omega)
        obtain ⟨T1, hT1⟩ : ∃ t, T ++ x = t := ⟨_, rfl⟩
        rw [hT1] at a1
        have hT1s : T1.size ≤ 32 * 17 + 16 := by rw [← hT1, size_app]; omega
        have a2 := add_okk T1 ⟨#[59]⟩ (by show T1.size + 1 ≤ 100000; omega)
        obtain ⟨T2, hT2⟩ : ∃ t, T1 ++ ⟨#[59]⟩ = t := ⟨_, rfl⟩
        rw [hT2] at a2
        have HT2 := Lib.hid (show T2.data.toList = (rot N q (k + 1)).flatMap tellN by
          rw [hst, ← hT2, ← hT1, data_app, data_app, hT.out, List.flatMap_append, List.append_assoc]
          congr 1
          simp [tellN])
        clear hT1s hT17 hx16 hT1 hT2
        obtain ⟨v2, w2, happ, own2, b2⟩ := push_txt wr.drew W1.heap.size _ (rot N q k) (by rw [rot_len]; exact how.out) x (by rw [rot_len]; omega) hbw.out.size
        rw [← hst, rot_len] at own2
        obtain ⟨A2, c2, rfl, hle2, row2⟩ := own_le2 own2
        obtain ⟨ab2, ao2, rfl, y0⟩ := row2.txt (k := k) (s := x) (by rw [hst, List.getElem?_append_right (by rw [rot_len]; exact Nat.le_refl _), rot_len, Nat.sub_self]; rfl)
        obtain ⟨A1, c1, rfl, hle1, -⟩ := own_le2 how.out
        have bw2 := hbw.out.drew.trans (b2.1.below (fun k _ e => b2.2 k e) hbw.out.size)
        have us : ∀ V, Below wr.heap.size wr V → V.cell? ⟨w.heap.size, 0, none⟩ = some (.slice (some ⟨ab, ao, none⟩) n c) ∧ V.cell? ⟨ab, ao + j, none⟩ = some (.string x) := fun V hb => ⟨(UP.out _ (HBW.out.trans (hb.mono HBW.out.size))).1.cell 0, (hb.cell (World.block_lt_of_cell? _ _ x0)).trans x0⟩
        have s2 : w2.cell? ⟨w.heap.size, 0, none⟩ = some (.slice (some ⟨ab, ao, none⟩) n c) ∧ w2.cell? ⟨ab, ao + j, none⟩ = some (.string x) := by
          have hb := HB1.out.trans (bw2.mono hs1)
          exact ⟨(UP.out _ hb).1.cell 0, (UP.out _ hb).2.2.1.rn.txt_at hx⟩
        have US := Lib.hid (And.intro us s2)
        have HN := Lib.hid (And.intro bw2 own2)
        have q0 : wr.cell? ⟨w.heap.size, 0, none⟩ = some (.slice (some ⟨ab, ao, none⟩) n c) := (UP.out _ HBW.out).1.cell 0
        clear us s2 bw2 own2 b2 row2 x0 hx hT
        go_upto_region 11 with (fail)
        refine wp_region_ord (fun w' => w'.cell? ⟨w.heap.size, 0, none⟩ = some (.slice (some ⟨ab, ao, none⟩) n c) ∧ w'.cell? ⟨ab, ao + j, none⟩ = some (.string x)) 15 [(0, true), (1, true), (2, true), (3, true), (4, true), (5, true), (6, true), (7, true), (8, true), (9, true), (10, true), (11, true), (12, false), (13, false), (14, true)] (by kernel_rfl) (by kernel_rfl) (fun _ _ d _ _ h => by cases d <;> exact h) (US.out.1 _ (Below.refl _ _).drew) ?_
        iterate 12 (refine ord_take (v := ?_) rfl (by first | with_reducible rfl | kernel_rfl) ?_ ?_; rotate_left; (focus (intro wS hS; (try dsimp only at hS); go_split_ands; go_simp; (try with_reducible rfl); done)); (try simp only [Act.put, List.getElem_toArray, List.getElem_cons_succ, List.getElem_cons_zero, List.setIfInBounds_toArray, List.set_cons_zero, List.set_cons_succ]))
        refine ord_do rfl rfl (fun K hK => ?_)
        go_simp
        refine hK _ _ (fun _ => US.out.1 _ (by (repeat (first | exact Below.refl _ _ | apply Below.drew | refine Below.alloc ?_ (by first | exact Nat.le_refl _ | (simp; done) | (simp; omega)) _ | refine Below.setCell ?_ (by first | exact Nat.le_refl _ | (simp; done) | (simp; omega)) _)))) ?_
        clear hK K
        (try simp only [Act.put, List.getElem_toArray, List.getElem_cons_succ, List.getElem_cons_zero, List.setIfInBounds_toArray, List.set_cons_zero, List.set_cons_succ])
        refine ord_do rfl rfl (fun K hK => ?_)
        refine wp_append_run _ _ _ rfl rfl rfl happ ?_
        refine hK _ _ (fun _ => US.out.2) ?_
        clear hK K happ
        (try simp only [Act.put, List.getElem_toArray, List.getElem_cons_succ, List.getElem_cons_zero, List.setIfInBounds_toArray, List.set_cons_zero, List.set_cons_succ])
        (refine ord_take (v := ?_) rfl (by first | with_reducible rfl | kernel_rfl) ?_ ?_; rotate_left; (focus (intro wS hS; (try dsimp only at hS); go_split_ands; go_simp; (try with_reducible rfl); done)); (try simp only [Act.put, List.getElem_toArray, List.getElem_cons_succ, List.getElem_cons_zero, List.setIfInBounds_toArray, List.set_cons_zero, List.set_cons_succ]))
        refine ord_done ?_
        go_wp2
        go_roundw
        case rel => exact ⟨k + 1, T2, by omega, by go_num, rfl, HT2, Lib.hid HN.out.1, Lib.hid HN.out.2⟩
        case measure => simp [intOf]; omega
      · obtain rfl : k = n := by omega
        obtain ⟨A1, c1, rfl, hle1, -⟩ := own_le2 how.out
        obtain ⟨W2, hW2⟩ : ∃ W, W = wr := ⟨_, rfl⟩
        subst hW2
        obtain ⟨S1, hS1⟩ : ∃ S, S = T := ⟨_, rfl⟩
        subst hS1
        have HN := Lib.hid (And.intro how.out (And.intro hbw.out hT.out))
        have hsz2 : W1.heap.size ≤ W2.heap.size := hbw.out.size
        clear hT hbw how
        have q0 : W2.cell? ⟨w.heap.size, 0, none⟩ = some (.slice A k c) := (UP.out _ HBW.out).1.cell 0
        have q1 : W2.cell? ⟨w.heap.size, 1, none⟩ = some (.slice B m d) := (UP.out _ HBW.out).1.cell 1
        have hmw : IntKind.i64.wrap ((m : Int) - 1) = (m : Int) - 1 := IntWalk.i64_in _ (by omega)
        have hqk : (0 < k → q < k) := fun h => (HQ.out h).1
        have HRM := Lib.hid (show ∀ s, s ∈ rot N q k ↔ s ∈ N from fun s => by
          have := rot_mem (N := N) (q := q) (by rw [HZ.out.2.1]; exact hqk) s
          rwa [HZ.out.2.1] at this)
        have hTS : S1.size ≤ 32 * 17 := by
          have h1 := rot_text_le HSH.out.n (q := q) (k := k)
          rw [← HN.out.2.2, size_list] at h1
          omega
        clear hqk HQ
        go_wp2_with fail
        clear q0 q1
        go_loopw [8, 9, 11] (fun v s i wr => ∃ (j : Nat) (z : Int) (T : Txt), j ≤ m ∧ z + j + 1 = m ∧ i = .int .i64 z ∧ s = .string T ∧ Hid (T.data.toList = (rot N q k).flatMap tellN ++ (E.reverse.take j).flatMap tellE) ∧ Hid (Below W2.heap.size W2 wr) ∧ Hid (wr.ownsRow W2.heap.size 39 3 v j (edCells (E.reverse.take j)))) (fun _ _ i _ => (intOf i + 1).toNat)
        case atStart => exact ⟨0, (m : Int) - 1, S1, Nat.zero_le _, by omega, rfl, rfl, Lib.hid (by simpa using HN.out.2.2), Lib.hid (Below.refl _ _), Lib.hid (by simpa [edCells] using World.ownsRow_nil W2 W2.heap.size 39 3)⟩
        case round =>
          obtain ⟨j, z, T, hj, hz, rfl, rfl, hT, hbw, how⟩ := hrel
          have HBW := Lib.hid (HB1.out.trans ((HN.out.2.1.trans (hbw.out.mono hsz2)).mono hs1))
          have q1 : wr.cell? ⟨w.heap.size, 1, none⟩ = some (.slice B m d) := (UP.out _ HBW.out).1.cell 1
          by_cases hlt : j < m
          · obtain ⟨i, rfl⟩ : ∃ i : Nat, z = (i : Int) := ⟨z.toNat, by omega⟩
            have hge : (0 : Int) ≤ (i : Int) := by omega
            have him : i < m := by omega
            have himI : (i : Int) < (m : Int) := by omega
            have hkw : IntKind.i64.wrap ((i : Int) - 1) = (i : Int) - 1 := IntWalk.i64_in _ (by omega)
            obtain ⟨⟨s0, s1, s2⟩, hx⟩ : ∃ x, E[i]? = some x := ⟨E[i]'(by rw [HZ.out.2.2.1]; exact him), List.getElem?_eq_getElem _⟩
            have hrx : E.reverse[j]? = some ⟨s0, s1, s2⟩ := by
              rw [List.getElem?_reverse (by rw [HZ.out.2.2.1]; exact hlt), HZ.out.2.2.1, show m - 1 - j = i by omega, hx]
            obtain ⟨bb, bo, rfl, x0, x1, x2⟩ := (UP.out _ HBW.out).2.2.1.re.ed hx
            dsimp only at x0 x1 x2
            have hx16 := HSH.out.e _ (List.mem_of_getElem? hx)
            dsimp only at hx16
            have hT17 : T.size ≤ 32 * 17 + 256 * 51 := by
              have h1 := rot_text_le HSH.out.n (q := q) (k := k)
              have h2 := tellE_len_le (F := E.reverse.take j) (fun x hx => HSH.out.e x (List.mem_reverse.1 (List.mem_of_mem_take hx)))
              have h3 : (E.reverse.take j).length ≤ j := by rw [List.length_take]; omega
              have h4 := congrArg List.length hT.out
              rw [size_list, List.length_append] at h4
              have h5 : (E.reverse.take j).length * 51 ≤ 256 * 51 := Nat.mul_le_mul_right _ (by omega)
              omega
            have a1 := add_okk T s0 (by omega)
            obtain ⟨T1, hT1⟩ : ∃ t, T ++ s0 = t := ⟨_, rfl⟩
            rw [hT1] at a1
            have hs1' : T1.size ≤ 32 * 17 + 256 * 51 + 16 := by rw [← hT1, size_app]; omega
            have a2 := add_okk T1 ⟨#[32]⟩ (by show T1.size + 1 ≤ 100000; omega)
            obtain ⟨T2, hT2⟩ : ∃ t, T1 ++ ⟨#[32]⟩ = t := ⟨_, rfl⟩
            rw [hT2] at a2
            have hs2' : T2.size ≤ 32 * 17 + 256 * 51 + 17 := by rw [← hT2, size_app]; show T1.size + 1 ≤ _; omega
            have a3 := add_okk T2 s1 (by omega)
            obtain ⟨T3, hT3⟩ : ∃ t, T2 ++ s1 = t := ⟨_, rfl⟩
            rw [hT3] at a3
            have hs3' : T3.size ≤ 32 * 17 + 256 * 51 + 33 := by rw [← hT3, size_app]; omega
            have a4 := add_okk T3 ⟨#[9]⟩ (by show T3.size + 1 ≤ 100000; omega)
            obtain ⟨T4, hT4⟩ : ∃ t, T3 ++ ⟨#[9]⟩ = t := ⟨_, rfl⟩
            rw [hT4] at a4
            have hs4' : T4.size ≤ 32 * 17 + 256 * 51 + 34 := by rw [← hT4, size_app]; show T3.size + 1 ≤ _; omega
            have a5 := add_okk T4 s2 (by omega)
            obtain ⟨T5, hT5⟩ : ∃ t, T4 ++ s2 = t := ⟨_, rfl⟩
            rw [hT5] at a5
            have hs5' : T5.size ≤ 32 * 17 + 256 * 51 + 50 := by rw [← hT5, size_app]; omega
            have a6 := add_okk T5 ⟨#[59]⟩ (by show T5.size + 1 ≤ 100000; omega)
            obtain ⟨T6, hT6⟩ : ∃ t, T5 ++ ⟨#[59]⟩ = t := ⟨_, rfl⟩
            rw [hT6] at a6
            have hst : E.reverse.take (j + 1) = E.reverse.take j ++ [⟨s0, s1, s2⟩] := take_snoc' hrx
            have HT6 := Lib.hid (show T6.data.toList = (rot N q k).flatMap tellN ++ (E.reverse.take (j + 1)).flatMap tellE by
              rw [hst, ← hT6, ← hT5, ← hT4, ← hT3, ← hT2, ← hT1, data_app, data_app, data_app, data_app, data_app, data_app, hT.out, List.flatMap_append]
              simp [tellE])
            clear hs1' hs2' hs3' hs4' hs5' hT17 hx16 hT1 hT2 hT3 hT4 hT5 hT6
            -- the edge, in a block of its own
            obtain ⟨A5, c5, rfl, -, -⟩ := own_form how.out
            have hlj : (E.reverse.take j).length = j := by rw [List.length_take, List.length_reverse, HZ.out.2.2.1]; omega
            have kx := Blk.new wr 39 #[.string s0, .string s1, .string s2]
            have bx : Below W2.heap.size W2 (wr.alloc (.cells #[.string s0, .string s1, .string s2] 39)) := hbw.out.alloc hbw.out.size _
            have ox := how.out.alloc (.cells #[.string s0, .string s1, .string s2] 39)
            have hlx : ∀ g, (Value.slice A5 j c5).ownBlock = some g → g < wr.heap.size := fun g hg => (how.out.lt g hg).2
            have HX := Lib.hid (And.intro kx (And.intro bx (And.intro ox hlx)))
            clear kx bx ox hlx hx
            go_upto_region 17 with (fail)
            generalize wr.alloc (.cells #[.string s0, .string s1, .string s2] 39) = W5 at HX ⊢
            clear x0 x1 x2 q1
            have x0 : W5.cell? ⟨wr.heap.size, 0, none⟩ = some (.string s0) := HX.out.1.cell 0
            have x1 : W5.cell? ⟨wr.heap.size, 1, none⟩ = some (.string s1) := HX.out.1.cell 1
            have x2 : W5.cell? ⟨wr.heap.size, 2, none⟩ = some (.string s2) := HX.out.1.cell 2
            obtain ⟨v6, w6, happ, own6, u6, -⟩ := push_ed W5 W2.heap.size _ (E.reverse.take j) (by rw [hlj]; exact HX.out.2.2.1) ⟨s0, s1, s2⟩ (by rw [hlj]; omega) HX.out.2.1.size
            dsimp only at happ
            rw [← hst] at own6
            have hlj1 : (E.reverse.take (j + 1)).length = j + 1 := by rw [hst, List.length_append, hlj, List.length_singleton]
            rw [hlj1] at own6
            have k6 := HX.out.1.upd u6 (fun e => by have := HX.out.2.2.2 _ e; omega)
            have H6 := Lib.hid (And.intro k6 (And.intro own6 (HX.out.2.1.trans (u6.below (fun g _ e => (HX.out.2.2.1.lt g e).1) HX.out.2.1.size))))
            clear k6 own6 u6
            have y0 : w6.cell? ⟨wr.heap.size, 0, none⟩ = some (.string s0) := H6.out.1.cell 0
            have y1 : w6.cell? ⟨wr.heap.size, 1, none⟩ = some (.string s1) := H6.out.1.cell 1
            have y2 : w6.cell? ⟨wr.heap.size, 2, none⟩ = some (.string s2) := H6.out.1.cell 2
            go_wp2_with (at_builtin; refine wpList_append_run rfl _ _ _ rfl rfl rfl happ ?_)
            go_roundw
            case rel => exact ⟨j + 1, (i : Int) - 1, T6, by omega, by omega, rfl, rfl, HT6, Lib.hid H6.out.2.2, Lib.hid H6.out.2.1⟩
            case measure => simp [intOf] <;> omega
          · obtain rfl : j = m := by omega
            obtain rfl : z = -1 := by omega
            obtain ⟨B1, d1, rfl, hle2, -⟩ := own_le2 how.out
            obtain ⟨W3, hW3⟩ : ∃ W, W = wr := ⟨_, rfl⟩
            subst hW3
            obtain ⟨S2, hS2⟩ : ∃ S, S = T := ⟨_, rfl⟩
            subst hS2
            have hfull : E.reverse.take j = E.reverse := List.take_of_length_le (by rw [List.length_reverse, HZ.out.2.2.1]; exact Nat.le_refl _)
            have ho := how.out
            have ht := hT.out
            rw [hfull] at ho ht
            have h23 := hbw.out
            have oN : W3.ownsRow W1.heap.size 9 1 (.slice A1 k c1) k (txtCells (rot N q k)) := ownsRow_upd HN.out.1 (Upd.of_below h23 (fun _ => False)) (fun _ _ h => h)
            have hA1 : ∀ g, (Value.slice A1 k c1).ownBlock = some g → W1.heap.size ≤ g ∧ g < W2.heap.size := fun g hg => HN.out.1.lt g hg
            have hB1 : ∀ g, (Value.slice B1 j d1).ownBlock = some g → W2.heap.size ≤ g ∧ g < W3.heap.size := fun g hg => ho.lt g hg
            have hsz3 : W2.heap.size ≤ W3.heap.size := h23.size
            have HO := Lib.hid (And.intro oN (And.intro ho (And.intro hA1 (And.intro hB1 (And.intro ht (HN.out.2.1.trans (h23.mono hsz2)))))))
            have hTS2 : S2.size ≤ 100000 := by
              have h1 := rot_text_le HSH.out.n (q := q) (k := k)
              have h2 := tellE_len_le (F := E.reverse) (fun x hx => HSH.out.e x (List.mem_reverse.1 hx))
              have h4 := congrArg List.length ht
              rw [size_list, List.length_append] at h4
              have h5 : (E.reverse).length * 51 ≤ 256 * 51 := Nat.mul_le_mul_right _ (by rw [List.length_reverse, HZ.out.2.2.1]; exact hm256)
              omega
            clear oN ho hA1 hB1 ht h23 hT hbw how hfull HN hlt hz hj
            go_upto_region 19 with (fail)
            clear q1
            obtain ⟨M, hM⟩ : ∃ M, rot N q k = M := ⟨_, rfl⟩
            obtain ⟨F, hF⟩ : ∃ F, E.reverse = F := ⟨_, rfl⟩
            have lM : M.length = k := by rw [← hM]; exact rot_len N q k
            have lF : F.length = j := by rw [← hF, List.length_reverse]; exact HZ.out.2.2.1
            have mM : ∀ s, s ∈ M ↔ s ∈ N := by rw [← hM]; exact HRM.out
            have mF : ∀ x, x ∈ F ↔ x ∈ E := by rw [← hF]; exact fun x => List.mem_reverse
            have HO2 := HO.out
            rw [hM, hF] at HO2
            have lN := HZ.out.2.1
            have lE := HZ.out.2.2.1
            have HM := Lib.hid (And.intro lM (And.intro lF (And.intro mM (And.intro mF (And.intro lN lE)))))
            have fitM : FitG M F := fit_fine (S := 600) ⟨fun t ht => by have := HSH.out.n t ((mM t).1 ht); omega, fun x hx => by have := HSH.out.e x ((mF x).1 hx); omega⟩ (by omega) (by omega) (by omega)
            have fitMM : FitG (M ++ N) (F ++ E) := fit_fine (S := 600) ⟨fun t ht => by have := HSH.out.n t ((List.mem_append.1 ht).elim (mM t).1 id); omega, fun x hx => by have := HSH.out.e x ((List.mem_append.1 hx).elim (mF x).1 id); omega⟩ (by omega) (by simp; omega) (by simp; omega)
            have hof := of_same W3 A1 c1 B1 d1 M F ⟨RowR.of_own HO2.1, RowR.of_own HO2.2.1, by rw [lM]; exact hle1, by rw [lF]; exact hle2, fitM⟩ (by omega) HC0.out mM mF
            rw [lM, lF, lN, lE] at hof
            have hof2 : ∀ (W : World) (A c B d), RowR W A (txtCells (M ++ N)) → RowR W B (edCells (F ++ E)) → k + k ≤ c → j + j ≤ d → Calls Tryz.prog 14 #[.slice A (k + k) c, .slice B (j + j) d] W (fun e w' => ∃ A' c' B' d', e = .returned (.tuple #[twoV A' k c' B' j d', .int .i64 0]) ∧ w'.ownsRow W.heap.size 9 1 (.slice A' k c') k (txtCells N) ∧ w'.ownsRow W.heap.size 39 3 (.slice B' j d') j (edCells E) ∧ Below W.heap.size W w') := fun W A c B d hA hB h1 h2 => by
              have h3 : (M ++ N).length = k + k := by rw [List.length_append, lM, lN]
              have h4 : (F ++ E).length = j + j := by rw [List.length_append, lF, lE]
              have := of_same W A c B d (M ++ N) (F ++ E) ⟨hA, hB, by rw [h3]; exact h1, by rw [h4]; exact h2, fitMM⟩ (by omega) HC0.out (fun s => by simp [mM]) (fun x => by simp [mF])
              rwa [h3, h4, lN, lE] at this
            have HOF2 := Lib.hid hof2
            have HO3 := Lib.hid HO2
            have HTXT := Lib.hid (show S2.size ≤ 2048 → parseO S2 = ⟨N, E, 0, 0⟩ from fun h => told_text HC0.out mM mF HO2.2.2.2.2.1 h)
            unfold twoV at hof
            clear hM hF lM lF mM mF lN lE fitM fitMM hof2 HO2 HO hle1 hle2
            go_wp2_with fail
            refine hof.mono ?_
            clear hof
            rintro e W4 ⟨A4, c4, B4, d4, rfl, o1, o2, b4⟩
            have k5 := Blk.new W4 25 #[.slice A4 k c4, .slice B4 j d4]
            have b45 : Below W4.heap.size W4 (W4.alloc (.cells #[.slice A4 k c4, .slice B4 j d4] 25)) := (Below.refl _ _).alloc (Nat.le_refl _) _
            have b35 := b4.trans (b45.mono b4.size)
            have H5 := Lib.hid (And.intro k5 (And.intro (o1.alloc (.cells #[.slice A4 k c4, .slice B4 j d4] 25)) (And.intro (o2.alloc (.cells #[.slice A4 k c4, .slice B4 j d4] 25)) (And.intro b35 b4.size))))
            clear k5 b45 b35 o1 o2 b4
            go_upto_region 20 with (fail)
            generalize W4.alloc (.cells #[.slice A4 k c4, .slice B4 j d4] 25) = W5 at H5 ⊢
            have hA4 := own_blk H5.out.2.1
            have hB4 := own_blk H5.out.2.2.1
            have hz5 : W3.heap.size ≤ W5.heap.size := H5.out.2.2.2.1.size
            have g4 : ForG W5 A4 c4 B4 d4 N E := ⟨RowR.of_own H5.out.2.1, RowR.of_own H5.out.2.2.1, by rw [HM.out.2.2.2.2.1]; exact own_le H5.out.2.1, by rw [HM.out.2.2.2.2.2]; exact own_le H5.out.2.2.1, (UP.out _ HB1.out).2.2.1.fit⟩
            have b05 : Below W0.heap.size W0 W5 := HB1.out.trans ((HO3.out.2.2.2.2.2.trans (H5.out.2.2.2.1.mono (by omega))).mono hs1)
            have hz34 : W3.heap.size ≤ W4.heap.size := H5.out.2.2.2.2
            have KEEP := Lib.hid (show ∀ V, Upd (fun g => W1.heap.size ≤ g ∧ g < W3.heap.size) W5 V → Below W0.heap.size W0 V ∧ Blk V W4.heap.size 25 #[.slice A4 k c4, .slice B4 j d4] ∧ ForG V A4 c4 B4 d4 N E from fun V u =>
              ⟨b05.trans (u.below (fun g _ hg => by have := hg.1; omega) b05.size), H5.out.1.upd u (fun h => by have := h.2; omega), g4.upd u (fun b o s e h => by have := (hA4 b o s e).1; have := h.2; omega) (fun b o s e h => by have := (hB4 b o s e).1; have := h.2; omega)⟩)
            have KS := Lib.hid (show ∀ V, Upd (fun g => W1.heap.size ≤ g ∧ g < W3.heap.size) W5 V → V.cell? ⟨w.heap.size, 0, none⟩ = some (.slice A k c) ∧ V.cell? ⟨w.heap.size, 1, none⟩ = some (.slice B j d) from fun V u => ⟨(UP.out _ (KEEP.out V u).1).1.cell 0, (UP.out _ (KEEP.out V u).1).1.cell 1⟩)
            have HOWN := Lib.hid (show W5.ownsRow W1.heap.size 9 1 (.slice A1 k c1) k (txtCells M) ∧ W5.ownsRow W2.heap.size 39 3 (.slice B1 j d1) j (edCells F) ∧ (∀ g, (Value.slice A1 k c1).ownBlock = some g → W1.heap.size ≤ g ∧ g < W2.heap.size) ∧ (∀ g, (Value.slice B1 j d1).ownBlock = some g → W2.heap.size ≤ g ∧ g < W3.heap.size) from ⟨ownsRow_upd HO3.out.1 (Upd.of_below H5.out.2.2.2.1 (fun _ => False)) (fun _ _ h => h), ownsRow_upd HO3.out.2.1 (Upd.of_below H5.out.2.2.2.1 (fun _ => False)) (fun _ _ h => h), HO3.out.2.2.1, HO3.out.2.2.2.1⟩)
            clear hA4 hB4 g4 b05
            go_cut [15, 16] from 23 (fun s15 s16 wc => ∃ (g : Nat) (A6 : Option Addr) (c6 : Nat) (B6 : Option Addr) (d6 : Nat), s15 = .pointer (some ⟨g, 0, none⟩) ∧ s16 = .int .i64 0 ∧ Hid (Below W0.heap.size W0 wc ∧ Blk wc W4.heap.size 25 #[.slice A4 k c4, .slice B4 j d4] ∧ ForG wc A4 c4 B4 d4 N E ∧ Blk wc g 25 #[.slice A6 k c6, .slice B6 j d6] ∧ ForG wc A6 c6 B6 d6 N E))
            case first =>
              have hS := KS.out W5.drew (Upd.refl _ _).drew
              refine wp_region_any2 (fun w' => w'.cell? ⟨w.heap.size, 0, none⟩ = some (.slice A k c) ∧ w'.cell? ⟨w.heap.size, 1, none⟩ = some (.slice B j d)) (by kernel_rfl) (by kernel_rfl) hS ?_
              refine any_start (fun hd => ?_)
              have HU0 := Lib.hid (And.intro (show Upd (fun _ => False) W5 W5.drew from (Upd.refl _ _).drew) (show Upd (fun g => W1.heap.size ≤ g ∧ g < W3.heap.size) W5 W5.drew from (Upd.refl _ _).drew))
              generalize W5.drew = V0 at HU0 hS ⊢
              (refine any_take (i := 0) (v := ?_) rfl (by kernel_rfl) hd (Nat.le_refl _) (fun _ _ d _ _ h => by cases d <;> exact h) hS (by first | with_reducible rfl | kernel_rfl) ?_ ?_; rotate_left; (focus (intro wS hS; (try dsimp only at hS); go_split_ands; go_simp; (try with_reducible rfl); done)); clear hd; intro hd; (try simp only [Act.put, List.getElem_toArray, List.getElem_cons_zero, List.setIfInBounds_toArray, List.set_cons_zero, List.set_cons_succ]))
              (refine any_take (i := 1) (v := ?_) rfl (by kernel_rfl) hd (Nat.le_refl _) (fun _ _ d _ _ h => by cases d <;> exact h) hS (by first | with_reducible rfl | kernel_rfl) ?_ ?_; rotate_left; (focus (intro wS hS; (try dsimp only at hS); go_split_ands; go_simp; (try with_reducible rfl); done)); clear hd; intro hd; (try simp only [Act.put, List.getElem_toArray, List.getElem_cons_succ, List.getElem_cons_zero, List.setIfInBounds_toArray, List.set_cons_zero, List.set_cons_succ]))
              (refine any_take (i := 2) (v := ?_) rfl (by kernel_rfl) hd (Nat.le_refl _) (fun _ _ d _ _ h => by cases d <;> exact h) hS (by first | with_reducible rfl | kernel_rfl) ?_ ?_; rotate_left; (focus (intro wS hS; (try dsimp only at hS); go_split_ands; go_simp; (try with_reducible rfl); done)); clear hd; intro hd; (try simp only [Act.put, List.getElem_toArray, List.getElem_cons_succ, List.getElem_cons_zero, List.setIfInBounds_toArray, List.set_cons_zero, List.set_cons_succ]))
              (refine any_take (i := 4) (v := ?_) rfl (by kernel_rfl) hd (Nat.le_refl _) (fun _ _ d _ _ h => by cases d <;> exact h) hS (by first | with_reducible rfl | kernel_rfl) ?_ ?_; rotate_left; (focus (intro wS hS; (try dsimp only at hS); go_split_ands; go_simp; (try with_reducible rfl); done)); clear hd; intro hd; (try simp only [Act.put, List.getElem_toArray, List.getElem_cons_succ, List.getElem_cons_zero, List.setIfInBounds_toArray, List.set_cons_zero, List.set_cons_succ]))
              (refine any_take (i := 5) (v := ?_) rfl (by kernel_rfl) hd (Nat.le_refl _) (fun _ _ d _ _ h => by cases d <;> exact h) hS (by first | with_reducible rfl | kernel_rfl) ?_ ?_; rotate_left; (focus (intro wS hS; (try dsimp only at hS); go_split_ands; go_simp; (try with_reducible rfl); done)); clear hd; intro hd; (try simp only [Act.put, List.getElem_toArray, List.getElem_cons_succ, List.getElem_cons_zero, List.setIfInBounds_toArray, List.set_cons_zero, List.set_cons_succ]))
              (refine any_take (i := 6) (v := ?_) rfl (by kernel_rfl) hd (Nat.le_refl _) (fun _ _ d _ _ h => by cases d <;> exact h) hS (by first | with_reducible rfl | kernel_rfl) ?_ ?_; rotate_left; (focus (intro wS hS; (try dsimp only at hS); go_split_ands; go_simp; (try with_reducible rfl); done)); clear hd; intro hd; (try simp only [Act.put, List.getElem_toArray, List.getElem_cons_succ, List.getElem_cons_zero, List.setIfInBounds_toArray, List.set_cons_zero, List.set_cons_succ]))
              clear hS
              refine any_run hd (L := [3, 12]) (by kernel_rfl) (by decide) (fun i hi hd2 => ?_)
              clear hd
              have hd := hd2
              clear hd2
              simp only [List.mem_cons, List.not_mem_nil, or_false] at hi
              rcases hi with rfl | rfl
              · refine any_do rfl rfl (fun K hK => ?_)
                obtain ⟨A6, c6, V1, happ, o6, u6, p6⟩ := append_row2 V0 W1.heap.size 22 9 1 16 _ Tryz.underlying22 info_string rfl (by decide) (by decide) A1 k c1 (txtCells M) (ownsRow_upd HOWN.out.1 (HU0.out.1) (fun _ _ h => h)) A k c (txtCells N) (UP.out _ (KEEP.out _ (HU0.out.2)).1).2.2.1.rn (by rw [txtCells_len, HM.out.2.2.2.2.1]) (one_txt N) (by omega) (by have := (HU0.out.2).size; omega)
                have H1 := Lib.hid (show Upd (fun g => W1.heap.size ≤ g ∧ g < W3.heap.size) W5 V1 ∧ RowR V1 A6 (txtCells (M ++ N)) ∧ k + k ≤ c6 ∧ (∀ b o s, A6 = some ⟨b, o, s⟩ → b < W2.heap.size ∨ W5.heap.size ≤ b) ∧ Upd (fun g => g < W2.heap.size) W5 V1 from ⟨(HU0.out.2).trans u6 (fun g hg => .inl ⟨(HOWN.out.2.2.1 g hg).1, by have := (HOWN.out.2.2.1 g hg).2; omega⟩), by rw [txtCells_app]; exact RowR.of_own o6, own_le o6, fun b o s e => by
                    subst e
                    rcases p6 b rfl with h | h
                    · exact .inl (HOWN.out.2.2.1 b h).2
                    · exact .inr (by have := (HU0.out.2).size; omega), ((HU0.out.1).mono (F' := fun g => g < W2.heap.size) (fun _ _ h => h.elim)).trans u6 (fun g hg => .inl (HOWN.out.2.2.1 g hg).2)⟩)
                have HS1 := Lib.hid u6
                clear o6 u6 p6
                refine wp_append_run _ _ _ rfl rfl rfl happ ?_
                refine hK _ _ (KS.out _ H1.out.1) ?_
                clear hK K happ
                (try simp only [Act.put, List.getElem_toArray, List.getElem_cons_succ, List.getElem_cons_zero, List.setIfInBounds_toArray, List.set_cons_zero, List.set_cons_succ])
                refine any_run hd (L := [7, 12]) (by kernel_rfl) (by decide) (fun i hi hd2 => ?_)
                clear hd
                have hd := hd2
                clear hd2
                simp only [List.mem_cons, List.not_mem_nil, or_false] at hi
                rcases hi with rfl | rfl
                · refine any_do rfl rfl (fun K hK => ?_)
                  obtain ⟨B6, d6, V2, happ, o6, u6, p6⟩ := append_row2 V1 W2.heap.size 23 39 3 48 _ Tryz.underlying23 info_edge rfl (by decide) (by decide) B1 j d1 (edCells F) (ownsRow_upd HOWN.out.2.1 (H1.out.2.2.2.2) (fun g hg h => by have := (HOWN.out.2.2.2 g hg).1; omega)) B j d (edCells E) (UP.out _ (KEEP.out _ (H1.out.1)).1).2.2.1.re (by rw [edCells_len, HM.out.2.2.2.2.2]) (one_ed E) (by omega) (by have := (H1.out.1).size; omega)
                  have H2 := Lib.hid (show Upd (fun g => W1.heap.size ≤ g ∧ g < W3.heap.size) W5 V2 ∧ RowR V2 B6 (edCells (F ++ E)) ∧ j + j ≤ d6 ∧ Upd (fun g => W2.heap.size ≤ g ∧ g < W3.heap.size) V1 V2 from ⟨(H1.out.1).trans u6 (fun g hg => .inl ⟨by have := (HOWN.out.2.2.2 g hg).1; omega, (HOWN.out.2.2.2 g hg).2⟩), by rw [edCells_app]; exact RowR.of_own o6, own_le o6, u6.mono (fun g _ hg => HOWN.out.2.2.2 g hg)⟩)
                  clear o6 u6 p6
                  refine wp_append_run _ _ _ rfl rfl rfl happ ?_
                  refine hK _ _ (KS.out _ H2.out.1) ?_
                  clear hK K happ
                  (try simp only [Act.put, List.getElem_toArray, List.getElem_cons_succ, List.getElem_cons_zero, List.setIfInBounds_toArray, List.set_cons_zero, List.set_cons_succ])
                  refine any_run hd (L := [8, 12]) (by kernel_rfl) (by decide) (fun i hi hd2 => ?_)
                  clear hd
                  have hd := hd2
                  clear hd2
                  simp only [List.mem_cons, List.not_mem_nil, or_false] at hi
                  rcases hi with rfl | rfl
                  · refine any_do rfl rfl (fun K hK => ?_)
                    go_simp
                    have hcon := HOF2.out V2 A6 c6 B6 d6 ((H1.out.2.1).upd (H2.out.2.2.2) (fun b o s e h => by have := H1.out.2.2.2.1 b o s e; have := h.1; have := h.2; omega)) (H2.out.2.1) H1.out.2.2.1 H2.out.2.2.1
                    unfold twoV at hcon
                    refine hcon.mono ?_
                    clear hcon
                    rintro e V3 ⟨A8, c8, B8, d8, rfl, o1, o2, b8⟩
                    have H3 := Lib.hid (And.intro (show Upd (fun g => W1.heap.size ≤ g ∧ g < W3.heap.size) W5 V3 from (H2.out.1).trans (Upd.of_below b8 (fun _ => False)) (fun _ h => h.elim)) (And.intro o1 (And.intro o2 b8)))
                    clear o1 o2 b8
                    refine hK _ _ (KS.out _ H3.out.1) ?_
                    clear hK K
                    (try simp only [Act.put, List.getElem_toArray, List.getElem_cons_succ, List.getElem_cons_zero, List.setIfInBounds_toArray, List.set_cons_zero, List.set_cons_succ])
                    have hS := KS.out _ H3.out.1
                    (refine any_take (i := 9) (v := ?_) rfl (by kernel_rfl) hd (Nat.le_refl _) (fun _ _ d _ _ h => by cases d <;> exact h) hS (by first | with_reducible rfl | kernel_rfl) ?_ ?_; rotate_left; (focus (intro wS hS; (try dsimp only at hS); go_split_ands; go_simp; (try with_reducible rfl); done)); clear hd; intro hd; (try simp only [Act.put, List.getElem_toArray, List.getElem_cons_succ, List.getElem_cons_zero, List.setIfInBounds_toArray, List.set_cons_zero, List.set_cons_succ]))
                    (refine any_take (i := 10) (v := ?_) rfl (by kernel_rfl) hd (Nat.le_refl _) (fun _ _ d _ _ h => by cases d <;> exact h) hS (by first | with_reducible rfl | kernel_rfl) ?_ ?_; rotate_left; (focus (intro wS hS; (try dsimp only at hS); go_split_ands; go_simp; (try with_reducible rfl); done)); clear hd; intro hd; (try simp only [Act.put, List.getElem_toArray, List.getElem_cons_succ, List.getElem_cons_zero, List.setIfInBounds_toArray, List.set_cons_zero, List.set_cons_succ]))
                    (refine any_take (i := 11) (v := ?_) rfl (by kernel_rfl) hd (Nat.le_refl _) (fun _ _ d _ _ h => by cases d <;> exact h) hS (by first | with_reducible rfl | kernel_rfl) ?_ ?_; rotate_left; (focus (intro wS hS; (try dsimp only at hS); go_split_ands; go_simp; (try with_reducible rfl); done)); clear hd; intro hd; (try simp only [Act.put, List.getElem_toArray, List.getElem_cons_succ, List.getElem_cons_zero, List.setIfInBounds_toArray, List.set_cons_zero, List.set_cons_succ]))
                    clear hS
                    refine any_run hd (L := [12]) (by kernel_rfl) (by decide) (fun i hi hd2 => ?_)
                    clear hd
                    have hd := hd2
                    clear hd2
                    obtain rfl := List.mem_singleton.1 hi
                    clear hi
                    refine any_do rfl rfl (fun K hK => ?_)
                    go_simp
                    have HA4 := Lib.hid (And.intro (Blk.new V3 25 #[.slice none 0 0, .slice none 0 0]) (And.intro (show Upd (fun g => W1.heap.size ≤ g ∧ g < W3.heap.size) W5 (V3.alloc (.cells #[.slice none 0 0, .slice none 0 0] 25)) from (H3.out.1).alloc _) (And.intro (show Below V3.heap.size V3 (V3.alloc (.cells #[.slice none 0 0, .slice none 0 0] 25)) from (Below.refl _ _).alloc (Nat.le_refl _) _) (show W5.heap.size ≤ V3.heap.size from (H3.out.1).size))))
                    refine hK _ _ (KS.out _ HA4.out.2.1) ?_
                    clear hK K
                    (try simp only [Act.put, List.getElem_toArray, List.getElem_cons_succ, List.getElem_cons_zero, List.setIfInBounds_toArray, List.set_cons_zero, List.set_cons_succ])
                    generalize V3.alloc (.cells #[.slice none 0 0, .slice none 0 0] 25) = V4 at HA4 ⊢
                    refine any_run hd (L := [13]) (by kernel_rfl) (by decide) (fun i hi hd2 => ?_)
                    clear hd
                    have hd := hd2
                    clear hd2
                    obtain rfl := List.mem_singleton.1 hi
                    clear hi
                    have kr := HA4.out.1
                    have r0 : V4.cell? ⟨V3.heap.size, 0, none⟩ = some (.slice none 0 0) := kr.cell 0
                    have r1 : V4.cell? ⟨V3.heap.size, 1, none⟩ = some (.slice none 0 0) := kr.cell 1
                    have f0 := kr.frozen 0
                    have f1 := kr.frozen 1
                    have kF := (kr.set 0 (.slice A8 k c8)).set 1 (.slice B8 j d8)
                    simp only [List.setIfInBounds_toArray, List.set_cons_zero, List.set_cons_succ] at kF
                    have uF : Upd (fun g => g = V3.heap.size) V4 ((V4.setCell ⟨V3.heap.size, 0, none⟩ (.slice A8 k c8)).setCell ⟨V3.heap.size, 1, none⟩ (.slice B8 j d8)) := ((Upd.refl (fun g => g = V3.heap.size) V4).setCell (p := ⟨V3.heap.size, 0, none⟩) (.inl rfl) _).setCell (p := ⟨V3.heap.size, 1, none⟩) (.inl rfl) _
                    have uT : Upd (fun g => W1.heap.size ≤ g ∧ g < W3.heap.size) W5 ((V4.setCell ⟨V3.heap.size, 0, none⟩ (.slice A8 k c8)).setCell ⟨V3.heap.size, 1, none⟩ (.slice B8 j d8)) := (HA4.out.2.1).trans uF (fun g hg => .inr (by have := HA4.out.2.2.2; omega))
                    have g8 := (((show ForG V3 A8 c8 B8 d8 N E from ⟨RowR.of_own H3.out.2.1, RowR.of_own H3.out.2.2.1, by rw [HM.out.2.2.2.2.1]; exact own_le H3.out.2.1, by rw [HM.out.2.2.2.2.2]; exact own_le H3.out.2.2.1, (UP.out _ HB1.out).2.2.1.fit⟩)).below (HA4.out.2.2.1)).upd uF (fun b o s e h => by have := (own_blk H3.out.2.1 b o s e).2; omega) (fun b o s e h => by have := (own_blk H3.out.2.2.1 b o s e).2; omega)
                    have HF := Lib.hid (And.intro (KEEP.out _ uT) (And.intro kF g8))
                    have hS := KS.out _ uT
                    clear kr kF uF uT g8
                    refine any_do rfl rfl (fun K hK => ?_)
                    go_simp
                    refine hK _ _ hS ?_
                    clear hK K
                    (try simp only [Act.put, List.getElem_toArray, List.getElem_cons_succ, List.getElem_cons_zero, List.setIfInBounds_toArray, List.set_cons_zero, List.set_cons_succ])
                    (refine any_take (i := 14) (v := ?_) rfl (by kernel_rfl) hd (Nat.le_refl _) (fun _ _ d _ _ h => by cases d <;> exact h) hS (by first | with_reducible rfl | kernel_rfl) ?_ ?_; rotate_left; (focus (intro wS hS; (try dsimp only at hS); go_split_ands; go_simp; (try with_reducible rfl); done)); clear hd; intro hd; (try simp only [Act.put, List.getElem_toArray, List.getElem_cons_succ, List.getElem_cons_zero, List.setIfInBounds_toArray, List.set_cons_zero, List.set_cons_succ]))
                    refine any_done (by kernel_rfl) ?_
                    clear hS hd r0 r1 f0 f1
                    go_wp2
                    go_meet
                    case rel => exact ⟨_, A8, c8, B8, d8, rfl, rfl, Lib.hid ⟨HF.out.1.1, HF.out.1.2.1, HF.out.1.2.2, HF.out.2.1, HF.out.2.2⟩⟩
                  · refine any_do rfl rfl (fun K hK => ?_)
                    go_simp
                    have HA5 := Lib.hid (And.intro (Blk.new V2 25 #[.slice none 0 0, .slice none 0 0]) (And.intro (show Upd (fun g => W1.heap.size ≤ g ∧ g < W3.heap.size) W5 (V2.alloc (.cells #[.slice none 0 0, .slice none 0 0] 25)) from (H2.out.1).alloc _) (And.intro (show Below V2.heap.size V2 (V2.alloc (.cells #[.slice none 0 0, .slice none 0 0] 25)) from (Below.refl _ _).alloc (Nat.le_refl _) _) (show W5.heap.size ≤ V2.heap.size from (H2.out.1).size))))
                    refine hK _ _ (KS.out _ HA5.out.2.1) ?_
                    clear hK K
                    (try simp only [Act.put, List.getElem_toArray, List.getElem_cons_succ, List.getElem_cons_zero, List.setIfInBounds_toArray, List.set_cons_zero, List.set_cons_succ])
                    generalize V2.alloc (.cells #[.slice none 0 0, .slice none 0 0] 25) = V5 at HA5 ⊢
                    refine any_run hd (L := [8]) (by kernel_rfl) (by decide) (fun i hi hd2 => ?_)
                    clear hd
                    have hd := hd2
                    clear hd2
                    obtain rfl := List.mem_singleton.1 hi
                    clear hi
                    refine any_do rfl rfl (fun K hK => ?_)
                    go_simp
                    have hcon := HOF2.out V5 A6 c6 B6 d6 (((H1.out.2.1).upd (H2.out.2.2.2) (fun b o s e h => by have := H1.out.2.2.2.1 b o s e; have := h.1; have := h.2; omega)).below (HA5.out.2.2.1)) ((H2.out.2.1).below (HA5.out.2.2.1)) H1.out.2.2.1 H2.out.2.2.1
                    unfold twoV at hcon
                    refine hcon.mono ?_
                    clear hcon
                    rintro e V6 ⟨A8, c8, B8, d8, rfl, o1, o2, b8⟩
                    have H6 := Lib.hid (And.intro (show Upd (fun g => W1.heap.size ≤ g ∧ g < W3.heap.size) W5 V6 from (HA5.out.2.1).trans (Upd.of_below b8 (fun _ => False)) (fun _ h => h.elim)) (And.intro o1 (And.intro o2 b8)))
                    clear o1 o2 b8
                    refine hK _ _ (KS.out _ H6.out.1) ?_
                    clear hK K
                    (try simp only [Act.put, List.getElem_toArray, List.getElem_cons_succ, List.getElem_cons_zero, List.setIfInBounds_toArray, List.set_cons_zero, List.set_cons_succ])
                    have hS := KS.out _ H6.out.1
                    (refine any_take (i := 9) (v := ?_) rfl (by kernel_rfl) hd (Nat.le_refl _) (fun _ _ d _ _ h => by cases d <;> exact h) hS (by first | with_reducible rfl | kernel_rfl) ?_ ?_; rotate_left; (focus (intro wS hS; (try dsimp only at hS); go_split_ands; go_simp; (try with_reducible rfl); done)); clear hd; intro hd; (try simp only [Act.put, List.getElem_toArray, List.getElem_cons_succ, List.getElem_cons_zero, List.setIfInBounds_toArray, List.set_cons_zero, List.set_cons_succ]))
                    (refine any_take (i := 10) (v := ?_) rfl (by kernel_rfl) hd (Nat.le_refl _) (fun _ _ d _ _ h => by cases d <;> exact h) hS (by first | with_reducible rfl | kernel_rfl) ?_ ?_; rotate_left; (focus (intro wS hS; (try dsimp only at hS); go_split_ands; go_simp; (try with_reducible rfl); done)); clear hd; intro hd; (try simp only [Act.put, List.getElem_toArray, List.getElem_cons_succ, List.getElem_cons_zero, List.setIfInBounds_toArray, List.set_cons_zero, List.set_cons_succ]))
                    (refine any_take (i := 11) (v := ?_) rfl (by kernel_rfl) hd (Nat.le_refl _) (fun _ _ d _ _ h => by cases d <;> exact h) hS (by first | with_reducible rfl | kernel_rfl) ?_ ?_; rotate_left; (focus (intro wS hS; (try dsimp only at hS); go_split_ands; go_simp; (try with_reducible rfl); done)); clear hd; intro hd; (try simp only [Act.put, List.getElem_toArray, List.getElem_cons_succ, List.getElem_cons_zero, List.setIfInBounds_toArray, List.set_cons_zero, List.set_cons_succ]))
                    clear hS
                    refine any_run hd (L := [13]) (by kernel_rfl) (by decide) (fun i hi hd2 => ?_)
                    clear hd
                    have hd := hd2
                    clear hd2
                    obtain rfl := List.mem_singleton.1 hi
                    clear hi
                    have kr := (HA5.out.1).upd (Upd.of_below (H6.out.2.2.2) (fun _ => False)) id
                    have HLT : V2.heap.size < V5.heap.size := by have h0 := HA5.out.1.lt; exact h0
                    have r0 : V6.cell? ⟨V2.heap.size, 0, none⟩ = some (.slice none 0 0) := kr.cell 0
                    have r1 : V6.cell? ⟨V2.heap.size, 1, none⟩ = some (.slice none 0 0) := kr.cell 1
                    have f0 := kr.frozen 0
                    have f1 := kr.frozen 1
                    have kF := (kr.set 0 (.slice A8 k c8)).set 1 (.slice B8 j d8)
                    simp only [List.setIfInBounds_toArray, List.set_cons_zero, List.set_cons_succ] at kF
                    have uF : Upd (fun g => g = V2.heap.size) V6 ((V6.setCell ⟨V2.heap.size, 0, none⟩ (.slice A8 k c8)).setCell ⟨V2.heap.size, 1, none⟩ (.slice B8 j d8)) := ((Upd.refl (fun g => g = V2.heap.size) V6).setCell (p := ⟨V2.heap.size, 0, none⟩) (.inl rfl) _).setCell (p := ⟨V2.heap.size, 1, none⟩) (.inl rfl) _
                    have uT : Upd (fun g => W1.heap.size ≤ g ∧ g < W3.heap.size) W5 ((V6.setCell ⟨V2.heap.size, 0, none⟩ (.slice A8 k c8)).setCell ⟨V2.heap.size, 1, none⟩ (.slice B8 j d8)) := (H6.out.1).trans uF (fun g hg => .inr (by have := HA5.out.2.2.2; omega))
                    have g8 := ((show ForG V6 A8 c8 B8 d8 N E from ⟨RowR.of_own H6.out.2.1, RowR.of_own H6.out.2.2.1, by rw [HM.out.2.2.2.2.1]; exact own_le H6.out.2.1, by rw [HM.out.2.2.2.2.2]; exact own_le H6.out.2.2.1, (UP.out _ HB1.out).2.2.1.fit⟩)).upd uF (fun b o s e h => by have := (own_blk H6.out.2.1 b o s e).1; have := HLT; omega) (fun b o s e h => by have := (own_blk H6.out.2.2.1 b o s e).1; have := HLT; omega)
                    have HF := Lib.hid (And.intro (KEEP.out _ uT) (And.intro kF g8))
                    have hS := KS.out _ uT
                    clear kr kF uF uT g8
                    refine any_do rfl rfl (fun K hK => ?_)
                    go_simp
                    refine hK _ _ hS ?_
                    clear hK K
                    (try simp only [Act.put, List.getElem_toArray, List.getElem_cons_succ, List.getElem_cons_zero, List.setIfInBounds_toArray, List.set_cons_zero, List.set_cons_succ])
                    (refine any_take (i := 14) (v := ?_) rfl (by kernel_rfl) hd (Nat.le_refl _) (fun _ _ d _ _ h => by cases d <;> exact h) hS (by first | with_reducible rfl | kernel_rfl) ?_ ?_; rotate_left; (focus (intro wS hS; (try dsimp only at hS); go_split_ands; go_simp; (try with_reducible rfl); done)); clear hd; intro hd; (try simp only [Act.put, List.getElem_toArray, List.getElem_cons_succ, List.getElem_cons_zero, List.setIfInBounds_toArray, List.set_cons_zero, List.set_cons_succ]))
                    refine any_done (by kernel_rfl) ?_
                    clear hS hd r0 r1 f0 f1
                    go_wp2
                    go_meet
                    case rel => exact ⟨_, A8, c8, B8, d8, rfl, rfl, Lib.hid ⟨HF.out.1.1, HF.out.1.2.1, HF.out.1.2.2, HF.out.2.1, HF.out.2.2⟩⟩
                · refine any_do rfl rfl (fun K hK => ?_)
                  go_simp
                  have HA7 := Lib.hid (And.intro (Blk.new V1 25 #[.slice none 0 0, .slice none 0 0]) (And.intro (show Upd (fun g => W1.heap.size ≤ g ∧ g < W3.heap.size) W5 (V1.alloc (.cells #[.slice none 0 0, .slice none 0 0] 25)) from (H1.out.1).alloc _) (And.intro (show Below V1.heap.size V1 (V1.alloc (.cells #[.slice none 0 0, .slice none 0 0] 25)) from (Below.refl _ _).alloc (Nat.le_refl _) _) (show W5.heap.size ≤ V1.heap.size from (H1.out.1).size))))
                  refine hK _ _ (KS.out _ HA7.out.2.1) ?_
                  clear hK K
                  (try simp only [Act.put, List.getElem_toArray, List.getElem_cons_succ, List.getElem_cons_zero, List.setIfInBounds_toArray, List.set_cons_zero, List.set_cons_succ])
                  generalize V1.alloc (.cells #[.slice none 0 0, .slice none 0 0] 25) = V7 at HA7 ⊢
                  refine any_run hd (L := [7]) (by kernel_rfl) (by decide) (fun i hi hd2 => ?_)
                  clear hd
                  have hd := hd2
                  clear hd2
                  obtain rfl := List.mem_singleton.1 hi
                  clear hi
                  refine any_do rfl rfl (fun K hK => ?_)
                  obtain ⟨B6, d6, V8, happ, o6, u6, p6⟩ := append_row2 V7 W2.heap.size 23 39 3 48 _ Tryz.underlying23 info_edge rfl (by decide) (by decide) B1 j d1 (edCells F) (ownsRow_upd HOWN.out.2.1 ((H1.out.2.2.2.2).trans (Upd.of_below (HA7.out.2.2.1) (fun _ => False)) (fun _ h => h.elim)) (fun g hg h => by have := (HOWN.out.2.2.2 g hg).1; omega)) B j d (edCells E) (UP.out _ (KEEP.out _ (HA7.out.2.1)).1).2.2.1.re (by rw [edCells_len, HM.out.2.2.2.2.2]) (one_ed E) (by omega) (by have := (HA7.out.2.1).size; omega)
                  have H8 := Lib.hid (show Upd (fun g => W1.heap.size ≤ g ∧ g < W3.heap.size) W5 V8 ∧ RowR V8 B6 (edCells (F ++ E)) ∧ j + j ≤ d6 ∧ Upd (fun g => W2.heap.size ≤ g ∧ g < W3.heap.size) V7 V8 from ⟨(HA7.out.2.1).trans u6 (fun g hg => .inl ⟨by have := (HOWN.out.2.2.2 g hg).1; omega, (HOWN.out.2.2.2 g hg).2⟩), by rw [edCells_app]; exact RowR.of_own o6, own_le o6, u6.mono (fun g _ hg => HOWN.out.2.2.2 g hg)⟩)
                  clear o6 u6 p6
                  refine wp_append_run _ _ _ rfl rfl rfl happ ?_
                  refine hK _ _ (KS.out _ H8.out.1) ?_
                  clear hK K happ
                  (try simp only [Act.put, List.getElem_toArray, List.getElem_cons_succ, List.getElem_cons_zero, List.setIfInBounds_toArray, List.set_cons_zero, List.set_cons_succ])
                  refine any_run hd (L := [8]) (by kernel_rfl) (by decide) (fun i hi hd2 => ?_)
                  clear hd
                  have hd := hd2
                  clear hd2
                  obtain rfl := List.mem_singleton.1 hi
                  clear hi
                  refine any_do rfl rfl (fun K hK => ?_)
                  go_simp
                  have hcon := HOF2.out V8 A6 c6 B6 d6 (((H1.out.2.1).below (HA7.out.2.2.1)).upd (H8.out.2.2.2) (fun b o s e h => by have := H1.out.2.2.2.1 b o s e; have := h.1; have := h.2; omega)) (H8.out.2.1) H1.out.2.2.1 H8.out.2.2.1
                  unfold twoV at hcon
                  refine hcon.mono ?_
                  clear hcon
                  rintro e V9 ⟨A8, c8, B8, d8, rfl, o1, o2, b8⟩
                  have H9 := Lib.hid (And.intro (show Upd (fun g => W1.heap.size ≤ g ∧ g < W3.heap.size) W5 V9 from (H8.out.1).trans (Upd.of_below b8 (fun _ => False)) (fun _ h => h.elim)) (And.intro o1 (And.intro o2 b8)))
                  clear o1 o2 b8
                  refine hK _ _ (KS.out _ H9.out.1) ?_
                  clear hK K
                  (try simp only [Act.put, List.getElem_toArray, List.getElem_cons_succ, List.getElem_cons_zero, List.setIfInBounds_toArray, List.set_cons_zero, List.set_cons_succ])
                  have hS := KS.out _ H9.out.1
                  (refine any_take (i := 9) (v := ?_) rfl (by kernel_rfl) hd (Nat.le_refl _) (fun _ _ d _ _ h => by cases d <;> exact h) hS (by first | with_reducible rfl | kernel_rfl) ?_ ?_; rotate_left; (focus (intro wS hS; (try dsimp only at hS); go_split_ands; go_simp; (try with_reducible rfl); done)); clear hd; intro hd; (try simp only [Act.put, List.getElem_toArray, List.getElem_cons_succ, List.getElem_cons_zero, List.setIfInBounds_toArray, List.set_cons_zero, List.set_cons_succ]))
                  (refine any_take (i := 10) (v := ?_) rfl (by kernel_rfl) hd (Nat.le_refl _) (fun _ _ d _ _ h => by cases d <;> exact h) hS (by first | with_reducible rfl | kernel_rfl) ?_ ?_; rotate_left; (focus (intro wS hS; (try dsimp only at hS); go_split_ands; go_simp; (try with_reducible rfl); done)); clear hd; intro hd; (try simp only [Act.put, List.getElem_toArray, List.getElem_cons_succ, List.getElem_cons_zero, List.setIfInBounds_toArray, List.set_cons_zero, List.set_cons_succ]))
                  (refine any_take (i := 11) (v := ?_) rfl (by kernel_rfl) hd (Nat.le_refl _) (fun _ _ d _ _ h => by cases d <;> exact h) hS (by first | with_reducible rfl | kernel_rfl) ?_ ?_; rotate_left; (focus (intro wS hS; (try dsimp only at hS); go_split_ands; go_simp; (try with_reducible rfl); done)); clear hd; intro hd; (try simp only [Act.put, List.getElem_toArray, List.getElem_cons_succ, List.getElem_cons_zero, List.setIfInBounds_toArray, List.set_cons_zero, List.set_cons_succ]))
                  clear hS
                  refine any_run hd (L := [13]) (by kernel_rfl) (by decide) (fun i hi hd2 => ?_)
                  clear hd
                  have hd := hd2
                  clear hd2
                  obtain rfl := List.mem_singleton.1 hi
                  clear hi
                  have kr := ((HA7.out.1).upd (H8.out.2.2.2) (fun h => by have := HA7.out.2.2.2; have := h.2; omega)).upd (Upd.of_below (H9.out.2.2.2) (fun _ => False)) id
                  have HLT : V1.heap.size < V8.heap.size := by have h0 := HA7.out.1.lt; have h0 := Nat.lt_of_lt_of_le h0 (H8.out.2.2.2).size; exact h0
                  have r0 : V9.cell? ⟨V1.heap.size, 0, none⟩ = some (.slice none 0 0) := kr.cell 0
                  have r1 : V9.cell? ⟨V1.heap.size, 1, none⟩ = some (.slice none 0 0) := kr.cell 1
                  have f0 := kr.frozen 0
                  have f1 := kr.frozen 1
                  have kF := (kr.set 0 (.slice A8 k c8)).set 1 (.slice B8 j d8)
                  simp only [List.setIfInBounds_toArray, List.set_cons_zero, List.set_cons_succ] at kF
                  have uF : Upd (fun g => g = V1.heap.size) V9 ((V9.setCell ⟨V1.heap.size, 0, none⟩ (.slice A8 k c8)).setCell ⟨V1.heap.size, 1, none⟩ (.slice B8 j d8)) := ((Upd.refl (fun g => g = V1.heap.size) V9).setCell (p := ⟨V1.heap.size, 0, none⟩) (.inl rfl) _).setCell (p := ⟨V1.heap.size, 1, none⟩) (.inl rfl) _
                  have uT : Upd (fun g => W1.heap.size ≤ g ∧ g < W3.heap.size) W5 ((V9.setCell ⟨V1.heap.size, 0, none⟩ (.slice A8 k c8)).setCell ⟨V1.heap.size, 1, none⟩ (.slice B8 j d8)) := (H9.out.1).trans uF (fun g hg => .inr (by have := HA7.out.2.2.2; omega))
                  have g8 := ((show ForG V9 A8 c8 B8 d8 N E from ⟨RowR.of_own H9.out.2.1, RowR.of_own H9.out.2.2.1, by rw [HM.out.2.2.2.2.1]; exact own_le H9.out.2.1, by rw [HM.out.2.2.2.2.2]; exact own_le H9.out.2.2.1, (UP.out _ HB1.out).2.2.1.fit⟩)).upd uF (fun b o s e h => by have := (own_blk H9.out.2.1 b o s e).1; have := HLT; omega) (fun b o s e h => by have := (own_blk H9.out.2.2.1 b o s e).1; have := HLT; omega)
                  have HF := Lib.hid (And.intro (KEEP.out _ uT) (And.intro kF g8))
                  have hS := KS.out _ uT
                  clear kr kF uF uT g8
                  refine any_do rfl rfl (fun K hK => ?_)
                  go_simp
                  refine hK _ _ hS ?_
                  clear hK K
                  (try simp only [Act.put, List.getElem_toArray, List.getElem_cons_succ, List.getElem_cons_zero, List.setIfInBounds_toArray, List.set_cons_zero, List.set_cons_succ])
                  (refine any_take (i := 14) (v := ?_) rfl (by kernel_rfl) hd (Nat.le_refl _) (fun _ _ d _ _ h => by cases d <;> exact h) hS (by first | with_reducible rfl | kernel_rfl) ?_ ?_; rotate_left; (focus (intro wS hS; (try dsimp only at hS); go_split_ands; go_simp; (try with_reducible rfl); done)); clear hd; intro hd; (try simp only [Act.put, List.getElem_toArray, List.getElem_cons_succ, List.getElem_cons_zero, List.setIfInBounds_toArray, List.set_cons_zero, List.set_cons_succ]))
                  refine any_done (by kernel_rfl) ?_
                  clear hS hd r0 r1 f0 f1
                  go_wp2
                  go_meet
                  case rel => exact ⟨_, A8, c8, B8, d8, rfl, rfl, Lib.hid ⟨HF.out.1.1, HF.out.1.2.1, HF.out.1.2.2, HF.out.2.1, HF.out.2.2⟩⟩
              · refine any_do rfl rfl (fun K hK => ?_)
                go_simp
                have HA10 := Lib.hid (And.intro (Blk.new V0 25 #[.slice none 0 0, .slice none 0 0]) (And.intro (show Upd (fun g => W1.heap.size ≤ g ∧ g < W3.heap.size) W5 (V0.alloc (.cells #[.slice none 0 0, .slice none 0 0] 25)) from (HU0.out.2).alloc _) (And.intro (show Below V0.heap.size V0 (V0.alloc (.cells #[.slice none 0 0, .slice none 0 0] 25)) from (Below.refl _ _).alloc (Nat.le_refl _) _) (show W5.heap.size ≤ V0.heap.size from (HU0.out.2).size))))
                have HZ10 := Lib.hid (show Upd (fun _ => False) W5 (V0.alloc (.cells #[.slice none 0 0, .slice none 0 0] 25)) from (HU0.out.1).alloc _)
                refine hK _ _ (KS.out _ HA10.out.2.1) ?_
                clear hK K
                (try simp only [Act.put, List.getElem_toArray, List.getElem_cons_succ, List.getElem_cons_zero, List.setIfInBounds_toArray, List.set_cons_zero, List.set_cons_succ])
                generalize V0.alloc (.cells #[.slice none 0 0, .slice none 0 0] 25) = V10 at HA10 HZ10 ⊢
                refine any_run hd (L := [3]) (by kernel_rfl) (by decide) (fun i hi hd2 => ?_)
                clear hd
                have hd := hd2
                clear hd2
                obtain rfl := List.mem_singleton.1 hi
                clear hi
                refine any_do rfl rfl (fun K hK => ?_)
                obtain ⟨A6, c6, V11, happ, o6, u6, p6⟩ := append_row2 V10 W1.heap.size 22 9 1 16 _ Tryz.underlying22 info_string rfl (by decide) (by decide) A1 k c1 (txtCells M) (ownsRow_upd HOWN.out.1 (HZ10.out) (fun _ _ h => h)) A k c (txtCells N) (UP.out _ (KEEP.out _ (HA10.out.2.1)).1).2.2.1.rn (by rw [txtCells_len, HM.out.2.2.2.2.1]) (one_txt N) (by omega) (by have := (HA10.out.2.1).size; omega)
                have H11 := Lib.hid (show Upd (fun g => W1.heap.size ≤ g ∧ g < W3.heap.size) W5 V11 ∧ RowR V11 A6 (txtCells (M ++ N)) ∧ k + k ≤ c6 ∧ (∀ b o s, A6 = some ⟨b, o, s⟩ → b < W2.heap.size ∨ W5.heap.size ≤ b) ∧ Upd (fun g => g < W2.heap.size) W5 V11 from ⟨(HA10.out.2.1).trans u6 (fun g hg => .inl ⟨(HOWN.out.2.2.1 g hg).1, by have := (HOWN.out.2.2.1 g hg).2; omega⟩), by rw [txtCells_app]; exact RowR.of_own o6, own_le o6, fun b o s e => by
                    subst e
                    rcases p6 b rfl with h | h
                    · exact .inl (HOWN.out.2.2.1 b h).2
                    · exact .inr (by have := (HA10.out.2.1).size; omega), ((HZ10.out).mono (F' := fun g => g < W2.heap.size) (fun _ _ h => h.elim)).trans u6 (fun g hg => .inl (HOWN.out.2.2.1 g hg).2)⟩)
                have HS11 := Lib.hid u6
                clear o6 u6 p6
                refine wp_append_run _ _ _ rfl rfl rfl happ ?_
                refine hK _ _ (KS.out _ H11.out.1) ?_
                clear hK K happ
                (try simp only [Act.put, List.getElem_toArray, List.getElem_cons_succ, List.getElem_cons_zero, List.setIfInBounds_toArray, List.set_cons_zero, List.set_cons_succ])
                refine any_run hd (L := [7]) (by kernel_rfl) (by decide) (fun i hi hd2 => ?_)
                clear hd
                have hd := hd2
                clear hd2
                obtain rfl := List.mem_singleton.1 hi
                clear hi
                refine any_do rfl rfl (fun K hK => ?_)
                obtain ⟨B6, d6, V12, happ, o6, u6, p6⟩ := append_row2 V11 W2.heap.size 23 39 3 48 _ Tryz.underlying23 info_edge rfl (by decide) (by decide) B1 j d1 (edCells F) (ownsRow_upd HOWN.out.2.1 (H11.out.2.2.2.2) (fun g hg h => by have := (HOWN.out.2.2.2 g hg).1; omega)) B j d (edCells E) (UP.out _ (KEEP.out _ (H11.out.1)).1).2.2.1.re (by rw [edCells_len, HM.out.2.2.2.2.2]) (one_ed E) (by omega) (by have := (H11.out.1).size; omega)
                have H12 := Lib.hid (show Upd (fun g => W1.heap.size ≤ g ∧ g < W3.heap.size) W5 V12 ∧ RowR V12 B6 (edCells (F ++ E)) ∧ j + j ≤ d6 ∧ Upd (fun g => W2.heap.size ≤ g ∧ g < W3.heap.size) V11 V12 from ⟨(H11.out.1).trans u6 (fun g hg => .inl ⟨by have := (HOWN.out.2.2.2 g hg).1; omega, (HOWN.out.2.2.2 g hg).2⟩), by rw [edCells_app]; exact RowR.of_own o6, own_le o6, u6.mono (fun g _ hg => HOWN.out.2.2.2 g hg)⟩)
                clear o6 u6 p6
                refine wp_append_run _ _ _ rfl rfl rfl happ ?_
                refine hK _ _ (KS.out _ H12.out.1) ?_
                clear hK K happ
                (try simp only [Act.put, List.getElem_toArray, List.getElem_cons_succ, List.getElem_cons_zero, List.setIfInBounds_toArray, List.set_cons_zero, List.set_cons_succ])
                refine any_run hd (L := [8]) (by kernel_rfl) (by decide) (fun i hi hd2 => ?_)
                clear hd
                have hd := hd2
                clear hd2
                obtain rfl := List.mem_singleton.1 hi
                clear hi
                refine any_do rfl rfl (fun K hK => ?_)
                go_simp
                have hcon := HOF2.out V12 A6 c6 B6 d6 ((H11.out.2.1).upd (H12.out.2.2.2) (fun b o s e h => by have := H11.out.2.2.2.1 b o s e; have := h.1; have := h.2; omega)) (H12.out.2.1) H11.out.2.2.1 H12.out.2.2.1
                unfold twoV at hcon
                refine hcon.mono ?_
                clear hcon
                rintro e V13 ⟨A8, c8, B8, d8, rfl, o1, o2, b8⟩
                have H13 := Lib.hid (And.intro (show Upd (fun g => W1.heap.size ≤ g ∧ g < W3.heap.size) W5 V13 from (H12.out.1).trans (Upd.of_below b8 (fun _ => False)) (fun _ h => h.elim)) (And.intro o1 (And.intro o2 b8)))
                clear o1 o2 b8
                refine hK _ _ (KS.out _ H13.out.1) ?_
                clear hK K
                (try simp only [Act.put, List.getElem_toArray, List.getElem_cons_succ, List.getElem_cons_zero, List.setIfInBounds_toArray, List.set_cons_zero, List.set_cons_succ])
                have hS := KS.out _ H13.out.1
                (refine any_take (i := 9) (v := ?_) rfl (by kernel_rfl) hd (Nat.le_refl _) (fun _ _ d _ _ h => by cases d <;> exact h) hS (by first | with_reducible rfl | kernel_rfl) ?_ ?_; rotate_left; (focus (intro wS hS; (try dsimp only at hS); go_split_ands; go_simp; (try with_reducible rfl); done)); clear hd; intro hd; (try simp only [Act.put, List.getElem_toArray, List.getElem_cons_succ, List.getElem_cons_zero, List.setIfInBounds_toArray, List.set_cons_zero, List.set_cons_succ]))
                (refine any_take (i := 10) (v := ?_) rfl (by kernel_rfl) hd (Nat.le_refl _) (fun _ _ d _ _ h => by cases d <;> exact h) hS (by first | with_reducible rfl | kernel_rfl) ?_ ?_; rotate_left; (focus (intro wS hS; (try dsimp only at hS); go_split_ands; go_simp; (try with_reducible rfl); done)); clear hd; intro hd; (try simp only [Act.put, List.getElem_toArray, List.getElem_cons_succ, List.getElem_cons_zero, List.setIfInBounds_toArray, List.set_cons_zero, List.set_cons_succ]))
                (refine any_take (i := 11) (v := ?_) rfl (by kernel_rfl) hd (Nat.le_refl _) (fun _ _ d _ _ h => by cases d <;> exact h) hS (by first | with_reducible rfl | kernel_rfl) ?_ ?_; rotate_left; (focus (intro wS hS; (try dsimp only at hS); go_split_ands; go_simp; (try with_reducible rfl); done)); clear hd; intro hd; (try simp only [Act.put, List.getElem_toArray, List.getElem_cons_succ, List.getElem_cons_zero, List.setIfInBounds_toArray, List.set_cons_zero, List.set_cons_succ]))
                clear hS
                refine any_run hd (L := [13]) (by kernel_rfl) (by decide) (fun i hi hd2 => ?_)
                clear hd
                have hd := hd2
                clear hd2
                obtain rfl := List.mem_singleton.1 hi
                clear hi
                have kr := (((HA10.out.1).upd (HS11.out) (fun h => by have := HA10.out.2.2.2; have := HOWN.out.2.2.1 _ h; omega)).upd (H12.out.2.2.2) (fun h => by have := HA10.out.2.2.2; have := h.2; omega)).upd (Upd.of_below (H13.out.2.2.2) (fun _ => False)) id
                have HLT : V0.heap.size < V12.heap.size := by have h0 := HA10.out.1.lt; have h0 := Nat.lt_of_lt_of_le h0 (HS11.out).size; have h0 := Nat.lt_of_lt_of_le h0 (H12.out.2.2.2).size; exact h0
                have r0 : V13.cell? ⟨V0.heap.size, 0, none⟩ = some (.slice none 0 0) := kr.cell 0
                have r1 : V13.cell? ⟨V0.heap.size, 1, none⟩ = some (.slice none 0 0) := kr.cell 1
                have f0 := kr.frozen 0
                have f1 := kr.frozen 1
                have kF := (kr.set 0 (.slice A8 k c8)).set 1 (.slice B8 j d8)
                simp only [List.setIfInBounds_toArray, List.set_cons_zero, List.set_cons_succ] at kF
                have uF : Upd (fun g => g = V0.heap.size) V13 ((V13.setCell ⟨V0.heap.size, 0, none⟩ (.slice A8 k c8)).setCell ⟨V0.heap.size, 1, none⟩ (.slice B8 j d8)) := ((Upd.refl (fun g => g = V0.heap.size) V13).setCell (p := ⟨V0.heap.size, 0, none⟩) (.inl rfl) _).setCell (p := ⟨V0.heap.size, 1, none⟩) (.inl rfl) _
                have uT : Upd (fun g => W1.heap.size ≤ g ∧ g < W3.heap.size) W5 ((V13.setCell ⟨V0.heap.size, 0, none⟩ (.slice A8 k c8)).setCell ⟨V0.heap.size, 1, none⟩ (.slice B8 j d8)) := (H13.out.1).trans uF (fun g hg => .inr (by have := HA10.out.2.2.2; omega))
                have g8 := ((show ForG V13 A8 c8 B8 d8 N E from ⟨RowR.of_own H13.out.2.1, RowR.of_own H13.out.2.2.1, by rw [HM.out.2.2.2.2.1]; exact own_le H13.out.2.1, by rw [HM.out.2.2.2.2.2]; exact own_le H13.out.2.2.1, (UP.out _ HB1.out).2.2.1.fit⟩)).upd uF (fun b o s e h => by have := (own_blk H13.out.2.1 b o s e).1; have := HLT; omega) (fun b o s e h => by have := (own_blk H13.out.2.2.1 b o s e).1; have := HLT; omega)
                have HF := Lib.hid (And.intro (KEEP.out _ uT) (And.intro kF g8))
                have hS := KS.out _ uT
                clear kr kF uF uT g8
                refine any_do rfl rfl (fun K hK => ?_)
                go_simp
                refine hK _ _ hS ?_
                clear hK K
                (try simp only [Act.put, List.getElem_toArray, List.getElem_cons_succ, List.getElem_cons_zero, List.setIfInBounds_toArray, List.set_cons_zero, List.set_cons_succ])
                (refine any_take (i := 14) (v := ?_) rfl (by kernel_rfl) hd (Nat.le_refl _) (fun _ _ d _ _ h => by cases d <;> exact h) hS (by first | with_reducible rfl | kernel_rfl) ?_ ?_; rotate_left; (focus (intro wS hS; (try dsimp only at hS); go_split_ands; go_simp; (try with_reducible rfl); done)); clear hd; intro hd; (try simp only [Act.put, List.getElem_toArray, List.getElem_cons_succ, List.getElem_cons_zero, List.setIfInBounds_toArray, List.set_cons_zero, List.set_cons_succ]))
                refine any_done (by kernel_rfl) ?_
                clear hS hd r0 r1 f0 f1
                go_wp2
                go_meet
                case rel => exact ⟨_, A8, c8, B8, d8, rfl, rfl, Lib.hid ⟨HF.out.1.1, HF.out.1.2.1, HF.out.1.2.2, HF.out.2.1, HF.out.2.2⟩⟩
            case rest =>
              obtain ⟨g, A6, c6, B6, d6, rfl, rfl, hC⟩ := hcut
              clear KEEP KS HOWN HOF2 HO3 H5 HRM
              obtain ⟨W6, hW6⟩ : ∃ W, W = wc := ⟨_, rfl⟩
              subst hW6
              have lN := HM.out.2.2.2.2.1
              have lE := HM.out.2.2.2.2.2
              have hsm : ∀ (V : World) (A1 c1 B1 d1 A2 c2 B2 d2), ForG V A1 c1 B1 d1 N E → ForG V A2 c2 B2 d2 N E → Calls Tryz.prog 19 #[.agg #[.slice A1 k c1, .slice B1 j d1], .agg #[.slice A2 k c2, .slice B2 j d2]] V (Sam V (.bool true)) := fun V A1 c1 B1 d1 A2 c2 B2 d2 h h' => by
                have := esame_any V A1 c1 B1 d1 N E A2 c2 B2 d2 N E h h'
                rw [lN, lE, same_self] at this
                exact this
              have HSM := Lib.hid hsm
              clear hsm lN lE
              have q0 : W6.cell? ⟨w.heap.size, 0, none⟩ = some (.slice A k c) := (UP.out _ hC.out.1).1.cell 0
              have q1 : W6.cell? ⟨w.heap.size, 1, none⟩ = some (.slice B j d) := (UP.out _ hC.out.1).1.cell 1
              have x0 : W6.cell? ⟨W4.heap.size, 0, none⟩ = some (.slice A4 k c4) := hC.out.2.1.cell 0
              have x1 : W6.cell? ⟨W4.heap.size, 1, none⟩ = some (.slice B4 j d4) := hC.out.2.1.cell 1
              go_wp2_with fail
              refine (HSM.out W6 A4 c4 B4 d4 A c B d hC.out.2.2.1 (UP.out _ hC.out.1).2.2.1).mono ?_
              rintro e W7 ⟨rfl, b7⟩
              have H7 := Lib.hid (And.intro (hC.out.1.trans (b7.mono hC.out.1.size)) (And.intro (hC.out.2.2.2.1.upd (Upd.of_below b7 (fun _ => False)) id) (hC.out.2.2.2.2.below b7)))
              clear b7 q0 q1 x0 x1
              have q0 : W7.cell? ⟨w.heap.size, 0, none⟩ = some (.slice A k c) := (UP.out _ H7.out.1).1.cell 0
              have q1 : W7.cell? ⟨w.heap.size, 1, none⟩ = some (.slice B j d) := (UP.out _ H7.out.1).1.cell 1
              have x0 : W7.cell? ⟨g, 0, none⟩ = some (.slice A6 k c6) := H7.out.2.1.cell 0
              have x1 : W7.cell? ⟨g, 1, none⟩ = some (.slice B6 j d6) := H7.out.2.1.cell 1
              go_wp2_with fail
              refine (HSM.out W7 A6 c6 B6 d6 A c B d H7.out.2.2 (UP.out _ H7.out.1).2.2.1).mono ?_
              rintro e W8 ⟨rfl, b8⟩
              have H8 := Lib.hid (H7.out.1.trans (b8.mono H7.out.1.size))
              clear b8 q0 q1 x0 x1 hC H7
              go_upto_region 23 with (fail)
              go_cut [14, 17, 18] from 23 (fun s14 s17 s18 wc => ∃ (g : Nat) (A6 : Option Addr) (c6 : Nat) (B6 : Option Addr) (d6 : Nat) (M7 : List Txt) (F7 : List Ed) (p7 : Nat) (z7 : Int), s17 = .pointer (some ⟨g, 0, none⟩) ∧ s14 = .int .i64 z7 ∧ s18 = .int .i64 (p7 : Int) ∧ Hid (Below W0.heap.size W0 wc ∧ Blk wc g 25 #[.slice A6 M7.length c6, .slice B6 F7.length d6] ∧ ForG wc A6 c6 B6 d6 M7 F7 ∧ (S2.size ≤ 2048 → M7 = N ∧ F7 = E ∧ p7 = 0 ∧ z7 = 0)))
              case first =>
                go_wp2_with fail
                refine (parse_for S2 W8 (by omega)).mono ?_
                rintro e W9 ⟨A9, c9, B9, d9, rfl, g9, b9⟩
                have HP := Lib.hid (show S2.size ≤ 2048 → (parseO S2).N = N ∧ (parseO S2).E = E ∧ (parseO S2).pl = 0 ∧ (parseO S2).err = 0 from fun h => by rw [HTXT.out h]; exact ⟨rfl, rfl, rfl, rfl⟩)
                obtain ⟨M7, hM7⟩ : ∃ n, (parseO S2).N = n := ⟨_, rfl⟩
                obtain ⟨F7, hF7⟩ : ∃ n, (parseO S2).E = n := ⟨_, rfl⟩
                obtain ⟨p7, hp7⟩ : ∃ n, (parseO S2).pl = n := ⟨_, rfl⟩
                obtain ⟨z7, hz7⟩ : ∃ n, (parseO S2).err = n := ⟨_, rfl⟩
                rw [hM7, hF7, hp7, hz7] at HP
                rw [hM7, hF7] at g9
                rw [hM7, hF7, hp7, hz7]
                obtain ⟨n7, hn7⟩ : ∃ n, M7.length = n := ⟨_, rfl⟩
                obtain ⟨m7, hm7⟩ : ∃ n, F7.length = n := ⟨_, rfl⟩
                rw [hn7, hm7]
                have k9 := Blk.new W9 25 #[.slice A9 n7 c9, .slice B9 m7 d9]
                have b10 : Below W9.heap.size W9 (W9.alloc (.cells #[.slice A9 n7 c9, .slice B9 m7 d9] 25)) := (Below.refl _ _).alloc (Nat.le_refl _) _
                have bb := H8.out.trans ((b9.trans (b10.mono b9.size)).mono H8.out.size)
                have HF := Lib.hid (And.intro bb (And.intro k9 (And.intro (g9.below b10) (And.intro hn7 (And.intro hm7 HP.out)))))
                clear hM7 hF7 hp7 hz7 HP hn7 hm7 k9 b10 bb g9 b9
                unfold twoV
                go_wp2
                go_meet
                case rel => exact ⟨_, A9, c9, B9, d9, M7, F7, p7, z7, rfl, rfl, rfl, Lib.hid ⟨HF.out.1, by rw [HF.out.2.2.2.1, HF.out.2.2.2.2.1]; exact HF.out.2.1, HF.out.2.2.1, HF.out.2.2.2.2.2⟩⟩
              case rest =>
                obtain ⟨g7, A7, c7, B7, d7, M7, F7, p7, z7, rfl, rfl, rfl, hP⟩ := hcut
                obtain ⟨W9, hW9⟩ : ∃ W, W = wc := ⟨_, rfl⟩
                subst hW9
                go_upto_region 24 with (fail)
                go_cut [153] from 23 (fun s153 wc => s153 = .bool false ∧ Hid (Below W0.heap.size W0 wc))
                case first =>
                  by_cases hle : S2.size ≤ 2048
                  · obtain ⟨rfl, rfl, rfl, rfl⟩ := hP.out.2.2.2 hle
                    have hleI : (S2.size : Int) ≤ 2048 := by omega
                    have hq := hP.out.2.1
                    rw [HM.out.2.2.2.2.1, HM.out.2.2.2.2.2] at hq
                    have HK := Lib.hid hq
                    clear hq
                    have q0 : W9.cell? ⟨w.heap.size, 0, none⟩ = some (.slice A k c) := (UP.out _ hP.out.1).1.cell 0
                    have q1 : W9.cell? ⟨w.heap.size, 1, none⟩ = some (.slice B j d) := (UP.out _ hP.out.1).1.cell 1
                    have x0 : W9.cell? ⟨g7, 0, none⟩ = some (.slice A7 k c7) := HK.out.cell 0
                    have x1 : W9.cell? ⟨g7, 1, none⟩ = some (.slice B7 j d7) := HK.out.cell 1
                    go_wp2_with fail
                    refine (HSM.out W9 A7 c7 B7 d7 A c B d hP.out.2.2.1 (UP.out _ hP.out.1).2.2.1).mono ?_
                    rintro e W10 ⟨rfl, b10⟩
                    have HF := Lib.hid (hP.out.1.trans (b10.mono hP.out.1.size))
                    clear b10 q0 q1 x0 x1
                    go_wp2
                    go_meet
                    case rel => exact ⟨rfl, HF⟩
                  · have hleI : ¬ ((S2.size : Int) ≤ 2048) := by omega
                    have HF := Lib.hid hP.out.1
                    go_wp2
                    go_meet
                    case rel => exact ⟨rfl, HF⟩
                case rest =>
                  obtain ⟨rfl, hB⟩ := hcut
                  obtain ⟨W10, hW10⟩ : ∃ W, W = wc := ⟨_, rfl⟩
                  subst hW10
                  clear hP H8
                  have jS := join_self HC0.out
                  have jC := join_comm (M := N') (F := E') HC0.out
                  obtain ⟨X, hX⟩ : ∃ X, joinN N E N' E' = X := ⟨_, rfl⟩
                  obtain ⟨Y, hY⟩ : ∃ X, joinE N E N' E' = X := ⟨_, rfl⟩
                  obtain ⟨zx, hzx⟩ : ∃ X, joinI N E N' E' = X := ⟨_, rfl⟩
                  rw [hX, hY, hzx] at jC
                  have lN := HM.out.2.2.2.2.1
                  have lE := HM.out.2.2.2.2.2
                  have lN' := HZ.out.2.2.2.1
                  have lE' := HZ.out.2.2.2.2
                  obtain ⟨n8, hn8⟩ : ∃ n, X.length = n := ⟨_, rfl⟩
                  obtain ⟨m8, hm8⟩ : ∃ n, Y.length = n := ⟨_, rfl⟩
                  have J1 : ∀ V, Below W0.heap.size W0 V → Calls Tryz.prog 20 #[.agg #[.slice A k c, .slice B j d], .agg #[.slice A k c, .slice B j d]] V (fun e w' => ∃ A c B d, e = .returned (.tuple #[.agg #[.slice A k c, .slice B j d], .int .i64 0]) ∧ ForG w' A c B d N E ∧ Below V.heap.size V w') := fun V hb => by
                    have := join_for V A c B d N E A c B d N E (UP.out _ hb).2.2.1 (UP.out _ hb).2.2.1
                    unfold JoinG twoV at this
                    rw [jS.1, jS.2.1, jS.2.2, lN, lE] at this
                    exact this
                  have J2 : ∀ V, Below W0.heap.size W0 V → Calls Tryz.prog 20 #[.agg #[.slice A k c, .slice B j d], .agg #[.slice A' n' c', .slice B' m' d']] V (fun e w' => ∃ A c B d, e = .returned (.tuple #[.agg #[.slice A n8 c, .slice B m8 d], .int .i64 zx]) ∧ ForG w' A c B d X Y ∧ Below V.heap.size V w') := fun V hb => by
                    have := join_for V A c B d N E A' c' B' d' N' E' (UP.out _ hb).2.2.1 (UP.out _ hb).2.2.2.1
                    unfold JoinG twoV at this
                    rw [hX, hY, hzx, lN, lE, lN', lE', hn8, hm8] at this
                    exact this
                  have J3 : ∀ V, Below W0.heap.size W0 V → Calls Tryz.prog 20 #[.agg #[.slice A' n' c', .slice B' m' d'], .agg #[.slice A k c, .slice B j d]] V (fun e w' => ∃ A c B d, e = .returned (.tuple #[.agg #[.slice A n8 c, .slice B m8 d], .int .i64 zx]) ∧ ForG w' A c B d X Y ∧ Below V.heap.size V w') := fun V hb => by
                    have := join_for V A' c' B' d' N' E' A c B d N E (UP.out _ hb).2.2.2.1 (UP.out _ hb).2.2.1
                    unfold JoinG twoV at this
                    rw [← jC.1, ← jC.2.1, ← jC.2.2, lN, lE, lN', lE', hn8, hm8] at this
                    exact this
                  have hsx : ∀ (V : World) (A1 c1 B1 d1 A2 c2 B2 d2), ForG V A1 c1 B1 d1 X Y → ForG V A2 c2 B2 d2 X Y → Calls Tryz.prog 19 #[.agg #[.slice A1 n8 c1, .slice B1 m8 d1], .agg #[.slice A2 n8 c2, .slice B2 m8 d2]] V (Sam V (.bool true)) := fun V A1 c1 B1 d1 A2 c2 B2 d2 h h' => by
                    have := esame_any V A1 c1 B1 d1 X Y A2 c2 B2 d2 X Y h h'
                    rw [hn8, hm8, same_self] at this
                    exact this
                  have HJ1 := Lib.hid J1
                  have HJ2 := Lib.hid J2
                  have HJ3 := Lib.hid J3
                  have HSX := Lib.hid hsx
                  clear jS jC hX hY hzx lN lE lN' lE' hn8 hm8 J1 J2 J3 hsx
                  have q0 : W10.cell? ⟨w.heap.size, 0, none⟩ = some (.slice A k c) := (UP.out _ hB.out).1.cell 0
                  have q1 : W10.cell? ⟨w.heap.size, 1, none⟩ = some (.slice B j d) := (UP.out _ hB.out).1.cell 1
                  go_wp2_with fail
                  refine (HJ1.out W10 hB.out).mono ?_
                  rintro e W11 ⟨AA, cA, BA, dA, rfl, g11, b11⟩
                  have k12 := Blk.new W11 25 #[.slice AA k cA, .slice BA j dA]
                  have b12 : Below W11.heap.size W11 (W11.alloc (.cells #[.slice AA k cA, .slice BA j dA] 25)) := (Below.refl _ _).alloc (Nat.le_refl _) _
                  have HW12 := Lib.hid (And.intro (hB.out.trans ((b11.trans (b12.mono b11.size)).mono hB.out.size)) (And.intro k12 (g11.below b12)))
                  clear k12 b12 g11 b11 q0 q1
                  go_upto_region 27 with (fail)
                  generalize W11.alloc (.cells #[.slice AA k cA, .slice BA j dA] 25) = W12 at HW12 ⊢
                  have q0 : W12.cell? ⟨w.heap.size, 0, none⟩ = some (.slice A k c) := (UP.out _ HW12.out.1).1.cell 0
                  have q1 : W12.cell? ⟨w.heap.size, 1, none⟩ = some (.slice B j d) := (UP.out _ HW12.out.1).1.cell 1
                  have q2 : W12.cell? ⟨w.heap.size + 1, 0, none⟩ = some (.slice A' n' c') := (UP.out _ HW12.out.1).2.1.cell 0
                  have q3 : W12.cell? ⟨w.heap.size + 1, 1, none⟩ = some (.slice B' m' d') := (UP.out _ HW12.out.1).2.1.cell 1
                  go_wp2_with fail
                  refine (HJ2.out W12 HW12.out.1).mono ?_
                  rintro e W13 ⟨AX, cX, BX, dX, rfl, g13, b13⟩
                  have k14 := Blk.new W13 25 #[.slice AX n8 cX, .slice BX m8 dX]
                  have b14 : Below W13.heap.size W13 (W13.alloc (.cells #[.slice AX n8 cX, .slice BX m8 dX] 25)) := (Below.refl _ _).alloc (Nat.le_refl _) _
                  have bb := b13.trans (b14.mono b13.size)
                  have HW14 := Lib.hid (And.intro (HW12.out.1.trans (bb.mono HW12.out.1.size)) (And.intro k14 (And.intro (g13.below b14) (And.intro (HW12.out.2.1.upd (Upd.of_below bb (fun _ => False)) id) (HW12.out.2.2.below bb)))))
                  clear k14 b14 g13 b13 bb q0 q1 q2 q3
                  go_upto_region 28 with (fail)
                  generalize W13.alloc (.cells #[.slice AX n8 cX, .slice BX m8 dX] 25) = W14 at HW14 ⊢
                  have q0 : W14.cell? ⟨w.heap.size, 0, none⟩ = some (.slice A k c) := (UP.out _ HW14.out.1).1.cell 0
                  have q1 : W14.cell? ⟨w.heap.size, 1, none⟩ = some (.slice B j d) := (UP.out _ HW14.out.1).1.cell 1
                  have q2 : W14.cell? ⟨w.heap.size + 1, 0, none⟩ = some (.slice A' n' c') := (UP.out _ HW14.out.1).2.1.cell 0
                  have q3 : W14.cell? ⟨w.heap.size + 1, 1, none⟩ = some (.slice B' m' d') := (UP.out _ HW14.out.1).2.1.cell 1
                  go_wp2_with fail
                  refine (HJ3.out W14 HW14.out.1).mono ?_
                  rintro e W15 ⟨AY, cY, BY, dY, rfl, g15, b15⟩
                  have k16 := Blk.new W15 25 #[.slice AY n8 cY, .slice BY m8 dY]
                  have b16 : Below W15.heap.size W15 (W15.alloc (.cells #[.slice AY n8 cY, .slice BY m8 dY] 25)) := (Below.refl _ _).alloc (Nat.le_refl _) _
                  have bb := b15.trans (b16.mono b15.size)
                  have u := Upd.of_below bb (fun _ => False)
                  have HW16 := Lib.hid (And.intro (HW14.out.1.trans (bb.mono HW14.out.1.size)) (And.intro k16 (And.intro (g15.below b16) (And.intro (HW14.out.2.1.upd u id) (And.intro (HW14.out.2.2.1.below bb) (And.intro (HW14.out.2.2.2.1.upd u id) (HW14.out.2.2.2.2.below bb)))))))
                  clear k16 b16 g15 b15 bb u q0 q1 q2 q3 HW14 HW12
                  go_upto_region 29 with (fail)
                  generalize W15.alloc (.cells #[.slice AY n8 cY, .slice BY m8 dY] 25) = W16 at HW16 ⊢
                  have q0 : W16.cell? ⟨w.heap.size, 0, none⟩ = some (.slice A k c) := (UP.out _ HW16.out.1).1.cell 0
                  have q1 : W16.cell? ⟨w.heap.size, 1, none⟩ = some (.slice B j d) := (UP.out _ HW16.out.1).1.cell 1
                  have x0 : W16.cell? ⟨W11.heap.size, 0, none⟩ = some (.slice AA k cA) := HW16.out.2.2.2.2.2.1.cell 0
                  have x1 : W16.cell? ⟨W11.heap.size, 1, none⟩ = some (.slice BA j dA) := HW16.out.2.2.2.2.2.1.cell 1
                  go_wp2_with fail
                  refine (HSM.out W16 AA cA BA dA A c B d HW16.out.2.2.2.2.2.2 (UP.out _ HW16.out.1).2.2.1).mono ?_
                  rintro e W17 ⟨rfl, b17⟩
                  have u := Upd.of_below b17 (fun _ => False)
                  have HW17 := Lib.hid (And.intro (HW16.out.1.trans (b17.mono HW16.out.1.size)) (And.intro (HW16.out.2.1.upd u id) (And.intro (HW16.out.2.2.1.below b17) (And.intro (HW16.out.2.2.2.1.upd u id) (HW16.out.2.2.2.2.1.below b17)))))
                  clear b17 u q0 q1 x0 x1 HW16
                  have x0 : W17.cell? ⟨W13.heap.size, 0, none⟩ = some (.slice AX n8 cX) := HW17.out.2.2.2.1.cell 0
                  have x1 : W17.cell? ⟨W13.heap.size, 1, none⟩ = some (.slice BX m8 dX) := HW17.out.2.2.2.1.cell 1
                  have y0 : W17.cell? ⟨W15.heap.size, 0, none⟩ = some (.slice AY n8 cY) := HW17.out.2.1.cell 0
                  have y1 : W17.cell? ⟨W15.heap.size, 1, none⟩ = some (.slice BY m8 dY) := HW17.out.2.1.cell 1
                  go_wp2_with fail
                  refine (HSX.out W17 AX cX BX dX AY cY BY dY HW17.out.2.2.2.2 HW17.out.2.2.1).mono ?_
                  rintro e W18 ⟨rfl, b18⟩
                  have HW18 := Lib.hid (HW17.out.1.trans (b18.mono HW17.out.1.size))
                  clear b18 x0 x1 y0 y1 HW17
                  go_wp2_with fail
                  refine (awake_any W18).mono ?_
                  rintro e W19 ⟨rfl, b19⟩
                  have b := HW18.out.trans (b19.mono HW18.out.size)
                  have FIN := Lib.hid (UP.out _ b).2.2.2.2
                  clear b b19
                  go_wp2
                  go_ret
                  exact ⟨rfl, FIN.out⟩
end Go.Proofs.YthmkgnifcbnkpaaGreat
