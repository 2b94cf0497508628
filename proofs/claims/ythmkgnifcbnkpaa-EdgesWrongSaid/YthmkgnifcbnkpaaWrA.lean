/- The law EdgesWrong of layer 16: its walk. -/
import Derived.Test.YthmkgnifcbnkpaaBkA
import Derived.Test.YthmkgnifcbnkpaaPwB
import Derived.Test.YthmkgnifcbnkpaaOrdAny
namespace Go.Proofs.Ythmkgnifcbnkpaa
open Go.RowKit

def EL : List Txt := [⟨#[]⟩, ⟨#[59]⟩, ⟨#[32, 97, 59]⟩]
theorem EL_size {k : Nat} {x : Txt} (h : EL[k]? = some x) : x.size ≤ 3 := by
  match k, h with
  | 0, h => simp [EL] at h; subst h; decide
  | 1, h => simp [EL] at h; subst h; decide
  | 2, h => simp [EL] at h; subst h; decide
  | k + 3, h => simp [EL] at h
theorem parse_say (T : Txt) (w : World) (hT : T.size ≤ 9223372036854775807) : Calls Try.prog 5 #[.string T] w fun e w' =>
    ∃ A n c B m d, e = .returned (.tuple #[.agg #[.slice A n c, .slice B m d], .int .i64 (parseO T).pl, .int .i64 (parseO T).err]) ∧ Below w.heap.size w w' :=
  (parse_any T w hT).mono fun _e _w' ⟨A, c, B, d, he, _, _, hb⟩ => ⟨A, _, c, B, _, d, he, hb⟩
theorem ends_any (w : World) : Calls Try.prog 7 #[] w fun e w' =>
    e = .returned (.slice (some ⟨w.heap.size, 0, none⟩) 3 3) ∧ Blk w' w.heap.size 9 #[.string ⟨#[]⟩, .string ⟨#[59]⟩, .string ⟨#[32, 97, 59]⟩] ∧ Below w.heap.size w w' := by
  have k := Blk.new w 9 #[.string ⟨#[]⟩, .string ⟨#[59]⟩, .string ⟨#[32, 97, 59]⟩]
  have u0 : Below w.heap.size w (w.alloc (.cells #[.string ⟨#[]⟩, .string ⟨#[59]⟩, .string ⟨#[32, 97, 59]⟩] 9)) := (Below.refl _ _).alloc (Nat.le_refl _) _
  have H := Lib.hid (And.intro k u0)
  clear k u0
  go_enter Try.func7, Try.ntmps7
  go_wp2
  go_ret
  exact ⟨rfl, H.out⟩
set_option maxHeartbeats 1000000 in
theorem wword_any (n : Nat) (w : World) : Calls Try.prog 8 #[.int .u8 (n : Int)] w (Only w (.bool (letN n))) := by
  have key : ∀ b, letN n = b → Calls Try.prog 8 #[.int .u8 (n : Int)] w (Only w (.bool b)) := by
    intro b hb
    have HB := Lib.hid hb
    clear hb
    go_enter Try.func8, Try.ntmps8
    go_wp2
    all_goals
      go_ret
      refine ⟨retb ?_, rfl⟩
      rw [← HB.out, Bool.eq_iff_iff]
      simp [letN]
      try omega
  exact key _ rfl
theorem add_ok (a b : Txt) (h : a.size + b.size ≤ 100000) : ∀ w, (Op.stringOp .add a b).run Try.prog w = .ok (.string (a ++ b)) w := fun w => run_string_add_sum w a b (by omega)
theorem cut_txt (s x : Txt) (p : Nat) (hp : p ≤ s.size) : s.extract 0 p ++ x = toTxt (s.data.toList.take p ++ x.data.toList) := by
  refine txt_ext ?_
  rw [toTxt_data, data_app, ext_list s 0 p hp]
  simp
theorem size_ext (s : Txt) (p : Nat) (hp : p ≤ s.size) : (s.extract 0 p).size = p := by
  rw [← size_data, ext_list s 0 p hp]
  simp only [Nat.sub_zero, List.drop_zero, List.length_take, size_data]
  omega

set_option maxHeartbeats 8000000 in
set_option maxRecDepth 100000 in
theorem wrong_any (s : Txt) (w : World) (hs : s.size ≤ 9223372036854775807) :
    Calls Try.prog 3 #[.string s] w (Sam w (.bool true)) := by
  obtain ⟨p0, hp0⟩ : ∃ p, (parseO s).pl = p := ⟨_, rfl⟩
  obtain ⟨z0, hz0⟩ : ∃ z, (parseO s).err = z := ⟨_, rfl⟩
  have hpar := fun W => parse_say s W hs
  rw [hp0, hz0] at hpar
  have HP := Lib.hid (And.intro hp0 hz0)
  clear hp0 hz0
  go_enter Try.func3, Try.ntmps3
  go_wp2_with fail
  refine (hpar w).mono ?_
  rintro e W1 ⟨A, n1, c, B, m1, d, rfl, b1⟩
  have b2 : Below w.heap.size w (W1.alloc (.cells #[.slice A n1 c, .slice B m1 d] 25)) := b1.alloc b1.size _
  have HB2 := Lib.hid b2
  clear hpar b1 b2
  go_upto_region 2 with (fail)
  generalize W1.alloc (.cells #[.slice A n1 c, .slice B m1 d] 25) = W2 at HB2 ⊢
  by_cases hc : z0 = 172 ∧ s.size ≤ 2000
  rotate_left
  · have hc2 : z0 ≠ 172 ∨ (z0 = 172 ∧ 2000 < s.size) := by omega
    rcases hc2 with h | ⟨h, h2⟩
    · have hI : (z0 == 172) = false := by simpa using h
      go_wp2_with fail
      refine (awake_any W2).mono ?_
      rintro e W3 ⟨rfl, b3⟩
      have FIN := Lib.hid (HB2.out.trans (b3.mono HB2.out.size))
      clear b3
      go_wp2
      go_ret
      exact ⟨rfl, FIN.out⟩
    · have hI : (z0 == 172) = true := by simpa using h
      have h2I : (2000 : Int) < (s.size : Int) := by omega
      go_wp2_with fail
      refine (awake_any W2).mono ?_
      rintro e W3 ⟨rfl, b3⟩
      have FIN := Lib.hid (HB2.out.trans (b3.mono HB2.out.size))
      clear b3
      go_wp2
      go_ret
      exact ⟨rfl, FIN.out⟩
  obtain ⟨hz, hs2⟩ := hc
  subst hz
  obtain ⟨j, st, hW⟩ := wrong_at HP.out.2
  have hple : p0 ≤ s.size := by
    have := place_le s hW.hj
    rw [← hW.pl, HP.out.1] at this
    exact this
  have hs2I : ¬ ((2000 : Int) < (s.size : Int)) := by omega
  have hpI : ¬ ((s.size : Int) < (p0 : Int)) := by omega
  have HWW := Lib.hid hW
  clear hW
  go_wp2_with fail
  refine (ends_any W2).mono ?_
  rintro e W3 ⟨rfl, k3, b3⟩
  have H3 := Lib.hid (And.intro k3 (HB2.out.trans (b3.mono HB2.out.size)))
  have hz3 : W2.heap.size < W3.heap.size := k3.lt
  have hw2 := HB2.out.size
  clear k3 b3
  generalize hg : W2.heap.size = g at *
  have c0 : ∀ wr, Below W3.heap.size W3 wr → ∀ (k : Nat) (x : Txt), EL[k]? = some x → wr.cell? ⟨g, k, none⟩ = some (.string x) := fun wr hb k x hx => by
    have kw := H3.out.1.upd (Upd.of_below hb (fun _ => False)) id
    have h1 := kw.cell k
    match k, hx with
    | 0, hx => rw [h1]; simp [EL] at hx ⊢; exact hx
    | 1, hx => rw [h1]; simp [EL] at hx ⊢; exact hx
    | 2, hx => rw [h1]; simp [EL] at hx ⊢; exact hx
    | k + 3, hx => simp [EL] at hx
  have C0 := Lib.hid c0
  clear c0
  go_wp2_with fail
  go_loopw [6, 8] (fun gv iv wr => ∃ (k : Nat) (b : Bool), k ≤ 3 ∧ gv = .bool b ∧ iv = .int .i64 k ∧ Hid (Below W3.heap.size W3 wr) ∧ Hid (b = true ∨ ∀ (i : Nat) (x : Txt), i < k → EL[i]? = some x → (parseO (s.extract 0 p0 ++ x)).err = 172)) (fun _ iv _ => 3 - (intOf iv).toNat)
  case atStart => exact ⟨0, false, by omega, rfl, rfl, Lib.hid (Below.refl _ _), Lib.hid (.inr (fun i x hi => by omega))⟩
  case round =>
    obtain ⟨k, b, hk, rfl, rfl, hbr, hall⟩ := hrel
    by_cases hlt : k < 3
    · have hltI : (k : Int) < 3 := by omega
      obtain ⟨x, hx⟩ : ∃ x, EL[k]? = some x := ⟨EL[k]'(by simp [EL]; omega), List.getElem?_eq_getElem _⟩
      have hcx := C0.out wr hbr.out k x hx
      have hxs : x.size ≤ 3 := EL_size hx
      have hes := size_ext s p0 hple
      have hadd := add_ok (s.extract 0 p0) x (by omega)
      obtain ⟨T, hT⟩ : ∃ T, s.extract 0 p0 ++ x = T := ⟨_, rfl⟩
      have hT63 : T.size ≤ 9223372036854775807 := by rw [← hT, size_app]; omega
      rw [hT] at hadd
      have HX := Lib.hid (And.intro hx (And.intro hT hes))
      clear hx hT hes
      go_upto_region 11 with (fail)
      have hn := (show ∃ b2 : Bool, b2 = (b || !decide ((parseO T).err = 172)) from ⟨_, rfl⟩)
      obtain ⟨z, hz⟩ : ∃ z, (parseO T).err = z := ⟨_, rfl⟩
      obtain ⟨pT, hpT⟩ : ∃ z, (parseO T).pl = z := ⟨_, rfl⟩
      clear hn
      have HN : Hid ((b || !(z == 172)) = true ∨ ∀ (i : Nat) (x : Txt), i < k + 1 → EL[i]? = some x → (parseO (s.extract 0 p0 ++ x)).err = 172) := Lib.hid (by
        cases hb : b with
        | true => exact .inl rfl
        | false =>
          by_cases hz1 : z = 172
          · refine .inr (fun i y hi hy => ?_)
            rcases Nat.lt_succ_iff_lt_or_eq.1 hi with h | rfl
            · rcases hall.out with h1 | h1
              · rw [hb] at h1; cases h1
              · exact h1 i y h hy
            · rw [HX.out.1] at hy
              injection hy with hy
              rw [← hy, HX.out.2.1, hz, hz1]
          · exact .inl (by simp [hz1]))
      have hsay : ∀ V, Calls Try.prog 5 #[.string T] V fun e w' => ∃ A n c B m d, e = .returned (.tuple #[.agg #[.slice A n c, .slice B m d], .int .i64 pT, .int .i64 z]) ∧ Below V.heap.size V w' := fun V => by
        have := parse_say T V hT63
        rw [hz, hpT] at this
        exact this
      clear hz hpT
      have hS : wr.drew.cell? ⟨g, k, none⟩ = some (.string x) := hcx
      refine wp_region_any2 (fun w' => w'.cell? ⟨g, k, none⟩ = some (.string x)) (by kernel_rfl) (by kernel_rfl) hS ?_
      refine any_start (fun hd => ?_)
      (refine any_take (i := 0) (v := ?_) rfl (by kernel_rfl) hd (Nat.le_refl _) (fun _ _ d _ _ h => by cases d <;> exact h) hS (by first | with_reducible rfl | kernel_rfl) ?_ ?_; rotate_left; (focus (intro wS hS; (try dsimp only at hS); go_split_ands; go_simp; (try with_reducible rfl); done)); clear hd; intro hd; (try simp only [Act.put, List.getElem_toArray, List.getElem_cons_zero, List.setIfInBounds_toArray, List.set_cons_zero, List.set_cons_succ]))
      (refine any_take (i := 1) (v := ?_) rfl (by kernel_rfl) hd (Nat.le_refl _) (fun _ _ d _ _ h => by cases d <;> exact h) hS (by first | with_reducible rfl | kernel_rfl) ?_ ?_; rotate_left; (focus (intro wS hS; (try dsimp only at hS); go_split_ands; go_simp; (try with_reducible rfl); done)); clear hd; intro hd; (try simp only [Act.put, List.getElem_toArray, List.getElem_cons_succ, List.getElem_cons_zero, List.setIfInBounds_toArray, List.set_cons_zero, List.set_cons_succ]))
      (refine any_take (i := 2) (v := ?_) rfl (by kernel_rfl) hd (Nat.le_refl _) (fun _ _ d _ _ h => by cases d <;> exact h) hS (by first | with_reducible rfl | kernel_rfl) ?_ ?_; rotate_left; (focus (intro wS hS; (try dsimp only at hS); go_split_ands; go_simp; (try with_reducible rfl); done)); clear hd; intro hd; (try simp only [Act.put, List.getElem_toArray, List.getElem_cons_succ, List.getElem_cons_zero, List.setIfInBounds_toArray, List.set_cons_zero, List.set_cons_succ]))
      (refine any_take (i := 3) (v := ?_) rfl (by kernel_rfl) hd (Nat.le_refl _) (fun _ _ d _ _ h => by cases d <;> exact h) hS (by first | with_reducible rfl | kernel_rfl) ?_ ?_; rotate_left; (focus (intro wS hS; (try dsimp only at hS); go_split_ands; go_simp; (try with_reducible rfl); done)); clear hd; intro hd; (try simp only [Act.put, List.getElem_toArray, List.getElem_cons_succ, List.getElem_cons_zero, List.setIfInBounds_toArray, List.set_cons_zero, List.set_cons_succ]))
      (refine any_take (i := 4) (v := ?_) rfl (by kernel_rfl) hd (Nat.le_refl _) (fun _ _ d _ _ h => by cases d <;> exact h) hS (by first | with_reducible rfl | kernel_rfl) ?_ ?_; rotate_left; (focus (intro wS hS; (try dsimp only at hS); go_split_ands; go_simp; (try with_reducible rfl); done)); clear hd; intro hd; (try simp only [Act.put, List.getElem_toArray, List.getElem_cons_succ, List.getElem_cons_zero, List.setIfInBounds_toArray, List.set_cons_zero, List.set_cons_succ]))
      (refine any_take (i := 5) (v := ?_) rfl (by kernel_rfl) hd (Nat.le_refl _) (fun _ _ d _ _ h => by cases d <;> exact h) hS (by first | with_reducible rfl | kernel_rfl) ?_ ?_; rotate_left; (focus (intro wS hS; (try dsimp only at hS); go_split_ands; go_simp; (try with_reducible rfl); done)); clear hd; intro hd; (try simp only [Act.put, List.getElem_toArray, List.getElem_cons_succ, List.getElem_cons_zero, List.setIfInBounds_toArray, List.set_cons_zero, List.set_cons_succ]))
      (refine any_take (i := 6) (v := ?_) rfl (by kernel_rfl) hd (Nat.le_refl _) (fun _ _ d _ _ h => by cases d <;> exact h) hS (by first | with_reducible rfl | kernel_rfl) ?_ ?_; rotate_left; (focus (intro wS hS; (try dsimp only at hS); go_split_ands; go_simp; (try with_reducible rfl); done)); clear hd; intro hd; (try simp only [Act.put, List.getElem_toArray, List.getElem_cons_succ, List.getElem_cons_zero, List.setIfInBounds_toArray, List.set_cons_zero, List.set_cons_succ]))
      (refine any_take (i := 7) (v := ?_) rfl (by kernel_rfl) hd (Nat.le_refl _) (fun _ _ d _ _ h => by cases d <;> exact h) hS (by first | with_reducible rfl | kernel_rfl) ?_ ?_; rotate_left; (focus (intro wS hS; (try dsimp only at hS); go_split_ands; go_simp; (try with_reducible rfl); done)); clear hd; intro hd; (try simp only [Act.put, List.getElem_toArray, List.getElem_cons_succ, List.getElem_cons_zero, List.setIfInBounds_toArray, List.set_cons_zero, List.set_cons_succ]))
      refine any_run hd (L := [8, 13]) (by kernel_rfl) (by decide) (fun i hi hd2 => ?_)
      clear hd
      have hd := hd2
      clear hd2
      simp only [List.mem_cons, List.not_mem_nil, or_false] at hi
      rcases hi with rfl | rfl
      · refine any_do rfl rfl (fun K hK => ?_)
        go_simp
        refine (hsay wr.drew).mono ?_
        rintro e Wc ⟨A8, n8, c8, B8, m8, d8, rfl, b8⟩
        have hS8 : Wc.cell? ⟨g, k, none⟩ = some (.string x) := (b8.cell (p := ⟨g, k, none⟩) (World.block_lt_of_cell? _ _ hcx)).trans hS
        refine hK _ _ hS8 ?_
        clear hK K hS
        have hS := hS8
        clear hS8
        (try simp only [Act.put, List.getElem_toArray, List.getElem_cons_succ, List.getElem_cons_zero, List.setIfInBounds_toArray, List.set_cons_zero, List.set_cons_succ])
        (refine any_take (i := 9) (v := ?_) rfl (by kernel_rfl) hd (Nat.le_refl _) (fun _ _ d _ _ h => by cases d <;> exact h) hS (by first | with_reducible rfl | kernel_rfl) ?_ ?_; rotate_left; (focus (intro wS hS; (try dsimp only at hS); go_split_ands; go_simp; (try with_reducible rfl); done)); clear hd; intro hd; (try simp only [Act.put, List.getElem_toArray, List.getElem_cons_succ, List.getElem_cons_zero, List.setIfInBounds_toArray, List.set_cons_zero, List.set_cons_succ]))
        (refine any_take (i := 10) (v := ?_) rfl (by kernel_rfl) hd (Nat.le_refl _) (fun _ _ d _ _ h => by cases d <;> exact h) hS (by first | with_reducible rfl | kernel_rfl) ?_ ?_; rotate_left; (focus (intro wS hS; (try dsimp only at hS); go_split_ands; go_simp; (try with_reducible rfl); done)); clear hd; intro hd; (try simp only [Act.put, List.getElem_toArray, List.getElem_cons_succ, List.getElem_cons_zero, List.setIfInBounds_toArray, List.set_cons_zero, List.set_cons_succ]))
        (refine any_take (i := 11) (v := ?_) rfl (by kernel_rfl) hd (Nat.le_refl _) (fun _ _ d _ _ h => by cases d <;> exact h) hS (by first | with_reducible rfl | kernel_rfl) ?_ ?_; rotate_left; (focus (intro wS hS; (try dsimp only at hS); go_split_ands; go_simp; (try with_reducible rfl); done)); clear hd; intro hd; (try simp only [Act.put, List.getElem_toArray, List.getElem_cons_succ, List.getElem_cons_zero, List.setIfInBounds_toArray, List.set_cons_zero, List.set_cons_succ]))
        (refine any_take (i := 12) (v := ?_) rfl (by kernel_rfl) hd (Nat.le_refl _) (fun _ _ d _ _ h => by cases d <;> exact h) hS (by first | with_reducible rfl | kernel_rfl) ?_ ?_; rotate_left; (focus (intro wS hS; (try dsimp only at hS); go_split_ands; go_simp; (try with_reducible rfl); done)); clear hd; intro hd; (try simp only [Act.put, List.getElem_toArray, List.getElem_cons_succ, List.getElem_cons_zero, List.setIfInBounds_toArray, List.set_cons_zero, List.set_cons_succ]))
        have kN := Blk.new Wc 25 #[.slice none 0 0, .slice none 0 0]
        have hz8 : wr.heap.size ≤ Wc.heap.size := b8.size
        have hS9 : (Wc.alloc (.cells #[.slice none 0 0, .slice none 0 0] 25)).cell? ⟨g, k, none⟩ = some (.string x) := (World.cell?_alloc_lt Wc _ ⟨g, k, none⟩ (World.block_lt_of_cell? _ _ hS)).trans hS
        have b9 : Below wr.heap.size wr (Wc.alloc (.cells #[.slice A8 n8 c8, .slice B8 m8 d8] 25)) := ((Below.refl wr.heap.size wr).drew.trans b8).alloc hz8 _
        have q0 := kN.cell 0
        have q1 := kN.cell 1
        have f0 := kN.frozen 0
        have f1 := kN.frozen 1
        simp only [List.getElem?_toArray, List.getElem?_cons_succ, List.getElem?_cons_zero] at q0 q1
        have hlt8 := World.block_lt_of_cell? _ _ hS9
        refine any_run hd (L := [13]) (by kernel_rfl) (by decide) (fun i hi hd2 => ?_)
        obtain rfl := List.mem_singleton.1 hi
        refine any_do rfl rfl (fun K hK => ?_)
        go_simp
        refine hK _ _ hS9 ?_
        clear hK K
        (try simp only [Act.put, List.getElem_toArray, List.getElem_cons_succ, List.getElem_cons_zero, List.setIfInBounds_toArray, List.set_cons_zero, List.set_cons_succ])
        refine any_run hd2 (L := [14]) (by kernel_rfl) (by decide) (fun i hi hd3 => ?_)
        obtain rfl := List.mem_singleton.1 hi
        refine any_do rfl rfl (fun K hK => ?_)
        go_simp
        have hgl : g < wr.heap.size := World.block_lt_of_cell? _ _ hcx
        have hS10 : (Wc.alloc (.cells #[.slice A8 n8 c8, .slice B8 m8 d8] 25)).cell? ⟨g, k, none⟩ = some (.string x) :=
          (b9.cell (p := ⟨g, k, none⟩) hgl).trans hcx
        refine hK _ _ hS10 ?_
        clear hK K hS hS9 hd hd2 q0 q1 f0 f1 kN hlt8
        have hS := hS10
        have hd := hd3
        clear hS10 hd3
        (try simp only [Act.put, List.getElem_toArray, List.getElem_cons_succ, List.getElem_cons_zero, List.setIfInBounds_toArray, List.set_cons_zero, List.set_cons_succ])
        (refine any_take (i := 15) (v := ?_) rfl (by kernel_rfl) hd (Nat.le_refl _) (fun _ _ d _ _ h => by cases d <;> exact h) hS (by first | with_reducible rfl | kernel_rfl) ?_ ?_; rotate_left; (focus (intro wS hS; (try dsimp only at hS); go_split_ands; go_simp; (try with_reducible rfl); done)); clear hd; intro hd; (try simp only [Act.put, List.getElem_toArray, List.getElem_cons_succ, List.getElem_cons_zero, List.setIfInBounds_toArray, List.set_cons_zero, List.set_cons_succ]))
        (refine any_take (i := 16) (v := ?_) rfl (by kernel_rfl) hd (Nat.le_refl _) (fun _ _ d _ _ h => by cases d <;> exact h) hS (by first | with_reducible rfl | kernel_rfl) ?_ ?_; rotate_left; (focus (intro wS hS; (try dsimp only at hS); go_split_ands; go_simp; (try with_reducible rfl); done)); clear hd; intro hd; (try simp only [Act.put, List.getElem_toArray, List.getElem_cons_succ, List.getElem_cons_zero, List.setIfInBounds_toArray, List.set_cons_zero, List.set_cons_succ]))
        refine any_done (by kernel_rfl) ?_
        have HB9 := Lib.hid b9
        generalize Wc.alloc (.cells #[.slice A8 n8 c8, .slice B8 m8 d8] 25) = WE at HB9 ⊢
        clear b9 b8 hd hS hgl
        go_wp2
        all_goals
          go_roundw
          case rel => exact ⟨k + 1, _, by omega, rfl, by go_num, Lib.hid (hbr.out.trans (HB9.out.mono hbr.out.size)), by first | exact HN | exact Lib.hid (.inl rfl) | (exact Lib.hid (by have h := HN.out; have hb : b = false := (by have h9 : ¬ b = true := (by assumption); simpa using h9); rw [hb] at h; simpa using h))⟩
          case measure => simp [intOf]; omega
      · have kN := Blk.new wr.drew 25 #[.slice none 0 0, .slice none 0 0]
        have hgl : g < wr.heap.size := World.block_lt_of_cell? _ _ hcx
        have hS9 : (wr.drew.alloc (.cells #[.slice none 0 0, .slice none 0 0] 25)).cell? ⟨g, k, none⟩ = some (.string x) := (World.cell?_alloc_lt wr.drew _ ⟨g, k, none⟩ hgl).trans hS
        refine any_do rfl rfl (fun K hK => ?_)
        go_simp
        refine hK _ _ hS9 ?_
        clear hK K
        (try simp only [Act.put, List.getElem_toArray, List.getElem_cons_succ, List.getElem_cons_zero, List.setIfInBounds_toArray, List.set_cons_zero, List.set_cons_succ])
        refine any_run hd (L := [8]) (by kernel_rfl) (by decide) (fun i hi hd2 => ?_)
        obtain rfl := List.mem_singleton.1 hi
        refine any_do rfl rfl (fun K hK => ?_)
        go_simp
        have bA : Below wr.heap.size wr (wr.alloc (.cells #[.slice none 0 0, .slice none 0 0] 25)).drew := ((Below.refl wr.heap.size wr).alloc (Nat.le_refl _) _).drew
        have kN := (Blk.new wr 25 #[.slice none 0 0, .slice none 0 0]).drew
        have hS9 : (wr.alloc (.cells #[.slice none 0 0, .slice none 0 0] 25)).drew.cell? ⟨g, k, none⟩ = some (.string x) := hS9
        have HA := Lib.hid (And.intro kN bA)
        generalize (wr.alloc (.cells #[.slice none 0 0, .slice none 0 0] 25)).drew = WA at HA hS9 ⊢
        clear kN bA
        refine (hsay WA).mono ?_
        rintro e Wc ⟨A8, n8, c8, B8, m8, d8, rfl, b8⟩
        have hS8 : Wc.cell? ⟨g, k, none⟩ = some (.string x) := (b8.cell (p := ⟨g, k, none⟩) (World.block_lt_of_cell? _ _ hS9)).trans hS9
        refine hK _ _ hS8 ?_
        clear hK K hS hd
        have hS := hS8
        have hd := hd2
        clear hS8 hd2
        (try simp only [Act.put, List.getElem_toArray, List.getElem_cons_succ, List.getElem_cons_zero, List.setIfInBounds_toArray, List.set_cons_zero, List.set_cons_succ])
        (refine any_take (i := 9) (v := ?_) rfl (by kernel_rfl) hd (Nat.le_refl _) (fun _ _ d _ _ h => by cases d <;> exact h) hS (by first | with_reducible rfl | kernel_rfl) ?_ ?_; rotate_left; (focus (intro wS hS; (try dsimp only at hS); go_split_ands; go_simp; (try with_reducible rfl); done)); clear hd; intro hd; (try simp only [Act.put, List.getElem_toArray, List.getElem_cons_succ, List.getElem_cons_zero, List.setIfInBounds_toArray, List.set_cons_zero, List.set_cons_succ]))
        (refine any_take (i := 10) (v := ?_) rfl (by kernel_rfl) hd (Nat.le_refl _) (fun _ _ d _ _ h => by cases d <;> exact h) hS (by first | with_reducible rfl | kernel_rfl) ?_ ?_; rotate_left; (focus (intro wS hS; (try dsimp only at hS); go_split_ands; go_simp; (try with_reducible rfl); done)); clear hd; intro hd; (try simp only [Act.put, List.getElem_toArray, List.getElem_cons_succ, List.getElem_cons_zero, List.setIfInBounds_toArray, List.set_cons_zero, List.set_cons_succ]))
        (refine any_take (i := 11) (v := ?_) rfl (by kernel_rfl) hd (Nat.le_refl _) (fun _ _ d _ _ h => by cases d <;> exact h) hS (by first | with_reducible rfl | kernel_rfl) ?_ ?_; rotate_left; (focus (intro wS hS; (try dsimp only at hS); go_split_ands; go_simp; (try with_reducible rfl); done)); clear hd; intro hd; (try simp only [Act.put, List.getElem_toArray, List.getElem_cons_succ, List.getElem_cons_zero, List.setIfInBounds_toArray, List.set_cons_zero, List.set_cons_succ]))
        (refine any_take (i := 12) (v := ?_) rfl (by kernel_rfl) hd (Nat.le_refl _) (fun _ _ d _ _ h => by cases d <;> exact h) hS (by first | with_reducible rfl | kernel_rfl) ?_ ?_; rotate_left; (focus (intro wS hS; (try dsimp only at hS); go_split_ands; go_simp; (try with_reducible rfl); done)); clear hd; intro hd; (try simp only [Act.put, List.getElem_toArray, List.getElem_cons_succ, List.getElem_cons_zero, List.setIfInBounds_toArray, List.set_cons_zero, List.set_cons_succ]))
        have kM : Blk Wc wr.heap.size 25 #[.slice none 0 0, .slice none 0 0] := HA.out.1.upd (Upd.of_below b8 (fun _ => False)) id
        have q0 := kM.cell 0
        have q1 := kM.cell 1
        have f0 := kM.frozen 0
        have f1 := kM.frozen 1
        simp only [List.getElem?_toArray, List.getElem?_cons_succ, List.getElem?_cons_zero] at q0 q1
        have hz8 : wr.heap.size ≤ Wc.heap.size := by have := kM.lt; omega
        have b9 : Below wr.heap.size wr ((Wc.setCell ⟨wr.heap.size, 0, none⟩ (.slice A8 n8 c8)).setCell ⟨wr.heap.size, 1, none⟩ (.slice B8 m8 d8)) :=
          ((HA.out.2.trans (b8.mono HA.out.2.size)).setCell (p := ⟨wr.heap.size, 0, none⟩) (Nat.le_refl _) _).setCell (p := ⟨wr.heap.size, 1, none⟩) (Nat.le_refl _) _
        refine any_run hd (L := [14]) (by kernel_rfl) (by decide) (fun i hi hd3 => ?_)
        obtain rfl := List.mem_singleton.1 hi
        refine any_do rfl rfl (fun K hK => ?_)
        go_simp
        have hS10 : ((Wc.setCell ⟨wr.heap.size, 0, none⟩ (.slice A8 n8 c8)).setCell ⟨wr.heap.size, 1, none⟩ (.slice B8 m8 d8)).cell? ⟨g, k, none⟩ = some (.string x) :=
          (b9.cell (p := ⟨g, k, none⟩) hgl).trans hcx
        refine hK _ _ hS10 ?_
        clear hK K hS hd q0 q1 f0 f1 kM
        have hS := hS10
        have hd := hd3
        clear hS10 hd3
        (try simp only [Act.put, List.getElem_toArray, List.getElem_cons_succ, List.getElem_cons_zero, List.setIfInBounds_toArray, List.set_cons_zero, List.set_cons_succ])
        (refine any_take (i := 15) (v := ?_) rfl (by kernel_rfl) hd (Nat.le_refl _) (fun _ _ d _ _ h => by cases d <;> exact h) hS (by first | with_reducible rfl | kernel_rfl) ?_ ?_; rotate_left; (focus (intro wS hS; (try dsimp only at hS); go_split_ands; go_simp; (try with_reducible rfl); done)); clear hd; intro hd; (try simp only [Act.put, List.getElem_toArray, List.getElem_cons_succ, List.getElem_cons_zero, List.setIfInBounds_toArray, List.set_cons_zero, List.set_cons_succ]))
        (refine any_take (i := 16) (v := ?_) rfl (by kernel_rfl) hd (Nat.le_refl _) (fun _ _ d _ _ h => by cases d <;> exact h) hS (by first | with_reducible rfl | kernel_rfl) ?_ ?_; rotate_left; (focus (intro wS hS; (try dsimp only at hS); go_split_ands; go_simp; (try with_reducible rfl); done)); clear hd; intro hd; (try simp only [Act.put, List.getElem_toArray, List.getElem_cons_succ, List.getElem_cons_zero, List.setIfInBounds_toArray, List.set_cons_zero, List.set_cons_succ]))
        refine any_done (by kernel_rfl) ?_
        have HB9 := Lib.hid b9
        generalize (Wc.setCell ⟨wr.heap.size, 0, none⟩ (.slice A8 n8 c8)).setCell ⟨wr.heap.size, 1, none⟩ (.slice B8 m8 d8) = WE at HB9 ⊢
        clear b9 b8 hd hS hgl
        go_wp2
        all_goals
          go_roundw
          case rel => exact ⟨k + 1, _, by omega, rfl, by go_num, Lib.hid (hbr.out.trans (HB9.out.mono hbr.out.size)), by first | exact HN | exact Lib.hid (.inl rfl) | (exact Lib.hid (by have h := HN.out; have hb : b = false := (by have h9 : ¬ b = true := (by assumption); simpa using h9); rw [hb] at h; simpa using h))⟩
          case measure => simp [intOf]; omega
    · have hltI : ¬ ((k : Int) < 3) := by omega
      have hb : b = true := by
        rcases hall.out with h | h
        · exact h
        · exfalso
          have hall3 := wrong_goes HWW.out
          rw [HP.out.1] at hall3
          have a0 := h 0 ⟨#[]⟩ (by omega) rfl
          have a1 := h 1 ⟨#[59]⟩ (by omega) rfl
          have a2 := h 2 ⟨#[32, 97, 59]⟩ (by omega) rfl
          rw [cut_txt s _ p0 hple] at a0 a1 a2
          rcases hall3 with h1 | h1 | h1
          · exact h1 a0
          · exact h1 a1
          · exact h1 a2
      subst hb
      clear hall
      by_cases hend : p0 = s.size
      · have hendI : (s.size : Int) = (p0 : Int) := by omega
        go_wp2_with fail
        refine (awake_any wr).mono ?_
        rintro e W9 ⟨rfl, b9⟩
        have FIN := Lib.hid ((H3.out.2.trans (hbr.out.mono H3.out.2.size)).trans (b9.mono (H3.out.2.trans (hbr.out.mono H3.out.2.size)).size))
        clear b9
        go_wp2
        go_ret
        exact ⟨rfl, FIN.out⟩
      · have hplt : p0 < s.size := by omega
        have hpn : ((p0 : Int) == (s.size : Int)) = false := by simp; omega
        obtain ⟨c1, hc1⟩ : ∃ c, s[p0].toNat = c := ⟨_, rfl⟩
        obtain ⟨lb, hlb⟩ : ∃ b, letN c1 = b := ⟨_, rfl⟩
        have hgo : goesTo s.data.toList p0 = if lb then p0 + 1 + (wordL (s.data.toList.drop (p0 + 1))).length else p0 + 1 := by
          unfold goesTo
          rw [drop_at hplt]
          dsimp only
          rw [hc1, hlb]
        have HG := Lib.hid hgo
        clear hgo
        go_wp2_with fail
        go_loop [12] (fun jv => ∃ q : Nat, p0 + 1 ≤ q ∧ q ≤ s.size ∧ jv = .int .i64 q ∧ Hid ((lb = true → q + (wordL (s.data.toList.drop q)).length = goesTo s.data.toList p0) ∧ (lb = false → q = p0 + 1))) (fun jv => s.size - (intOf jv).toNat)
        case atStart => exact ⟨p0 + 1, Nat.le_refl _, by omega, by go_num, Lib.hid ⟨fun h => by rw [HG.out, if_pos h], fun _ => rfl⟩⟩
        case round =>
          obtain ⟨q, hq1, hq2, rfl, hq⟩ := hrel
          by_cases hql : q < s.size
          · have hqI : (q : Int) < (s.size : Int) := by omega
            cases hlb2 : lb with
            | false =>
              have hlb3 : letN c1 = false := by rw [hlb, hlb2]
              have HQ9 : Hid (q = goesTo s.data.toList p0) := Lib.hid (by rw [HG.out, hlb2, hq.out.2 hlb2]; rfl)
              go_wp2_with fail
              refine (wword_any _ _).mono ?_
              rintro e W8 ⟨rfl, hw8⟩; subst W8
              go_wp2_with fail
              go_loopw [13] (fun iv wr => ∃ k : Nat, k ≤ 3 ∧ iv = .int .i64 k ∧ Hid (Below W3.heap.size W3 wr)) (fun iv _ => 3 - (intOf iv).toNat)
              case atStart => exact ⟨0, by omega, rfl, hbr⟩
              case round =>
                obtain ⟨k, hk, rfl, hbr⟩ := hrel
                by_cases hlt : k < 3
                · have hltI : (k : Int) < 3 := by omega
                  obtain ⟨x, hx⟩ : ∃ x, EL[k]? = some x := ⟨EL[k]'(by simp [EL]; omega), List.getElem?_eq_getElem _⟩
                  have hcx := C0.out wr hbr.out k x hx
                  have hxs : x.size ≤ 3 := EL_size hx
                  have hes := size_ext s q hq2
                  have hadd := add_ok (s.extract 0 q) ⟨#[32]⟩ (by rw [hes]; show q + 1 ≤ _; omega)
                  obtain ⟨T1, hT1⟩ : ∃ T, s.extract 0 q ++ ⟨#[32]⟩ = T := ⟨_, rfl⟩
                  rw [hT1] at hadd
                  have hT1s : T1.size = q + 1 := by rw [← hT1, size_app, hes]; rfl
                  have hadd2 := add_ok T1 x (by omega)
                  obtain ⟨T, hT⟩ : ∃ T, T1 ++ x = T := ⟨_, rfl⟩
                  rw [hT] at hadd2
                  have hT63 : T.size ≤ 9223372036854775807 := by rw [← hT, size_app]; omega
                  have hTT : T = toTxt (s.data.toList.take (goesTo s.data.toList p0) ++ (32 :: x.data.toList)) := by
                    rw [← hT, ← hT1, ← HQ9.out]
                    refine txt_ext ?_
                    rw [toTxt_data, data_app, data_app, ext_list s 0 q hq2]
                    simp
                  have hst := wrong_stays HWW.out hs2 (by rw [HP.out.1]; exact hplt) x.data.toList (by rw [size_data]; exact hxs)
                  rw [HP.out.1, ← hTT] at hst
                  have hsay : ∀ V, Calls Try.prog 5 #[.string T] V fun e w' => ∃ A n c B m d, e = .returned (.tuple #[.agg #[.slice A n c, .slice B m d], .int .i64 p0, .int .i64 172]) ∧ Below V.heap.size V w' := fun V => by
                    have := parse_say T V hT63
                    rw [hst.1, hst.2] at this
                    exact this
                  clear hx hT hT1 hTT hst hes hT1s
                  go_upto_region 23 with (fail)
                  have hS : wr.drew.cell? ⟨g, k, none⟩ = some (.string x) := hcx
                  refine wp_region_any2 (fun w' => w'.cell? ⟨g, k, none⟩ = some (.string x)) (by kernel_rfl) (by kernel_rfl) hS ?_
                  refine any_start (fun hd => ?_)
                  (refine any_take (i := 0) (v := ?_) rfl (by kernel_rfl) hd (Nat.le_refl _) (fun _ _ d _ _ h => by cases d <;> exact h) hS (by first | with_reducible rfl | kernel_rfl) ?_ ?_; rotate_left; (focus (intro wS hS; (try dsimp only at hS); go_split_ands; go_simp; (try with_reducible rfl); done)); clear hd; intro hd; (try simp only [Act.put, List.getElem_toArray, List.getElem_cons_zero, List.setIfInBounds_toArray, List.set_cons_zero, List.set_cons_succ]))
                  (refine any_take (i := 1) (v := ?_) rfl (by kernel_rfl) hd (Nat.le_refl _) (fun _ _ d _ _ h => by cases d <;> exact h) hS (by first | with_reducible rfl | kernel_rfl) ?_ ?_; rotate_left; (focus (intro wS hS; (try dsimp only at hS); go_split_ands; go_simp; (try with_reducible rfl); done)); clear hd; intro hd; (try simp only [Act.put, List.getElem_toArray, List.getElem_cons_succ, List.getElem_cons_zero, List.setIfInBounds_toArray, List.set_cons_zero, List.set_cons_succ]))
                  (refine any_take (i := 2) (v := ?_) rfl (by kernel_rfl) hd (Nat.le_refl _) (fun _ _ d _ _ h => by cases d <;> exact h) hS (by first | with_reducible rfl | kernel_rfl) ?_ ?_; rotate_left; (focus (intro wS hS; (try dsimp only at hS); go_split_ands; go_simp; (try with_reducible rfl); done)); clear hd; intro hd; (try simp only [Act.put, List.getElem_toArray, List.getElem_cons_succ, List.getElem_cons_zero, List.setIfInBounds_toArray, List.set_cons_zero, List.set_cons_succ]))
                  (refine any_take (i := 3) (v := ?_) rfl (by kernel_rfl) hd (Nat.le_refl _) (fun _ _ d _ _ h => by cases d <;> exact h) hS (by first | with_reducible rfl | kernel_rfl) ?_ ?_; rotate_left; (focus (intro wS hS; (try dsimp only at hS); go_split_ands; go_simp; (try with_reducible rfl); done)); clear hd; intro hd; (try simp only [Act.put, List.getElem_toArray, List.getElem_cons_succ, List.getElem_cons_zero, List.setIfInBounds_toArray, List.set_cons_zero, List.set_cons_succ]))
                  (refine any_take (i := 4) (v := ?_) rfl (by kernel_rfl) hd (Nat.le_refl _) (fun _ _ d _ _ h => by cases d <;> exact h) hS (by first | with_reducible rfl | kernel_rfl) ?_ ?_; rotate_left; (focus (intro wS hS; (try dsimp only at hS); go_split_ands; go_simp; (try with_reducible rfl); done)); clear hd; intro hd; (try simp only [Act.put, List.getElem_toArray, List.getElem_cons_succ, List.getElem_cons_zero, List.setIfInBounds_toArray, List.set_cons_zero, List.set_cons_succ]))
                  (refine any_take (i := 5) (v := ?_) rfl (by kernel_rfl) hd (Nat.le_refl _) (fun _ _ d _ _ h => by cases d <;> exact h) hS (by first | with_reducible rfl | kernel_rfl) ?_ ?_; rotate_left; (focus (intro wS hS; (try dsimp only at hS); go_split_ands; go_simp; (try with_reducible rfl); done)); clear hd; intro hd; (try simp only [Act.put, List.getElem_toArray, List.getElem_cons_succ, List.getElem_cons_zero, List.setIfInBounds_toArray, List.set_cons_zero, List.set_cons_succ]))
                  (refine any_take (i := 6) (v := ?_) rfl (by kernel_rfl) hd (Nat.le_refl _) (fun _ _ d _ _ h => by cases d <;> exact h) hS (by first | with_reducible rfl | kernel_rfl) ?_ ?_; rotate_left; (focus (intro wS hS; (try dsimp only at hS); go_split_ands; go_simp; (try with_reducible rfl); done)); clear hd; intro hd; (try simp only [Act.put, List.getElem_toArray, List.getElem_cons_succ, List.getElem_cons_zero, List.setIfInBounds_toArray, List.set_cons_zero, List.set_cons_succ]))
                  (refine any_take (i := 7) (v := ?_) rfl (by kernel_rfl) hd (Nat.le_refl _) (fun _ _ d _ _ h => by cases d <;> exact h) hS (by first | with_reducible rfl | kernel_rfl) ?_ ?_; rotate_left; (focus (intro wS hS; (try dsimp only at hS); go_split_ands; go_simp; (try with_reducible rfl); done)); clear hd; intro hd; (try simp only [Act.put, List.getElem_toArray, List.getElem_cons_succ, List.getElem_cons_zero, List.setIfInBounds_toArray, List.set_cons_zero, List.set_cons_succ]))
                  (refine any_take (i := 8) (v := ?_) rfl (by kernel_rfl) hd (Nat.le_refl _) (fun _ _ d _ _ h => by cases d <;> exact h) hS (by first | with_reducible rfl | kernel_rfl) ?_ ?_; rotate_left; (focus (intro wS hS; (try dsimp only at hS); go_split_ands; go_simp; (try with_reducible rfl); done)); clear hd; intro hd; (try simp only [Act.put, List.getElem_toArray, List.getElem_cons_succ, List.getElem_cons_zero, List.setIfInBounds_toArray, List.set_cons_zero, List.set_cons_succ]))
                  refine any_run hd (L := [9, 14]) (by kernel_rfl) (by decide) (fun i hi hd2 => ?_)
                  clear hd
                  have hd := hd2
                  clear hd2
                  simp only [List.mem_cons, List.not_mem_nil, or_false] at hi
                  rcases hi with rfl | rfl
                  · refine any_do rfl rfl (fun K hK => ?_)
                    go_simp
                    refine (hsay wr.drew).mono ?_
                    rintro e Wc ⟨A8, n8, c8, B8, m8, d8, rfl, b8⟩
                    have hS8 : Wc.cell? ⟨g, k, none⟩ = some (.string x) := (b8.cell (p := ⟨g, k, none⟩) (World.block_lt_of_cell? _ _ hcx)).trans hS
                    refine hK _ _ hS8 ?_
                    clear hK K hS
                    have hS := hS8
                    clear hS8
                    (try simp only [Act.put, List.getElem_toArray, List.getElem_cons_succ, List.getElem_cons_zero, List.setIfInBounds_toArray, List.set_cons_zero, List.set_cons_succ])
                    (refine any_take (i := 10) (v := ?_) rfl (by kernel_rfl) hd (Nat.le_refl _) (fun _ _ d _ _ h => by cases d <;> exact h) hS (by first | with_reducible rfl | kernel_rfl) ?_ ?_; rotate_left; (focus (intro wS hS; (try dsimp only at hS); go_split_ands; go_simp; (try with_reducible rfl); done)); clear hd; intro hd; (try simp only [Act.put, List.getElem_toArray, List.getElem_cons_succ, List.getElem_cons_zero, List.setIfInBounds_toArray, List.set_cons_zero, List.set_cons_succ]))
                    (refine any_take (i := 11) (v := ?_) rfl (by kernel_rfl) hd (Nat.le_refl _) (fun _ _ d _ _ h => by cases d <;> exact h) hS (by first | with_reducible rfl | kernel_rfl) ?_ ?_; rotate_left; (focus (intro wS hS; (try dsimp only at hS); go_split_ands; go_simp; (try with_reducible rfl); done)); clear hd; intro hd; (try simp only [Act.put, List.getElem_toArray, List.getElem_cons_succ, List.getElem_cons_zero, List.setIfInBounds_toArray, List.set_cons_zero, List.set_cons_succ]))
                    (refine any_take (i := 12) (v := ?_) rfl (by kernel_rfl) hd (Nat.le_refl _) (fun _ _ d _ _ h => by cases d <;> exact h) hS (by first | with_reducible rfl | kernel_rfl) ?_ ?_; rotate_left; (focus (intro wS hS; (try dsimp only at hS); go_split_ands; go_simp; (try with_reducible rfl); done)); clear hd; intro hd; (try simp only [Act.put, List.getElem_toArray, List.getElem_cons_succ, List.getElem_cons_zero, List.setIfInBounds_toArray, List.set_cons_zero, List.set_cons_succ]))
                    (refine any_take (i := 13) (v := ?_) rfl (by kernel_rfl) hd (Nat.le_refl _) (fun _ _ d _ _ h => by cases d <;> exact h) hS (by first | with_reducible rfl | kernel_rfl) ?_ ?_; rotate_left; (focus (intro wS hS; (try dsimp only at hS); go_split_ands; go_simp; (try with_reducible rfl); done)); clear hd; intro hd; (try simp only [Act.put, List.getElem_toArray, List.getElem_cons_succ, List.getElem_cons_zero, List.setIfInBounds_toArray, List.set_cons_zero, List.set_cons_succ]))
                    have kN := Blk.new Wc 25 #[.slice none 0 0, .slice none 0 0]
                    have hz8 : wr.heap.size ≤ Wc.heap.size := b8.size
                    have hS9 : (Wc.alloc (.cells #[.slice none 0 0, .slice none 0 0] 25)).cell? ⟨g, k, none⟩ = some (.string x) := (World.cell?_alloc_lt Wc _ ⟨g, k, none⟩ (World.block_lt_of_cell? _ _ hS)).trans hS
                    have b9 : Below wr.heap.size wr (Wc.alloc (.cells #[.slice A8 n8 c8, .slice B8 m8 d8] 25)) := ((Below.refl wr.heap.size wr).drew.trans b8).alloc hz8 _
                    have q0 := kN.cell 0
                    have q1 := kN.cell 1
                    have f0 := kN.frozen 0
                    have f1 := kN.frozen 1
                    simp only [List.getElem?_toArray, List.getElem?_cons_succ, List.getElem?_cons_zero] at q0 q1
                    have hlt8 := World.block_lt_of_cell? _ _ hS9
                    refine any_run hd (L := [14]) (by kernel_rfl) (by decide) (fun i hi hd2 => ?_)
                    obtain rfl := List.mem_singleton.1 hi
                    refine any_do rfl rfl (fun K hK => ?_)
                    go_simp
                    refine hK _ _ hS9 ?_
                    clear hK K
                    (try simp only [Act.put, List.getElem_toArray, List.getElem_cons_succ, List.getElem_cons_zero, List.setIfInBounds_toArray, List.set_cons_zero, List.set_cons_succ])
                    refine any_run hd2 (L := [15]) (by kernel_rfl) (by decide) (fun i hi hd3 => ?_)
                    obtain rfl := List.mem_singleton.1 hi
                    refine any_do rfl rfl (fun K hK => ?_)
                    go_simp
                    have hgl : g < wr.heap.size := World.block_lt_of_cell? _ _ hcx
                    have hS10 : (Wc.alloc (.cells #[.slice A8 n8 c8, .slice B8 m8 d8] 25)).cell? ⟨g, k, none⟩ = some (.string x) :=
                      (b9.cell (p := ⟨g, k, none⟩) hgl).trans hcx
                    refine hK _ _ hS10 ?_
                    clear hK K hS hS9 hd hd2 q0 q1 f0 f1 kN hlt8
                    have hS := hS10
                    have hd := hd3
                    clear hS10 hd3
                    (try simp only [Act.put, List.getElem_toArray, List.getElem_cons_succ, List.getElem_cons_zero, List.setIfInBounds_toArray, List.set_cons_zero, List.set_cons_succ])
                    (refine any_take (i := 16) (v := ?_) rfl (by kernel_rfl) hd (Nat.le_refl _) (fun _ _ d _ _ h => by cases d <;> exact h) hS (by first | with_reducible rfl | kernel_rfl) ?_ ?_; rotate_left; (focus (intro wS hS; (try dsimp only at hS); go_split_ands; go_simp; (try with_reducible rfl); done)); clear hd; intro hd; (try simp only [Act.put, List.getElem_toArray, List.getElem_cons_succ, List.getElem_cons_zero, List.setIfInBounds_toArray, List.set_cons_zero, List.set_cons_succ]))
                    (refine any_take (i := 17) (v := ?_) rfl (by kernel_rfl) hd (Nat.le_refl _) (fun _ _ d _ _ h => by cases d <;> exact h) hS (by first | with_reducible rfl | kernel_rfl) ?_ ?_; rotate_left; (focus (intro wS hS; (try dsimp only at hS); go_split_ands; go_simp; (try with_reducible rfl); done)); clear hd; intro hd; (try simp only [Act.put, List.getElem_toArray, List.getElem_cons_succ, List.getElem_cons_zero, List.setIfInBounds_toArray, List.set_cons_zero, List.set_cons_succ]))
                    refine any_done (by kernel_rfl) ?_
                    have HB9 := Lib.hid b9
                    generalize Wc.alloc (.cells #[.slice A8 n8 c8, .slice B8 m8 d8] 25) = WE at HB9 ⊢
                    clear b9 b8 hd hS hgl
                    go_wp2
                    go_roundw
                    case rel => exact ⟨k + 1, by omega, by go_num, Lib.hid (hbr.out.trans (HB9.out.mono hbr.out.size))⟩
                    case measure => simp [intOf]; omega
                  · have kN := Blk.new wr.drew 25 #[.slice none 0 0, .slice none 0 0]
                    have hgl : g < wr.heap.size := World.block_lt_of_cell? _ _ hcx
                    have hS9 : (wr.drew.alloc (.cells #[.slice none 0 0, .slice none 0 0] 25)).cell? ⟨g, k, none⟩ = some (.string x) := (World.cell?_alloc_lt wr.drew _ ⟨g, k, none⟩ hgl).trans hS
                    refine any_do rfl rfl (fun K hK => ?_)
                    go_simp
                    refine hK _ _ hS9 ?_
                    clear hK K
                    (try simp only [Act.put, List.getElem_toArray, List.getElem_cons_succ, List.getElem_cons_zero, List.setIfInBounds_toArray, List.set_cons_zero, List.set_cons_succ])
                    refine any_run hd (L := [9]) (by kernel_rfl) (by decide) (fun i hi hd2 => ?_)
                    obtain rfl := List.mem_singleton.1 hi
                    refine any_do rfl rfl (fun K hK => ?_)
                    go_simp
                    have bA : Below wr.heap.size wr (wr.alloc (.cells #[.slice none 0 0, .slice none 0 0] 25)).drew := ((Below.refl wr.heap.size wr).alloc (Nat.le_refl _) _).drew
                    have kN := (Blk.new wr 25 #[.slice none 0 0, .slice none 0 0]).drew
                    have hS9 : (wr.alloc (.cells #[.slice none 0 0, .slice none 0 0] 25)).drew.cell? ⟨g, k, none⟩ = some (.string x) := hS9
                    have HA := Lib.hid (And.intro kN bA)
                    generalize (wr.alloc (.cells #[.slice none 0 0, .slice none 0 0] 25)).drew = WA at HA hS9 ⊢
                    clear kN bA
                    refine (hsay WA).mono ?_
                    rintro e Wc ⟨A8, n8, c8, B8, m8, d8, rfl, b8⟩
                    have hS8 : Wc.cell? ⟨g, k, none⟩ = some (.string x) := (b8.cell (p := ⟨g, k, none⟩) (World.block_lt_of_cell? _ _ hS9)).trans hS9
                    refine hK _ _ hS8 ?_
                    clear hK K hS hd
                    have hS := hS8
                    have hd := hd2
                    clear hS8 hd2
                    (try simp only [Act.put, List.getElem_toArray, List.getElem_cons_succ, List.getElem_cons_zero, List.setIfInBounds_toArray, List.set_cons_zero, List.set_cons_succ])
                    (refine any_take (i := 10) (v := ?_) rfl (by kernel_rfl) hd (Nat.le_refl _) (fun _ _ d _ _ h => by cases d <;> exact h) hS (by first | with_reducible rfl | kernel_rfl) ?_ ?_; rotate_left; (focus (intro wS hS; (try dsimp only at hS); go_split_ands; go_simp; (try with_reducible rfl); done)); clear hd; intro hd; (try simp only [Act.put, List.getElem_toArray, List.getElem_cons_succ, List.getElem_cons_zero, List.setIfInBounds_toArray, List.set_cons_zero, List.set_cons_succ]))
                    (refine any_take (i := 11) (v := ?_) rfl (by kernel_rfl) hd (Nat.le_refl _) (fun _ _ d _ _ h => by cases d <;> exact h) hS (by first | with_reducible rfl | kernel_rfl) ?_ ?_; rotate_left; (focus (intro wS hS; (try dsimp only at hS); go_split_ands; go_simp; (try with_reducible rfl); done)); clear hd; intro hd; (try simp only [Act.put, List.getElem_toArray, List.getElem_cons_succ, List.getElem_cons_zero, List.setIfInBounds_toArray, List.set_cons_zero, List.set_cons_succ]))
                    (refine any_take (i := 12) (v := ?_) rfl (by kernel_rfl) hd (Nat.le_refl _) (fun _ _ d _ _ h => by cases d <;> exact h) hS (by first | with_reducible rfl | kernel_rfl) ?_ ?_; rotate_left; (focus (intro wS hS; (try dsimp only at hS); go_split_ands; go_simp; (try with_reducible rfl); done)); clear hd; intro hd; (try simp only [Act.put, List.getElem_toArray, List.getElem_cons_succ, List.getElem_cons_zero, List.setIfInBounds_toArray, List.set_cons_zero, List.set_cons_succ]))
                    (refine any_take (i := 13) (v := ?_) rfl (by kernel_rfl) hd (Nat.le_refl _) (fun _ _ d _ _ h => by cases d <;> exact h) hS (by first | with_reducible rfl | kernel_rfl) ?_ ?_; rotate_left; (focus (intro wS hS; (try dsimp only at hS); go_split_ands; go_simp; (try with_reducible rfl); done)); clear hd; intro hd; (try simp only [Act.put, List.getElem_toArray, List.getElem_cons_succ, List.getElem_cons_zero, List.setIfInBounds_toArray, List.set_cons_zero, List.set_cons_succ]))
                    have kM : Blk Wc wr.heap.size 25 #[.slice none 0 0, .slice none 0 0] := HA.out.1.upd (Upd.of_below b8 (fun _ => False)) id
                    have q0 := kM.cell 0
                    have q1 := kM.cell 1
                    have f0 := kM.frozen 0
                    have f1 := kM.frozen 1
                    simp only [List.getElem?_toArray, List.getElem?_cons_succ, List.getElem?_cons_zero] at q0 q1
                    have hz8 : wr.heap.size ≤ Wc.heap.size := by have := kM.lt; omega
                    have b9 : Below wr.heap.size wr ((Wc.setCell ⟨wr.heap.size, 0, none⟩ (.slice A8 n8 c8)).setCell ⟨wr.heap.size, 1, none⟩ (.slice B8 m8 d8)) :=
                      ((HA.out.2.trans (b8.mono HA.out.2.size)).setCell (p := ⟨wr.heap.size, 0, none⟩) (Nat.le_refl _) _).setCell (p := ⟨wr.heap.size, 1, none⟩) (Nat.le_refl _) _
                    refine any_run hd (L := [15]) (by kernel_rfl) (by decide) (fun i hi hd3 => ?_)
                    obtain rfl := List.mem_singleton.1 hi
                    refine any_do rfl rfl (fun K hK => ?_)
                    go_simp
                    have hS10 : ((Wc.setCell ⟨wr.heap.size, 0, none⟩ (.slice A8 n8 c8)).setCell ⟨wr.heap.size, 1, none⟩ (.slice B8 m8 d8)).cell? ⟨g, k, none⟩ = some (.string x) :=
                      (b9.cell (p := ⟨g, k, none⟩) hgl).trans hcx
                    refine hK _ _ hS10 ?_
                    clear hK K hS hd q0 q1 f0 f1 kM
                    have hS := hS10
                    have hd := hd3
                    clear hS10 hd3
                    (try simp only [Act.put, List.getElem_toArray, List.getElem_cons_succ, List.getElem_cons_zero, List.setIfInBounds_toArray, List.set_cons_zero, List.set_cons_succ])
                    (refine any_take (i := 16) (v := ?_) rfl (by kernel_rfl) hd (Nat.le_refl _) (fun _ _ d _ _ h => by cases d <;> exact h) hS (by first | with_reducible rfl | kernel_rfl) ?_ ?_; rotate_left; (focus (intro wS hS; (try dsimp only at hS); go_split_ands; go_simp; (try with_reducible rfl); done)); clear hd; intro hd; (try simp only [Act.put, List.getElem_toArray, List.getElem_cons_succ, List.getElem_cons_zero, List.setIfInBounds_toArray, List.set_cons_zero, List.set_cons_succ]))
                    (refine any_take (i := 17) (v := ?_) rfl (by kernel_rfl) hd (Nat.le_refl _) (fun _ _ d _ _ h => by cases d <;> exact h) hS (by first | with_reducible rfl | kernel_rfl) ?_ ?_; rotate_left; (focus (intro wS hS; (try dsimp only at hS); go_split_ands; go_simp; (try with_reducible rfl); done)); clear hd; intro hd; (try simp only [Act.put, List.getElem_toArray, List.getElem_cons_succ, List.getElem_cons_zero, List.setIfInBounds_toArray, List.set_cons_zero, List.set_cons_succ]))
                    refine any_done (by kernel_rfl) ?_
                    have HB9 := Lib.hid b9
                    generalize (Wc.setCell ⟨wr.heap.size, 0, none⟩ (.slice A8 n8 c8)).setCell ⟨wr.heap.size, 1, none⟩ (.slice B8 m8 d8) = WE at HB9 ⊢
                    clear b9 b8 hd hS hgl
                    go_wp2
                    go_roundw
                    case rel => exact ⟨k + 1, by omega, by go_num, Lib.hid (hbr.out.trans (HB9.out.mono hbr.out.size))⟩
                    case measure => simp [intOf]; omega
                · obtain rfl : k = 3 := by omega
                  go_wp2_with fail
                  refine (awake_any wr).mono ?_
                  rintro e W9 ⟨rfl, b9⟩
                  have FIN := Lib.hid ((H3.out.2.trans (hbr.out.mono H3.out.2.size)).trans (b9.mono (H3.out.2.trans (hbr.out.mono H3.out.2.size)).size))
                  clear b9
                  go_wp2
                  go_ret
                  exact ⟨rfl, FIN.out⟩
            | true =>
              have hlb3 : letN c1 = true := by rw [hlb, hlb2]
              obtain ⟨c2, hc2⟩ : ∃ c, s[q].toNat = c := ⟨_, rfl⟩
              have hdr := drop_at hql
              cases hl2 : letN c2 with
              | true =>
                have HN := Lib.hid (show (lb = true → (q + 1) + (wordL (s.data.toList.drop (q + 1))).length = goesTo s.data.toList p0) ∧ (lb = false → q + 1 = p0 + 1) from ⟨fun h => by
                  have h1 := hq.out.1 h
                  rw [hdr, word_step (by rw [hc2, hl2]), List.length_cons] at h1
                  omega, fun h => by rw [hlb2] at h; cases h⟩)
                clear hdr
                go_wp2_with fail
                refine (wword_any _ _).mono ?_
                rintro e W8 ⟨rfl, hw8⟩; subst W8
                go_wp2_with fail
                refine (wword_any _ _).mono ?_
                rintro e W8 ⟨rfl, hw8⟩; subst W8
                go_wp2
                go_round
                case rel => exact ⟨q + 1, by omega, by omega, by go_num, Lib.hid ⟨fun _ => HN.out.1 hlb2, fun h => by cases h⟩⟩
                case measure => simp [intOf]; omega
              | false =>
                have HQ9 : Hid (q = goesTo s.data.toList p0) := Lib.hid (by
                  have h1 := hq.out.1 hlb2
                  rw [hdr, word_stop (by rw [hc2, hl2])] at h1
                  exact h1)
                clear hdr
                go_wp2_with fail
                refine (wword_any _ _).mono ?_
                rintro e W8 ⟨rfl, hw8⟩; subst W8
                go_wp2_with fail
                refine (wword_any _ _).mono ?_
                rintro e W8 ⟨rfl, hw8⟩; subst W8
                go_wp2_with fail
                go_loopw [13] (fun iv wr => ∃ k : Nat, k ≤ 3 ∧ iv = .int .i64 k ∧ Hid (Below W3.heap.size W3 wr)) (fun iv _ => 3 - (intOf iv).toNat)
                case atStart => exact ⟨0, by omega, rfl, hbr⟩
                case round =>
                  obtain ⟨k, hk, rfl, hbr⟩ := hrel
                  by_cases hlt : k < 3
                  · have hltI : (k : Int) < 3 := by omega
                    obtain ⟨x, hx⟩ : ∃ x, EL[k]? = some x := ⟨EL[k]'(by simp [EL]; omega), List.getElem?_eq_getElem _⟩
                    have hcx := C0.out wr hbr.out k x hx
                    have hxs : x.size ≤ 3 := EL_size hx
                    have hes := size_ext s q hq2
                    have hadd := add_ok (s.extract 0 q) ⟨#[32]⟩ (by rw [hes]; show q + 1 ≤ _; omega)
                    obtain ⟨T1, hT1⟩ : ∃ T, s.extract 0 q ++ ⟨#[32]⟩ = T := ⟨_, rfl⟩
                    rw [hT1] at hadd
                    have hT1s : T1.size = q + 1 := by rw [← hT1, size_app, hes]; rfl
                    have hadd2 := add_ok T1 x (by omega)
                    obtain ⟨T, hT⟩ : ∃ T, T1 ++ x = T := ⟨_, rfl⟩
                    rw [hT] at hadd2
                    have hT63 : T.size ≤ 9223372036854775807 := by rw [← hT, size_app]; omega
                    have hTT : T = toTxt (s.data.toList.take (goesTo s.data.toList p0) ++ (32 :: x.data.toList)) := by
                      rw [← hT, ← hT1, ← HQ9.out]
                      refine txt_ext ?_
                      rw [toTxt_data, data_app, data_app, ext_list s 0 q hq2]
                      simp
                    have hst := wrong_stays HWW.out hs2 (by rw [HP.out.1]; exact hplt) x.data.toList (by rw [size_data]; exact hxs)
                    rw [HP.out.1, ← hTT] at hst
                    have hsay : ∀ V, Calls Try.prog 5 #[.string T] V fun e w' => ∃ A n c B m d, e = .returned (.tuple #[.agg #[.slice A n c, .slice B m d], .int .i64 p0, .int .i64 172]) ∧ Below V.heap.size V w' := fun V => by
                      have := parse_say T V hT63
                      rw [hst.1, hst.2] at this
                      exact this
                    clear hx hT hT1 hTT hst hes hT1s
                    go_upto_region 23 with (fail)
                    have hS : wr.drew.cell? ⟨g, k, none⟩ = some (.string x) := hcx
                    refine wp_region_any2 (fun w' => w'.cell? ⟨g, k, none⟩ = some (.string x)) (by kernel_rfl) (by kernel_rfl) hS ?_
                    refine any_start (fun hd => ?_)
                    (refine any_take (i := 0) (v := ?_) rfl (by kernel_rfl) hd (Nat.le_refl _) (fun _ _ d _ _ h => by cases d <;> exact h) hS (by first | with_reducible rfl | kernel_rfl) ?_ ?_; rotate_left; (focus (intro wS hS; (try dsimp only at hS); go_split_ands; go_simp; (try with_reducible rfl); done)); clear hd; intro hd; (try simp only [Act.put, List.getElem_toArray, List.getElem_cons_zero, List.setIfInBounds_toArray, List.set_cons_zero, List.set_cons_succ]))
                    (refine any_take (i := 1) (v := ?_) rfl (by kernel_rfl) hd (Nat.le_refl _) (fun _ _ d _ _ h => by cases d <;> exact h) hS (by first | with_reducible rfl | kernel_rfl) ?_ ?_; rotate_left; (focus (intro wS hS; (try dsimp only at hS); go_split_ands; go_simp; (try with_reducible rfl); done)); clear hd; intro hd; (try simp only [Act.put, List.getElem_toArray, List.getElem_cons_succ, List.getElem_cons_zero, List.setIfInBounds_toArray, List.set_cons_zero, List.set_cons_succ]))
                    (refine any_take (i := 2) (v := ?_) rfl (by kernel_rfl) hd (Nat.le_refl _) (fun _ _ d _ _ h => by cases d <;> exact h) hS (by first | with_reducible rfl | kernel_rfl) ?_ ?_; rotate_left; (focus (intro wS hS; (try dsimp only at hS); go_split_ands; go_simp; (try with_reducible rfl); done)); clear hd; intro hd; (try simp only [Act.put, List.getElem_toArray, List.getElem_cons_succ, List.getElem_cons_zero, List.setIfInBounds_toArray, List.set_cons_zero, List.set_cons_succ]))
                    (refine any_take (i := 3) (v := ?_) rfl (by kernel_rfl) hd (Nat.le_refl _) (fun _ _ d _ _ h => by cases d <;> exact h) hS (by first | with_reducible rfl | kernel_rfl) ?_ ?_; rotate_left; (focus (intro wS hS; (try dsimp only at hS); go_split_ands; go_simp; (try with_reducible rfl); done)); clear hd; intro hd; (try simp only [Act.put, List.getElem_toArray, List.getElem_cons_succ, List.getElem_cons_zero, List.setIfInBounds_toArray, List.set_cons_zero, List.set_cons_succ]))
                    (refine any_take (i := 4) (v := ?_) rfl (by kernel_rfl) hd (Nat.le_refl _) (fun _ _ d _ _ h => by cases d <;> exact h) hS (by first | with_reducible rfl | kernel_rfl) ?_ ?_; rotate_left; (focus (intro wS hS; (try dsimp only at hS); go_split_ands; go_simp; (try with_reducible rfl); done)); clear hd; intro hd; (try simp only [Act.put, List.getElem_toArray, List.getElem_cons_succ, List.getElem_cons_zero, List.setIfInBounds_toArray, List.set_cons_zero, List.set_cons_succ]))
                    (refine any_take (i := 5) (v := ?_) rfl (by kernel_rfl) hd (Nat.le_refl _) (fun _ _ d _ _ h => by cases d <;> exact h) hS (by first | with_reducible rfl | kernel_rfl) ?_ ?_; rotate_left; (focus (intro wS hS; (try dsimp only at hS); go_split_ands; go_simp; (try with_reducible rfl); done)); clear hd; intro hd; (try simp only [Act.put, List.getElem_toArray, List.getElem_cons_succ, List.getElem_cons_zero, List.setIfInBounds_toArray, List.set_cons_zero, List.set_cons_succ]))
                    (refine any_take (i := 6) (v := ?_) rfl (by kernel_rfl) hd (Nat.le_refl _) (fun _ _ d _ _ h => by cases d <;> exact h) hS (by first | with_reducible rfl | kernel_rfl) ?_ ?_; rotate_left; (focus (intro wS hS; (try dsimp only at hS); go_split_ands; go_simp; (try with_reducible rfl); done)); clear hd; intro hd; (try simp only [Act.put, List.getElem_toArray, List.getElem_cons_succ, List.getElem_cons_zero, List.setIfInBounds_toArray, List.set_cons_zero, List.set_cons_succ]))
                    (refine any_take (i := 7) (v := ?_) rfl (by kernel_rfl) hd (Nat.le_refl _) (fun _ _ d _ _ h => by cases d <;> exact h) hS (by first | with_reducible rfl | kernel_rfl) ?_ ?_; rotate_left; (focus (intro wS hS; (try dsimp only at hS); go_split_ands; go_simp; (try with_reducible rfl); done)); clear hd; intro hd; (try simp only [Act.put, List.getElem_toArray, List.getElem_cons_succ, List.getElem_cons_zero, List.setIfInBounds_toArray, List.set_cons_zero, List.set_cons_succ]))
                    (refine any_take (i := 8) (v := ?_) rfl (by kernel_rfl) hd (Nat.le_refl _) (fun _ _ d _ _ h => by cases d <;> exact h) hS (by first | with_reducible rfl | kernel_rfl) ?_ ?_; rotate_left; (focus (intro wS hS; (try dsimp only at hS); go_split_ands; go_simp; (try with_reducible rfl); done)); clear hd; intro hd; (try simp only [Act.put, List.getElem_toArray, List.getElem_cons_succ, List.getElem_cons_zero, List.setIfInBounds_toArray, List.set_cons_zero, List.set_cons_succ]))
                    refine any_run hd (L := [9, 14]) (by kernel_rfl) (by decide) (fun i hi hd2 => ?_)
                    clear hd
                    have hd := hd2
                    clear hd2
                    simp only [List.mem_cons, List.not_mem_nil, or_false] at hi
                    rcases hi with rfl | rfl
                    · refine any_do rfl rfl (fun K hK => ?_)
                      go_simp
                      refine (hsay wr.drew).mono ?_
                      rintro e Wc ⟨A8, n8, c8, B8, m8, d8, rfl, b8⟩
                      have hS8 : Wc.cell? ⟨g, k, none⟩ = some (.string x) := (b8.cell (p := ⟨g, k, none⟩) (World.block_lt_of_cell? _ _ hcx)).trans hS
                      refine hK _ _ hS8 ?_
                      clear hK K hS
                      have hS := hS8
                      clear hS8
                      (try simp only [Act.put, List.getElem_toArray, List.getElem_cons_succ, List.getElem_cons_zero, List.setIfInBounds_toArray, List.set_cons_zero, List.set_cons_succ])
                      (refine any_take (i := 10) (v := ?_) rfl (by kernel_rfl) hd (Nat.le_refl _) (fun _ _ d _ _ h => by cases d <;> exact h) hS (by first | with_reducible rfl | kernel_rfl) ?_ ?_; rotate_left; (focus (intro wS hS; (try dsimp only at hS); go_split_ands; go_simp; (try with_reducible rfl); done)); clear hd; intro hd; (try simp only [Act.put, List.getElem_toArray, List.getElem_cons_succ, List.getElem_cons_zero, List.setIfInBounds_toArray, List.set_cons_zero, List.set_cons_succ]))
                      (refine any_take (i := 11) (v := ?_) rfl (by kernel_rfl) hd (Nat.le_refl _) (fun _ _ d _ _ h => by cases d <;> exact h) hS (by first | with_reducible rfl | kernel_rfl) ?_ ?_; rotate_left; (focus (intro wS hS; (try dsimp only at hS); go_split_ands; go_simp; (try with_reducible rfl); done)); clear hd; intro hd; (try simp only [Act.put, List.getElem_toArray, List.getElem_cons_succ, List.getElem_cons_zero, List.setIfInBounds_toArray, List.set_cons_zero, List.set_cons_succ]))
                      (refine any_take (i := 12) (v := ?_) rfl (by kernel_rfl) hd (Nat.le_refl _) (fun _ _ d _ _ h => by cases d <;> exact h) hS (by first | with_reducible rfl | kernel_rfl) ?_ ?_; rotate_left; (focus (intro wS hS; (try dsimp only at hS); go_split_ands; go_simp; (try with_reducible rfl); done)); clear hd; intro hd; (try simp only [Act.put, List.getElem_toArray, List.getElem_cons_succ, List.getElem_cons_zero, List.setIfInBounds_toArray, List.set_cons_zero, List.set_cons_succ]))
                      (refine any_take (i := 13) (v := ?_) rfl (by kernel_rfl) hd (Nat.le_refl _) (fun _ _ d _ _ h => by cases d <;> exact h) hS (by first | with_reducible rfl | kernel_rfl) ?_ ?_; rotate_left; (focus (intro wS hS; (try dsimp only at hS); go_split_ands; go_simp; (try with_reducible rfl); done)); clear hd; intro hd; (try simp only [Act.put, List.getElem_toArray, List.getElem_cons_succ, List.getElem_cons_zero, List.setIfInBounds_toArray, List.set_cons_zero, List.set_cons_succ]))
                      have kN := Blk.new Wc 25 #[.slice none 0 0, .slice none 0 0]
                      have hz8 : wr.heap.size ≤ Wc.heap.size := b8.size
                      have hS9 : (Wc.alloc (.cells #[.slice none 0 0, .slice none 0 0] 25)).cell? ⟨g, k, none⟩ = some (.string x) := (World.cell?_alloc_lt Wc _ ⟨g, k, none⟩ (World.block_lt_of_cell? _ _ hS)).trans hS
                      have b9 : Below wr.heap.size wr (Wc.alloc (.cells #[.slice A8 n8 c8, .slice B8 m8 d8] 25)) := ((Below.refl wr.heap.size wr).drew.trans b8).alloc hz8 _
                      have q0 := kN.cell 0
                      have q1 := kN.cell 1
                      have f0 := kN.frozen 0
                      have f1 := kN.frozen 1
                      simp only [List.getElem?_toArray, List.getElem?_cons_succ, List.getElem?_cons_zero] at q0 q1
                      have hlt8 := World.block_lt_of_cell? _ _ hS9
                      refine any_run hd (L := [14]) (by kernel_rfl) (by decide) (fun i hi hd2 => ?_)
                      obtain rfl := List.mem_singleton.1 hi
                      refine any_do rfl rfl (fun K hK => ?_)
                      go_simp
                      refine hK _ _ hS9 ?_
                      clear hK K
                      (try simp only [Act.put, List.getElem_toArray, List.getElem_cons_succ, List.getElem_cons_zero, List.setIfInBounds_toArray, List.set_cons_zero, List.set_cons_succ])
                      refine any_run hd2 (L := [15]) (by kernel_rfl) (by decide) (fun i hi hd3 => ?_)
                      obtain rfl := List.mem_singleton.1 hi
                      refine any_do rfl rfl (fun K hK => ?_)
                      go_simp
                      have hgl : g < wr.heap.size := World.block_lt_of_cell? _ _ hcx
                      have hS10 : (Wc.alloc (.cells #[.slice A8 n8 c8, .slice B8 m8 d8] 25)).cell? ⟨g, k, none⟩ = some (.string x) :=
                        (b9.cell (p := ⟨g, k, none⟩) hgl).trans hcx
                      refine hK _ _ hS10 ?_
                      clear hK K hS hS9 hd hd2 q0 q1 f0 f1 kN hlt8
                      have hS := hS10
                      have hd := hd3
                      clear hS10 hd3
                      (try simp only [Act.put, List.getElem_toArray, List.getElem_cons_succ, List.getElem_cons_zero, List.setIfInBounds_toArray, List.set_cons_zero, List.set_cons_succ])
                      (refine any_take (i := 16) (v := ?_) rfl (by kernel_rfl) hd (Nat.le_refl _) (fun _ _ d _ _ h => by cases d <;> exact h) hS (by first | with_reducible rfl | kernel_rfl) ?_ ?_; rotate_left; (focus (intro wS hS; (try dsimp only at hS); go_split_ands; go_simp; (try with_reducible rfl); done)); clear hd; intro hd; (try simp only [Act.put, List.getElem_toArray, List.getElem_cons_succ, List.getElem_cons_zero, List.setIfInBounds_toArray, List.set_cons_zero, List.set_cons_succ]))
                      (refine any_take (i := 17) (v := ?_) rfl (by kernel_rfl) hd (Nat.le_refl _) (fun _ _ d _ _ h => by cases d <;> exact h) hS (by first | with_reducible rfl | kernel_rfl) ?_ ?_; rotate_left; (focus (intro wS hS; (try dsimp only at hS); go_split_ands; go_simp; (try with_reducible rfl); done)); clear hd; intro hd; (try simp only [Act.put, List.getElem_toArray, List.getElem_cons_succ, List.getElem_cons_zero, List.setIfInBounds_toArray, List.set_cons_zero, List.set_cons_succ]))
                      refine any_done (by kernel_rfl) ?_
                      have HB9 := Lib.hid b9
                      generalize Wc.alloc (.cells #[.slice A8 n8 c8, .slice B8 m8 d8] 25) = WE at HB9 ⊢
                      clear b9 b8 hd hS hgl
                      go_wp2
                      go_roundw
                      case rel => exact ⟨k + 1, by omega, by go_num, Lib.hid (hbr.out.trans (HB9.out.mono hbr.out.size))⟩
                      case measure => simp [intOf]; omega
                    · have kN := Blk.new wr.drew 25 #[.slice none 0 0, .slice none 0 0]
                      have hgl : g < wr.heap.size := World.block_lt_of_cell? _ _ hcx
                      have hS9 : (wr.drew.alloc (.cells #[.slice none 0 0, .slice none 0 0] 25)).cell? ⟨g, k, none⟩ = some (.string x) := (World.cell?_alloc_lt wr.drew _ ⟨g, k, none⟩ hgl).trans hS
                      refine any_do rfl rfl (fun K hK => ?_)
                      go_simp
                      refine hK _ _ hS9 ?_
                      clear hK K
                      (try simp only [Act.put, List.getElem_toArray, List.getElem_cons_succ, List.getElem_cons_zero, List.setIfInBounds_toArray, List.set_cons_zero, List.set_cons_succ])
                      refine any_run hd (L := [9]) (by kernel_rfl) (by decide) (fun i hi hd2 => ?_)
                      obtain rfl := List.mem_singleton.1 hi
                      refine any_do rfl rfl (fun K hK => ?_)
                      go_simp
                      have bA : Below wr.heap.size wr (wr.alloc (.cells #[.slice none 0 0, .slice none 0 0] 25)).drew := ((Below.refl wr.heap.size wr).alloc (Nat.le_refl _) _).drew
                      have kN := (Blk.new wr 25 #[.slice none 0 0, .slice none 0 0]).drew
                      have hS9 : (wr.alloc (.cells #[.slice none 0 0, .slice none 0 0] 25)).drew.cell? ⟨g, k, none⟩ = some (.string x) := hS9
                      have HA := Lib.hid (And.intro kN bA)
                      generalize (wr.alloc (.cells #[.slice none 0 0, .slice none 0 0] 25)).drew = WA at HA hS9 ⊢
                      clear kN bA
                      refine (hsay WA).mono ?_
                      rintro e Wc ⟨A8, n8, c8, B8, m8, d8, rfl, b8⟩
                      have hS8 : Wc.cell? ⟨g, k, none⟩ = some (.string x) := (b8.cell (p := ⟨g, k, none⟩) (World.block_lt_of_cell? _ _ hS9)).trans hS9
                      refine hK _ _ hS8 ?_
                      clear hK K hS hd
                      have hS := hS8
                      have hd := hd2
                      clear hS8 hd2
                      (try simp only [Act.put, List.getElem_toArray, List.getElem_cons_succ, List.getElem_cons_zero, List.setIfInBounds_toArray, List.set_cons_zero, List.set_cons_succ])
                      (refine any_take (i := 10) (v := ?_) rfl (by kernel_rfl) hd (Nat.le_refl _) (fun _ _ d _ _ h => by cases d <;> exact h) hS (by first | with_reducible rfl | kernel_rfl) ?_ ?_; rotate_left; (focus (intro wS hS; (try dsimp only at hS); go_split_ands; go_simp; (try with_reducible rfl); done)); clear hd; intro hd; (try simp only [Act.put, List.getElem_toArray, List.getElem_cons_succ, List.getElem_cons_zero, List.setIfInBounds_toArray, List.set_cons_zero, List.set_cons_succ]))
                      (refine any_take (i := 11) (v := ?_) rfl (by kernel_rfl) hd (Nat.le_refl _) (fun _ _ d _ _ h => by cases d <;> exact h) hS (by first | with_reducible rfl | kernel_rfl) ?_ ?_; rotate_left; (focus (intro wS hS; (try dsimp only at hS); go_split_ands; go_simp; (try with_reducible rfl); done)); clear hd; intro hd; (try simp only [Act.put, List.getElem_toArray, List.getElem_cons_succ, List.getElem_cons_zero, List.setIfInBounds_toArray, List.set_cons_zero, List.set_cons_succ]))
                      (refine any_take (i := 12) (v := ?_) rfl (by kernel_rfl) hd (Nat.le_refl _) (fun _ _ d _ _ h => by cases d <;> exact h) hS (by first | with_reducible rfl | kernel_rfl) ?_ ?_; rotate_left; (focus (intro wS hS; (try dsimp only at hS); go_split_ands; go_simp; (try with_reducible rfl); done)); clear hd; intro hd; (try simp only [Act.put, List.getElem_toArray, List.getElem_cons_succ, List.getElem_cons_zero, List.setIfInBounds_toArray, List.set_cons_zero, List.set_cons_succ]))
                      (refine any_take (i := 13) (v := ?_) rfl (by kernel_rfl) hd (Nat.le_refl _) (fun _ _ d _ _ h => by cases d <;> exact h) hS (by first | with_reducible rfl | kernel_rfl) ?_ ?_; rotate_left; (focus (intro wS hS; (try dsimp only at hS); go_split_ands; go_simp; (try with_reducible rfl); done)); clear hd; intro hd; (try simp only [Act.put, List.getElem_toArray, List.getElem_cons_succ, List.getElem_cons_zero, List.setIfInBounds_toArray, List.set_cons_zero, List.set_cons_succ]))
                      have kM : Blk Wc wr.heap.size 25 #[.slice none 0 0, .slice none 0 0] := HA.out.1.upd (Upd.of_below b8 (fun _ => False)) id
                      have q0 := kM.cell 0
                      have q1 := kM.cell 1
                      have f0 := kM.frozen 0
                      have f1 := kM.frozen 1
                      simp only [List.getElem?_toArray, List.getElem?_cons_succ, List.getElem?_cons_zero] at q0 q1
                      have hz8 : wr.heap.size ≤ Wc.heap.size := by have := kM.lt; omega
                      have b9 : Below wr.heap.size wr ((Wc.setCell ⟨wr.heap.size, 0, none⟩ (.slice A8 n8 c8)).setCell ⟨wr.heap.size, 1, none⟩ (.slice B8 m8 d8)) :=
                        ((HA.out.2.trans (b8.mono HA.out.2.size)).setCell (p := ⟨wr.heap.size, 0, none⟩) (Nat.le_refl _) _).setCell (p := ⟨wr.heap.size, 1, none⟩) (Nat.le_refl _) _
                      refine any_run hd (L := [15]) (by kernel_rfl) (by decide) (fun i hi hd3 => ?_)
                      obtain rfl := List.mem_singleton.1 hi
                      refine any_do rfl rfl (fun K hK => ?_)
                      go_simp
                      have hS10 : ((Wc.setCell ⟨wr.heap.size, 0, none⟩ (.slice A8 n8 c8)).setCell ⟨wr.heap.size, 1, none⟩ (.slice B8 m8 d8)).cell? ⟨g, k, none⟩ = some (.string x) :=
                        (b9.cell (p := ⟨g, k, none⟩) hgl).trans hcx
                      refine hK _ _ hS10 ?_
                      clear hK K hS hd q0 q1 f0 f1 kM
                      have hS := hS10
                      have hd := hd3
                      clear hS10 hd3
                      (try simp only [Act.put, List.getElem_toArray, List.getElem_cons_succ, List.getElem_cons_zero, List.setIfInBounds_toArray, List.set_cons_zero, List.set_cons_succ])
                      (refine any_take (i := 16) (v := ?_) rfl (by kernel_rfl) hd (Nat.le_refl _) (fun _ _ d _ _ h => by cases d <;> exact h) hS (by first | with_reducible rfl | kernel_rfl) ?_ ?_; rotate_left; (focus (intro wS hS; (try dsimp only at hS); go_split_ands; go_simp; (try with_reducible rfl); done)); clear hd; intro hd; (try simp only [Act.put, List.getElem_toArray, List.getElem_cons_succ, List.getElem_cons_zero, List.setIfInBounds_toArray, List.set_cons_zero, List.set_cons_succ]))
                      (refine any_take (i := 17) (v := ?_) rfl (by kernel_rfl) hd (Nat.le_refl _) (fun _ _ d _ _ h => by cases d <;> exact h) hS (by first | with_reducible rfl | kernel_rfl) ?_ ?_; rotate_left; (focus (intro wS hS; (try dsimp only at hS); go_split_ands; go_simp; (try with_reducible rfl); done)); clear hd; intro hd; (try simp only [Act.put, List.getElem_toArray, List.getElem_cons_succ, List.getElem_cons_zero, List.setIfInBounds_toArray, List.set_cons_zero, List.set_cons_succ]))
                      refine any_done (by kernel_rfl) ?_
                      have HB9 := Lib.hid b9
                      generalize (Wc.setCell ⟨wr.heap.size, 0, none⟩ (.slice A8 n8 c8)).setCell ⟨wr.heap.size, 1, none⟩ (.slice B8 m8 d8) = WE at HB9 ⊢
                      clear b9 b8 hd hS hgl
                      go_wp2
                      go_roundw
                      case rel => exact ⟨k + 1, by omega, by go_num, Lib.hid (hbr.out.trans (HB9.out.mono hbr.out.size))⟩
                      case measure => simp [intOf]; omega
                  · obtain rfl : k = 3 := by omega
                    go_wp2_with fail
                    refine (awake_any wr).mono ?_
                    rintro e W9 ⟨rfl, b9⟩
                    have FIN := Lib.hid ((H3.out.2.trans (hbr.out.mono H3.out.2.size)).trans (b9.mono (H3.out.2.trans (hbr.out.mono H3.out.2.size)).size))
                    clear b9
                    go_wp2
                    go_ret
                    exact ⟨rfl, FIN.out⟩
          · have hqs : s.size = q := by omega
            have HQ9 : Hid (q = goesTo s.data.toList p0) := Lib.hid (by
              cases hlb2 : lb with
              | true =>
                have h1 := hq.out.1 hlb2
                rw [List.drop_eq_nil_of_le (by rw [size_data, hqs]; exact Nat.le_refl _)] at h1
                exact h1
              | false => rw [HG.out, hlb2, hq.out.2 hlb2]; rfl)
            go_wp2_with fail
            go_loopw [13] (fun iv wr => ∃ k : Nat, k ≤ 3 ∧ iv = .int .i64 k ∧ Hid (Below W3.heap.size W3 wr)) (fun iv _ => 3 - (intOf iv).toNat)
            case atStart => exact ⟨0, by omega, rfl, hbr⟩
            case round =>
              obtain ⟨k, hk, rfl, hbr⟩ := hrel
              by_cases hlt : k < 3
              · have hltI : (k : Int) < 3 := by omega
                obtain ⟨x, hx⟩ : ∃ x, EL[k]? = some x := ⟨EL[k]'(by simp [EL]; omega), List.getElem?_eq_getElem _⟩
                have hcx := C0.out wr hbr.out k x hx
                have hxs : x.size ≤ 3 := EL_size hx
                have hes := size_ext s q hq2
                have hadd := add_ok (s.extract 0 q) ⟨#[32]⟩ (by rw [hes]; show q + 1 ≤ _; omega)
                obtain ⟨T1, hT1⟩ : ∃ T, s.extract 0 q ++ ⟨#[32]⟩ = T := ⟨_, rfl⟩
                rw [hT1] at hadd
                have hT1s : T1.size = q + 1 := by rw [← hT1, size_app, hes]; rfl
                have hadd2 := add_ok T1 x (by omega)
                obtain ⟨T, hT⟩ : ∃ T, T1 ++ x = T := ⟨_, rfl⟩
                rw [hT] at hadd2
                have hT63 : T.size ≤ 9223372036854775807 := by rw [← hT, size_app]; omega
                have hTT : T = toTxt (s.data.toList.take (goesTo s.data.toList p0) ++ (32 :: x.data.toList)) := by
                  rw [← hT, ← hT1, ← HQ9.out]
                  refine txt_ext ?_
                  rw [toTxt_data, data_app, data_app, ext_list s 0 q hq2]
                  simp
                have hst := wrong_stays HWW.out hs2 (by rw [HP.out.1]; exact hplt) x.data.toList (by rw [size_data]; exact hxs)
                rw [HP.out.1, ← hTT] at hst
                have hsay : ∀ V, Calls Try.prog 5 #[.string T] V fun e w' => ∃ A n c B m d, e = .returned (.tuple #[.agg #[.slice A n c, .slice B m d], .int .i64 p0, .int .i64 172]) ∧ Below V.heap.size V w' := fun V => by
                  have := parse_say T V hT63
                  rw [hst.1, hst.2] at this
                  exact this
                clear hx hT hT1 hTT hst hes hT1s
                go_upto_region 23 with (fail)
                have hS : wr.drew.cell? ⟨g, k, none⟩ = some (.string x) := hcx
                refine wp_region_any2 (fun w' => w'.cell? ⟨g, k, none⟩ = some (.string x)) (by kernel_rfl) (by kernel_rfl) hS ?_
                refine any_start (fun hd => ?_)
                (refine any_take (i := 0) (v := ?_) rfl (by kernel_rfl) hd (Nat.le_refl _) (fun _ _ d _ _ h => by cases d <;> exact h) hS (by first | with_reducible rfl | kernel_rfl) ?_ ?_; rotate_left; (focus (intro wS hS; (try dsimp only at hS); go_split_ands; go_simp; (try with_reducible rfl); done)); clear hd; intro hd; (try simp only [Act.put, List.getElem_toArray, List.getElem_cons_zero, List.setIfInBounds_toArray, List.set_cons_zero, List.set_cons_succ]))
                (refine any_take (i := 1) (v := ?_) rfl (by kernel_rfl) hd (Nat.le_refl _) (fun _ _ d _ _ h => by cases d <;> exact h) hS (by first | with_reducible rfl | kernel_rfl) ?_ ?_; rotate_left; (focus (intro wS hS; (try dsimp only at hS); go_split_ands; go_simp; (try with_reducible rfl); done)); clear hd; intro hd; (try simp only [Act.put, List.getElem_toArray, List.getElem_cons_succ, List.getElem_cons_zero, List.setIfInBounds_toArray, List.set_cons_zero, List.set_cons_succ]))
                (refine any_take (i := 2) (v := ?_) rfl (by kernel_rfl) hd (Nat.le_refl _) (fun _ _ d _ _ h => by cases d <;> exact h) hS (by first | with_reducible rfl | kernel_rfl) ?_ ?_; rotate_left; (focus (intro wS hS; (try dsimp only at hS); go_split_ands; go_simp; (try with_reducible rfl); done)); clear hd; intro hd; (try simp only [Act.put, List.getElem_toArray, List.getElem_cons_succ, List.getElem_cons_zero, List.setIfInBounds_toArray, List.set_cons_zero, List.set_cons_succ]))
                (refine any_take (i := 3) (v := ?_) rfl (by kernel_rfl) hd (Nat.le_refl _) (fun _ _ d _ _ h => by cases d <;> exact h) hS (by first | with_reducible rfl | kernel_rfl) ?_ ?_; rotate_left; (focus (intro wS hS; (try dsimp only at hS); go_split_ands; go_simp; (try with_reducible rfl); done)); clear hd; intro hd; (try simp only [Act.put, List.getElem_toArray, List.getElem_cons_succ, List.getElem_cons_zero, List.setIfInBounds_toArray, List.set_cons_zero, List.set_cons_succ]))
                (refine any_take (i := 4) (v := ?_) rfl (by kernel_rfl) hd (Nat.le_refl _) (fun _ _ d _ _ h => by cases d <;> exact h) hS (by first | with_reducible rfl | kernel_rfl) ?_ ?_; rotate_left; (focus (intro wS hS; (try dsimp only at hS); go_split_ands; go_simp; (try with_reducible rfl); done)); clear hd; intro hd; (try simp only [Act.put, List.getElem_toArray, List.getElem_cons_succ, List.getElem_cons_zero, List.setIfInBounds_toArray, List.set_cons_zero, List.set_cons_succ]))
                (refine any_take (i := 5) (v := ?_) rfl (by kernel_rfl) hd (Nat.le_refl _) (fun _ _ d _ _ h => by cases d <;> exact h) hS (by first | with_reducible rfl | kernel_rfl) ?_ ?_; rotate_left; (focus (intro wS hS; (try dsimp only at hS); go_split_ands; go_simp; (try with_reducible rfl); done)); clear hd; intro hd; (try simp only [Act.put, List.getElem_toArray, List.getElem_cons_succ, List.getElem_cons_zero, List.setIfInBounds_toArray, List.set_cons_zero, List.set_cons_succ]))
                (refine any_take (i := 6) (v := ?_) rfl (by kernel_rfl) hd (Nat.le_refl _) (fun _ _ d _ _ h => by cases d <;> exact h) hS (by first | with_reducible rfl | kernel_rfl) ?_ ?_; rotate_left; (focus (intro wS hS; (try dsimp only at hS); go_split_ands; go_simp; (try with_reducible rfl); done)); clear hd; intro hd; (try simp only [Act.put, List.getElem_toArray, List.getElem_cons_succ, List.getElem_cons_zero, List.setIfInBounds_toArray, List.set_cons_zero, List.set_cons_succ]))
                (refine any_take (i := 7) (v := ?_) rfl (by kernel_rfl) hd (Nat.le_refl _) (fun _ _ d _ _ h => by cases d <;> exact h) hS (by first | with_reducible rfl | kernel_rfl) ?_ ?_; rotate_left; (focus (intro wS hS; (try dsimp only at hS); go_split_ands; go_simp; (try with_reducible rfl); done)); clear hd; intro hd; (try simp only [Act.put, List.getElem_toArray, List.getElem_cons_succ, List.getElem_cons_zero, List.setIfInBounds_toArray, List.set_cons_zero, List.set_cons_succ]))
                (refine any_take (i := 8) (v := ?_) rfl (by kernel_rfl) hd (Nat.le_refl _) (fun _ _ d _ _ h => by cases d <;> exact h) hS (by first | with_reducible rfl | kernel_rfl) ?_ ?_; rotate_left; (focus (intro wS hS; (try dsimp only at hS); go_split_ands; go_simp; (try with_reducible rfl); done)); clear hd; intro hd; (try simp only [Act.put, List.getElem_toArray, List.getElem_cons_succ, List.getElem_cons_zero, List.setIfInBounds_toArray, List.set_cons_zero, List.set_cons_succ]))
                refine any_run hd (L := [9, 14]) (by kernel_rfl) (by decide) (fun i hi hd2 => ?_)
                clear hd
                have hd := hd2
                clear hd2
                simp only [List.mem_cons, List.not_mem_nil, or_false] at hi
                rcases hi with rfl | rfl
                · refine any_do rfl rfl (fun K hK => ?_)
                  go_simp
                  refine (hsay wr.drew).mono ?_
                  rintro e Wc ⟨A8, n8, c8, B8, m8, d8, rfl, b8⟩
                  have hS8 : Wc.cell? ⟨g, k, none⟩ = some (.string x) := (b8.cell (p := ⟨g, k, none⟩) (World.block_lt_of_cell? _ _ hcx)).trans hS
                  refine hK _ _ hS8 ?_
                  clear hK K hS
                  have hS := hS8
                  clear hS8
                  (try simp only [Act.put, List.getElem_toArray, List.getElem_cons_succ, List.getElem_cons_zero, List.setIfInBounds_toArray, List.set_cons_zero, List.set_cons_succ])
                  (refine any_take (i := 10) (v := ?_) rfl (by kernel_rfl) hd (Nat.le_refl _) (fun _ _ d _ _ h => by cases d <;> exact h) hS (by first | with_reducible rfl | kernel_rfl) ?_ ?_; rotate_left; (focus (intro wS hS; (try dsimp only at hS); go_split_ands; go_simp; (try with_reducible rfl); done)); clear hd; intro hd; (try simp only [Act.put, List.getElem_toArray, List.getElem_cons_succ, List.getElem_cons_zero, List.setIfInBounds_toArray, List.set_cons_zero, List.set_cons_succ]))
                  (refine any_take (i := 11) (v := ?_) rfl (by kernel_rfl) hd (Nat.le_refl _) (fun _ _ d _ _ h => by cases d <;> exact h) hS (by first | with_reducible rfl | kernel_rfl) ?_ ?_; rotate_left; (focus (intro wS hS; (try dsimp only at hS); go_split_ands; go_simp; (try with_reducible rfl); done)); clear hd; intro hd; (try simp only [Act.put, List.getElem_toArray, List.getElem_cons_succ, List.getElem_cons_zero, List.setIfInBounds_toArray, List.set_cons_zero, List.set_cons_succ]))
                  (refine any_take (i := 12) (v := ?_) rfl (by kernel_rfl) hd (Nat.le_refl _) (fun _ _ d _ _ h => by cases d <;> exact h) hS (by first | with_reducible rfl | kernel_rfl) ?_ ?_; rotate_left; (focus (intro wS hS; (try dsimp only at hS); go_split_ands; go_simp; (try with_reducible rfl); done)); clear hd; intro hd; (try simp only [Act.put, List.getElem_toArray, List.getElem_cons_succ, List.getElem_cons_zero, List.setIfInBounds_toArray, List.set_cons_zero, List.set_cons_succ]))
                  (refine any_take (i := 13) (v := ?_) rfl (by kernel_rfl) hd (Nat.le_refl _) (fun _ _ d _ _ h => by cases d <;> exact h) hS (by first | with_reducible rfl | kernel_rfl) ?_ ?_; rotate_left; (focus (intro wS hS; (try dsimp only at hS); go_split_ands; go_simp; (try with_reducible rfl); done)); clear hd; intro hd; (try simp only [Act.put, List.getElem_toArray, List.getElem_cons_succ, List.getElem_cons_zero, List.setIfInBounds_toArray, List.set_cons_zero, List.set_cons_succ]))
                  have kN := Blk.new Wc 25 #[.slice none 0 0, .slice none 0 0]
                  have hz8 : wr.heap.size ≤ Wc.heap.size := b8.size
                  have hS9 : (Wc.alloc (.cells #[.slice none 0 0, .slice none 0 0] 25)).cell? ⟨g, k, none⟩ = some (.string x) := (World.cell?_alloc_lt Wc _ ⟨g, k, none⟩ (World.block_lt_of_cell? _ _ hS)).trans hS
                  have b9 : Below wr.heap.size wr (Wc.alloc (.cells #[.slice A8 n8 c8, .slice B8 m8 d8] 25)) := ((Below.refl wr.heap.size wr).drew.trans b8).alloc hz8 _
                  have q0 := kN.cell 0
                  have q1 := kN.cell 1
                  have f0 := kN.frozen 0
                  have f1 := kN.frozen 1
                  simp only [List.getElem?_toArray, List.getElem?_cons_succ, List.getElem?_cons_zero] at q0 q1
                  have hlt8 := World.block_lt_of_cell? _ _ hS9
                  refine any_run hd (L := [14]) (by kernel_rfl) (by decide) (fun i hi hd2 => ?_)
                  obtain rfl := List.mem_singleton.1 hi
                  refine any_do rfl rfl (fun K hK => ?_)
                  go_simp
                  refine hK _ _ hS9 ?_
                  clear hK K
                  (try simp only [Act.put, List.getElem_toArray, List.getElem_cons_succ, List.getElem_cons_zero, List.setIfInBounds_toArray, List.set_cons_zero, List.set_cons_succ])
                  refine any_run hd2 (L := [15]) (by kernel_rfl) (by decide) (fun i hi hd3 => ?_)
                  obtain rfl := List.mem_singleton.1 hi
                  refine any_do rfl rfl (fun K hK => ?_)
                  go_simp
                  have hgl : g < wr.heap.size := World.block_lt_of_cell? _ _ hcx
                  have hS10 : (Wc.alloc (.cells #[.slice A8 n8 c8, .slice B8 m8 d8] 25)).cell? ⟨g, k, none⟩ = some (.string x) :=
                    (b9.cell (p := ⟨g, k, none⟩) hgl).trans hcx
                  refine hK _ _ hS10 ?_
                  clear hK K hS hS9 hd hd2 q0 q1 f0 f1 kN hlt8
                  have hS := hS10
                  have hd := hd3
                  clear hS10 hd3
                  (try simp only [Act.put, List.getElem_toArray, List.getElem_cons_succ, List.getElem_cons_zero, List.setIfInBounds_toArray, List.set_cons_zero, List.set_cons_succ])
                  (refine any_take (i := 16) (v := ?_) rfl (by kernel_rfl) hd (Nat.le_refl _) (fun _ _ d _ _ h => by cases d <;> exact h) hS (by first | with_reducible rfl | kernel_rfl) ?_ ?_; rotate_left; (focus (intro wS hS; (try dsimp only at hS); go_split_ands; go_simp; (try with_reducible rfl); done)); clear hd; intro hd; (try simp only [Act.put, List.getElem_toArray, List.getElem_cons_succ, List.getElem_cons_zero, List.setIfInBounds_toArray, List.set_cons_zero, List.set_cons_succ]))
                  (refine any_take (i := 17) (v := ?_) rfl (by kernel_rfl) hd (Nat.le_refl _) (fun _ _ d _ _ h => by cases d <;> exact h) hS (by first | with_reducible rfl | kernel_rfl) ?_ ?_; rotate_left; (focus (intro wS hS; (try dsimp only at hS); go_split_ands; go_simp; (try with_reducible rfl); done)); clear hd; intro hd; (try simp only [Act.put, List.getElem_toArray, List.getElem_cons_succ, List.getElem_cons_zero, List.setIfInBounds_toArray, List.set_cons_zero, List.set_cons_succ]))
                  refine any_done (by kernel_rfl) ?_
                  have HB9 := Lib.hid b9
                  generalize Wc.alloc (.cells #[.slice A8 n8 c8, .slice B8 m8 d8] 25) = WE at HB9 ⊢
                  clear b9 b8 hd hS hgl
                  go_wp2
                  go_roundw
                  case rel => exact ⟨k + 1, by omega, by go_num, Lib.hid (hbr.out.trans (HB9.out.mono hbr.out.size))⟩
                  case measure => simp [intOf]; omega
                · have kN := Blk.new wr.drew 25 #[.slice none 0 0, .slice none 0 0]
                  have hgl : g < wr.heap.size := World.block_lt_of_cell? _ _ hcx
                  have hS9 : (wr.drew.alloc (.cells #[.slice none 0 0, .slice none 0 0] 25)).cell? ⟨g, k, none⟩ = some (.string x) := (World.cell?_alloc_lt wr.drew _ ⟨g, k, none⟩ hgl).trans hS
                  refine any_do rfl rfl (fun K hK => ?_)
                  go_simp
                  refine hK _ _ hS9 ?_
                  clear hK K
                  (try simp only [Act.put, List.getElem_toArray, List.getElem_cons_succ, List.getElem_cons_zero, List.setIfInBounds_toArray, List.set_cons_zero, List.set_cons_succ])
                  refine any_run hd (L := [9]) (by kernel_rfl) (by decide) (fun i hi hd2 => ?_)
                  obtain rfl := List.mem_singleton.1 hi
                  refine any_do rfl rfl (fun K hK => ?_)
                  go_simp
                  have bA : Below wr.heap.size wr (wr.alloc (.cells #[.slice none 0 0, .slice none 0 0] 25)).drew := ((Below.refl wr.heap.size wr).alloc (Nat.le_refl _) _).drew
                  have kN := (Blk.new wr 25 #[.slice none 0 0, .slice none 0 0]).drew
                  have hS9 : (wr.alloc (.cells #[.slice none 0 0, .slice none 0 0] 25)).drew.cell? ⟨g, k, none⟩ = some (.string x) := hS9
                  have HA := Lib.hid (And.intro kN bA)
                  generalize (wr.alloc (.cells #[.slice none 0 0, .slice none 0 0] 25)).drew = WA at HA hS9 ⊢
                  clear kN bA
                  refine (hsay WA).mono ?_
                  rintro e Wc ⟨A8, n8, c8, B8, m8, d8, rfl, b8⟩
                  have hS8 : Wc.cell? ⟨g, k, none⟩ = some (.string x) := (b8.cell (p := ⟨g, k, none⟩) (World.block_lt_of_cell? _ _ hS9)).trans hS9
                  refine hK _ _ hS8 ?_
                  clear hK K hS hd
                  have hS := hS8
                  have hd := hd2
                  clear hS8 hd2
                  (try simp only [Act.put, List.getElem_toArray, List.getElem_cons_succ, List.getElem_cons_zero, List.setIfInBounds_toArray, List.set_cons_zero, List.set_cons_succ])
                  (refine any_take (i := 10) (v := ?_) rfl (by kernel_rfl) hd (Nat.le_refl _) (fun _ _ d _ _ h => by cases d <;> exact h) hS (by first | with_reducible rfl | kernel_rfl) ?_ ?_; rotate_left; (focus (intro wS hS; (try dsimp only at hS); go_split_ands; go_simp; (try with_reducible rfl); done)); clear hd; intro hd; (try simp only [Act.put, List.getElem_toArray, List.getElem_cons_succ, List.getElem_cons_zero, List.setIfInBounds_toArray, List.set_cons_zero, List.set_cons_succ]))
                  (refine any_take (i := 11) (v := ?_) rfl (by kernel_rfl) hd (Nat.le_refl _) (fun _ _ d _ _ h => by cases d <;> exact h) hS (by first | with_reducible rfl | kernel_rfl) ?_ ?_; rotate_left; (focus (intro wS hS; (try dsimp only at hS); go_split_ands; go_simp; (try with_reducible rfl); done)); clear hd; intro hd; (try simp only [Act.put, List.getElem_toArray, List.getElem_cons_succ, List.getElem_cons_zero, List.setIfInBounds_toArray, List.set_cons_zero, List.set_cons_succ]))
                  (refine any_take (i := 12) (v := ?_) rfl (by kernel_rfl) hd (Nat.le_refl _) (fun _ _ d _ _ h => by cases d <;> exact h) hS (by first | with_reducible rfl | kernel_rfl) ?_ ?_; rotate_left; (focus (intro wS hS; (try dsimp only at hS); go_split_ands; go_simp; (try with_reducible rfl); done)); clear hd; intro hd; (try simp only [Act.put, List.getElem_toArray, List.getElem_cons_succ, List.getElem_cons_zero, List.setIfInBounds_toArray, List.set_cons_zero, List.set_cons_succ]))
                  (refine any_take (i := 13) (v := ?_) rfl (by kernel_rfl) hd (Nat.le_refl _) (fun _ _ d _ _ h => by cases d <;> exact h) hS (by first | with_reducible rfl | kernel_rfl) ?_ ?_; rotate_left; (focus (intro wS hS; (try dsimp only at hS); go_split_ands; go_simp; (try with_reducible rfl); done)); clear hd; intro hd; (try simp only [Act.put, List.getElem_toArray, List.getElem_cons_succ, List.getElem_cons_zero, List.setIfInBounds_toArray, List.set_cons_zero, List.set_cons_succ]))
                  have kM : Blk Wc wr.heap.size 25 #[.slice none 0 0, .slice none 0 0] := HA.out.1.upd (Upd.of_below b8 (fun _ => False)) id
                  have q0 := kM.cell 0
                  have q1 := kM.cell 1
                  have f0 := kM.frozen 0
                  have f1 := kM.frozen 1
                  simp only [List.getElem?_toArray, List.getElem?_cons_succ, List.getElem?_cons_zero] at q0 q1
                  have hz8 : wr.heap.size ≤ Wc.heap.size := by have := kM.lt; omega
                  have b9 : Below wr.heap.size wr ((Wc.setCell ⟨wr.heap.size, 0, none⟩ (.slice A8 n8 c8)).setCell ⟨wr.heap.size, 1, none⟩ (.slice B8 m8 d8)) :=
                    ((HA.out.2.trans (b8.mono HA.out.2.size)).setCell (p := ⟨wr.heap.size, 0, none⟩) (Nat.le_refl _) _).setCell (p := ⟨wr.heap.size, 1, none⟩) (Nat.le_refl _) _
                  refine any_run hd (L := [15]) (by kernel_rfl) (by decide) (fun i hi hd3 => ?_)
                  obtain rfl := List.mem_singleton.1 hi
                  refine any_do rfl rfl (fun K hK => ?_)
                  go_simp
                  have hS10 : ((Wc.setCell ⟨wr.heap.size, 0, none⟩ (.slice A8 n8 c8)).setCell ⟨wr.heap.size, 1, none⟩ (.slice B8 m8 d8)).cell? ⟨g, k, none⟩ = some (.string x) :=
                    (b9.cell (p := ⟨g, k, none⟩) hgl).trans hcx
                  refine hK _ _ hS10 ?_
                  clear hK K hS hd q0 q1 f0 f1 kM
                  have hS := hS10
                  have hd := hd3
                  clear hS10 hd3
                  (try simp only [Act.put, List.getElem_toArray, List.getElem_cons_succ, List.getElem_cons_zero, List.setIfInBounds_toArray, List.set_cons_zero, List.set_cons_succ])
                  (refine any_take (i := 16) (v := ?_) rfl (by kernel_rfl) hd (Nat.le_refl _) (fun _ _ d _ _ h => by cases d <;> exact h) hS (by first | with_reducible rfl | kernel_rfl) ?_ ?_; rotate_left; (focus (intro wS hS; (try dsimp only at hS); go_split_ands; go_simp; (try with_reducible rfl); done)); clear hd; intro hd; (try simp only [Act.put, List.getElem_toArray, List.getElem_cons_succ, List.getElem_cons_zero, List.setIfInBounds_toArray, List.set_cons_zero, List.set_cons_succ]))
                  (refine any_take (i := 17) (v := ?_) rfl (by kernel_rfl) hd (Nat.le_refl _) (fun _ _ d _ _ h => by cases d <;> exact h) hS (by first | with_reducible rfl | kernel_rfl) ?_ ?_; rotate_left; (focus (intro wS hS; (try dsimp only at hS); go_split_ands; go_simp; (try with_reducible rfl); done)); clear hd; intro hd; (try simp only [Act.put, List.getElem_toArray, List.getElem_cons_succ, List.getElem_cons_zero, List.setIfInBounds_toArray, List.set_cons_zero, List.set_cons_succ]))
                  refine any_done (by kernel_rfl) ?_
                  have HB9 := Lib.hid b9
                  generalize (Wc.setCell ⟨wr.heap.size, 0, none⟩ (.slice A8 n8 c8)).setCell ⟨wr.heap.size, 1, none⟩ (.slice B8 m8 d8) = WE at HB9 ⊢
                  clear b9 b8 hd hS hgl
                  go_wp2
                  go_roundw
                  case rel => exact ⟨k + 1, by omega, by go_num, Lib.hid (hbr.out.trans (HB9.out.mono hbr.out.size))⟩
                  case measure => simp [intOf]; omega
              · obtain rfl : k = 3 := by omega
                go_wp2_with fail
                refine (awake_any wr).mono ?_
                rintro e W9 ⟨rfl, b9⟩
                have FIN := Lib.hid ((H3.out.2.trans (hbr.out.mono H3.out.2.size)).trans (b9.mono (H3.out.2.trans (hbr.out.mono H3.out.2.size)).size))
                clear b9
                go_wp2
                go_ret
                exact ⟨rfl, FIN.out⟩
end Go.Proofs.Ythmkgnifcbnkpaa
