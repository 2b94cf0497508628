/- GssMeets: the walk of meet. -/
import Derived.Test.YtbppbgdmoihooaaMeetB
namespace Go.Proofs.Ytbppbgdmoihooaa
open Go.RowKit

theorem info_met : (Try.prog.info? 50).map (fun i => (i.zero, i.size, i.bytes)) = some (some (.agg #[.int .i64 0, .int .i64 0, .int .i64 0, .int .i64 0]), 4, 32) := by kernel_rfl
theorem spot_eq (n : Nat) (hn : 1 ≤ n) (x : Int) : bits BinOp.and IntKind.i64 x 63 % (n : Int) = (spotOf n x : Int) ∧ spotOf n x < n := by
  have h := (low_nonneg x).1
  refine ⟨?_, Nat.mod_lt _ (by omega)⟩
  show low x % (n : Int) = (((low x).toNat % n : Nat) : Int)
  rw [Int.natCast_emod, Int.toNat_of_nonneg h]

/-- In the midst of a round, jj of what was found have met. -/
def RoundIn (w : World) (F : Nat → Prop) (b : Nat) (N' : List GNode) (L : List (Nat × Int × Int × Int)) (R : Nat → Prop) (F2 : Nat → Prop) (e size n : Nat) (v2 : Value) (xs : List Value) (xb bt : Nat) (bc : Array Value) (v : Value) (wq : World) : Prop :=
  MeetIn w F b N' L R v wq F2 ∧ wq.ownsRow w.heap.size e size v2 n xs ∧ Blk wq xb bt bc ∧ (∀ q, v2.ownBlock = some q → R q) ∧ R xb
theorem RoundIn.app {w : World} {F : Nat → Prop} {b : Nat} {N' : List GNode} {L : List (Nat × Int × Int × Int)} {R : Nat → Prop} {F2 : Nat → Prop} {e size n : Nat} {v2 : Value} {xs : List Value} {xb bt : Nat} {bc : Array Value} {v v' : Value} {wq w2 : World}
    (h : RoundIn w F b N' L R F2 e size n v2 xs xb bt bc v wq) {o : Obj} {m : Nat × Int × Int × Int}
    (gr : (wq.alloc o).grownBy w2 v.ownBlock) (own : w2.ownsRow w.heap.size 50 4 v' (L.length + 1) (metCells L ++ metCells [m])) (pl : v'.ownBlock = v.ownBlock ∨ v'.ownBlock = some (wq.alloc o).heap.size) :
    RoundIn w F b N' (L ++ [m]) R F2 e size n v2 xs xb bt bc v' w2 := by
  obtain ⟨h1, h2, h3, h4, h5⟩ := h
  obtain ⟨k1, U⟩ := h1.app gr own pl
  exact ⟨k1, ownsRow_upd h2 U (fun q hq hv => (h1.dis q hv).2 (h4 q hq)), h3.upd U (fun hv => (h1.dis _ hv).2 h5), h4, h5⟩
theorem RoundIn.below {w : World} {F : Nat → Prop} {b : Nat} {N' : List GNode} {L : List (Nat × Int × Int × Int)} {R : Nat → Prop} {F2 : Nat → Prop} {e size n : Nat} {v2 : Value} {xs : List Value} {xb bt : Nat} {bc : Array Value} {v : Value} {wq w2 : World}
    (h : RoundIn w F b N' L R F2 e size n v2 xs xb bt bc v wq) (hb : Below wq.heap.size wq w2) : RoundIn w F b N' L R F2 e size n v2 xs xb bt bc v w2 := by
  obtain ⟨h1, h2, h3, h4, h5⟩ := h
  exact ⟨h1.below hb, ownsRow_upd h2 (Upd.of_below hb (fun _ => False)) (fun _ _ => id), h3.upd (Upd.of_below hb (fun _ => False)) id, h4, h5⟩

set_option maxHeartbeats 16000000 in
set_option maxRecDepth 20000 in
theorem meet_any (w : World) (F : Nat → Prop) (b : Nat) (N : List GNode) (A : Option Addr) (lb lo m c n : Nat) (evs : List Ev) (h : StkAt w F b N) (hN : N.length = n) (hn1 : 1 ≤ n) (hn8 : n ≤ 8) (hm : evs.length = m) (hm60 : m ≤ 60)
    (h0 : ∀ x ∈ N, x.frames = [] ∧ x.pops = []) (hA : 0 < m → A = some ⟨lb, lo, none⟩ ∧ lb < w.heap.size ∧ ¬ F lb)
    (hev : ∀ (i : Nat) (e : Ev), evs[i]? = some e → w.cell? ⟨lb, lo + i * 4, none⟩ = some (.int .i64 e.n) ∧ w.cell? ⟨lb, lo + i * 4 + 1, none⟩ = some (.int .i64 e.a) ∧ w.cell? ⟨lb, lo + i * 4 + 2, none⟩ = some (.int .i64 e.b) ∧ w.cell? ⟨lb, lo + i * 4 + 3, none⟩ = some (.bool e.pop) ∧ Wf e.n ∧ Wf e.a ∧ Wf e.b) :
    Calls Try.prog 17 #[.pointer (some ⟨b, 0, none⟩), .int .i64 n, .slice A m c] w (StkRet w F b (runP n N evs).1 50 4 (runP n N evs).2.length (metCells (runP n N evs).2) [.bool true]) := by
  have H : Hid _ := Lib.hid (And.intro h (And.intro hN (And.intro hm (And.intro h0 (And.intro hA hev)))))
  clear h hN hm h0 hA hev
  go_enter Try.func17, Try.ntmps17
  go_wp2
  go_loopw [8, 9] (fun v i wr => ∃ k : Nat, k ≤ m ∧ i = .int .i64 k ∧ MeetInv w F b n N evs k v wr) (fun _ i _ => m - (intOf i).toNat)
  case atStart => exact ⟨0, Nat.zero_le _, rfl, F, H.out.1, Upd.refl _ _, fun q hq => .inl hq, World.ownsRow_nil _ _ _ _, by simp [Value.ownBlock], fun q hq => hq.elim⟩
  case round =>
    obtain ⟨k, hk, rfl, F', M⟩ := hrel
    obtain ⟨wo, rfl⟩ : ∃ wo : World, wo = wr := ⟨_, rfl⟩
    obtain ⟨⟨Nk, Lk⟩, hP⟩ : ∃ p, runP n N (evs.take k) = p := ⟨_, rfl⟩
    rw [hP] at M
    replace M : MeetIn w F b Nk Lk (fun _ => False) _ wo F' := M
    obtain ⟨A', c', rfl, hc', -⟩ := own_form M.out
    by_cases hlt : k < m
    · obtain ⟨hN, hm, h0, hA, hev⟩ := H.out.2
      obtain ⟨rfl, hlb, hFb⟩ := hA (by omega)
      obtain ⟨e, he⟩ : ∃ e, evs[k]? = some e := ⟨evs[k]'(by omega), List.getElem?_eq_getElem _⟩
      obtain ⟨c0, c1, c2, c3, wf0, wf1, wf2⟩ := hev k e he
      have hsn := runP_snoc (n := n) (N := N) he
      have hsm := runP_small (n := n) h0 evs k (by omega)
      have hln := runP_len n N evs k
      rw [hP] at hsn hsm hln
      have up : ∀ j u, w.cell? ⟨lb, j, none⟩ = some u → wo.cell? ⟨lb, j, none⟩ = some u := fun j u hu => (M.upd.cell (p := ⟨lb, j, none⟩) hlb hFb).trans hu
      have r0 := up _ _ c0
      have r1 := up _ _ c1
      have r2 := up _ _ c2
      have r3 := up _ _ c3
      obtain ⟨en, ea, eb, ep⟩ := e
      obtain ⟨ln0, ln1⟩ := low_nonneg en
      obtain ⟨la0, la1⟩ := low_nonneg ea
      unfold low at ln0 ln1 la0 la1
      obtain ⟨sp0, sp1⟩ := spot_eq n hn1 en
      obtain ⟨sa0, sa1⟩ := spot_eq n hn1 ea
      obtain ⟨sp, hsp⟩ : ∃ sp, spotOf n en = sp := ⟨_, rfl⟩
      obtain ⟨sa, hsa⟩ : ∃ sa, spotOf n ea = sa := ⟨_, rfl⟩
      rw [hsp] at sp0 sp1
      rw [hsa] at sa0 sa1
      have hlen : Nk.length = n := by rw [← hN]; exact hln
      obtain ⟨x, hx⟩ : ∃ x, Nk[sp]? = some x := ⟨Nk[sp]'(by omega), List.getElem?_eq_getElem _⟩
      obtain ⟨hf1, hf2⟩ := hsm.1 sp x hx
      have hL2 : Lk.length ≤ k * k := hsm.2
      have hL : Lk.length ≤ 3600 := by have := Nat.mul_le_mul (show k ≤ 60 by omega) (show k ≤ 60 by omega); omega
      have wfs : Wf (sp : Int) := wf_small (by omega) (by omega)
      cases ep
      · -- a frame comes
        have hN' : ∀ y, stepP n (Nk, Lk) ⟨en, ea, eb, false⟩ = y → y = (if ((sa : Int), eb) ∈ x.frames then (Nk, Lk ++ []) else (addFrame Nk sp ((sa : Int), eb), Lk ++ x.pops.map fun f => (sp, f, ((sa : Int), eb)))) := by
          rintro y rfl
          simp only [stepP, stepN, stepM, frameOf, hsp, hsa, hx, Bool.false_eq_true, if_false]
          split <;> rfl
        have hsn' := hN' _ hsn.symm
        have u1 : Below wo.heap.size wo (wo.alloc (.cells #[.int .i64 en, .int .i64 ea, .int .i64 eb, .bool false] 37)) := (Below.refl _ _).alloc (Nat.le_refl _) _
        have kb := Blk.new wo 37 #[.int .i64 en, .int .i64 ea, .int .i64 eb, .bool false]
        have hsaN : (sa : Int) < (Nk.length : Int) := by rw [hlen]; omega
        have HH : Hid _ := Lib.hid (And.intro M (And.intro hsn' (And.intro hc' (And.intro u1 (And.intro wf2 (And.intro hx (And.intro hf1 (And.intro hf2 hsaN))))))))
        have hc2 : (Lk.length : Int) ≤ (c' : Int) := by omega
        have e1 := kb.cell 1
        have e2 := kb.cell 2
        simp only [List.getElem?_toArray, List.getElem?_cons_succ, List.getElem?_cons_zero] at e1 e2
        clear M hsn hsm hln hN hm h0 hA hev hlb hFb he c0 c1 c2 c3 wf0 wf1 wf2 up hc' hN' hsn' kb hsp hsa hx H hlen hL2 wfs hP hf1 hf2 hsaN
        go_wp2
        have D1 : Below wo.heap.size wo (wo.alloc (.cells #[.int .i64 en, .int .i64 ea, .int .i64 eb, .bool false] 37)).drew := u1.drew
        have HD := Lib.hid (And.intro HH.out D1)
        clear u1 D1 HH
        generalize wo.alloc (.cells #[.int .i64 en, .int .i64 ea, .int .i64 eb, .bool false] 37) = w1 at e1 e2 HD ⊢
        refine wp_region_ord (fun w' => w'.cell? ⟨wo.heap.size, 1, none⟩ = some (.int .i64 ea) ∧ w'.cell? ⟨wo.heap.size, 2, none⟩ = some (.int .i64 eb)) 9 [(0, true), (1, true), (2, true), (3, true), (4, true), (5, true), (6, true), (7, true), (8, false), (9, false)] (by kernel_rfl) (by kernel_rfl) (fun _ _ d _ _ h => by cases d <;> exact h) ⟨e1, e2⟩ ?_
        have e1' : w1.drew.cell? ⟨wo.heap.size, 1, none⟩ = some (.int .i64 ea) := e1
        have e2' : w1.drew.cell? ⟨wo.heap.size, 2, none⟩ = some (.int .i64 eb) := e2
        clear e1 e2
        generalize w1.drew = w2 at e1' e2' HD ⊢
        have lx := World.block_lt_of_cell? w2 _ e1'
        have hn0 : n ≠ 0 := by omega
        have ht : (bits BinOp.and IntKind.i64 ea 63).tmod (n : Int) = (sa : Int) := by rw [Int.tmod_eq_emod_of_nonneg la0]; exact sa0
        repeat (refine ord_take (v := ?_) rfl rfl ?_ ?_; rotate_left; focus (intro wS hS; (try dsimp only at hS); go_split_ands; go_simp; (try with_reducible rfl); done); (try simp only [Act.put, List.setIfInBounds_toArray, List.set_cons_zero, List.set_cons_succ]))
        clear hn0 ht
        refine ord_do rfl rfl (fun K hK => ?_)
        go_simp
        refine hK _ _ (fun _ => ⟨(World.cell?_alloc_lt _ _ ⟨wo.heap.size, 1, none⟩ lx).trans e1', (World.cell?_alloc_lt _ _ ⟨wo.heap.size, 2, none⟩ lx).trans e2'⟩) ?_
        clear hK K
        refine ord_do rfl rfl (fun K hK => ?_)
        go_simp
        refine hK _ _ (fun h => absurd rfl h) ?_
        clear hK K e1' e2' lx
        refine ord_done ?_
        obtain ⟨⟨M, hsn', hc', -, wf2, hx, hf1, hf2, hsaN⟩, D1⟩ := HD.out
        have M2 := M.below D1
        have u1 : Below w2.heap.size w2 (w2.alloc (.cells #[.int .i64 (sa : Int), .int .i64 eb] 48)) := (Below.refl _ _).alloc (Nat.le_refl _) _
        have kb := Blk.new w2 48 #[.int .i64 (sa : Int), .int .i64 eb]
        have HH : Hid _ := Lib.hid (And.intro M2 (And.intro hsn' (And.intro hc' (And.intro u1 (And.intro kb (And.intro wf2 (And.intro hx (And.intro hf1 (And.intro hf2 hsaN)))))))))
        have hb0 : (w2.alloc (.cells #[.int .i64 (sa : Int), .int .i64 eb] 48)).cell? ⟨w2.heap.size, 0, none⟩ = some (.int .i64 (sa : Int)) := kb.cell 0
        have hb1 : (w2.alloc (.cells #[.int .i64 (sa : Int), .int .i64 eb] 48)).cell? ⟨w2.heap.size, 1, none⟩ = some (.int .i64 eb) := kb.cell 1
        clear M hsn' hc' wf2 hx hf1 hf2 hsaN D1 M2 u1 kb HD
        by_cases hold : ((sa : Int), eb) ∈ x.frames
        · have HO := Lib.hid hold
          clear hold
          go_wp2_with fail
          refine (push_old _ F' b Nk sp x sa eb (HH.out.1.below HH.out.2.2.2.1).at_ HH.out.2.2.2.2.2.2.1 (by omega) HH.out.2.2.2.2.2.2.2.2.2 HO.out).mono ?_
          rintro e w5 ⟨rfl, hb5⟩
          have fin : MeetInv w F b n N evs (k + 1) (.slice A' Lk.length c') w5 := by
            refine ⟨F', ?_⟩
            rw [HH.out.2.1, if_pos HO.out, List.append_nil]
            exact (HH.out.1.below HH.out.2.2.2.1).below hb5
          have FIN := Lib.hid fin
          clear hb5 fin HH HO r0 r1 r2 r3 hb0 hb1
          go_wp2
          go_loopw [8, 20] (fun v jv wq => v = .slice A' Lk.length c' ∧ jv = .int .i64 0 ∧ wq = w5) (fun _ _ _ => 0)
          case atStart => exact ⟨rfl, rfl, rfl⟩
          case round =>
            obtain ⟨rfl, rfl, rfl⟩ := hrel
            go_wp2
            go_roundw
            case rel => exact ⟨k + 1, by omega, by go_num, FIN.out⟩
            case measure => simp [intOf]; omega
        · have HO := Lib.hid hold
          clear hold
          go_wp2_with fail
          have M1 := (HH.out.1.below HH.out.2.2.2.1).more (R' := fun q => q = w2.heap.size) (by
            rintro q rfl
            refine ⟨by simp, fun hq => ?_⟩
            have := (HH.out.1.out.lt _ hq).2
            omega)
          refine (push_new _ F' b Nk sp x sa eb M1.at_ HH.out.2.2.2.2.2.2.1 (by omega) HH.out.2.2.2.2.2.2.2.2.2 HH.out.2.2.2.2.2.1 HO.out (by have := HH.out.2.2.2.2.2.2.2.1; omega)).mono ?_
          rintro e w5 hr5
          obtain ⟨M, hsn', hc', u1, kb, wf2, hx, hf2, hf1, hsaN⟩ := HH.out
          rw [if_neg HO.out] at hsn'
          have hbF : ∀ q, q = w2.heap.size → ¬ F' q := by
            rintro q rfl hf
            have := M.at_.lt _ hf
            omega
          obtain ⟨v2, F2, rfl, M5, row5, u5, -⟩ := M1.ret hr5 hbF
          have box5 := kb.upd u5 (hbF _ rfl)
          obtain ⟨A6, c6, rfl, hc6, -⟩ := own_form row5
          have hc6' : (x.pops.length : Int) ≤ (c6 : Int) := by omega
          have RI : RoundIn w F b (addFrame Nk sp ((sa : Int), eb)) Lk (fun q => q = w2.heap.size ∨ Value.ownBlock (.slice A6 x.pops.length c6) = some q) F2 3 1 x.pops.length (.slice A6 x.pops.length c6) (popCells x.pops) w2.heap.size 48 #[.int .i64 (sa : Int), .int .i64 eb] (.slice A' Lk.length c') w5 :=
            ⟨M5, ownsRow_base row5 (fun q hq => by have h1 := (row5.lt q hq).1; have h2 := M.upd.size; have h3 := u1.size; omega), box5, fun q hq => .inr hq, .inl rfl⟩
          have HI : Hid _ := Lib.hid (And.intro RI (And.intro hsn' (And.intro hf1 hf2)))
          clear M hsn' hc' u1 kb wf2 hx hf2 hsaN M1 hb0 hb1 hbF M5 row5 u5 box5 RI hr5 HH HO r0 r1 r2 r3 hc6
          go_wp2
          go_loopw [8, 20] (fun v jv wq => ∃ jj : Nat, jj ≤ x.pops.length ∧ jv = .int .i64 jj ∧ RoundIn w F b (addFrame Nk sp ((sa : Int), eb)) (Lk ++ (x.pops.take jj).map fun f => (sp, f, ((sa : Int), eb))) (fun q => q = w2.heap.size ∨ Value.ownBlock (.slice A6 x.pops.length c6) = some q) F2 3 1 x.pops.length (.slice A6 x.pops.length c6) (popCells x.pops) w2.heap.size 48 #[.int .i64 (sa : Int), .int .i64 eb] v wq) (fun _ jv _ => x.pops.length - (intOf jv).toNat)
          case atStart => exact ⟨0, Nat.zero_le _, rfl, by simpa using HI.out.1⟩
          case round =>
            obtain ⟨jj, hjj, rfl, RI⟩ := hrel
            obtain ⟨L, hL'⟩ : ∃ L, Lk ++ (x.pops.take jj).map (fun f => (sp, f, ((sa : Int), eb))) = L := ⟨_, rfl⟩
            rw [hL'] at RI
            obtain ⟨A7, c7, rfl, hc7, -⟩ := own_form RI.1.out
            have hLL : L.length ≤ 3660 := by rw [← hL']; simp; omega
            by_cases hlj : jj < x.pops.length
            · obtain ⟨f, hf⟩ : ∃ f, x.pops[jj]? = some f := ⟨x.pops[jj], List.getElem?_eq_getElem hlj⟩
              obtain ⟨g6, cc6, hv6, -, -, -, -, hcell6⟩ := own_cells RI.2.1 (by omega)
              injection hv6 with hA6 _ hcc6
              subst hA6
              have d0 : wr.drew.cell? ⟨g6, jj, none⟩ = some (.int .i64 f) := (hcell6 jj _ (by rw [popCells, List.getElem?_map, hf]; rfl)).1
              have d1 : wr.drew.cell? ⟨w2.heap.size, 0, none⟩ = some (.int .i64 (sa : Int)) := RI.2.2.1.cell 0
              have d2 : wr.drew.cell? ⟨w2.heap.size, 1, none⟩ = some (.int .i64 eb) := RI.2.2.1.cell 1
              have RId := RI.below (w2 := wr.drew) (Below.drew (Below.refl _ _))
              have HR : Hid _ := Lib.hid (And.intro hL' (And.intro hf HI.out.2.1))
              clear hcell6 hL' hf HI hcc6 hc7 RI
              go_wp2
              refine wp_region_ord (fun w' => w'.cell? ⟨g6, jj, none⟩ = some (.int .i64 f) ∧ w'.cell? ⟨w2.heap.size, 0, none⟩ = some (.int .i64 (sa : Int)) ∧ w'.cell? ⟨w2.heap.size, 1, none⟩ = some (.int .i64 eb)) 11 [(0, true), (1, true), (2, true), (3, true), (4, true), (5, true), (6, true), (7, true), (8, false), (9, false), (10, true)] (by kernel_rfl) (by kernel_rfl) (fun _ _ d _ _ h => by cases d <;> exact h) ⟨d0, d1, d2⟩ ?_
              generalize wr.drew = wd at d0 d1 d2 RId ⊢
              obtain ⟨i0, hi0, hz0, hz1, hz2⟩ := info_parts info_met
              obtain ⟨v8, w8, happ, own8, gr8, -, pl8⟩ := run_append_own_at (P := Try.prog) (wd.alloc (.cells #[.int .i64 (sp : Int), .int .i64 f, .int .i64 (sa : Int), .int .i64 eb] 50)) w.heap.size 38 38 50 i0 _ 4 32 Try.underlying38 hi0 hz0 hz1 hz2 rfl (by decide) _ L.length _ (RId.1.out.alloc _) ⟨wd.heap.size, 0, none⟩ 1 1
                (metCells [(sp, f, (sa : Int), eb)]) rfl (by
                  intro j u hu
                  match j, hu with
                  | 0, hu => simp [Addr.add, metCells] at hu ⊢; exact hu
                  | 1, hu => simp [Addr.add, metCells] at hu ⊢; exact hu
                  | 2, hu => simp [Addr.add, metCells] at hu ⊢; exact hu
                  | 3, hu => simp [Addr.add, metCells] at hu ⊢; exact hu
                  | j + 4, hu => simp [metCells] at hu) (by simp [Value.oneCell', metCells]) (by unfold maxLen; omega) (by omega) (by have := RId.1.upd.size; simp; omega)
              have RA := RId.app gr8 own8 pl8
              have UA := (RId.1.app gr8 own8 pl8).2
              obtain ⟨A8, c8, rfl, -, -⟩ := own_form own8
              have lg := World.block_lt_of_cell? wd _ d0
              have lb' := World.block_lt_of_cell? wd _ d2
              have s0 : (wd.alloc (.cells #[.int .i64 (sp : Int), .int .i64 f, .int .i64 (sa : Int), .int .i64 eb] 50)).cell? ⟨g6, jj, none⟩ = some (.int .i64 f) := (World.cell?_alloc_lt _ _ _ lg).trans d0
              have s1 : (wd.alloc (.cells #[.int .i64 (sp : Int), .int .i64 f, .int .i64 (sa : Int), .int .i64 eb] 50)).cell? ⟨w2.heap.size, 0, none⟩ = some (.int .i64 (sa : Int)) := (World.cell?_alloc_lt _ _ ⟨w2.heap.size, 0, none⟩ lb').trans d1
              have s2 : (wd.alloc (.cells #[.int .i64 (sp : Int), .int .i64 f, .int .i64 (sa : Int), .int .i64 eb] 50)).cell? ⟨w2.heap.size, 1, none⟩ = some (.int .i64 eb) := (World.cell?_alloc_lt _ _ _ lb').trans d2
              have ng : ¬ Value.ownBlock (.slice A7 L.length c7) = some g6 := fun e => (RId.1.dis g6 e).2 (.inr rfl)
              have nx : ¬ Value.ownBlock (.slice A7 L.length c7) = some w2.heap.size := fun e => (RId.1.dis _ e).2 (.inl rfl)
              have t0 := (UA.cell (p := ⟨g6, jj, none⟩) lg ng).trans d0
              have t1 := (UA.cell (p := ⟨w2.heap.size, 0, none⟩) lb' nx).trans d1
              have t2 := (UA.cell (p := ⟨w2.heap.size, 1, none⟩) lb' nx).trans d2
              have HRA := Lib.hid RA
              clear RA UA RId own8 gr8 pl8 lg lb' ng nx hi0 hz0 hz1 hz2
              repeat (refine ord_take (v := ?_) rfl rfl ?_ ?_; rotate_left; focus (intro wS hS; (try dsimp only at hS); go_split_ands; go_simp; (try with_reducible rfl); done); (try simp only [Act.put, List.setIfInBounds_toArray, List.set_cons_zero, List.set_cons_succ]))
              refine ord_do rfl rfl (fun K hK => ?_)
              go_simp
              refine hK _ _ (fun _ => ⟨s0, s1, s2⟩) ?_
              clear hK K
              refine ord_do rfl rfl (fun K hK => ?_)
              refine wp_append_run _ _ _ rfl rfl rfl happ ?_
              refine hK _ _ (fun _ => ⟨t0, t1, t2⟩) ?_
              clear hK K happ s0 s1 s2 t0 t1 t2 d0 d1 d2
              repeat (refine ord_take (v := ?_) rfl rfl ?_ ?_; rotate_left; focus (intro wS hS; (try dsimp only at hS); go_split_ands; go_simp; (try with_reducible rfl); done); (try simp only [Act.put, List.setIfInBounds_toArray, List.set_cons_zero, List.set_cons_succ]))
              refine ord_done ?_
              go_wp2
              go_roundw
              case rel =>
                refine ⟨jj + 1, by omega, by go_num, ?_⟩
                have e : Lk ++ (x.pops.take (jj + 1)).map (fun f => (sp, f, ((sa : Int), eb))) = L ++ [(sp, f, (sa : Int), eb)] := by
                  have h2 := (List.getElem?_eq_some_iff.1 HR.out.2.1).2
                  rw [List.take_succ_eq_append_getElem hlj, List.map_append, ← List.append_assoc, HR.out.1, h2]
                  rfl
                rw [e]
                exact HRA.out
              case measure => simp [intOf]; omega
            · have fin : MeetInv w F b n N evs (k + 1) (.slice A7 L.length c7) wr := by
                refine ⟨F2, ?_⟩
                rw [HI.out.2.1, ← List.take_of_length_le (show x.pops.length ≤ jj by omega), hL']
                exact RI.1.more (fun q hq => hq.elim)
              have FIN := Lib.hid fin
              clear fin RI hL' HI
              go_wp2
              go_roundw
              case rel => exact ⟨k + 1, by omega, by go_num, FIN.out⟩
              case measure => simp [intOf]; omega
      · -- a pop comes
        have hN' : ∀ y, stepP n (Nk, Lk) ⟨en, ea, eb, true⟩ = y → y = (if ea ∈ x.pops then (Nk, Lk ++ []) else (addPop Nk sp ea, Lk ++ x.frames.map fun f => (sp, ea, f))) := by
          rintro y rfl
          simp only [stepP, stepN, stepM, hsp, hx, if_true]
          split <;> rfl
        have hsn' := hN' _ hsn.symm
        have u1 : Below wo.heap.size wo (wo.alloc (.cells #[.int .i64 en, .int .i64 ea, .int .i64 eb, .bool true] 37)) := (Below.refl _ _).alloc (Nat.le_refl _) _
        have kb := Blk.new wo 37 #[.int .i64 en, .int .i64 ea, .int .i64 eb, .bool true]
        have HH : Hid _ := Lib.hid (And.intro M (And.intro hsn' (And.intro hc' (And.intro u1 (And.intro kb (And.intro wf1 (And.intro hx (And.intro hf1 hf2))))))))
        have hc2 : (Lk.length : Int) ≤ (c' : Int) := by omega
        clear M hsn hsm hln hN hm h0 hA hev hlb hFb he c0 c1 c2 c3 wf0 wf1 wf2 up hc' hN' hsn' u1 kb hsp hsa hx H hlen hL2 wfs hP hf1 hf2
        by_cases hold : ea ∈ x.pops
        · have HO := Lib.hid hold
          clear hold
          go_wp2_with fail
          refine (pop_old _ F' b Nk sp x ea (HH.out.1.below HH.out.2.2.2.1).at_ HH.out.2.2.2.2.2.2.1 HO.out).mono ?_
          rintro e w5 ⟨rfl, hb5⟩
          have fin : MeetInv w F b n N evs (k + 1) (.slice A' Lk.length c') w5 := by
            refine ⟨F', ?_⟩
            rw [HH.out.2.1, if_pos HO.out, List.append_nil]
            exact (HH.out.1.below HH.out.2.2.2.1).below hb5
          have FIN := Lib.hid fin
          clear hb5 fin HH HO r0 r1 r2 r3
          go_wp2
          go_loopw [8, 15] (fun v jv wq => v = .slice A' Lk.length c' ∧ jv = .int .i64 0 ∧ wq = w5) (fun _ _ _ => 0)
          case atStart => exact ⟨rfl, rfl, rfl⟩
          case round =>
            obtain ⟨rfl, rfl, rfl⟩ := hrel
            go_wp2
            go_roundw
            case rel => exact ⟨k + 1, by omega, by go_num, FIN.out⟩
            case measure => simp [intOf]; omega
        · have HO := Lib.hid hold
          clear hold
          go_wp2_with fail
          have M1 := (HH.out.1.below HH.out.2.2.2.1).more (R' := fun q => q = wo.heap.size) (by
            rintro q rfl
            refine ⟨by simp, fun hq => ?_⟩
            have := (HH.out.1.out.lt _ hq).2
            omega)
          refine (pop_new _ F' b Nk sp x ea M1.at_ HH.out.2.2.2.2.2.2.1 HH.out.2.2.2.2.2.1 HO.out (by have := HH.out.2.2.2.2.2.2.2.2; omega)).mono ?_
          rintro e w5 hr5
          obtain ⟨M, hsn', hc', u1, kb, wf1, hx, hf1, hf2⟩ := HH.out
          rw [if_neg HO.out] at hsn'
          have hbF : ∀ q, q = wo.heap.size → ¬ F' q := by
            rintro q rfl hf
            have := M.at_.lt _ hf
            omega
          obtain ⟨v2, F2, rfl, M5, row5, u5, -⟩ := M1.ret hr5 hbF
          have box5 := kb.upd u5 (hbF _ rfl)
          obtain ⟨A6, c6, rfl, hc6, -⟩ := own_form row5
          have hc6' : (x.frames.length : Int) ≤ (c6 : Int) := by omega
          have RI : RoundIn w F b (addPop Nk sp ea) Lk (fun q => q = wo.heap.size ∨ Value.ownBlock (.slice A6 x.frames.length c6) = some q) F2 48 2 x.frames.length (.slice A6 x.frames.length c6) (frameCells x.frames) wo.heap.size 37 #[.int .i64 en, .int .i64 ea, .int .i64 eb, .bool true] (.slice A' Lk.length c') w5 :=
            ⟨M5, ownsRow_base row5 (fun q hq => by have h1 := (row5.lt q hq).1; have h2 := M.upd.size; have h3 := u1.size; omega), box5, fun q hq => .inr hq, .inl rfl⟩
          have HI : Hid _ := Lib.hid (And.intro RI (And.intro hsn' (And.intro hf1 hf2)))
          clear M hsn' hc' u1 kb wf1 hx hf2 M1 hbF M5 row5 u5 box5 RI hr5 HH HO r0 r1 r2 r3 hc6
          go_wp2
          go_loopw [8, 15] (fun v jv wq => ∃ jj : Nat, jj ≤ x.frames.length ∧ jv = .int .i64 jj ∧ RoundIn w F b (addPop Nk sp ea) (Lk ++ (x.frames.take jj).map fun f => (sp, ea, f)) (fun q => q = wo.heap.size ∨ Value.ownBlock (.slice A6 x.frames.length c6) = some q) F2 48 2 x.frames.length (.slice A6 x.frames.length c6) (frameCells x.frames) wo.heap.size 37 #[.int .i64 en, .int .i64 ea, .int .i64 eb, .bool true] v wq) (fun _ jv _ => x.frames.length - (intOf jv).toNat)
          case atStart => exact ⟨0, Nat.zero_le _, rfl, by simpa using HI.out.1⟩
          case round =>
            obtain ⟨jj, hjj, rfl, RI⟩ := hrel
            obtain ⟨L, hL'⟩ : ∃ L, Lk ++ (x.frames.take jj).map (fun f => (sp, ea, f)) = L := ⟨_, rfl⟩
            rw [hL'] at RI
            obtain ⟨A7, c7, rfl, hc7, -⟩ := own_form RI.1.out
            have hLL : L.length ≤ 3660 := by rw [← hL']; simp; omega
            by_cases hlj : jj < x.frames.length
            · obtain ⟨f, hf⟩ : ∃ f, x.frames[jj]? = some f := ⟨x.frames[jj], List.getElem?_eq_getElem hlj⟩
              obtain ⟨g6, cc6, hv6, -, -, -, -, hcell6⟩ := own_cells RI.2.1 (by omega)
              injection hv6 with hA6 _ hcc6
              subst hA6
              obtain ⟨f1, f2⟩ := f
              have d0 : wr.drew.cell? ⟨g6, jj * 2, none⟩ = some (.int .i64 f1) := (hcell6 _ _ (flat_get (fun p : Int × Int => [Value.int .i64 p.1, .int .i64 p.2]) 2 (fun _ => rfl) _ jj 0 _ hf (by omega))).1
              have d1 : wr.drew.cell? ⟨g6, jj * 2 + 1, none⟩ = some (.int .i64 f2) := (hcell6 _ _ (flat_get (fun p : Int × Int => [Value.int .i64 p.1, .int .i64 p.2]) 2 (fun _ => rfl) _ jj 1 _ hf (by omega))).1
              have d2 : wr.drew.cell? ⟨wo.heap.size, 1, none⟩ = some (.int .i64 ea) := RI.2.2.1.cell 1
              have RId := RI.below (w2 := wr.drew) (Below.drew (Below.refl _ _))
              have HR : Hid _ := Lib.hid (And.intro hL' (And.intro hf HI.out.2.1))
              clear hcell6 hL' hf HI hcc6 hc7 RI
              go_wp2
              refine wp_region_ord (fun w' => w'.cell? ⟨g6, jj * 2, none⟩ = some (.int .i64 f1) ∧ w'.cell? ⟨g6, jj * 2 + 1, none⟩ = some (.int .i64 f2) ∧ w'.cell? ⟨wo.heap.size, 1, none⟩ = some (.int .i64 ea)) 12 [(0, true), (1, true), (2, true), (3, true), (4, true), (5, true), (6, true), (7, true), (8, true), (9, false), (10, false), (11, true)] (by kernel_rfl) (by kernel_rfl) (fun _ _ d _ _ h => by cases d <;> exact h) ⟨d0, d1, d2⟩ ?_
              generalize wr.drew = wd at d0 d1 d2 RId ⊢
              obtain ⟨i0, hi0, hz0, hz1, hz2⟩ := info_parts info_met
              obtain ⟨v8, w8, happ, own8, gr8, -, pl8⟩ := run_append_own_at (P := Try.prog) (wd.alloc (.cells #[.int .i64 (sp : Int), .int .i64 ea, .int .i64 f1, .int .i64 f2] 50)) w.heap.size 38 38 50 i0 _ 4 32 Try.underlying38 hi0 hz0 hz1 hz2 rfl (by decide) _ L.length _ (RId.1.out.alloc _) ⟨wd.heap.size, 0, none⟩ 1 1
                (metCells [(sp, ea, f1, f2)]) rfl (by
                  intro j u hu
                  match j, hu with
                  | 0, hu => simp [Addr.add, metCells] at hu ⊢; exact hu
                  | 1, hu => simp [Addr.add, metCells] at hu ⊢; exact hu
                  | 2, hu => simp [Addr.add, metCells] at hu ⊢; exact hu
                  | 3, hu => simp [Addr.add, metCells] at hu ⊢; exact hu
                  | j + 4, hu => simp [metCells] at hu) (by simp [Value.oneCell', metCells]) (by unfold maxLen; omega) (by omega) (by have := RId.1.upd.size; simp; omega)
              have RA := RId.app gr8 own8 pl8
              have UA := (RId.1.app gr8 own8 pl8).2
              obtain ⟨A8, c8, rfl, -, -⟩ := own_form own8
              have lg := World.block_lt_of_cell? wd _ d0
              have lb' := World.block_lt_of_cell? wd _ d2
              have s0 : (wd.alloc (.cells #[.int .i64 (sp : Int), .int .i64 ea, .int .i64 f1, .int .i64 f2] 50)).cell? ⟨g6, jj * 2, none⟩ = some (.int .i64 f1) := (World.cell?_alloc_lt _ _ _ lg).trans d0
              have s1 : (wd.alloc (.cells #[.int .i64 (sp : Int), .int .i64 ea, .int .i64 f1, .int .i64 f2] 50)).cell? ⟨g6, jj * 2 + 1, none⟩ = some (.int .i64 f2) := (World.cell?_alloc_lt _ _ ⟨g6, jj * 2 + 1, none⟩ lg).trans d1
              have s2 : (wd.alloc (.cells #[.int .i64 (sp : Int), .int .i64 ea, .int .i64 f1, .int .i64 f2] 50)).cell? ⟨wo.heap.size, 1, none⟩ = some (.int .i64 ea) := (World.cell?_alloc_lt _ _ _ lb').trans d2
              have ng : ¬ Value.ownBlock (.slice A7 L.length c7) = some g6 := fun e => (RId.1.dis g6 e).2 (.inr rfl)
              have nx : ¬ Value.ownBlock (.slice A7 L.length c7) = some wo.heap.size := fun e => (RId.1.dis _ e).2 (.inl rfl)
              have t0 := (UA.cell (p := ⟨g6, jj * 2, none⟩) lg ng).trans d0
              have t1 := (UA.cell (p := ⟨g6, jj * 2 + 1, none⟩) lg ng).trans d1
              have t2 := (UA.cell (p := ⟨wo.heap.size, 1, none⟩) lb' nx).trans d2
              have HRA := Lib.hid RA
              clear RA UA RId own8 gr8 pl8 lg lb' ng nx hi0 hz0 hz1 hz2
              repeat (refine ord_take (v := ?_) rfl rfl ?_ ?_; rotate_left; focus (intro wS hS; (try dsimp only at hS); go_split_ands; go_simp; (try with_reducible rfl); done); (try simp only [Act.put, List.setIfInBounds_toArray, List.set_cons_zero, List.set_cons_succ]))
              refine ord_do rfl rfl (fun K hK => ?_)
              go_simp
              refine hK _ _ (fun _ => ⟨s0, s1, s2⟩) ?_
              clear hK K
              refine ord_do rfl rfl (fun K hK => ?_)
              refine wp_append_run _ _ _ rfl rfl rfl happ ?_
              refine hK _ _ (fun _ => ⟨t0, t1, t2⟩) ?_
              clear hK K happ s0 s1 s2 t0 t1 t2 d0 d1 d2
              repeat (refine ord_take (v := ?_) rfl rfl ?_ ?_; rotate_left; focus (intro wS hS; (try dsimp only at hS); go_split_ands; go_simp; (try with_reducible rfl); done); (try simp only [Act.put, List.setIfInBounds_toArray, List.set_cons_zero, List.set_cons_succ]))
              refine ord_done ?_
              go_wp2
              go_roundw
              case rel =>
                refine ⟨jj + 1, by omega, by go_num, ?_⟩
                have e : Lk ++ (x.frames.take (jj + 1)).map (fun f => (sp, ea, f)) = L ++ [(sp, ea, f1, f2)] := by
                  have h2 := (List.getElem?_eq_some_iff.1 HR.out.2.1).2
                  rw [List.take_succ_eq_append_getElem hlj, List.map_append, ← List.append_assoc, HR.out.1, h2]
                  rfl
                rw [e]
                exact HRA.out
              case measure => simp [intOf]; omega
            · have fin : MeetInv w F b n N evs (k + 1) (.slice A7 L.length c7) wr := by
                refine ⟨F2, ?_⟩
                rw [HI.out.2.1, ← List.take_of_length_le (show x.frames.length ≤ jj by omega), hL']
                exact RI.1.more (fun q hq => hq.elim)
              have FIN := Lib.hid fin
              clear fin RI hL' HI
              go_wp2
              go_roundw
              case rel => exact ⟨k + 1, by omega, by go_num, FIN.out⟩
              case measure => simp [intOf]; omega
    · obtain ⟨hN, hm, h0, hA, hev⟩ := H.out.2
      have hkm : k = evs.length := by omega
      rw [hkm, List.take_length] at hP
      have fin : StkRet w F b (runP n N evs).1 50 4 (runP n N evs).2.length (metCells (runP n N evs).2) [.bool true] (.returned (.tuple #[.slice A' Lk.length c', .bool true])) wo := by
        rw [hP]
        exact ⟨_, F', rfl, M.at_, M.upd, M.fb, M.out, fun q hq => (M.dis q hq).1⟩
      have FIN := Lib.hid fin
      clear fin M hP hN hm h0 hA hev H hkm
      go_wp2
      go_ret2
      exact FIN.out
end Go.Proofs.Ytbppbgdmoihooaa
