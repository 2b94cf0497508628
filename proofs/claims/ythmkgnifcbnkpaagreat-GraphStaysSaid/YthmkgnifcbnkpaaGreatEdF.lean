/- Edges: the lone nodes. -/
import Derived.Test.YthmkgnifcbnkpaaGreatEdE
namespace Go.Proofs.YthmkgnifcbnkpaaGreat
open Go.RowKit

/-- A list of texts of its own comes back. -/
def NewT (w : World) (L : List Txt) (e : Ending) (w' : World) : Prop := ∃ v, e = .returned v ∧ w'.ownsRow w.heap.size 9 1 v L.length (txtCells L) ∧ Below w.heap.size w w'
theorem push_txt (w : World) (base : Nat) (v : Value) (L : List Txt) (own : w.ownsRow base 9 1 v L.length (txtCells L)) (s : Txt) (hl : (L.length + 1) * 16 ≤ 140737488355328) (hb : base ≤ w.heap.size) :
    ∃ v' w', (Builtin.append_ #[22, 22] 22 #[v, .slice (some ⟨w.heap.size, 0, none⟩) 1 1]).run Tryz.prog (w.alloc (.cells #[.string s] 9)) = .ok v' w' ∧ w'.ownsRow base 9 1 v' (L ++ [s]).length (txtCells (L ++ [s])) ∧ Upd (fun k => v.ownBlock = some k) w w' ∧ ∀ k, v.ownBlock = some k → base ≤ k := by
  obtain ⟨v', w', happ, own', up, -⟩ := push_own w base 22 9 1 16 _ Tryz.underlying22 info_string rfl (by decide) v L.length _ own [.string s] 1 rfl (by simp; exact rfl) hl (by unfold maxLen; omega) hb
  refine ⟨v', w', happ, ?_, up, fun k hk => (own.lt k hk).1⟩
  rw [List.length_append, txtCells, List.map_append]
  exact own'

/-! How often a text was met. -/
structure MetI (w : World) (r : Nat) (L : List Txt) (m : Nat) : Prop where
  ex : ∃ kv, MapIs w Tryz.prog 9 r kv ∧ (∀ q ∈ kv, ∃ (s : Txt) (v : Int), q = (.string s, .int .i64 v) ∧ 1 ≤ v ∧ v ≤ m ∧ s ∈ L) ∧ ∀ s ∈ L, ∃ v, ((.string s, v) : Value × Value) ∈ kv
theorem MetI.upd {w w' : World} {r m : Nat} {L : List Txt} {F : Nat → Prop} (h : MetI w r L m) (hu : Upd F w w') (hF : ¬ F r) : MetI w' r L m := by
  obtain ⟨kv, h1, h2, h3⟩ := h.ex
  exact ⟨kv, h1.upd hu hF, h2, h3⟩
theorem MetI.lt {w : World} {r m : Nat} {L : List Txt} (h : MetI w r L m) : r < w.heap.size := by
  obtain ⟨kv, h1, -⟩ := h.ex
  exact h1.lt
theorem MetI.look {w : World} {r m : Nat} {L : List Txt} (h : MetI w r L m) {s : Txt} (hs : TxtOk s) :
    ∃ v : Int, (Instr.lookup 95 (.map (some r)) (.string s) false).run Tryz.prog w = .ok (.int .i64 v) w ∧ ((v == 0) = !inB s L) ∧ 0 ≤ v ∧ v ≤ m := by
  obtain ⟨kv, h1, h2, h3⟩ := h.ex
  by_cases hin : s ∈ L
  · obtain ⟨v, hv⟩ := h3 s hin
    obtain ⟨t, x, e, hx1, hx2, -⟩ := h2 _ hv
    injection e with e1 e2
    subst e2
    refine ⟨x, h1.look_hit str_law Tryz.underlying95 hv false, ?_, by omega, hx2⟩
    rw [inB_iff.2 hin]
    simp
    omega
  · refine ⟨0, h1.look_miss str_law Tryz.underlying95 (str_key hs) (fun q hq e => ?_) (by kernel_rfl) false, by rw [show inB s L = false from by cases e : inB s L; rfl; exact (hin (inB_iff.1 e)).elim]; rfl, by omega, by omega⟩
    obtain ⟨t, x, rfl, -, -, ht⟩ := h2 q hq
    simp only [Value.string.injEq] at e
    subst e
    exact hin ht
theorem MetI.step {w : World} {r m : Nat} {L : List Txt} (h : MetI w r L m) {s : Txt} (hs : TxtOk s) {x : Int} (h0 : 0 ≤ x) (hx : x ≤ m) :
    ∃ w', (Instr.mapUpdate 95 (.map (some r)) (.string s) (.int .i64 (x + 1))).run Tryz.prog w = .ok () w' ∧ MetI w' r (s :: L) (m + 1) ∧ Upd (fun q => q = r) w w' := by
  obtain ⟨kv, h1, h2, h3⟩ := h.ex
  have up : ∀ {w' : World}, w.grownBy w' (some r) → Upd (fun q => q = r) w w' := fun hg => (Upd.of_grown hg).mono (fun i _ e => by injection e with e; exact e.symm)
  by_cases hin : ∃ v, ((.string s, v) : Value × Value) ∈ kv
  · obtain ⟨v, hv⟩ := hin
    obtain ⟨w', j, hr, hj, hm, hg, -⟩ := h1.put_hit str_law Tryz.underlying95 (.int .i64 (x + 1)) hv
    refine ⟨w', hr, ⟨_, hm, fun q hq => ?_, fun t ht => ?_⟩, up hg⟩
    · rcases List.mem_or_eq_of_mem_set hq with hq | rfl
      · obtain ⟨t, y, e, a, b, c⟩ := h2 q hq
        exact ⟨t, y, e, a, by omega, List.mem_cons_of_mem _ c⟩
      · exact ⟨s, x + 1, rfl, by omega, by omega, List.mem_cons_self⟩
    · have hjl := (List.getElem?_eq_some_iff.1 hj).1
      have key : ∀ y, ((.string t, y) : Value × Value) ∈ kv → ∃ y, ((.string t, y) : Value × Value) ∈ kv.set j (.string s, .int .i64 (x + 1)) := fun y hy => by
        obtain ⟨i, hi⟩ := List.mem_iff_getElem?.1 hy
        by_cases e : j = i
        · subst e
          rw [hj] at hi
          injection hi with hi
          injection hi with hi _
          rw [← hi]
          exact ⟨_, List.mem_of_getElem? (i := j) (by rw [List.getElem?_set_self hjl])⟩
        · exact ⟨y, List.mem_of_getElem? (i := i) (by rw [List.getElem?_set_ne e]; exact hi)⟩
      rcases List.mem_cons.1 ht with rfl | ht
      · exact key _ hv
      · obtain ⟨y, hy⟩ := h3 t ht
        exact key y hy
  · obtain ⟨w', hr, hm, hg, -⟩ := h1.put_miss str_law Tryz.underlying95 (.int .i64 (x + 1)) (str_key hs) (fun q hq e => hin ⟨q.2, by rw [← e]; exact hq⟩)
    refine ⟨w', hr, ⟨_, hm, fun q hq => ?_, fun t ht => ?_⟩, up hg⟩
    · rcases List.mem_append.1 hq with hq | hq
      · obtain ⟨t, y, e, a, b, c⟩ := h2 q hq
        exact ⟨t, y, e, a, by omega, List.mem_cons_of_mem _ c⟩
      · obtain rfl := List.mem_singleton.1 hq
        exact ⟨s, x + 1, rfl, by omega, by omega, List.mem_cons_self⟩
    · rcases List.mem_cons.1 ht with rfl | ht
      · exact ⟨_, by simp; exact .inr rfl⟩
      · obtain ⟨y, hy⟩ := h3 t ht
        exact ⟨y, List.mem_append.2 (.inl hy)⟩

/-- The ends of the first edges. -/
def endsTo (E : List Ed) : Nat → List Txt
  | 0 => []
  | k + 1 => match E[k]? with
    | some x => x.to :: x.fr :: endsTo E k
    | none => endsTo E k
theorem endsTo_hit {E : List Ed} {k : Nat} {x : Ed} (h : E[k]? = some x) : endsTo E (k + 1) = x.to :: x.fr :: endsTo E k := by rw [endsTo, h]
theorem endsTo_iff (E : List Ed) (s : Txt) : ∀ k, s ∈ endsTo E k ↔ ∃ (i : Nat) (x : Ed), i < k ∧ E[i]? = some x ∧ (s = x.fr ∨ s = x.to)
  | 0 => by simp [endsTo]
  | k + 1 => by
    have ih := endsTo_iff E s k
    unfold endsTo
    cases hx : E[k]? with
    | none =>
      simp only
      rw [ih]
      constructor
      · rintro ⟨i, x, a, b⟩; exact ⟨i, x, by omega, b⟩
      · rintro ⟨i, x, a, b, c⟩
        refine ⟨i, x, ?_, b, c⟩
        rcases Nat.lt_succ_iff_lt_or_eq.1 a with a | rfl
        · exact a
        · rw [hx] at b; cases b
    | some y =>
      simp only [List.mem_cons]
      rw [ih]
      constructor
      · rintro (rfl | rfl | ⟨i, x, a, b⟩)
        · exact ⟨k, y, by omega, hx, .inr rfl⟩
        · exact ⟨k, y, by omega, hx, .inl rfl⟩
        · exact ⟨i, x, by omega, b⟩
      · rintro ⟨i, x, a, b, c⟩
        rcases Nat.lt_succ_iff_lt_or_eq.1 a with a | rfl
        · exact .inr (.inr ⟨i, x, a, b, c⟩)
        · rw [hx] at b
          injection b with b
          subst b
          rcases c with c | c
          · exact .inr (.inl c)
          · exact .inl c
/-- The nodes of no edge. -/
def loneL (N : List Txt) (E : List Ed) : List Txt := N.filter fun s => !inB s (endsTo E E.length)
def loneTo (N : List Txt) (E : List Ed) (k : Nat) : List Txt := (N.take k).filter fun s => !inB s (endsTo E E.length)
theorem take_snoc' {α : Type} {l : List α} {k : Nat} {x : α} (h : l[k]? = some x) : l.take (k + 1) = l.take k ++ [x] := by
  obtain ⟨hk, rfl⟩ := List.getElem?_eq_some_iff.1 h
  exact List.take_succ_eq_append_getElem hk
theorem loneTo_hit {N : List Txt} {E : List Ed} {k : Nat} {s : Txt} (h : N[k]? = some s) (hb : inB s (endsTo E E.length) = false) : loneTo N E (k + 1) = loneTo N E k ++ [s] := by
  rw [loneTo, take_snoc' h, List.filter_append]
  simp [hb, loneTo]
theorem loneTo_miss {N : List Txt} {E : List Ed} {k : Nat} {s : Txt} (h : N[k]? = some s) (hb : inB s (endsTo E E.length) = true) : loneTo N E (k + 1) = loneTo N E k := by
  rw [loneTo, take_snoc' h, List.filter_append]
  simp [hb, loneTo]
theorem loneTo_all (N : List Txt) (E : List Ed) : loneTo N E N.length = loneL N E := by rw [loneTo, List.take_length]; rfl
theorem loneTo_le (N : List Txt) (E : List Ed) (k : Nat) : (loneTo N E k).length ≤ k := Nat.le_trans (List.length_filter_le _ _) (by rw [List.length_take]; omega)

set_option maxHeartbeats 4000000 in
set_option maxRecDepth 100000 in
theorem lone_any (w : World) (A : Option Addr) (c : Nat) (B : Option Addr) (d : Nat) (N : List Txt) (E : List Ed) (h : ForG w A c B d N E) :
    Calls Tryz.prog 59 #[twoV A N.length c B E.length d] w (NewT w (loneL N E)) := by
  have k0 := Blk.new w 25 #[.slice A N.length c, .slice B E.length d]
  have u0 : Below w.heap.size w (w.alloc (.cells #[.slice A N.length c, .slice B E.length d] 25)) := (Below.refl _ _).alloc (Nat.le_refl _) _
  have hn : N.length * 16 ≤ 140737488355328 := h.fit.n
  have hd : E.length ≤ 140737488355328 := by have := h.fit.e; omega
  have HA := Lib.hid (And.intro h.fit.tn h.fit.te)
  have H := Lib.hid (And.intro (h.below u0) (And.intro k0 u0))
  clear h k0 u0
  unfold twoV
  go_enter Tryz.func59, Tryz.ntmps59
  go_upto_region 1 with (fail)
  generalize w.alloc (.cells #[.slice A N.length c, .slice B E.length d] 25) = W0 at H ⊢
  have hmm := @run_makeMap Tryz.prog
  go_upto_region 2 with (fail)
  have m3 : MetI (W0.alloc (.map #[] 0)) W0.heap.size [] 0 := ⟨[], MapIs.made W0 Tryz.prog 9, fun q hq => (by cases hq), fun s hs => (by cases hs)⟩
  have b3 : Below W0.heap.size W0 (W0.alloc (.map #[] 0)) := (Below.refl _ _).alloc (Nat.le_refl _) _
  have k3 := H.out.2.1.upd (Upd.of_below b3 (fun _ => False)) id
  have H3 := Lib.hid (And.intro (H.out.1.below b3) (And.intro k3 (And.intro (H.out.2.2.trans (b3.mono H.out.2.2.size)) m3)))
  have hr1 : w.heap.size < W0.heap.size := H.out.2.1.lt
  have HAB := Lib.hid (show (∀ (j : Nat) (x : Ed), E[j]? = some x → ∃ b o, B = some ⟨b, o, none⟩ ∧ b < W0.heap.size) ∧ ∀ (j : Nat) (x : Txt), N[j]? = some x → ∃ b o, A = some ⟨b, o, none⟩ ∧ b < W0.heap.size from
    ⟨fun j x hx => by obtain ⟨b, o, e, y0, -⟩ := H.out.1.re.ed hx; exact ⟨b, o, e, World.block_lt_of_cell? _ _ y0⟩, fun j x hx => by obtain ⟨b, o, e, y0⟩ := H.out.1.rn.txt hx; exact ⟨b, o, e, World.block_lt_of_cell? _ _ y0⟩⟩)
  clear b3 m3 k3 hmm
  generalize W0.alloc (.map #[] 0) = W3 at H3 ⊢
  have q1 : W3.cell? ⟨w.heap.size, 1, none⟩ = some (.slice B E.length d) := H3.out.2.1.cell 1
  go_wp2_with fail
  clear q1
  go_loopw [5, 13] (fun _ i wr => ∃ k : Nat, k ≤ E.length ∧ i = .int .i64 k ∧ Hid (Upd (fun q => q = W0.heap.size) W3 wr) ∧ Hid (MetI wr W0.heap.size (endsTo E k) (2 * k))) (fun _ i _ => E.length - (intOf i).toNat)
  case atStart => exact ⟨0, Nat.zero_le _, rfl, Lib.hid (Upd.refl _ _), Lib.hid H3.out.2.2.2⟩
  case round =>
    obtain ⟨k, hk, rfl, hu, hm⟩ := hrel
    by_cases hlt : k < E.length
    · have hltI : (k : Int) < (E.length : Int) := by omega
      have hkw : IntKind.i64.wrap ((k : Int) + 1) = (k : Int) + 1 := IntWalk.i64_in _ (by omega)
      obtain ⟨⟨s0, s1, s2⟩, hx⟩ : ∃ x, E[k]? = some x := ⟨E[k], List.getElem?_eq_getElem _⟩
      obtain ⟨ab, ao, rfl, hab⟩ := HAB.out.1 k _ hx
      obtain ⟨ab', ao', e, y0, y1, y2⟩ := H3.out.1.re.ed hx
      injection e with e; injection e with e e2; subst e; subst e2
      dsimp only at y0 y1 y2
      have hl3 := World.block_lt_of_cell? W3 _ y0
      have cc := fun i => hu.out.cell (p := ⟨ab, i, none⟩) hl3 (by show ¬ ab = _; omega)
      have x0 := (cc _).trans y0
      have x1 := (cc _).trans y1
      have x2 := (cc _).trans y2
      have hok := HA.out.2 _ (List.mem_of_getElem? hx)
      have kx := Blk.new wr 39 #[.string s0, .string s1, .string s2]
      have ux : Upd (fun q => q = W0.heap.size) W3 (wr.alloc (.cells #[.string s0, .string s1, .string s2] 39)) := hu.out.alloc _
      have mx := hm.out.upd (Upd.of_below ((Below.refl wr.heap.size wr).alloc (Nat.le_refl _) (.cells #[.string s0, .string s1, .string s2] 39)) (fun _ => False)) id
      have hrw := hm.out.lt
      have HX := Lib.hid (And.intro hx (And.intro hok (And.intro kx (And.intro ux mx))))
      clear hx hok kx ux mx y0 y1 y2 cc hl3
      go_upto_region 5 with (fail)
      generalize wr.alloc (.cells #[.string s0, .string s1, .string s2] 39) = W5 at HX ⊢
      clear x0 x1 x2
      have x0 : W5.cell? ⟨wr.heap.size, 0, none⟩ = some (.string s0) := HX.out.2.2.1.cell 0
      obtain ⟨v0, l0, -, h0, h0'⟩ := HX.out.2.2.2.2.look (s := s0) HX.out.2.1.1
      have hw0 : IntKind.i64.wrap (v0 + 1) = v0 + 1 := IntWalk.i64_in _ (by omega)
      obtain ⟨w6, r6, m6, u6⟩ := HX.out.2.2.2.2.step (s := s0) HX.out.2.1.1 h0 (by omega)
      have k6 := HX.out.2.2.1.upd u6 (by omega)
      have H6 := Lib.hid (And.intro (HX.out.2.2.2.1.trans u6 (fun i e => .inl e)) m6)
      clear m6 u6
      have x2 : w6.cell? ⟨wr.heap.size, 2, none⟩ = some (.string s2) := k6.cell 2
      obtain ⟨v1, l1, -, h1, h1'⟩ := H6.out.2.look (s := s2) HX.out.2.1.2.2
      have hw1 : IntKind.i64.wrap (v1 + 1) = v1 + 1 := IntWalk.i64_in _ (by omega)
      obtain ⟨w7, r7, m7, u7⟩ := H6.out.2.step (s := s2) HX.out.2.1.2.2 h1 (by omega)
      have H7 := Lib.hid (And.intro (H6.out.1.trans u7 (fun i e => .inl e)) m7)
      clear m7 u7 k6
      go_wp2
      go_roundw
      case rel => exact ⟨k + 1, by omega, by go_num, Lib.hid H7.out.1, Lib.hid (by rw [endsTo_hit HX.out.1]; exact H7.out.2)⟩
      case measure => simp [intOf]; omega
    · obtain rfl : k = E.length := by omega
      obtain ⟨W4, hW4⟩ : ∃ W, W = wr := ⟨_, rfl⟩
      subst hW4
      have k4 := H3.out.2.1.upd hu.out (by omega)
      have q0 : W4.cell? ⟨w.heap.size, 0, none⟩ = some (.slice A N.length c) := k4.cell 0
      have bw4 : Below w.heap.size w W4 := H3.out.2.2.1.trans (hu.out.below (fun q _ e => by omega) H3.out.2.2.1.size)
      have H4 := Lib.hid (And.intro bw4 (And.intro hu.out hm.out))
      clear k4 bw4 hk hlt hu hm
      go_wp2_with fail
      clear q0
      go_loopw [6, 8, 31] (fun v _ i wz => ∃ k : Nat, k ≤ N.length ∧ i = .int .i64 k ∧ Hid (Below W4.heap.size W4 wz) ∧ Hid (wz.ownsRow W4.heap.size 9 1 v (loneTo N E k).length (txtCells (loneTo N E k)))) (fun _ _ i _ => N.length - (intOf i).toNat)
      case atStart => exact ⟨0, Nat.zero_le _, rfl, Lib.hid (Below.refl _ _), Lib.hid (World.ownsRow_nil _ _ _ _)⟩
      case round =>
        obtain ⟨k, hk, rfl, hb, ho⟩ := hrel
        obtain ⟨A5, c5, rfl, -, -⟩ := own_form ho.out
        obtain ⟨n5, hn5⟩ : ∃ n5, (loneTo N E k).length = n5 := ⟨_, rfl⟩
        have hle := loneTo_le N E k
        by_cases hlt : k < N.length
        · have hltI : (k : Int) < (N.length : Int) := by omega
          have hkw : IntKind.i64.wrap ((k : Int) + 1) = (k : Int) + 1 := IntWalk.i64_in _ (by omega)
          obtain ⟨s, hx⟩ : ∃ x, N[k]? = some x := ⟨N[k], List.getElem?_eq_getElem _⟩
          obtain ⟨ab, ao, rfl, hab⟩ := HAB.out.2 k _ hx
          obtain ⟨ab', ao', e, y0⟩ := H3.out.1.rn.txt hx
          injection e with e; injection e with e e2; subst e; subst e2
          have hl3 := World.block_lt_of_cell? W3 _ y0
          have x0 : wr.cell? ⟨ab, ao + k, none⟩ = some (.string s) := (hb.out.cell (p := ⟨ab, ao + k, none⟩) (Nat.lt_of_lt_of_le hl3 H4.out.2.1.size)).trans ((H4.out.2.1.cell (p := ⟨ab, ao + k, none⟩) hl3 (by show ¬ ab = _; omega)).trans y0)
          obtain ⟨v0, l0, hv0, -⟩ := (H4.out.2.2.upd (Upd.of_below hb.out (fun _ => False)) id).look (s := s) (HA.out.1 s (List.mem_of_getElem? hx))
          obtain ⟨b, hbb⟩ : ∃ b, inB s (endsTo E E.length) = b := ⟨_, rfl⟩
          rw [hbb] at hv0
          have HX := Lib.hid (And.intro hx hbb)
          clear hx hbb y0 hl3
          rw [hn5]
          cases b
          · simp only [Bool.not_false] at hv0
            obtain ⟨v6, w6, happ, own6, u6, hv6⟩ := push_txt wr W4.heap.size _ _ ho.out s (by omega) hb.out.size
            rw [hn5] at happ
            have b6 : Below W4.heap.size W4 w6 := hb.out.trans (u6.below (fun q _ e => hv6 q e) hb.out.size)
            have H6 := Lib.hid (And.intro own6 b6)
            clear own6 b6 u6 hv6 hn5 hle
            go_wp2_with (at_builtin; refine wpList_append_run rfl _ _ _ rfl rfl rfl happ ?_)
            go_roundw
            case rel => exact ⟨k + 1, by omega, by go_num, Lib.hid H6.out.2, Lib.hid (by rw [loneTo_hit HX.out.1 HX.out.2]; exact H6.out.1)⟩
            case measure => simp [intOf]; omega
          · simp only [Bool.not_true] at hv0
            have HN5 := Lib.hid hn5
            clear hn5 hle
            go_wp2
            go_roundw
            case rel => exact ⟨k + 1, by omega, by go_num, hb, Lib.hid (by rw [loneTo_miss HX.out.1 HX.out.2]; have := ho.out; rw [HN5.out] at this ⊢; exact this)⟩
            case measure => simp [intOf]; omega
        · obtain rfl : k = N.length := by omega
          have fin : NewT w (loneL N E) (.returned (.slice A5 n5 c5)) wr := by
            rw [← loneTo_all]
            refine ⟨_, rfl, ?_, H4.out.1.trans (hb.out.mono H4.out.1.size)⟩
            rw [← hn5]
            exact ownsRow_base ho.out (fun q hq => Nat.le_trans H4.out.1.size (ho.out.lt q hq).1)
          have FIN := Lib.hid fin
          rw [hn5]
          clear fin hn5 hle
          go_wp2
          go_ret
          exact FIN.out
end Go.Proofs.YthmkgnifcbnkpaaGreat
