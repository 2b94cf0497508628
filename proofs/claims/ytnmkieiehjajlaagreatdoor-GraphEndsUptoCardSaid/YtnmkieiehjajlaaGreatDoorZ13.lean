/- Edges: the lone nodes; Edges: the text of a graph; Edges: a list of texts in order, each once; Edges: the labels of a graph. -/
import Derived.Test.YtnmkieiehjajlaaGreatDoorZ12
import Derived.Test.YtnmkieiehjajlaaGreatDoorZ03
import Derived.Laws.Concat
import Derived.Test.YtnmkieiehjajlaaGreatDoorZ04
set_option linter.unusedVariables false
set_option linter.unusedSimpArgs false
namespace Go.Proofs.YtnmkieiehjajlaaGreatDoor
open Go.RowKit

/-- A list of texts of its own comes back. -/
def NewT (w : World) (L : List Txt) (e : Ending) (w' : World) : Prop := ∃ v, e = .returned v ∧ w'.ownsRow w.heap.size 9 1 v L.length (txtCells L) ∧ Below w.heap.size w w'
theorem push_txt (w : World) (base : Nat) (v : Value) (L : List Txt) (own : w.ownsRow base 9 1 v L.length (txtCells L)) (s : Txt) (hl : (L.length + 1) * 16 ≤ 140737488355328) (hb : base ≤ w.heap.size) :
    ∃ v' w', (Builtin.append_ #[22, 22] 22 #[v, .slice (some ⟨w.heap.size, 0, none⟩) 1 1]).run Tryz.prog (w.alloc (.cells #[.string s] 9)) = .ok v' w' ∧ w'.ownsRow base 9 1 v' (L ++ [s]).length (txtCells (L ++ [s])) ∧ Upd (fun k => v.ownBlock = some k) w w' ∧ ∀ k, v.ownBlock = some k → base ≤ k := by
  obtain ⟨v', w', happ, own', up, -⟩ := push_own w base 22 9 1 16 _ Tryz.underlying22 info_string rfl (by decide) v L.length _ own [.string s] 1 rfl (by simp; exact rfl) hl (by unfold maxLen; omega) hb
  refine ⟨v', w', happ, ?_, up, fun k hk => (own.lt k hk).1⟩
  rw [List.length_append, txtCells, List.map_append]
  exact own'

/-! How often a text was met. -/
structure MetI (w : World) (r : Nat) (L : List Txt) (m : Nat) : Prop where
  ex : ∃ kv, MapIs w Tryz.prog 9 r kv ∧ (∀ q ∈ kv, ∃ (s : Txt) (v : Int), q = (.string s, .int .i64 v) ∧ 1 ≤ v ∧ v ≤ m ∧ s ∈ L) ∧ ∀ s ∈ L, ∃ v, ((.string s, v) : Value × Value) ∈ kv
theorem MetI.upd {w w' : World} {r m : Nat} {L : List Txt} {F : Nat → Prop} (h : MetI w r L m) (hu : Upd F w w') (hF : ¬ F r) : MetI w' r L m := by
  obtain ⟨kv, h1, h2, h3⟩ := h.ex
  exact ⟨kv, h1.upd hu hF, h2, h3⟩
theorem MetI.lt {w : World} {r m : Nat} {L : List Txt} (h : MetI w r L m) : r < w.heap.size := by
  obtain ⟨kv, h1, -⟩ := h.ex
  exact h1.lt
theorem MetI.look {w : World} {r m : Nat} {L : List Txt} (h : MetI w r L m) {s : Txt} (hs : TxtOk s) :
    ∃ v : Int, (Instr.lookup 98 (.map (some r)) (.string s) false).run Tryz.prog w = .ok (.int .i64 v) w ∧ ((v == 0) = !inB s L) ∧ 0 ≤ v ∧ v ≤ m := by
  obtain ⟨kv, h1, h2, h3⟩ := h.ex
  by_cases hin : s ∈ L
  · obtain ⟨v, hv⟩ := h3 s hin
    obtain ⟨t, x, e, hx1, hx2, -⟩ := h2 _ hv
    injection e with e1 e2
    subst e2
    refine ⟨x, h1.look_hit str_law Tryz.underlying98 hv false, ?_, by omega, hx2⟩
    rw [inB_iff.2 hin]
    simp
    omega
  · refine ⟨0, h1.look_miss str_law Tryz.underlying98 (str_key hs) (fun q hq e => ?_) (by kernel_rfl) false, by rw [show inB s L = false from by cases e : inB s L; rfl; exact (hin (inB_iff.1 e)).elim]; rfl, by omega, by omega⟩
    obtain ⟨t, x, rfl, -, -, ht⟩ := h2 q hq
    simp only [Value.string.injEq] at e
    subst e
    exact hin ht
theorem MetI.step {w : World} {r m : Nat} {L : List Txt} (h : MetI w r L m) {s : Txt} (hs : TxtOk s) {x : Int} (h0 : 0 ≤ x) (hx : x ≤ m) :
    ∃ w', (Instr.mapUpdate 98 (.map (some r)) (.string s) (.int .i64 (x + 1))).run Tryz.prog w = .ok () w' ∧ MetI w' r (s :: L) (m + 1) ∧ Upd (fun q => q = r) w w' := by
  obtain ⟨kv, h1, h2, h3⟩ := h.ex
  have up : ∀ {w' : World}, w.grownBy w' (some r) → Upd (fun q => q = r) w w' := fun hg => (Upd.of_grown hg).mono (fun i _ e => by injection e with e; exact e.symm)
  by_cases hin : ∃ v, ((.string s, v) : Value × Value) ∈ kv
  · obtain ⟨v, hv⟩ := hin
    obtain ⟨w', j, hr, hj, hm, hg, -⟩ := h1.put_hit str_law Tryz.underlying98 (.int .i64 (x + 1)) hv
    refine ⟨w', hr, ⟨_, hm, fun q hq => ?_, fun t ht => ?_⟩, up hg⟩
    · rcases List.mem_or_eq_of_mem_set hq with hq | rfl
      · obtain ⟨t, y, e, a, b, c⟩ := h2 q hq
        exact ⟨t, y, e, a, by omega, List.mem_cons_of_mem _ c⟩
      · exact ⟨s, x + 1, rfl, by omega, by omega, List.mem_cons_self⟩
    · have hjl := (List.getElem?_eq_some_iff.1 hj).1
      have key : ∀ y, ((.string t, y) : Value × Value) ∈ kv → ∃ y, ((.string t, y) : Value × Value) ∈ kv.set j (.string s, .int .i64 (x + 1)) := fun y hy => by
        obtain ⟨i, hi⟩ := List.mem_iff_getElem?.1 hy
        by_cases e : j = i
        · subst e
          rw [hj] at hi
          injection hi with hi
          injection hi with hi _
          rw [← hi]
          exact ⟨_, List.mem_of_getElem? (i := j) (by rw [List.getElem?_set_self hjl])⟩
        · exact ⟨y, List.mem_of_getElem? (i := i) (by rw [List.getElem?_set_ne e]; exact hi)⟩
      rcases List.mem_cons.1 ht with rfl | ht
      · exact key _ hv
      · obtain ⟨y, hy⟩ := h3 t ht
        exact key y hy
  · obtain ⟨w', hr, hm, hg, -⟩ := h1.put_miss str_law Tryz.underlying98 (.int .i64 (x + 1)) (str_key hs) (fun q hq e => hin ⟨q.2, by rw [← e]; exact hq⟩)
    refine ⟨w', hr, ⟨_, hm, fun q hq => ?_, fun t ht => ?_⟩, up hg⟩
    · rcases List.mem_append.1 hq with hq | hq
      · obtain ⟨t, y, e, a, b, c⟩ := h2 q hq
        exact ⟨t, y, e, a, by omega, List.mem_cons_of_mem _ c⟩
      · obtain rfl := List.mem_singleton.1 hq
        exact ⟨s, x + 1, rfl, by omega, by omega, List.mem_cons_self⟩
    · rcases List.mem_cons.1 ht with rfl | ht
      · exact ⟨_, by simp; exact .inr rfl⟩
      · obtain ⟨y, hy⟩ := h3 t ht
        exact ⟨y, List.mem_append.2 (.inl hy)⟩

/-- The ends of the first edges. -/
def endsTo (E : List Ed) : Nat → List Txt
  | 0 => []
  | k + 1 => match E[k]? with
    | some x => x.to :: x.fr :: endsTo E k
    | none => endsTo E k
theorem endsTo_hit {E : List Ed} {k : Nat} {x : Ed} (h : E[k]? = some x) : endsTo E (k + 1) = x.to :: x.fr :: endsTo E k := by rw [endsTo, h]
theorem endsTo_iff (E : List Ed) (s : Txt) : ∀ k, s ∈ endsTo E k ↔ ∃ (i : Nat) (x : Ed), i < k ∧ E[i]? = some x ∧ (s = x.fr ∨ s = x.to)
  | 0 => by simp [endsTo]
  | k + 1 => by
    have ih := endsTo_iff E s k
    unfold endsTo
    cases hx : E[k]? with
    | none =>
      simp only
      rw [ih]
      constructor
      · rintro ⟨i, x, a, b⟩; exact ⟨i, x, by omega, b⟩
      · rintro ⟨i, x, a, b, c⟩
        refine ⟨i, x, ?_, b, c⟩
        rcases Nat.lt_succ_iff_lt_or_eq.1 a with a | rfl
        · exact a
        · rw [hx] at b; cases b
    | some y =>
      simp only [List.mem_cons]
      rw [ih]
      constructor
      · rintro (rfl | rfl | ⟨i, x, a, b⟩)
        · exact ⟨k, y, by omega, hx, .inr rfl⟩
        · exact ⟨k, y, by omega, hx, .inl rfl⟩
        · exact ⟨i, x, by omega, b⟩
      · rintro ⟨i, x, a, b, c⟩
        rcases Nat.lt_succ_iff_lt_or_eq.1 a with a | rfl
        · exact .inr (.inr ⟨i, x, a, b, c⟩)
        · rw [hx] at b
          injection b with b
          subst b
          rcases c with c | c
          · exact .inr (.inl c)
          · exact .inl c
/-- The nodes of no edge. -/
def loneL (N : List Txt) (E : List Ed) : List Txt := N.filter fun s => !inB s (endsTo E E.length)
def loneTo (N : List Txt) (E : List Ed) (k : Nat) : List Txt := (N.take k).filter fun s => !inB s (endsTo E E.length)
theorem take_snoc' {α : Type} {l : List α} {k : Nat} {x : α} (h : l[k]? = some x) : l.take (k + 1) = l.take k ++ [x] := by
  obtain ⟨hk, rfl⟩ := List.getElem?_eq_some_iff.1 h
  exact List.take_succ_eq_append_getElem hk
theorem loneTo_hit {N : List Txt} {E : List Ed} {k : Nat} {s : Txt} (h : N[k]? = some s) (hb : inB s (endsTo E E.length) = false) : loneTo N E (k + 1) = loneTo N E k ++ [s] := by
  rw [loneTo, take_snoc' h, List.filter_append]
  simp [hb, loneTo]
theorem loneTo_miss {N : List Txt} {E : List Ed} {k : Nat} {s : Txt} (h : N[k]? = some s) (hb : inB s (endsTo E E.length) = true) : loneTo N E (k + 1) = loneTo N E k := by
  rw [loneTo, take_snoc' h, List.filter_append]
  simp [hb, loneTo]
theorem loneTo_all (N : List Txt) (E : List Ed) : loneTo N E N.length = loneL N E := by rw [loneTo, List.take_length]; rfl
theorem loneTo_le (N : List Txt) (E : List Ed) (k : Nat) : (loneTo N E k).length ≤ k := Nat.le_trans (List.length_filter_le _ _) (by rw [List.length_take]; omega)

set_option maxHeartbeats 4000000 in
set_option maxRecDepth 100000 in
theorem lone_any (w : World) (A : Option Addr) (c : Nat) (B : Option Addr) (d : Nat) (N : List Txt) (E : List Ed) (h : ForG w A c B d N E) :
    Calls Tryz.prog 172 #[twoV A N.length c B E.length d] w (NewT w (loneL N E)) := by
  have k0 := Blk.new w 54 #[.slice A N.length c, .slice B E.length d]
  have u0 : Below w.heap.size w (w.alloc (.cells #[.slice A N.length c, .slice B E.length d] 54)) := (Below.refl _ _).alloc (Nat.le_refl _) _
  have hn : N.length * 16 ≤ 140737488355328 := h.fit.n
  have hd : E.length ≤ 140737488355328 := by have := h.fit.e; omega
  have HA := Lib.hid (And.intro h.fit.tn h.fit.te)
  have H := Lib.hid (And.intro (h.below u0) (And.intro k0 u0))
  clear h k0 u0
  unfold twoV
  go_enter Tryz.func172, Tryz.ntmps172
  go_upto_region 1 with (fail)
  generalize w.alloc (.cells #[.slice A N.length c, .slice B E.length d] 54) = W0 at H ⊢
  have hmm := @run_makeMap Tryz.prog
  go_upto_region 2 with (fail)
  have m3 : MetI (W0.alloc (.map #[] 0)) W0.heap.size [] 0 := ⟨[], MapIs.made W0 Tryz.prog 9, fun q hq => (by cases hq), fun s hs => (by cases hs)⟩
  have b3 : Below W0.heap.size W0 (W0.alloc (.map #[] 0)) := (Below.refl _ _).alloc (Nat.le_refl _) _
  have k3 := H.out.2.1.upd (Upd.of_below b3 (fun _ => False)) id
  have H3 := Lib.hid (And.intro (H.out.1.below b3) (And.intro k3 (And.intro (H.out.2.2.trans (b3.mono H.out.2.2.size)) m3)))
  have hr1 : w.heap.size < W0.heap.size := H.out.2.1.lt
  have HAB := Lib.hid (show (∀ (j : Nat) (x : Ed), E[j]? = some x → ∃ b o, B = some ⟨b, o, none⟩ ∧ b < W0.heap.size) ∧ ∀ (j : Nat) (x : Txt), N[j]? = some x → ∃ b o, A = some ⟨b, o, none⟩ ∧ b < W0.heap.size from
    ⟨fun j x hx => by obtain ⟨b, o, e, y0, -⟩ := H.out.1.re.ed hx; exact ⟨b, o, e, World.block_lt_of_cell? _ _ y0⟩, fun j x hx => by obtain ⟨b, o, e, y0⟩ := H.out.1.rn.txt hx; exact ⟨b, o, e, World.block_lt_of_cell? _ _ y0⟩⟩)
  clear b3 m3 k3 hmm
  generalize W0.alloc (.map #[] 0) = W3 at H3 ⊢
  have q1 : W3.cell? ⟨w.heap.size, 1, none⟩ = some (.slice B E.length d) := H3.out.2.1.cell 1
  go_wp2_with fail
  clear q1
  go_loopw [5, 13] (fun _ i wr => ∃ k : Nat, k ≤ E.length ∧ i = .int .i64 k ∧ Hid (Upd (fun q => q = W0.heap.size) W3 wr) ∧ Hid (MetI wr W0.heap.size (endsTo E k) (2 * k))) (fun _ i _ => E.length - (intOf i).toNat)
  case atStart => exact ⟨0, Nat.zero_le _, rfl, Lib.hid (Upd.refl _ _), Lib.hid H3.out.2.2.2⟩
  case round =>
    obtain ⟨k, hk, rfl, hu, hm⟩ := hrel
    by_cases hlt : k < E.length
    · have hltI : (k : Int) < (E.length : Int) := by omega
      have hkw : IntKind.i64.wrap ((k : Int) + 1) = (k : Int) + 1 := IntWalk.i64_in _ (by omega)
      obtain ⟨⟨s0, s1, s2⟩, hx⟩ : ∃ x, E[k]? = some x := ⟨E[k], List.getElem?_eq_getElem _⟩
      obtain ⟨ab, ao, rfl, hab⟩ := HAB.out.1 k _ hx
      obtain ⟨ab', ao', e, y0, y1, y2⟩ := H3.out.1.re.ed hx
      injection e with e; injection e with e e2; subst e; subst e2
      dsimp only at y0 y1 y2
      have hl3 := World.block_lt_of_cell? W3 _ y0
      have cc := fun i => hu.out.cell (p := ⟨ab, i, none⟩) hl3 (by show ¬ ab = _; omega)
      have x0 := (cc _).trans y0
      have x1 := (cc _).trans y1
      have x2 := (cc _).trans y2
      have hok := HA.out.2 _ (List.mem_of_getElem? hx)
      have kx := Blk.new wr 52 #[.string s0, .string s1, .string s2]
      have ux : Upd (fun q => q = W0.heap.size) W3 (wr.alloc (.cells #[.string s0, .string s1, .string s2] 52)) := hu.out.alloc _
      have mx := hm.out.upd (Upd.of_below ((Below.refl wr.heap.size wr).alloc (Nat.le_refl _) (.cells #[.string s0, .string s1, .string s2] 52)) (fun _ => False)) id
      have hrw := hm.out.lt
      have HX := Lib.hid (And.intro hx (And.intro hok (And.intro kx (And.intro ux mx))))
      clear hx hok kx ux mx y0 y1 y2 cc hl3
      go_upto_region 5 with (fail)
      generalize wr.alloc (.cells #[.string s0, .string s1, .string s2] 52) = W5 at HX ⊢
      clear x0 x1 x2
      have x0 : W5.cell? ⟨wr.heap.size, 0, none⟩ = some (.string s0) := HX.out.2.2.1.cell 0
      obtain ⟨v0, l0, -, h0, h0'⟩ := HX.out.2.2.2.2.look (s := s0) HX.out.2.1.1
      have hw0 : IntKind.i64.wrap (v0 + 1) = v0 + 1 := IntWalk.i64_in _ (by omega)
      obtain ⟨w6, r6, m6, u6⟩ := HX.out.2.2.2.2.step (s := s0) HX.out.2.1.1 h0 (by omega)
      have k6 := HX.out.2.2.1.upd u6 (by omega)
      have H6 := Lib.hid (And.intro (HX.out.2.2.2.1.trans u6 (fun i e => .inl e)) m6)
      clear m6 u6
      have x2 : w6.cell? ⟨wr.heap.size, 2, none⟩ = some (.string s2) := k6.cell 2
      obtain ⟨v1, l1, -, h1, h1'⟩ := H6.out.2.look (s := s2) HX.out.2.1.2.2
      have hw1 : IntKind.i64.wrap (v1 + 1) = v1 + 1 := IntWalk.i64_in _ (by omega)
      obtain ⟨w7, r7, m7, u7⟩ := H6.out.2.step (s := s2) HX.out.2.1.2.2 h1 (by omega)
      have H7 := Lib.hid (And.intro (H6.out.1.trans u7 (fun i e => .inl e)) m7)
      clear m7 u7 k6
      go_wp2
      go_roundw
      case rel => exact ⟨k + 1, by omega, by go_num, Lib.hid H7.out.1, Lib.hid (by rw [endsTo_hit HX.out.1]; exact H7.out.2)⟩
      case measure => simp [intOf]; omega
    · obtain rfl : k = E.length := by omega
      obtain ⟨W4, hW4⟩ : ∃ W, W = wr := ⟨_, rfl⟩
      subst hW4
      have k4 := H3.out.2.1.upd hu.out (by omega)
      have q0 : W4.cell? ⟨w.heap.size, 0, none⟩ = some (.slice A N.length c) := k4.cell 0
      have bw4 : Below w.heap.size w W4 := H3.out.2.2.1.trans (hu.out.below (fun q _ e => by omega) H3.out.2.2.1.size)
      have H4 := Lib.hid (And.intro bw4 (And.intro hu.out hm.out))
      clear k4 bw4 hk hlt hu hm
      go_wp2_with fail
      clear q0
      go_loopw [6, 8, 31] (fun v _ i wz => ∃ k : Nat, k ≤ N.length ∧ i = .int .i64 k ∧ Hid (Below W4.heap.size W4 wz) ∧ Hid (wz.ownsRow W4.heap.size 9 1 v (loneTo N E k).length (txtCells (loneTo N E k)))) (fun _ _ i _ => N.length - (intOf i).toNat)
      case atStart => exact ⟨0, Nat.zero_le _, rfl, Lib.hid (Below.refl _ _), Lib.hid (World.ownsRow_nil _ _ _ _)⟩
      case round =>
        obtain ⟨k, hk, rfl, hb, ho⟩ := hrel
        obtain ⟨A5, c5, rfl, -, -⟩ := own_form ho.out
        obtain ⟨n5, hn5⟩ : ∃ n5, (loneTo N E k).length = n5 := ⟨_, rfl⟩
        have hle := loneTo_le N E k
        by_cases hlt : k < N.length
        · have hltI : (k : Int) < (N.length : Int) := by omega
          have hkw : IntKind.i64.wrap ((k : Int) + 1) = (k : Int) + 1 := IntWalk.i64_in _ (by omega)
          obtain ⟨s, hx⟩ : ∃ x, N[k]? = some x := ⟨N[k], List.getElem?_eq_getElem _⟩
          obtain ⟨ab, ao, rfl, hab⟩ := HAB.out.2 k _ hx
          obtain ⟨ab', ao', e, y0⟩ := H3.out.1.rn.txt hx
          injection e with e; injection e with e e2; subst e; subst e2
          have hl3 := World.block_lt_of_cell? W3 _ y0
          have x0 : wr.cell? ⟨ab, ao + k, none⟩ = some (.string s) := (hb.out.cell (p := ⟨ab, ao + k, none⟩) (Nat.lt_of_lt_of_le hl3 H4.out.2.1.size)).trans ((H4.out.2.1.cell (p := ⟨ab, ao + k, none⟩) hl3 (by show ¬ ab = _; omega)).trans y0)
          obtain ⟨v0, l0, hv0, -⟩ := (H4.out.2.2.upd (Upd.of_below hb.out (fun _ => False)) id).look (s := s) (HA.out.1 s (List.mem_of_getElem? hx))
          obtain ⟨b, hbb⟩ : ∃ b, inB s (endsTo E E.length) = b := ⟨_, rfl⟩
          rw [hbb] at hv0
          have HX := Lib.hid (And.intro hx hbb)
          clear hx hbb y0 hl3
          rw [hn5]
          cases b
          · simp only [Bool.not_false] at hv0
            obtain ⟨v6, w6, happ, own6, u6, hv6⟩ := push_txt wr W4.heap.size _ _ ho.out s (by omega) hb.out.size
            rw [hn5] at happ
            have b6 : Below W4.heap.size W4 w6 := hb.out.trans (u6.below (fun q _ e => hv6 q e) hb.out.size)
            have H6 := Lib.hid (And.intro own6 b6)
            clear own6 b6 u6 hv6 hn5 hle
            go_wp2_with (at_builtin; refine wpList_append_run rfl _ _ _ rfl rfl rfl happ ?_)
            go_roundw
            case rel => exact ⟨k + 1, by omega, by go_num, Lib.hid H6.out.2, Lib.hid (by rw [loneTo_hit HX.out.1 HX.out.2]; exact H6.out.1)⟩
            case measure => simp [intOf]; omega
          · simp only [Bool.not_true] at hv0
            have HN5 := Lib.hid hn5
            clear hn5 hle
            go_wp2
            go_roundw
            case rel => exact ⟨k + 1, by omega, by go_num, hb, Lib.hid (by rw [loneTo_miss HX.out.1 HX.out.2]; have := ho.out; rw [HN5.out] at this ⊢; exact this)⟩
            case measure => simp [intOf]; omega
        · obtain rfl : k = N.length := by omega
          have fin : NewT w (loneL N E) (.returned (.slice A5 n5 c5)) wr := by
            rw [← loneTo_all]
            refine ⟨_, rfl, ?_, H4.out.1.trans (hb.out.mono H4.out.1.size)⟩
            rw [← hn5]
            exact ownsRow_base ho.out (fun q hq => Nat.le_trans H4.out.1.size (ho.out.lt q hq).1)
          have FIN := Lib.hid fin
          rw [hn5]
          clear fin hn5 hle
          go_wp2
          go_ret
          exact FIN.out
end Go.Proofs.YtnmkieiehjajlaaGreatDoor
namespace Go.Proofs.YtnmkieiehjajlaaGreatDoor
open Go.RowKit

/-- A builder in block b holds these bytes. -/
def IsB (w : World) (b : Nat) (l : List UInt8) : Prop := Lib.IsBuilderF 247 5 b b (Lib.byteCells l) w
theorem IsB.alloc {w : World} {b : Nat} {l : List UInt8} (h : IsB w b l) (o : Obj) : IsB (w.alloc o) b l := Lib.IsBuilderF.alloc h o
theorem IsB.below {w w' : World} {b : Nat} {l : List UInt8} (h : IsB w b l) (hb : Below w.heap.size w w') : IsB w' b l := by
  have hg : w.grownBy w' none := (Upd.of_below hb (fun _ => False)).to_grown (fun _ _ e => e.elim)
  have key : ∀ p, Lib.BuilderAtF 247 5 b b p (Lib.byteCells l) w → Lib.BuilderAtF 247 5 b b p (Lib.byteCells l) w' := fun p ⟨h1, v, h2, h3, h4⟩ =>
    ⟨h1, v, (hb.block b (Array.getElem?_eq_some_iff.1 h2).1).trans h2, h3.kept hg (by cases v.ownBlock <;> simp), h4⟩
  exact h.imp (key _) (key _)
theorem IsB.new (w : World) : IsB (w.alloc (.cells #[.pointer none, .slice none 0 0] 247)) w.heap.size [] :=
  .inl ⟨Nat.le_refl _, .slice none 0 0, heap_alloc_new w _, World.ownsRowF_nil _ _ _ _, by simp [Value.ownBlock]⟩
theorem bwrite (w : World) (b : Nat) (l : List UInt8) (s : Txt) (h : IsB w b l) (hl : l.length + s.size ≤ 140737488355328) (hb : b ≤ w.heap.size) :
    Calls Tryz.prog 173 #[.pointer (some ⟨b, 0, none⟩), .string s] w fun e w' => e = .returned (.tuple #[.int .i64 s.size, .nilIface]) ∧ IsB w' b (l ++ s.data.toList) ∧ Below b w w' ∧ Lib.OthersKept 5 (some b) w w' := by
  have hcon := Any.Builder_WriteString_k writeStr bExtra b b (Lib.byteCells l) s w h (by rw [Lib.byteCells_length]; exact hl) hb
  change Calls Tryz.prog 173 _ _ _ at hcon
  refine hcon.mono ?_
  rintro e w' ⟨rfl, h1, h2, h3⟩
  refine ⟨rfl, .inr ?_, h2, h3⟩
  have : Lib.byteCells (l ++ s.data.toList) = Lib.byteCells l ++ Lib.strCells s := by rw [Lib.strCells_eq]; simp [Lib.byteCells]
  rw [this]
  exact h1
theorem bstring (w : World) (b : Nat) (l : List UInt8) (h : IsB w b l) (hb : b ≤ w.heap.size) :
    Calls Tryz.prog 174 #[.pointer (some ⟨b, 0, none⟩)] w fun e w' => e = .returned (.string ⟨l.toArray⟩) ∧ Below b w w' := by
  have hcon := Any.Builder_String_any_k strOf bExtra b b l w h hb
  change Calls Tryz.prog 174 _ _ _ at hcon
  exact hcon.mono fun e w' hh => ⟨hh.1, hh.2.2.1⟩
theorem own_kept {w w' : World} {base n b : Nat} {v : Value} {xs : List Value} (h : w.ownsRow base 9 1 v n xs) (hk : Lib.OthersKept 5 (some b) w w') (hb : v.ownBlock ≠ some b) : w'.ownsRow base 9 1 v n xs := by
  refine ⟨h.1, ?_⟩
  rcases h.2 with h2 | ⟨g, cap, cur, rfl, h3, hg, r⟩
  · exact .inl h2
  · exact .inr ⟨g, cap, cur, rfl, h3, hk g _ hg (fun e => hb e) (fun c fz e => by injection e with _ e _; exact absurd e (by decide)), r⟩

def sepL : List UInt8 := [32, 59, 10]
def lineN (s : Txt) : List UInt8 := s.data.toList ++ sepL
def lineE (x : Ed) : List UInt8 := x.fr.data.toList ++ [32] ++ x.lb.data.toList ++ [32] ++ x.to.data.toList ++ sepL
def textL (N : List Txt) (E : List Ed) : List UInt8 := (loneL N E).flatMap lineN ++ E.flatMap lineE
/-- All names are short. -/
structure Short (N : List Txt) (E : List Ed) : Prop where
  n : ∀ s ∈ N, s.size ≤ 16
  e : ∀ x ∈ E, x.fr.size ≤ 16 ∧ x.lb.size ≤ 16 ∧ x.to.size ≤ 16
theorem nameB_short {s : Txt} (h : nameB s = true) : 1 ≤ s.size ∧ s.size ≤ 16 := by
  unfold nameB at h
  rw [Bool.and_eq_true] at h
  exact of_decide_eq_true h.1
theorem labelB_name {s : Txt} (h : labelB s = true) : nameB s = true := by
  unfold labelB at h
  rw [Bool.and_eq_true] at h
  exact h.1
theorem Short.of {N : List Txt} {E : List Ed} (h : namedB N E = true) : Short N E := by
  unfold namedB at h
  rw [Bool.and_eq_true, List.all_eq_true, List.all_eq_true] at h
  refine ⟨fun s hs => (nameB_short (h.1 s hs)).2, fun x hx => ?_⟩
  have := h.2 x hx
  unfold edNamed at this
  rw [Bool.and_eq_true, Bool.and_eq_true] at this
  exact ⟨(nameB_short this.1).2, (nameB_short (labelB_name this.2.1)).2, (nameB_short this.2.2).2⟩
theorem size_list (s : Txt) : s.data.toList.length = s.size := by rw [Array.length_toList]; rfl
theorem flat_le {α β : Type} {f : α → List β} {c : Nat} : ∀ {l : List α}, (∀ x ∈ l, (f x).length ≤ c) → (l.flatMap f).length ≤ l.length * c
  | [], _ => by simp
  | x :: l, h => by
    have h1 := h x (by simp)
    have h2 := flat_le (l := l) (fun y hy => h y (by simp [hy]))
    simp only [List.flatMap_cons, List.length_append, List.length_cons, Nat.add_mul]
    omega
theorem lineN_le {s : Txt} (h : s.size ≤ 16) : (lineN s).length ≤ 19 := by simp [lineN, sepL]; omega
theorem lineE_le {x : Ed} (h : x.fr.size ≤ 16 ∧ x.lb.size ≤ 16 ∧ x.to.size ≤ 16) : (lineE x).length ≤ 53 := by simp [lineE, sepL]; omega
theorem loneL_sub {N : List Txt} {E : List Ed} {s : Txt} (h : s ∈ loneL N E) : s ∈ N := (List.mem_filter.1 h).1
theorem loneL_len (N : List Txt) (E : List Ed) : (loneL N E).length ≤ N.length := List.length_filter_le _ _
theorem data_app (a b : Txt) : (a ++ b).data.toList = a.data.toList ++ b.data.toList := by simp
theorem size_app (a b : Txt) : (a ++ b).size = a.size + b.size := by simp
theorem add_run (a b : Txt) (h : a.size + b.size ≤ 1000) : ∀ w, (Op.stringOp .add a b).run Tryz.prog w = .ok (.string (a ++ b)) w := fun w => run_string_add_sum w a b (by omega)

set_option maxHeartbeats 8000000 in
set_option maxRecDepth 100000 in
theorem text_any (w : World) (A : Option Addr) (c : Nat) (B : Option Addr) (d : Nat) (N : List Txt) (E : List Ed) (h : ForG w A c B d N E) (hs : Short N E) (hN : N.length ≤ 32) (hE : E.length ≤ 256) :
    Calls Tryz.prog 137 #[twoV A N.length c B E.length d] w (Sam w (.string ⟨(textL N E).toArray⟩)) := by
  have k0 := (Blk.new w 54 #[.slice A N.length c, .slice B E.length d]).alloc (.cells #[.pointer none, .slice none 0 0] 247)
  have i0 := IsB.new (w.alloc (.cells #[.slice A N.length c, .slice B E.length d] 54))
  simp only [World.size_alloc] at i0
  have u0 : Below w.heap.size w ((w.alloc (.cells #[.slice A N.length c, .slice B E.length d] 54)).alloc (.cells #[.pointer none, .slice none 0 0] 247)) := by (repeat (first | exact Below.refl _ _ | apply Below.drew | refine Below.alloc ?_ (by first | exact Nat.le_refl _ | (simp; done) | (simp; omega)) _ | refine Below.setCell ?_ (by first | exact Nat.le_refl _ | (simp; done) | (simp; omega)) _))
  have hz : ((w.alloc (.cells #[.slice A N.length c, .slice B E.length d] 54)).alloc (.cells #[.pointer none, .slice none 0 0] 247)).heap.size = w.heap.size + 2 := by simp
  have HB := Lib.hid (show ∀ (j : Nat) (x : Ed), E[j]? = some x → ∃ b o, B = some ⟨b, o, none⟩ ∧ b < w.heap.size from fun j x hx => by obtain ⟨b, o, e, y0, -⟩ := h.re.ed hx; exact ⟨b, o, e, World.block_lt_of_cell? _ _ y0⟩)
  have HS := Lib.hid hs
  have H := Lib.hid (And.intro (h.below u0) (And.intro k0 (And.intro u0 (And.intro i0 hz))))
  clear h k0 u0 i0 hz hs
  unfold twoV
  go_enter Tryz.func137, Tryz.ntmps137
  go_upto_region 2 with (fail)
  generalize (w.alloc (.cells #[.slice A N.length c, .slice B E.length d] 54)).alloc (.cells #[.pointer none, .slice none 0 0] 247) = W1 at H ⊢
  have q0 : W1.cell? ⟨w.heap.size, 0, none⟩ = some (.slice A N.length c) := H.out.2.1.cell 0
  have q1 : W1.cell? ⟨w.heap.size, 1, none⟩ = some (.slice B E.length d) := H.out.2.1.cell 1
  go_wp2_with fail
  refine (lone_any W1 A c B d N E H.out.1).mono ?_
  rintro e w2 ⟨v, rfl, own2, b2⟩
  obtain ⟨A2, c2, rfl, -, -⟩ := own_form own2
  obtain ⟨n2, hn2⟩ : ∃ n2, (loneL N E).length = n2 := ⟨_, rfl⟩
  have hn2' : n2 ≤ 32 := by rw [← hn2]; exact Nat.le_trans (loneL_len N E) hN
  have i2 := H.out.2.2.2.1.below b2
  have bb2 := H.out.2.2.1.trans (b2.mono H.out.2.2.1.size)
  have hz2 := b2.size
  have HBM := Lib.hid (b2.mono (show w.heap.size + 1 ≤ W1.heap.size from by have := H.out.2.2.2.2; omega))
  have hown : (Value.slice A2 (loneL N E).length c2).ownBlock ≠ some (w.heap.size + 1) := fun e => by
    have := (own2.lt _ e).1
    have := H.out.2.2.2.2
    omega
  have H2 := Lib.hid (And.intro i2 (And.intro bb2 (And.intro (H.out.1.below b2) (And.intro own2 (And.intro hown (H.out.2.1.upd (Upd.of_below b2 (fun _ => False)) id))))))
  have hzz : w.heap.size + 2 ≤ w2.heap.size := by have := H.out.2.2.2.2; omega
  clear i2 b2 bb2 own2 hown q0 q1 hz2
  rw [hn2]
  have HN2 := Lib.hid hn2
  clear hn2
  go_wp2_with fail
  go_loopw [5, 11] (fun _ i wr => ∃ k : Nat, k ≤ n2 ∧ i = .int .i64 k ∧ Hid (Below (w.heap.size + 1) w2 wr) ∧ Hid (Lib.OthersKept 5 (some (w.heap.size + 1)) w2 wr) ∧ Hid (IsB wr (w.heap.size + 1) (((loneL N E).take k).flatMap lineN))) (fun _ i _ => n2 - (intOf i).toNat)
  case atStart => exact ⟨0, Nat.zero_le _, rfl, Lib.hid (Below.refl _ _), Lib.hid (Lib.OthersKept.refl _ _ _), Lib.hid (by simpa using H2.out.1)⟩
  case round =>
    obtain ⟨k, hk, rfl, hb, ho, hi⟩ := hrel
    by_cases hlt : k < n2
    · have hltI : (k : Int) < (n2 : Int) := by omega
      have hkw : IntKind.i64.wrap ((k : Int) + 1) = (k : Int) + 1 := IntWalk.i64_in _ (by omega)
      obtain ⟨s, hx⟩ : ∃ x, (loneL N E)[k]? = some x := ⟨(loneL N E)[k]'(by rw [HN2.out]; exact hlt), List.getElem?_eq_getElem _⟩
      have ow := own_kept H2.out.2.2.2.1 ho.out H2.out.2.2.2.2.1
      have rw2 := RowR.of_own ow
      obtain ⟨ab, ao, rfl, x0⟩ := rw2.txt hx
      have hsz : s.size ≤ 16 := HS.out.n s (loneL_sub (List.mem_of_getElem? hx))
      have a1 := add_run s ⟨#[32, 59, 10]⟩ (by show s.size + 3 ≤ 1000; omega)
      have hll : (((loneL N E).take k).flatMap lineN).length ≤ k * 19 := by
        have := flat_le (f := lineN) (c := 19) (l := (loneL N E).take k) (fun x hx => lineN_le (HS.out.n x (loneL_sub (List.mem_of_mem_take hx))))
        have h3 : ((loneL N E).take k).length ≤ k := by rw [List.length_take]; omega
        exact Nat.le_trans this (Nat.mul_le_mul_right _ h3)
      have hcon := bwrite wr (w.heap.size + 1) _ (s ++ ⟨#[32, 59, 10]⟩) hi.out (by rw [size_app]; show _ + (s.size + 3) ≤ _; omega) (by have := hb.out.size; omega)
      rw [data_app, show (s.data.toList ++ (⟨#[32, 59, 10]⟩ : Txt).data.toList) = lineN s from rfl] at hcon
      have htk : ((loneL N E).take k).flatMap lineN ++ lineN s = ((loneL N E).take (k + 1)).flatMap lineN := by rw [take_snoc' hx]; simp
      rw [htk] at hcon
      have HX := Lib.hid hcon
      clear hcon htk hll hx ow rw2
      go_wp2_with fail
      refine HX.out.mono ?_
      rintro e w5 ⟨rfl, i5, b5, o5⟩
      have H5 := Lib.hid (And.intro (hb.out.trans b5) (And.intro (ho.out.trans o5) i5))
      clear i5 b5 o5
      go_wp2
      go_roundw
      case rel => exact ⟨k + 1, by omega, by go_num, Lib.hid H5.out.1, Lib.hid H5.out.2.1, Lib.hid H5.out.2.2⟩
      case measure => simp [intOf]; omega
    · obtain rfl : k = n2 := by omega
      obtain ⟨W4, hW4⟩ : ∃ W, W = wr := ⟨_, rfl⟩
      subst hW4
      have i4 : IsB W4 (w.heap.size + 1) ((loneL N E).flatMap lineN) := by
        have := hi.out
        rw [List.take_of_length_le (by rw [HN2.out]; exact Nat.le_refl _)] at this
        exact this
      have hll : ((loneL N E).flatMap lineN).length ≤ 32 * 19 := by
        have := flat_le (f := lineN) (c := 19) (l := loneL N E) (fun x hx => lineN_le (HS.out.n x (loneL_sub hx)))
        rw [HN2.out] at this
        exact Nat.le_trans this (Nat.mul_le_mul_right _ hn2')
      have bb4 : Below (w.heap.size + 1) W1 W4 := by
        exact HBM.out.trans hb.out
      have k4 : W4.cell? ⟨w.heap.size, 1, none⟩ = some (.slice B E.length d) := (bb4.cell (p := ⟨w.heap.size, 1, none⟩) (by show w.heap.size < _; omega)).trans (H.out.2.1.cell 1)
      have q1 := k4
      have bw4 : Below w.heap.size w W4 := H.out.2.2.1.trans (bb4.mono (by omega))
      have HI4 := Lib.hid (And.intro i4 (And.intro hll (And.intro bb4 bw4)))
      have hz4 : w.heap.size + 2 ≤ W4.heap.size := Nat.le_trans hzz hb.out.size
      clear i4 hll bb4 bw4 k4 hb ho hi hlt
      go_wp2_with fail
      clear q1
      go_loopw [7, 22] (fun _ i wr => ∃ k : Nat, k ≤ E.length ∧ i = .int .i64 k ∧ Hid (Below (w.heap.size + 1) W4 wr) ∧ Hid (IsB wr (w.heap.size + 1) ((loneL N E).flatMap lineN ++ (E.take k).flatMap lineE))) (fun _ i _ => E.length - (intOf i).toNat)
      case atStart => exact ⟨0, Nat.zero_le _, rfl, Lib.hid (Below.refl _ _), Lib.hid (by simpa using HI4.out.1)⟩
      case round =>
        obtain ⟨k, hk, rfl, hb, hi⟩ := hrel
        by_cases hlt : k < E.length
        · have hltI : (k : Int) < (E.length : Int) := by omega
          have hkw : IntKind.i64.wrap ((k : Int) + 1) = (k : Int) + 1 := IntWalk.i64_in _ (by omega)
          obtain ⟨⟨s0, s1, s2⟩, hx⟩ : ∃ x, E[k]? = some x := ⟨E[k], List.getElem?_eq_getElem _⟩
          obtain ⟨ab, ao, rfl, hab⟩ := HB.out k _ hx
          obtain ⟨ab', ao', e, y0, y1, y2⟩ := H.out.1.re.ed hx
          injection e with e; injection e with e e2; subst e; subst e2
          dsimp only at y0 y1 y2
          have bz := HI4.out.2.2.1.trans hb.out
          have cc := fun i => bz.cell (p := ⟨ab, i, none⟩) (by show ab < _; omega)
          have x0 := (cc _).trans y0
          have x1 := (cc _).trans y1
          have x2 := (cc _).trans y2
          have hsz := HS.out.e _ (List.mem_of_getElem? hx)
          dsimp only at hsz
          have hll : (((loneL N E).flatMap lineN) ++ (E.take k).flatMap lineE).length ≤ 32 * 19 + 256 * 53 := by
            have h2 := HI4.out.2.1
            have := flat_le (f := lineE) (c := 53) (l := E.take k) (fun x hx => lineE_le (HS.out.e x (List.mem_of_mem_take hx)))
            have h3 : (E.take k).length ≤ 256 := by rw [List.length_take]; omega
            have h4 := Nat.le_trans this (Nat.mul_le_mul_right _ h3)
            rw [List.length_append]
            omega
          have kx := Blk.new wr 52 #[.string s0, .string s1, .string s2]
          have bx : Below wr.heap.size wr (wr.alloc (.cells #[.string s0, .string s1, .string s2] 52)) := (Below.refl _ _).alloc (Nat.le_refl _) _
          have ix := hi.out.alloc (.cells #[.string s0, .string s1, .string s2] 52)
          have hzr := hb.out.size
          have HX := Lib.hid (And.intro hx (And.intro kx (And.intro (hb.out.trans (bx.mono (by omega))) ix)))
          have hzx : (wr.alloc (.cells #[.string s0, .string s1, .string s2] 52)).heap.size = wr.heap.size + 1 := by simp
          clear hx kx bx ix y0 y1 y2 cc bz
          go_upto_region 10 with (fail)
          generalize wr.alloc (.cells #[.string s0, .string s1, .string s2] 52) = W5 at HX hzx ⊢
          clear x0 x1 x2
          have x0 : W5.cell? ⟨wr.heap.size, 0, none⟩ = some (.string s0) := HX.out.2.1.cell 0
          have x1 : W5.cell? ⟨wr.heap.size, 1, none⟩ = some (.string s1) := HX.out.2.1.cell 1
          have x2 : W5.cell? ⟨wr.heap.size, 2, none⟩ = some (.string s2) := HX.out.2.1.cell 2
          obtain ⟨t0, ht0⟩ : ∃ t, s0 ++ (⟨#[32]⟩ : Txt) = t := ⟨_, rfl⟩
          have z0 : t0.size = s0.size + 1 := by rw [← ht0, size_app]; rfl
          obtain ⟨t1, ht1⟩ : ∃ t, t0 ++ s1 = t := ⟨_, rfl⟩
          have z1 : t1.size = t0.size + s1.size := by rw [← ht1, size_app]
          obtain ⟨t2, ht2⟩ : ∃ t, t1 ++ (⟨#[32]⟩ : Txt) = t := ⟨_, rfl⟩
          have z2 : t2.size = t1.size + 1 := by rw [← ht2, size_app]; rfl
          obtain ⟨t3, ht3⟩ : ∃ t, t2 ++ s2 = t := ⟨_, rfl⟩
          have z3 : t3.size = t2.size + s2.size := by rw [← ht3, size_app]
          obtain ⟨t4, ht4⟩ : ∃ t, t3 ++ (⟨#[32, 59, 10]⟩ : Txt) = t := ⟨_, rfl⟩
          have z4 : t4.size = t3.size + 3 := by rw [← ht4, size_app]; rfl
          have hdat : t4.data.toList = lineE ⟨s0, s1, s2⟩ := by
            rw [← ht4, data_app, ← ht3, data_app, ← ht2, data_app, ← ht1, data_app, ← ht0, data_app]
            rfl
          have a0 := add_run s0 ⟨#[32]⟩ (by show s0.size + 1 ≤ 1000; omega)
          have a1 := add_run t0 s1 (by omega)
          have a2 := add_run t1 ⟨#[32]⟩ (by show t1.size + 1 ≤ 1000; omega)
          have a3 := add_run t2 s2 (by omega)
          have a4 := add_run t3 ⟨#[32, 59, 10]⟩ (by show t3.size + 3 ≤ 1000; omega)
          rw [ht0] at a0
          rw [ht1] at a1
          rw [ht2] at a2
          rw [ht3] at a3
          rw [ht4] at a4
          have hcon := bwrite W5 (w.heap.size + 1) _ t4 HX.out.2.2.2 (by omega) (by omega)
          have htk : (loneL N E).flatMap lineN ++ (E.take k).flatMap lineE ++ t4.data.toList = (loneL N E).flatMap lineN ++ (E.take (k + 1)).flatMap lineE := by rw [take_snoc' HX.out.1, hdat]; simp
          rw [htk] at hcon
          have HC := Lib.hid hcon
          clear hcon htk hll ht0 ht1 ht2 ht3 ht4 z0 z1 z2 z3 z4 hdat hsz
          go_wp2_with fail
          refine HC.out.mono ?_
          rintro e w6 ⟨rfl, i6, b6, -⟩
          have H6 := Lib.hid (And.intro (HX.out.2.2.1.trans b6) i6)
          clear i6 b6
          go_wp2
          go_roundw
          case rel => exact ⟨k + 1, by omega, by go_num, Lib.hid H6.out.1, Lib.hid H6.out.2⟩
          case measure => simp [intOf]; omega
        · obtain rfl : k = E.length := by omega
          have hcon := bstring wr (w.heap.size + 1) _ hi.out (by have := hb.out.size; omega)
          rw [List.take_length] at hcon
          have HC := Lib.hid hcon
          have bwr := HI4.out.2.2.2.trans (hb.out.mono (by omega))
          have HW := Lib.hid bwr
          clear hcon bwr
          go_wp2_with fail
          refine HC.out.mono ?_
          rintro e w6 ⟨rfl, b6⟩
          have FIN := Lib.hid (HW.out.trans (b6.mono (by omega)))
          clear b6
          go_wp2
          go_ret
          exact ⟨rfl, FIN.out⟩
end Go.Proofs.YtnmkieiehjajlaaGreatDoor
namespace Go.Proofs.YtnmkieiehjajlaaGreatDoor
open Go.RowKit Go.Sort Go.Shelf

instance : Inhabited Txt := ⟨ByteArray.empty⟩
instance : Inhabited Ed := ⟨⟨default, default, default⟩⟩

/-! A row that is written over whole. -/
section
variable {α : Type} [Inhabited α]
theorem take_put (enc : α → Value) (cur : Array Value) (d : Array α) (h : d.size ≤ cur.size) : (putCells enc 0 d cur).toList.take d.size = d.toList.map enc := by
  apply List.ext_getElem?
  intro j
  by_cases hj : j < d.size
  · rw [List.getElem?_take_of_lt hj, Array.getElem?_toList]
    simp [putCells, hj, show j < cur.size by omega]
  · rw [List.getElem?_take_eq_none (by omega), List.getElem?_eq_none (by simp; omega)]
theorem own_put {enc : α → Value} {w : World} {base e size n g cap m : Nat} {os : Array Obj} {xs : List Value} (h : w.ownsRow base e size (.slice (some ⟨g, 0, none⟩) n cap) n xs) (d : Array α) (hd : d.size = n * size) :
    (grow (putRow enc (Sort.ahead w m) g 0 d) os).ownsRow base e size (.slice (some ⟨g, 0, none⟩) n cap) n (d.toList.map enc) ∧ Upd (fun q => q = g) w (grow (putRow enc (Sort.ahead w m) g 0 d) os) := by
  rcases h.2 with ⟨hv, -⟩ | ⟨g', cap', cur, hv, hb, hg, h1, h2, h3, -⟩
  · cases hv
  injection hv with hv _ hv3
  injection hv with hv
  injection hv with hv _ _
  subst hv; subst hv3
  have hlt : g < w.heap.size := (Array.getElem?_eq_some_iff.1 hg).1
  have hheap : (grow (putRow enc (Sort.ahead w m) g 0 d) os).heap[g]? = some (.cells (putCells enc 0 d cur) e (0, 0)) := by
    rw [heap_grow_old _ _ (by simpa using hlt)]
    simp [putRow, mapBlock, Sort.ahead, Array.getElem?_modify, hg, onCells]
  refine ⟨⟨by simp [hd], .inr ⟨g, cap, _, rfl, hb, hheap, h1, h2, by simp [putCells, h3], ?_⟩⟩, rfl, rfl, rfl, by simp, fun k hk hne => ?_⟩
  · have hle : d.size ≤ cur.size := by rw [hd, h3]; exact Nat.mul_le_mul_right _ h1
    have := take_put enc cur d hle
    rw [hd] at this
    exact this
  · rw [heap_grow_old _ _ (by simpa using hk)]
    have : g ≠ k := fun e => hne e.symm
    simp [putRow, mapBlock, Sort.ahead, Array.getElem?_modify, this]
theorem holds_own {enc : α → Value} {w : World} {base e size n g cap : Nat} {d : Array α} (h : w.ownsRow base e size (.slice (some ⟨g, 0, none⟩) n cap) n (d.toList.map enc)) : Holds enc w g 0 d := by
  intro j hj
  rcases h.2 with ⟨hv, -⟩ | ⟨g', cap', cur, hv, hb, hg, h1, h2, h3, h4⟩
  · cases hv
  injection hv with hv _ hv3
  injection hv with hv
  injection hv with hv _ _
  subst hv
  have hc := h.cells (g := g) rfl j (enc d[j]!) (by simp [hj])
  rw [Addr.add_lit] at hc
  exact ⟨by simpa using hc, by simp [World.frozen?, hg]⟩
end

/-! Each once. -/
section
variable {α : Type} [Inhabited α] [DecidableEq α]
theorem compact_set {lt : α → α → Bool} (hs : Sto lt) (d : Array α) (hd : ∀ i j, i < j → j < d.size → lt d[j]! d[i]! = false) : ∀ m, m ≤ d.size → Rises lt (Lib.compactUpTo d m) ∧ ∀ x, x ∈ Lib.compactUpTo d m ↔ ∃ j, j < m ∧ d[j]! = x
  | 0, _ => ⟨by simp [Lib.compactUpTo, Rises], fun x => by simp [Lib.compactUpTo]⟩
  | m + 1, hm => by
    obtain ⟨h1, h2⟩ := compact_set hs d hd m (by omega)
    rw [Lib.compactUpTo_succ]
    by_cases hk : Lib.keeps d m = true
    · rw [if_pos hk]
      refine ⟨List.pairwise_append.2 ⟨h1, List.pairwise_singleton _ _, fun a ha b hb => ?_⟩, fun x => ?_⟩
      · obtain rfl := List.mem_singleton.1 hb
        obtain ⟨j, hj, rfl⟩ := (h2 a).1 ha
        have hne : d[m]! ≠ d[m - 1]! := by
          unfold Lib.keeps at hk
          rcases of_decide_eq_true hk with e | e
          · omega
          · exact e
        have h3 : lt d[m - 1]! d[m]! = true := by
          cases e : lt d[m - 1]! d[m]!
          · exact (hne (hs.tri _ _ (hd (m - 1) m (by omega) (by omega)) e)).elim
          · rfl
        by_cases e : j = m - 1
        · rw [e]; exact h3
        · have h4 := hd j (m - 1) (by omega) (by omega)
          cases e5 : lt d[j]! d[m - 1]!
          · rw [hs.tri _ _ e5 h4]; exact h3
          · exact hs.tr _ _ _ e5 h3
      · rw [List.mem_append, h2, List.mem_singleton]
        constructor
        · rintro (⟨j, hj, rfl⟩ | rfl)
          · exact ⟨j, by omega, rfl⟩
          · exact ⟨m, by omega, rfl⟩
        · rintro ⟨j, hj, rfl⟩
          by_cases e : j = m
          · subst e; exact .inr rfl
          · exact .inl ⟨j, by omega, rfl⟩
    · rw [if_neg hk, List.append_nil]
      refine ⟨h1, fun x => ?_⟩
      rw [h2]
      have he : m ≠ 0 ∧ d[m]! = d[m - 1]! := by
        unfold Lib.keeps at hk
        simpa using hk
      constructor
      · rintro ⟨j, hj, rfl⟩; exact ⟨j, by omega, rfl⟩
      · rintro ⟨j, hj, rfl⟩
        by_cases e : j = m
        · subst e; exact ⟨j - 1, by omega, he.2.symm⟩
        · exact ⟨j, by omega, rfl⟩
theorem compact_setOf {lt : α → α → Bool} (hs : Sto lt) {l : List α} (d : Array α) (hp : d.toList.Perm l) (hd : ∀ i j, i < j → j < d.size → lt d[j]! d[i]! = false) : SetOf lt l (Lib.compactUpTo d d.size) := by
  obtain ⟨h1, h2⟩ := compact_set hs d hd d.size (Nat.le_refl _)
  refine ⟨h1, fun x => ?_⟩
  rw [h2, ← hp.mem_iff]
  constructor
  · rintro ⟨j, hj, rfl⟩
    rw [getElem!_pos d j hj]
    exact Array.mem_toList_iff.2 (Array.getElem_mem hj)
  · intro hx
    obtain ⟨j, hj, rfl⟩ := List.getElem_of_mem hx
    exact ⟨j, by simpa using hj, by rw [getElem!_pos d j (by simpa using hj)]; simp⟩
theorem compact_le (d : Array α) (m : Nat) : (Lib.compactUpTo d m).length ≤ m := by
  unfold Lib.compactUpTo
  rw [List.length_map]
  exact Nat.le_trans (List.length_filter_le _ _) (by simp)
end

/-- A list of edges of its own comes back. -/
def NewE (w : World) (L : List Ed) (e : Ending) (w' : World) : Prop := ∃ v, e = .returned v ∧ w'.ownsRow w.heap.size 52 3 v L.length (edCells L) ∧ Below w.heap.size w w'

set_option maxHeartbeats 1000000 in
set_option maxRecDepth 20000 in
theorem clone_txt (w : World) (A : Option Addr) (c : Nat) (L : List Txt) (h : RowR w A (txtCells L)) (hl : L.length * 16 ≤ 140737488355328) :
    Calls Tryz.prog 38 #[.slice A L.length c] w (NewT w L) := by
  have heq := fun (A : Option Addr) (n c n' c' : Nat) (w : World) => Lib.run_eql_slice_nil (P := Tryz.prog) w 22 9 A n c n' c' Tryz.underlying22
  rcases A with _ | ⟨gb, go, sp⟩
  · have hL : L = [] := by
      cases L with
      | nil => rfl
      | cons s L => obtain ⟨b, o, e, -⟩ := h 0 (.string s) rfl; cases e
    subst hL
    clear h hl
    go_enter Tryz.func38, Tryz.ntmps38
    go_wp2
    go_ret
    exact ⟨_, rfl, World.ownsRow_nil _ _ _ _, Below.refl _ _⟩
  · obtain ⟨i0, hi0, hz0, hz1, hz2⟩ := info_parts info_string
    have b1 : Below w.heap.size w (w.alloc (.cells #[] 9)) := (Below.refl _ _).alloc (Nat.le_refl _) _
    have hr := (h.below b1).reads (txtCells_len L) (by decide)
    have own : (w.alloc (.cells #[] 9)).ownsRow w.heap.size 9 1 (.slice (some ⟨w.heap.size, 0, none⟩) 0 0) 0 [] := ⟨rfl, .inr ⟨w.heap.size, 0, #[], rfl, Nat.le_refl _, heap_alloc_new w _, Nat.le_refl _, by decide, rfl, rfl⟩⟩
    obtain ⟨v', w', happ, own', gr, -, -⟩ := run_append_own_at (P := Tryz.prog) (w.alloc (.cells #[] 9)) w.heap.size 22 22 9 i0 _ 1 16 Tryz.underlying22 hi0 hz0 hz1 hz2 rfl (by decide) (.slice (some ⟨w.heap.size, 0, none⟩) 0 0) 0 [] own ⟨gb, go, sp⟩ L.length c (txtCells L) (txtCells_len L) (hr.2.2 _ rfl) (one_txt L) (by unfold maxLen; omega) (by omega) (by simp)
    have fin : NewT w L (.returned v') w' := ⟨v', rfl, by simpa using own', b1.grown gr (by simp) (fun k hk => by simp [Value.ownBlock] at hk; omega)⟩
    have FIN := Lib.hid fin
    clear fin own own' gr hr b1 hi0 hz0 hz1 hz2 h
    go_enter Tryz.func38, Tryz.ntmps38
    go_wp2_with (at_builtin; refine wpList_append_run rfl _ _ _ rfl rfl rfl happ ?_)
    go_ret
    exact FIN.out

set_option maxHeartbeats 1000000 in
set_option maxRecDepth 20000 in
theorem clone_ed (w : World) (A : Option Addr) (c : Nat) (L : List Ed) (h : RowR w A (edCells L)) (hl : L.length * 48 ≤ 140737488355328) :
    Calls Tryz.prog 195 #[.slice A L.length c] w (NewE w L) := by
  have heq := fun (A : Option Addr) (n c n' c' : Nat) (w : World) => Lib.run_eql_slice_nil (P := Tryz.prog) w 23 52 A n c n' c' Tryz.underlying23
  rcases A with _ | ⟨gb, go, sp⟩
  · have hL : L = [] := by
      cases L with
      | nil => rfl
      | cons s L => obtain ⟨b, o, e, -⟩ := h 0 (.string s.fr) rfl; cases e
    subst hL
    clear h hl
    go_enter Tryz.func195, Tryz.ntmps195
    go_wp2
    go_ret
    exact ⟨_, rfl, World.ownsRow_nil _ _ _ _, Below.refl _ _⟩
  · obtain ⟨i0, hi0, hz0, hz1, hz2⟩ := info_parts info_edge
    have b1 : Below w.heap.size w (w.alloc (.cells #[] 52)) := (Below.refl _ _).alloc (Nat.le_refl _) _
    have hr := (h.below b1).reads (edCells_len L) (by decide)
    have own : (w.alloc (.cells #[] 52)).ownsRow w.heap.size 52 3 (.slice (some ⟨w.heap.size, 0, none⟩) 0 0) 0 [] := ⟨rfl, .inr ⟨w.heap.size, 0, #[], rfl, Nat.le_refl _, heap_alloc_new w _, Nat.le_refl _, by decide, rfl, rfl⟩⟩
    obtain ⟨v', w', happ, own', gr, -, -⟩ := run_append_own_at (P := Tryz.prog) (w.alloc (.cells #[] 52)) w.heap.size 23 23 52 i0 _ 3 48 Tryz.underlying23 hi0 hz0 hz1 hz2 rfl (by decide) (.slice (some ⟨w.heap.size, 0, none⟩) 0 0) 0 [] own ⟨gb, go, sp⟩ L.length c (edCells L) (edCells_len L) (hr.2.2 _ rfl) (one_ed L) (by unfold maxLen; omega) (by omega) (by simp)
    have fin : NewE w L (.returned v') w' := ⟨v', rfl, by simpa using own', b1.grown gr (by simp) (fun k hk => by simp [Value.ownBlock] at hk; omega)⟩
    have FIN := Lib.hid fin
    clear fin own own' gr hr b1 hi0 hz0 hz1 hz2 h
    go_enter Tryz.func195, Tryz.ntmps195
    go_wp2_with (at_builtin; refine wpList_append_run rfl _ _ _ rfl rfl rfl happ ?_)
    go_ret
    exact FIN.out

/-! In order. -/
theorem swo_txt : SWO (ltOf cmpT) := by
  have h : ∀ x y, ltOf cmpT x y = ltT x y := fun x y => cmpT_lt x y
  refine ⟨fun x => by rw [h]; exact stoT.irr x, fun x y z a b => by rw [h] at *; exact stoT.tr x y z a b, fun x y z a b => ?_⟩
  rw [h] at *
  cases e : ltT x z
  · rfl
  · cases e2 : ltT z y
    · rw [stoT.tri _ _ b e2] at a
      rw [a] at e
      cases e
    · have := stoT.tr _ _ _ e e2
      rw [a] at this
      cases this
theorem swo_ed : SWO (ltOf cmpE) := by
  have h : ∀ x y, ltOf cmpE x y = ltE x y := fun x y => cmpE_lt x y
  refine ⟨fun x => by rw [h]; exact stoE.irr x, fun x y z a b => by rw [h] at *; exact stoE.tr x y z a b, fun x y z a b => ?_⟩
  rw [h] at *
  cases e : ltE x z
  · rfl
  · cases e2 : ltE z y
    · rw [stoE.tri _ _ b e2] at a
      rw [a] at e
      cases e
    · have := stoE.tr _ _ _ e e2
      rw [a] at this
      cases this
/-- The list in order: what SortFunc leaves. -/
structure InOrd {α : Type} [Inhabited α] (lt : α → α → Bool) (L : List α) (d : Array α) : Prop where
  n : d.size = L.length
  p : d.toList.Perm L
  s : ∀ i j, i < j → j < d.size → lt d[j]! d[i]! = false
theorem InOrd.of {α : Type} [Inhabited α] {lt : α → α → Bool} {L : List α} {d' : Array α} (hp : PermIn 0 L.toArray.size L.toArray d') (hs : SortedIn lt 0 L.toArray.size d') : InOrd lt L d' := by
  have hz : d'.size = L.length := by rw [hp.1]; simp
  refine ⟨hz, ?_, fun i j hij hj => hs i j (Nat.zero_le _) hij (by rw [hz] at hj; simpa using hj)⟩
  have := hp.2.2
  simp at this
  rw [List.take_of_length_le (by simp [hz])] at this
  exact this
theorem sortF_txt (w : World) (base g cap : Nat) (L : List Txt) (h : w.ownsRow base 9 1 (.slice (some ⟨g, 0, none⟩) L.length cap) L.length (txtCells L)) (hl : L.length ≤ 140737488355328) :
    Calls Tryz.prog 194 #[.slice (some ⟨g, 0, none⟩) L.length cap, .func (.func 82) #[] #[]] w fun e w' => e = .returned (.tuple #[]) ∧ ∃ d : Array Txt, InOrd ltT L d ∧ w'.ownsRow base 9 1 (.slice (some ⟨g, 0, none⟩) L.length cap) L.length (d.toList.map Value.string) ∧ Upd (fun q => q = g) w w' := by
  have eg : ∀ args w, (callFunc 82 args).run Tryz.prog w = .ok (.enter 82 args) w := enters_of Tryz.func82 (by kernel_rfl) rfl
  have hcmp : CmpLays1 Tryz.prog 82 #[] Value.string cmpT g 0 L.toArray.size w := fun m os dk _ x y => (compare_any x y _).mono fun e w' hh => ⟨hh.1, 0, #[], by rw [hh.2, grow_empty]; rfl⟩
  have hH : Holds Value.string w g 0 L.toArray := holds_own (by simpa [txtCells] using h)
  have hg := (h.lt g rfl).2
  have hcon := Any.slices_SortFunc sortF Value.string (fun _ => rfl) cmpT swo_txt 82 #[] g 0 cap L.toArray w eg hcmp hH hg (by simp; omega)
  change Calls Tryz.prog 194 _ _ _ at hcon
  rw [show L.toArray.size = L.length from by simp] at hcon
  refine hcon.mono ?_
  rintro e w' ⟨rfl, d', n, os, hp, hs, rfl⟩
  have hlt : ltOf cmpT = ltT := by funext x y; exact cmpT_lt x y
  rw [hlt] at hs
  have ho := InOrd.of (L := L) (by simpa using hp) (by simpa using hs)
  have key := own_put (enc := Value.string) (m := n) (os := os) h d' (by rw [ho.n]; omega)
  exact ⟨rfl, d', ho, key.1, key.2⟩

theorem eql_txt (x y : Txt) : (x.toList == y.toList) = decide (x = y) := by
  rw [ByteArray.toList_eq, ByteArray.toList_eq]
  by_cases h : x = y
  · subst h; simp
  · rw [decide_eq_false h]
    simpa using fun e => h (txt_ext (by simpa using congrArg Array.toList e))
theorem RowR.pre {w : World} {A : Option Addr} {xs ys : List Value} (h : RowR w A (xs ++ ys)) : RowR w A xs := fun j u hj => h j u (by rw [List.getElem?_append_left (List.getElem?_eq_some_iff.1 hj).1]; exact hj)
theorem compact_txt (w : World) (base g cap n : Nat) (L : List Txt) (d : Array Txt) (ho : InOrd ltT L d) (hn : L.length = n) (h : w.ownsRow base 9 1 (.slice (some ⟨g, 0, none⟩) n cap) n (d.toList.map Value.string)) (hl : n ≤ 140737488355328) :
    Calls Tryz.prog 119 #[.slice (some ⟨g, 0, none⟩) n cap] w fun e w' => ∃ M, SetOf ltT L M ∧ M.length ≤ L.length ∧ e = .returned (.slice (some ⟨g, 0, none⟩) M.length cap) ∧ RowR w' (some ⟨g, 0, none⟩) (txtCells M) ∧ Upd (fun q => q = g) w w' := by
  have hH : Holds Value.string w g 0 d := holds_own h
  have hsz : d.size = n := by rw [ho.n, hn]
  obtain ⟨_, _, e1, hcap, -⟩ := own_form h
  injection e1 with _ _ e1
  subst e1
  have heq : EqlAt Tryz.prog 9 Value.string (fun x y => decide (x = y)) := by
    have := EqlAt.string Tryz.prog 9
    simpa only [eql_txt] using this
  have hne : NeqAt Tryz.prog 9 Value.string (fun x y => decide (x = y)) := by
    have := NeqAt.string Tryz.prog 9
    simpa only [eql_txt] using this
  have hcon := AnyE.slices_Compact compactS Value.string (fun _ => rfl) heq hne ByteArray.empty (fun _ => by kernel_rfl) g 0 cap d w hH (by omega) (by omega)
  change Calls Tryz.prog 119 _ _ _ at hcon
  rw [hsz] at hcon
  refine hcon.mono ?_
  rintro e w' ⟨rfl, q, rfl⟩
  have hset := compact_setOf stoT d ho.p ho.s
  have hle := compact_le d d.size
  rw [hsz] at hset hle
  have key := own_put (enc := Value.string) (m := q) (os := #[]) h (Lib.compactUpTo d n ++ List.replicate (n - (Lib.compactUpTo d n).length) ByteArray.empty).toArray (by simp; omega)
  rw [grow_empty] at key
  refine ⟨_, hset, by omega, rfl, ?_, key.2⟩
  have hr := RowR.of_own key.1
  simp only [List.map_append] at hr
  exact hr.pre
set_option maxHeartbeats 1000000 in
set_option maxRecDepth 20000 in
theorem compact_zero (w : World) (p : Option Addr) (cap : Nat) : Calls Tryz.prog 119 #[.slice p 0 cap] w (Only w (.slice p 0 cap)) := by
  go_enter Tryz.func119, Tryz.ntmps119
  go_wp2
  go_ret
  exact ⟨rfl, rfl⟩
theorem NewT.base {w w0 : World} {M : List Txt} {e : Ending} {w' : World} (h : NewT w M e w') (hb : Below w0.heap.size w0 w) : NewT w0 M e w' := by
  obtain ⟨v, rfl, own, b⟩ := h
  exact ⟨v, rfl, ownsRow_base own (fun q hq => Nat.le_trans hb.size (own.lt q hq).1), hb.trans (b.mono hb.size)⟩
/-- A list's texts in order, each once, come back. -/
def SetT (w : World) (L : List Txt) (e : Ending) (w' : World) : Prop := ∃ M, SetOf ltT L M ∧ M.length ≤ L.length ∧ NewT w M e w'

set_option maxHeartbeats 2000000 in
set_option maxRecDepth 20000 in
theorem sorted_txt (w : World) (A : Option Addr) (c : Nat) (L : List Txt) (h : RowR w A (txtCells L)) (hl : L.length * 16 ≤ 140737488355328) :
    Calls Tryz.prog 157 #[.slice A L.length c, .func (.func 82) #[] #[]] w (SetT w L) := by
  have HH := Lib.hid h
  clear h
  go_enter Tryz.func157, Tryz.ntmps157
  go_wp2_with fail
  refine (clone_txt w A c L HH.out hl).mono ?_
  rintro e w1 ⟨v, rfl, own1, b1⟩
  obtain ⟨A1, c1, rfl, hc1, hA1⟩ := own_form own1
  by_cases h0 : L.length = 0
  · obtain rfl : L = [] := List.eq_nil_of_length_eq_zero h0
    have HB := Lib.hid b1
    clear own1 b1 h0 hl hc1 hA1
    have hs0 := AnyF.slices_SortFunc_none sortF0 A1 c1 (.func (.func 82) #[] #[]) w1
    change Calls Tryz.prog 194 _ _ _ at hs0
    have HS0 := Lib.hid hs0
    clear hs0
    go_wp2_with fail
    refine HS0.out.mono ?_
    rintro e w2 ⟨rfl, rfl⟩
    go_wp2_with fail
    refine (compact_zero _ _ _).mono ?_
    rintro e w2 ⟨rfl, rfl⟩
    go_wp2_with fail
    refine (clone_txt _ A1 c1 [] (fun j u hj => by simp [txtCells] at hj) (by simp)).mono ?_
    intro e w3 hn
    have hn' := hn.base HB.out
    obtain ⟨v3, rfl, own3, b3⟩ := hn'
    have FIN := Lib.hid (show SetT w [] (.returned v3) w3 from ⟨[], SetOf.self (lt := ltT) .nil, Nat.le_refl _, v3, rfl, own3, b3⟩)
    clear hn own3 b3
    go_wp2
    go_ret
    exact FIN.out
  · obtain ⟨g, rfl⟩ : ∃ g, A1 = some ⟨g, 0, none⟩ := by
      rcases own1.2 with ⟨-, h2⟩ | ⟨g, cap, cur, hv, -⟩
      · exact (h0 h2).elim
      · injection hv with hv
        exact ⟨g, hv⟩
    obtain ⟨n, hn⟩ : ∃ n, L.length = n := ⟨_, rfl⟩
    have hs := sortF_txt w1 w.heap.size g c1 L own1 (by omega)
    rw [hn] at hs ⊢
    have hgb := (own1.lt g rfl).1
    have HB := Lib.hid (And.intro b1 (And.intro hs hn))
    clear own1 b1 h0 hc1 hA1 hs hn
    go_wp2_with fail
    refine HB.out.2.1.mono ?_
    rintro e w2 ⟨rfl, dd, ho, own2, u2⟩
    have H2 := Lib.hid (And.intro ho (And.intro own2 (HB.out.1.trans (u2.below (fun q _ e => by omega) HB.out.1.size))))
    clear ho own2 u2
    go_wp2_with fail
    refine (compact_txt w2 w.heap.size g c1 n L dd H2.out.1 HB.out.2.2 H2.out.2.1 (by have := HB.out.2.2; omega)).mono ?_
    rintro e w3 ⟨M, hM, hlen, rfl, hr3, u3⟩
    have H3 := Lib.hid (And.intro hM (And.intro hlen (And.intro hr3 (H2.out.2.2.trans (u3.below (fun q _ e => by omega) H2.out.2.2.size)))))
    have hml : M.length * 16 ≤ 140737488355328 := by omega
    clear hM hlen hr3 u3
    obtain ⟨k, hk⟩ : ∃ k, M.length = k := ⟨_, rfl⟩
    have hcl := clone_txt w3 (some ⟨g, 0, none⟩) c1 M H3.out.2.2.1 hml
    rw [hk] at hcl ⊢
    have HCL := Lib.hid hcl
    clear hcl hk hml
    go_wp2_with fail
    refine HCL.out.mono ?_
    intro e w4 hn
    have hn' := hn.base H3.out.2.2.2
    obtain ⟨v4, rfl, own4, b4⟩ := hn'
    have FIN := Lib.hid (show SetT w L (.returned v4) w4 from ⟨M, H3.out.1, H3.out.2.1, v4, rfl, own4, b4⟩)
    clear hn own4 b4
    go_wp2
    go_ret
    exact FIN.out
end Go.Proofs.YtnmkieiehjajlaaGreatDoor
namespace Go.Proofs.YtnmkieiehjajlaaGreatDoor
open Go.RowKit Go.Sort Go.Shelf

theorem stoL : Sto Op.bytesLess := by
  refine ⟨less_irr, less_tr, fun a b h k => ?_⟩
  rcases compare_cases a b with ⟨_, d⟩ | ⟨_, d⟩ | ⟨_, d⟩
  · rw [h] at d; cases d
  · exact d
  · rw [k] at d; cases d
theorem less_lt : ∀ (a b : List UInt8), Op.bytesLess a b = true ↔ a < b
  | a, [] => by cases a <;> simp [Op.bytesLess]
  | [], _ :: _ => by simp [Op.bytesLess]
  | x :: a, y :: b => by
    rw [List.cons_lt_cons_iff, ← less_lt a b]
    simp [Op.bytesLess]
theorem le_less (a b : List UInt8) : decide (a ≤ b) = !Op.bytesLess b a := by
  have h := less_lt b a
  cases e : Op.bytesLess b a
  · rw [e] at h
    simp only [Bool.not_false, decide_eq_true_eq]
    exact List.not_lt.1 (fun k => by have := h.2 k; cases this)
  · rw [e] at h
    simp only [Bool.not_true, decide_eq_false_iff_not]
    exact fun k => List.not_le.2 (h.1 rfl) k
theorem Sto.le_trans {α : Type} {lt : α → α → Bool} (hs : Sto lt) (a b c : α) (h : (!lt b a) = true) (k : (!lt c b) = true) : (!lt c a) = true := by
  simp only [Bool.not_eq_true'] at *
  cases e : lt c a
  · rfl
  · cases e2 : lt a b
    · rw [hs.tri _ _ e2 h] at e
      rw [e] at k
      cases k
    · have := hs.tr _ _ _ e e2
      rw [this] at k
      cases k
theorem Sto.le_total {α : Type} {lt : α → α → Bool} (hs : Sto lt) (a b : α) : (!lt b a || !lt a b) = true := by
  cases e : lt b a
  · rfl
  · rw [hs.asym e]; rfl

theorem sort_txt (w : World) (base g cap : Nat) (L : List Txt) (h : w.ownsRow base 9 1 (.slice (some ⟨g, 0, none⟩) L.length cap) L.length (txtCells L)) (hl : L.length ≤ 140737488355328) :
    Calls Tryz.prog 118 #[.slice (some ⟨g, 0, none⟩) L.length cap] w fun e w' => e = .returned (.tuple #[]) ∧ ∃ d : Array Txt, InOrd ltT L d ∧ w'.ownsRow base 9 1 (.slice (some ⟨g, 0, none⟩) L.length cap) L.length (d.toList.map Value.string) ∧ Upd (fun q => q = g) w w' := by
  obtain ⟨ss, hss⟩ : ∃ ss, L.map (fun s => s.data.toList) = ss := ⟨_, rfl⟩
  have hlen : ss.length = L.length := by rw [← hss]; simp
  have hcell : txtCells L = ss.toArray.toList.map encStr := by rw [← hss, txtCells]; simp [encStr]
  rw [hcell] at h
  have hH : Holds encStr w g 0 ss.toArray := holds_own h
  have hg := (h.lt g rfl).2
  have hcon := AnyM.slices_Sort_string sortS g 0 cap ss w hH hg (by omega)
  change Calls Tryz.prog 118 _ _ _ at hcon
  rw [hlen] at hcon
  refine hcon.mono ?_
  rintro e w' ⟨rfl, n, os, rfl⟩
  have hfun : (fun x y : List UInt8 => decide (x ≤ y)) = fun x y => !Op.bytesLess y x := by funext x y; exact le_less x y
  rw [hfun]
  obtain ⟨ts, hts⟩ : ∃ ts, (ss.mergeSort fun x y => !Op.bytesLess y x) = ts := ⟨_, rfl⟩
  rw [hts]
  have hperm : ts.Perm ss := by rw [← hts]; exact List.mergeSort_perm _ _
  have hsort : ts.Pairwise fun a b => (!Op.bytesLess b a) = true := by rw [← hts]; exact List.pairwise_mergeSort (fun a b c => stoL.le_trans a b c) (fun a b => stoL.le_total a b) ss
  have key := own_put (enc := encStr) (m := n) (os := os) h ts.toArray (by simp [hperm.length_eq, hlen])
  refine ⟨rfl, (ts.map toTxt).toArray, ⟨by simp [hperm.length_eq, hlen], ?_, fun i j hij hj => ?_⟩, ?_, key.2⟩
  · have h1 : (ts.map toTxt).Perm (ss.map toTxt) := hperm.map toTxt
    rw [← hss] at h1
    simp only [List.map_map] at h1
    have h2 : (toTxt ∘ fun s : Txt => s.data.toList) = id := by funext s; exact toTxt_list s
    rw [h2, List.map_id] at h1
    exact h1
  · simp only [List.size_toArray, List.length_map] at hj
    rw [getElem!_pos _ j (by simpa using hj), getElem!_pos _ i (by simp; omega)]
    simp only [List.getElem_toArray, List.getElem_map]
    have := List.pairwise_iff_getElem.1 hsort i j (by omega) hj hij
    unfold ltT
    rw [txt_list, txt_list]
    simpa [toTxt] using this
  · have := key.1
    simp only [List.map_map]
    have h2 : (Value.string ∘ toTxt) = encStr := by funext l; rfl
    rw [h2]
    exact this
theorem sort_zero (w : World) (p : Option Addr) (cap : Nat) : Calls Tryz.prog 118 #[.slice p 0 cap] w (fun e w' => e = .returned (.tuple #[]) ∧ w' = w) := by
  have hcon := AnyM.slices_Sort_string_none sortS p cap w
  change Calls Tryz.prog 118 _ _ _ at hcon
  exact hcon

theorem push_txt2 (w : World) (base : Nat) (v : Value) (L : List Txt) (own : w.ownsRow base 9 1 v L.length (txtCells L)) (s : Txt) (hl : (L.length + 1) * 16 ≤ 140737488355328) (hb : base ≤ w.heap.size) :
    ∃ v' w', (Builtin.append_ #[22, 22] 22 #[v, .slice (some ⟨w.heap.size, 0, none⟩) 1 1]).run Tryz.prog (w.alloc (.cells #[.string s] 9)) = .ok v' w' ∧ w'.ownsRow base 9 1 v' (L ++ [s]).length (txtCells (L ++ [s])) ∧ Upd (fun k => v.ownBlock = some k) w w' ∧ ∀ k, v'.ownBlock = some k → v.ownBlock = some k ∨ w.heap.size ≤ k := by
  obtain ⟨v', w', happ, own', up, hk⟩ := push_own w base 22 9 1 16 _ Tryz.underlying22 info_string rfl (by decide) v L.length _ own [.string s] 1 rfl (by simp; exact rfl) hl (by unfold maxLen; omega) hb
  refine ⟨v', w', happ, ?_, up, hk⟩
  rw [List.length_append, txtCells, List.map_append]
  exact own'
/-! The labels. -/
def lbs (E : List Ed) : List Txt := E.map fun x => x.lb
/-- One more is on the list. -/
def TellP (w : World) (base b : Nat) (v : Value) (M : List Txt) (e : Ending) (w' : World) : Prop := e = .returned (.tuple #[]) ∧ ∃ v', Blk w' b 22 #[v'] ∧ w'.ownsRow base 9 1 v' M.length (txtCells M) ∧ v'.ownBlock ≠ some b ∧ Upd (fun q => q = b ∨ v.ownBlock = some q) w w'
set_option maxHeartbeats 400000 in
set_option maxRecDepth 20000 in
/-- What the function tells: one more label. -/
theorem tell_any (w : World) (base b : Nat) (v : Value) (L : List Txt) (x : Ed) (hb : Blk w b 22 #[v]) (own : w.ownsRow base 9 1 v L.length (txtCells L)) (hne : v.ownBlock ≠ some b) (hl : (L.length + 1) * 16 ≤ 140737488355328) (hbase : base ≤ w.heap.size) :
    Calls Tryz.prog 117 #[x.agg, .pointer (some ⟨b, 0, none⟩)] w (TellP w base b v (L ++ [x.lb])) := by
  obtain ⟨x0, x1, x2⟩ := x
  obtain ⟨A, c, rfl, -, -⟩ := own_form own
  have kx := Blk.new w 52 #[.string x0, .string x1, .string x2]
  have kb := hb.alloc (.cells #[.string x0, .string x1, .string x2] 52)
  have ow := own.alloc (.cells #[.string x0, .string x1, .string x2] 52)
  have ux : Upd (fun q => q = b ∨ (Value.slice A L.length c).ownBlock = some q) w (w.alloc (.cells #[.string x0, .string x1, .string x2] 52)) := (Upd.refl _ w).alloc _
  have hlt := hb.lt
  have H := Lib.hid (And.intro ow (And.intro ux (And.intro hne kb)))
  have hz : (w.alloc (.cells #[.string x0, .string x1, .string x2] 52)).heap.size = w.heap.size + 1 := by simp
  have c0 := kb.cell 0
  have cx := kx.cell 1
  simp only [List.getElem?_toArray, List.getElem?_cons_zero, List.getElem?_cons_succ] at c0 cx
  clear hb own ow ux hne kx kb
  unfold Ed.agg
  go_enter Tryz.func117, Tryz.ntmps117
  go_upto_region 1 with (fail)
  generalize w.alloc (.cells #[.string x0, .string x1, .string x2] 52) = W1 at H hz c0 cx ⊢
  obtain ⟨v', w6, happ, own6, u6, hv6⟩ := push_txt2 W1 base _ _ H.out.1 x1 hl (by omega)
  obtain ⟨n, hn⟩ : ∃ n, L.length = n := ⟨_, rfl⟩
  have k6 := H.out.2.2.2.upd u6 (fun e => H.out.2.2.1 e)
  have c6 := k6.cell 0
  have f6 := k6.frozen 0
  simp only [List.getElem?_toArray, List.getElem?_cons_zero] at c6
  have hne6 : v'.ownBlock ≠ some b := fun e => by
    rcases hv6 b e with h | h
    · exact H.out.2.2.1 h
    · omega
  obtain ⟨A6, c6', rfl, -, -⟩ := own_form own6
  have kF := k6.set 0 (.slice A6 (L ++ [x1]).length c6')
  have uF := ((H.out.2.1.trans u6 (fun i e => .inl (.inr e))).setCell (p := ⟨b, 0, none⟩) (.inl (.inl rfl)) (.slice A6 (L ++ [x1]).length c6'))
  have oF := ownsRow_upd own6 ((Upd.refl (fun q => q = b) w6).setCell (p := ⟨b, 0, none⟩) (.inl rfl) (.slice A6 (L ++ [x1]).length c6')) (fun k hk e => hne6 (by rw [hk, e]))
  obtain ⟨m, hm⟩ : ∃ m, (L ++ [x1]).length = m := ⟨_, rfl⟩
  have FIN := Lib.hid (And.intro kF (And.intro oF (And.intro hne6 (And.intro uF hm))))
  clear kF oF hne6 uF own6 u6 k6
  rw [hn] at happ c0 c6
  rw [hm] at happ
  clear hn hm hz hv6
  go_wp2_with (at_builtin; refine wpList_append_run rfl _ _ _ rfl rfl rfl happ ?_)
  go_end0
  rw [← FIN.out.2.2.2.2]
  exact ⟨rfl, _, FIN.out.1, FIN.out.2.1, FIN.out.2.2.1, FIN.out.2.2.2.1⟩
end Go.Proofs.YtnmkieiehjajlaaGreatDoor
