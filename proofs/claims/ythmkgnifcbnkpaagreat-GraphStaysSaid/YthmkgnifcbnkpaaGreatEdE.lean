/- Edges: are all names, all labels? Are all ends among the nodes? -/
import Derived.Test.YthmkgnifcbnkpaaGreatEdD
namespace Go.Proofs.YthmkgnifcbnkpaaGreat
open Go.RowKit

def edNamed (x : Ed) : Bool := nameB x.fr && (labelB x.lb && nameB x.to)
def namedB (N : List Txt) (E : List Ed) : Bool := N.all nameB && E.all edNamed
theorem all_false_at {α : Type} {p : α → Bool} {l : List α} {k : Nat} {x : α} (h : l[k]? = some x) (hp : p x = false) : l.all p = false := by
  rw [List.all_eq_false]
  exact ⟨x, List.mem_of_getElem? h, by rw [hp]; simp⟩
theorem all_true_at {α : Type} {p : α → Bool} {l : List α} (h : ∀ (k : Nat) (x : α), l[k]? = some x → p x = true) : l.all p = true := by
  rw [List.all_eq_true]
  intro x hx
  obtain ⟨k, hk⟩ := List.mem_iff_getElem?.1 hx
  exact h k x hk

set_option maxHeartbeats 2000000 in
set_option maxRecDepth 100000 in
theorem named_any (w : World) (A : Option Addr) (c : Nat) (B : Option Addr) (d : Nat) (N : List Txt) (E : List Ed) (h : ForG w A c B d N E) :
    Calls Tryz.prog 44 #[twoV A N.length c B E.length d] w (Sam w (.bool (namedB N E))) := by
  have k0 := Blk.new w 25 #[.slice A N.length c, .slice B E.length d]
  have u0 : Below w.heap.size w (w.alloc (.cells #[.slice A N.length c, .slice B E.length d] 25)) := (Below.refl _ _).alloc (Nat.le_refl _) _
  have hn : N.length ≤ 140737488355328 := by have := h.fit.n; omega
  have hd : E.length ≤ 140737488355328 := by have := h.fit.e; omega
  have HA := Lib.hid (And.intro h.fit.tn h.fit.te)
  have H := Lib.hid (And.intro (h.below u0) (And.intro k0 u0))
  clear h k0 u0
  unfold twoV
  go_enter Tryz.func44, Tryz.ntmps44
  go_upto_region 1 with (fail)
  generalize w.alloc (.cells #[.slice A N.length c, .slice B E.length d] 25) = W0 at H ⊢
  have q0 : W0.cell? ⟨w.heap.size, 0, none⟩ = some (.slice A N.length c) := H.out.2.1.cell 0
  have q1 : W0.cell? ⟨w.heap.size, 1, none⟩ = some (.slice B E.length d) := H.out.2.1.cell 1
  go_wp2_with fail
  go_loop [4, 10] (fun _ i => ∃ k : Nat, k ≤ N.length ∧ i = .int .i64 k ∧ Hid (∀ j, j < k → ∀ x, N[j]? = some x → nameB x = true)) (fun _ i => N.length - (intOf i).toNat)
  case atStart => exact ⟨0, Nat.zero_le _, rfl, Lib.hid (fun j hj => by omega)⟩
  case round =>
    obtain ⟨k, hk, rfl, hall⟩ := hrel
    by_cases hlt : k < N.length
    · have hltI : (k : Int) < (N.length : Int) := by omega
      have hkw : IntKind.i64.wrap ((k : Int) + 1) = (k : Int) + 1 := IntWalk.i64_in _ (by omega)
      obtain ⟨x, hx⟩ : ∃ x, N[k]? = some x := ⟨N[k], List.getElem?_eq_getElem _⟩
      obtain ⟨ab, ao, rfl, x0⟩ := H.out.1.rn.txt hx
      have hcon := fun w => name_any x w (HA.out.1 x (List.mem_of_getElem? hx))
      obtain ⟨b, hb⟩ : ∃ b, nameB x = b := ⟨_, rfl⟩
      rw [hb] at hcon
      have HX := Lib.hid (And.intro hx hb)
      clear hx hb
      cases b
      · go_wp2_with fail
        refine (hcon _).mono ?_
        rintro e w' ⟨rfl, rfl⟩
        go_wp2
        go_ret
        refine ⟨retb ?_, H.out.2.2⟩
        rw [namedB, all_false_at HX.out.1 HX.out.2, Bool.false_and]
      · go_wp2_with fail
        refine (hcon _).mono ?_
        rintro e w' ⟨rfl, rfl⟩
        go_wp2
        go_round
        case rel => exact ⟨k + 1, by omega, by go_num, Lib.hid (fun j hj y hy => by
          rcases Nat.lt_succ_iff_lt_or_eq.1 hj with h | rfl
          · exact hall.out j h y hy
          · rw [HX.out.1] at hy
            injection hy with hy
            rw [← hy]
            exact HX.out.2)⟩
        case measure => simp [intOf]; omega
    · obtain rfl : k = N.length := by omega
      have hN : N.all nameB = true := all_true_at (fun j x hx => hall.out j (List.getElem?_eq_some_iff.1 hx).1 x hx)
      have HN := Lib.hid hN
      clear hN hall hk hlt
      go_wp2_with fail
      clear q0 q1
      go_loopw [6, 21] (fun _ i wr => ∃ k : Nat, k ≤ E.length ∧ i = .int .i64 k ∧ Hid (Below W0.heap.size W0 wr) ∧ Hid (∀ j, j < k → ∀ x, E[j]? = some x → edNamed x = true)) (fun _ i _ => E.length - (intOf i).toNat)
      case atStart => exact ⟨0, Nat.zero_le _, rfl, Lib.hid (Below.refl _ _), Lib.hid (fun j hj => by omega)⟩
      case round =>
        obtain ⟨k, hk, rfl, hb, hall⟩ := hrel
        by_cases hlt : k < E.length
        · have hltI : (k : Int) < (E.length : Int) := by omega
          have hkw : IntKind.i64.wrap ((k : Int) + 1) = (k : Int) + 1 := IntWalk.i64_in _ (by omega)
          obtain ⟨⟨s0, s1, s2⟩, hx⟩ : ∃ x, E[k]? = some x := ⟨E[k], List.getElem?_eq_getElem _⟩
          obtain ⟨ab, ao, rfl, x0, x1, x2⟩ := (H.out.1.below hb.out).re.ed hx
          dsimp only at x0 x1 x2
          have hok := HA.out.2 _ (List.mem_of_getElem? hx)
          have c0 := fun w => name_any s0 w hok.1
          have c1 := fun w => label_any s1 w hok.2.1
          have c2 := fun w => name_any s2 w hok.2.2
          obtain ⟨v0, e0⟩ : ∃ b, nameB s0 = b := ⟨_, rfl⟩
          obtain ⟨v1, e1⟩ : ∃ b, labelB s1 = b := ⟨_, rfl⟩
          obtain ⟨v2, e2⟩ : ∃ b, nameB s2 = b := ⟨_, rfl⟩
          rw [e0] at c0
          rw [e1] at c1
          rw [e2] at c2
          have hv : edNamed ⟨s0, s1, s2⟩ = (v0 && (v1 && v2)) := by rw [edNamed, e0, e1, e2]
          have kx := Blk.new wr 39 #[.string s0, .string s1, .string s2]
          have bx : Below wr.heap.size wr (wr.alloc (.cells #[.string s0, .string s1, .string s2] 39)) := (Below.refl _ _).alloc (Nat.le_refl _) _
          have HX := Lib.hid (And.intro hx (And.intro hv (And.intro kx (hb.out.trans (bx.mono hb.out.size)))))
          clear hx hok e0 e1 e2 hv kx bx
          go_upto_region 10 with (fail)
          generalize wr.alloc (.cells #[.string s0, .string s1, .string s2] 39) = W1 at HX ⊢
          clear x0 x1 x2
          have x0 : W1.cell? ⟨wr.heap.size, 0, none⟩ = some (.string s0) := HX.out.2.2.1.cell 0
          have x1 : W1.cell? ⟨wr.heap.size, 1, none⟩ = some (.string s1) := HX.out.2.2.1.cell 1
          have x2 : W1.cell? ⟨wr.heap.size, 2, none⟩ = some (.string s2) := HX.out.2.2.1.cell 2
          go_wp2_with fail
          refine (c0 _).mono ?_
          rintro e w' ⟨rfl, rfl⟩
          cases v0
          · go_wp2
            go_ret
            refine ⟨retb ?_, H.out.2.2.trans (HX.out.2.2.2.mono H.out.2.2.size)⟩
            rw [namedB, all_false_at (p := edNamed) HX.out.1 HX.out.2.1, Bool.and_false]
          · go_wp2_with fail
            refine (c1 _).mono ?_
            rintro e w' ⟨rfl, rfl⟩
            cases v1
            · go_wp2
              go_ret
              refine ⟨retb ?_, H.out.2.2.trans (HX.out.2.2.2.mono H.out.2.2.size)⟩
              rw [namedB, all_false_at (p := edNamed) HX.out.1 HX.out.2.1, Bool.and_false]
            · go_wp2_with fail
              refine (c2 _).mono ?_
              rintro e w' ⟨rfl, rfl⟩
              cases v2
              · go_wp2
                go_ret
                refine ⟨retb ?_, H.out.2.2.trans (HX.out.2.2.2.mono H.out.2.2.size)⟩
                rw [namedB, all_false_at (p := edNamed) HX.out.1 HX.out.2.1, Bool.and_false]
              · go_wp2
                go_roundw
                case rel => exact ⟨k + 1, by omega, by go_num, Lib.hid HX.out.2.2.2, Lib.hid (fun j hj y hy => by
                  rcases Nat.lt_succ_iff_lt_or_eq.1 hj with h | rfl
                  · exact hall.out j h y hy
                  · rw [HX.out.1] at hy
                    injection hy with hy
                    rw [← hy]
                    exact HX.out.2.1)⟩
                case measure => simp [intOf]; omega
        · obtain rfl : k = E.length := by omega
          go_wp2
          go_ret
          refine ⟨retb ?_, H.out.2.2.trans (hb.out.mono H.out.2.2.size)⟩
          rw [namedB, HN.out, Bool.true_and]
          exact (all_true_at (fun j x hx => hall.out j (List.getElem?_eq_some_iff.1 hx).1 x hx)).symm

/-! The places of the nodes. -/
def kvN (N : List Txt) : Nat → List (Value × Value)
  | 0 => []
  | k + 1 => match N[k]? with
    | some s => kvN N k ++ [(.string s, .int .i64 ((k : Int) + 1))]
    | none => kvN N k
theorem kvN_mem (N : List Txt) : ∀ k, ∀ q ∈ kvN N k, ∃ (i : Nat) (s : Txt), i < k ∧ N[i]? = some s ∧ q = (.string s, .int .i64 ((i : Int) + 1))
  | 0, q, h => by simp [kvN] at h
  | k + 1, q, h => by
    unfold kvN at h
    cases hx : N[k]? with
    | none =>
      rw [hx] at h
      obtain ⟨i, s, h1, h2, h3⟩ := kvN_mem N k q h
      exact ⟨i, s, by omega, h2, h3⟩
    | some s =>
      rw [hx] at h
      rcases List.mem_append.1 h with h | h
      · obtain ⟨i, s, h1, h2, h3⟩ := kvN_mem N k q h
        exact ⟨i, s, by omega, h2, h3⟩
      · exact ⟨k, s, by omega, hx, List.mem_singleton.1 h⟩
theorem kvN_in (N : List Txt) : ∀ k (i : Nat) (s : Txt), i < k → N[i]? = some s → ((.string s, .int .i64 ((i : Int) + 1)) : Value × Value) ∈ kvN N k
  | 0, _, _, h, _ => by omega
  | k + 1, i, s, h, hi => by
    unfold kvN
    by_cases e : i = k
    · subst e
      rw [hi]
      simp
    · have := kvN_in N k i s (by omega) hi
      cases N[k]? with
      | none => exact this
      | some _ => exact List.mem_append.2 (.inl this)
theorem str_law : Maps.Keyed Tryz.prog 9 := Maps.string_keyed Tryz.underlying9
theorem str_key {s : Txt} (hs : TxtOk s) : ∃ l, keyOf Tryz.prog 9 (.string s) = some l := by
  have h : s.size ≤ maxLen := hs
  simp [keyOf, mapKey, Tryz.underlying9, h]
/-- Is a text on a list? -/
def inB (s : Txt) (N : List Txt) : Bool := N.any fun t => decide (t = s)
theorem inB_iff {s : Txt} {N : List Txt} : inB s N = true ↔ s ∈ N := by
  unfold inB
  rw [List.any_eq_true]
  constructor
  · rintro ⟨t, h, e⟩
    rw [of_decide_eq_true e] at h
    exact h
  · intro h
    exact ⟨s, h, by simp⟩
theorem kvN_new {N : List Txt} (hN : upB ltT N = true) {k : Nat} {s : Txt} (hs : N[k]? = some s) : ∀ q ∈ kvN N k, q.1 ≠ .string s := by
  intro q hq e
  obtain ⟨i, t, hi, ht, rfl⟩ := kvN_mem N k q hq
  simp only [Value.string.injEq] at e
  subst e
  have h := rises_of_up stoT hN
  have h1 := List.pairwise_iff_getElem.1 h i k (List.getElem?_eq_some_iff.1 ht).1 (List.getElem?_eq_some_iff.1 hs).1 hi
  rw [(List.getElem?_eq_some_iff.1 ht).2, (List.getElem?_eq_some_iff.1 hs).2, stoT.irr] at h1
  cases h1
/-- What a lookup of a node answers. -/
theorem look_node {w : World} {r : Nat} {N : List Txt} (h : MapIs w Tryz.prog 9 r (kvN N N.length)) (s : Txt) (hk : TxtOk s) :
    ∃ v : Int, (Instr.lookup 95 (.map (some r)) (.string s) false).run Tryz.prog w = .ok (.int .i64 v) w ∧ ((v == 0) = !inB s N) ∧ 0 ≤ v := by
  by_cases hs : s ∈ N
  · obtain ⟨i, hi⟩ := List.mem_iff_getElem?.1 hs
    refine ⟨(i : Int) + 1, h.look_hit str_law Tryz.underlying95 (kvN_in N N.length i s (List.getElem?_eq_some_iff.1 hi).1 hi) false, ?_, by omega⟩
    rw [inB_iff.2 hs]
    simp
    omega
  · refine ⟨0, h.look_miss str_law Tryz.underlying95 (str_key hk) (fun q hq e => ?_) (by kernel_rfl) false, by rw [show inB s N = false from by cases e : inB s N; rfl; exact (hs (inB_iff.1 e)).elim]; rfl, by omega⟩
    obtain ⟨i, t, hi, ht, rfl⟩ := kvN_mem N N.length q hq
    simp only [Value.string.injEq] at e
    subst e
    exact hs (List.mem_of_getElem? ht)
def endsIn (N : List Txt) (x : Ed) : Bool := inB x.fr N && inB x.to N
def formB (N : List Txt) (E : List Ed) : Bool := upB ltT N && (upB ltE E && E.all (endsIn N))

set_option maxHeartbeats 4000000 in
set_option maxRecDepth 100000 in
theorem form_any (w : World) (A : Option Addr) (c : Nat) (B : Option Addr) (d : Nat) (N : List Txt) (E : List Ed) (h : ForG w A c B d N E) :
    Calls Tryz.prog 48 #[twoV A N.length c B E.length d] w (Sam w (.bool (formB N E))) := by
  have k0 := Blk.new w 25 #[.slice A N.length c, .slice B E.length d]
  have u0 : Below w.heap.size w (w.alloc (.cells #[.slice A N.length c, .slice B E.length d] 25)) := (Below.refl _ _).alloc (Nat.le_refl _) _
  have hn : N.length ≤ 140737488355328 := by have := h.fit.n; omega
  have hd : E.length ≤ 140737488355328 := by have := h.fit.e; omega
  have HA := Lib.hid (And.intro h.fit (And.intro h.hc h.hd))
  have H := Lib.hid (And.intro (h.below u0) (And.intro k0 u0))
  clear h k0 u0
  obtain ⟨v0, e0⟩ : ∃ b, upB ltT N = b := ⟨_, rfl⟩
  obtain ⟨v1, e1⟩ : ∃ b, upB ltE E = b := ⟨_, rfl⟩
  have HE := Lib.hid (And.intro e0 e1)
  clear e0 e1
  unfold twoV
  go_enter Tryz.func48, Tryz.ntmps48
  go_upto_region 1 with (fail)
  generalize w.alloc (.cells #[.slice A N.length c, .slice B E.length d] 25) = W0 at H ⊢
  have q0 : W0.cell? ⟨w.heap.size, 0, none⟩ = some (.slice A N.length c) := H.out.2.1.cell 0
  have q1 : W0.cell? ⟨w.heap.size, 1, none⟩ = some (.slice B E.length d) := H.out.2.1.cell 1
  go_wp2_with fail
  refine (rising_txt W0 A c N H.out.1.rn HA.out.2.1 HA.out.1.n).mono ?_
  rintro e w1 ⟨rfl, b1⟩
  rw [HE.out.1]
  have k1 := H.out.2.1.upd (Upd.of_below b1 (fun _ => False)) id
  clear q0 q1
  have q0 : w1.cell? ⟨w.heap.size, 0, none⟩ = some (.slice A N.length c) := k1.cell 0
  have q1 : w1.cell? ⟨w.heap.size, 1, none⟩ = some (.slice B E.length d) := k1.cell 1
  have H1 := Lib.hid (And.intro (H.out.1.below b1) (And.intro k1 (H.out.2.2.trans (b1.mono H.out.2.2.size))))
  clear k1 b1
  cases v0
  · go_wp2
    go_ret
    refine ⟨retb ?_, H1.out.2.2⟩
    rw [formB, HE.out.1, Bool.false_and]
  go_wp2_with fail
  refine (rising_ed w1 B d E H1.out.1.re HA.out.2.2 HA.out.1.e).mono ?_
  rintro e w2 ⟨rfl, b2⟩
  rw [HE.out.2]
  have k2 := H1.out.2.1.upd (Upd.of_below b2 (fun _ => False)) id
  clear q0 q1
  have q0 : w2.cell? ⟨w.heap.size, 0, none⟩ = some (.slice A N.length c) := k2.cell 0
  have H2 := Lib.hid (And.intro (H1.out.1.below b2) (And.intro k2 (H1.out.2.2.trans (b2.mono H1.out.2.2.size))))
  clear k2 b2
  cases v1
  · go_wp2
    go_ret
    refine ⟨retb ?_, H2.out.2.2⟩
    rw [formB, HE.out.1, HE.out.2]
    rfl
  have hmm := @run_makeMap Tryz.prog
  clear q0
  go_upto_region 4 with (fail)
  have m3 := MapIs.made w2 Tryz.prog 9
  have b3 : Below w2.heap.size w2 (w2.alloc (.map #[] 0)) := (Below.refl _ _).alloc (Nat.le_refl _) _
  have k3 := H2.out.2.1.upd (Upd.of_below b3 (fun _ => False)) id
  have H3 := Lib.hid (And.intro (H2.out.1.below b3) (And.intro k3 (And.intro (H2.out.2.2.trans (b3.mono H2.out.2.2.size)) m3)))
  have hr1 : w.heap.size < w2.heap.size := H2.out.2.1.lt
  clear b3 m3 k3 hmm
  generalize w2.alloc (.map #[] 0) = W3 at H3 ⊢
  have q0 : W3.cell? ⟨w.heap.size, 0, none⟩ = some (.slice A N.length c) := H3.out.2.1.cell 0
  go_wp2_with fail
  clear q0
  have HA2 := Lib.hid (show ∀ b o s, A = some ⟨b, o, s⟩ → N ≠ [] → b < w2.heap.size from fun b o s e hne => by
    obtain ⟨x, hx⟩ := List.exists_mem_of_ne_nil N hne
    obtain ⟨i, hi⟩ := List.mem_iff_getElem?.1 hx
    obtain ⟨b', o', e', hc⟩ := H2.out.1.rn.txt hi
    rw [e] at e'
    injection e' with e'
    injection e' with e' _ _
    subst e'
    exact World.block_lt_of_cell? w2 _ hc)
  have HB2 := Lib.hid (show ∀ b o s, B = some ⟨b, o, s⟩ → E ≠ [] → b < w2.heap.size from fun b o s e hne => by
    obtain ⟨x, hx⟩ := List.exists_mem_of_ne_nil E hne
    obtain ⟨i, hi⟩ := List.mem_iff_getElem?.1 hx
    obtain ⟨b', o', e', hc, -, -⟩ := H2.out.1.re.ed hi
    rw [e] at e'
    injection e' with e'
    injection e' with e' _ _
    subst e'
    exact World.block_lt_of_cell? w2 _ hc)
  go_loopw [4, 5, 22] (fun _ _ i wr => ∃ k : Nat, k ≤ N.length ∧ i = .int .i64 k ∧ Hid (Upd (fun q => q = w2.heap.size) W3 wr) ∧ Hid (MapIs wr Tryz.prog 9 w2.heap.size (kvN N k))) (fun _ _ i _ => N.length - (intOf i).toNat)
  case atStart => exact ⟨0, Nat.zero_le _, rfl, Lib.hid (Upd.refl _ _), Lib.hid H3.out.2.2.2⟩
  case round =>
    obtain ⟨k, hk, rfl, hu, hm⟩ := hrel
    by_cases hlt : k < N.length
    · have hltI : (k : Int) < (N.length : Int) := by omega
      have hkw : IntKind.i64.wrap ((k : Int) + 1) = (k : Int) + 1 := IntWalk.i64_in _ (by omega)
      obtain ⟨x, hx⟩ : ∃ x, N[k]? = some x := ⟨N[k], List.getElem?_eq_getElem _⟩
      obtain ⟨ab, ao, rfl, y0⟩ := H3.out.1.rn.txt hx
      have hab := HA2.out ab ao none rfl (fun e => by rw [e] at hx; simp at hx)
      have x0 : wr.cell? ⟨ab, ao + k, none⟩ = some (.string x) := (hu.out.cell (p := ⟨ab, ao + k, none⟩) (World.block_lt_of_cell? W3 _ y0) (by show ¬ ab = _; omega)).trans y0
      obtain ⟨w5, hrun, hm5, hg5, hz5⟩ := hm.out.put_miss str_law Tryz.underlying95 (.int .i64 ((k : Int) + 1)) (str_key (HA.out.1.tn x (List.mem_of_getElem? hx))) (kvN_new HE.out.1 hx)
      have hkv : kvN N (k + 1) = kvN N k ++ [(.string x, .int .i64 ((k : Int) + 1))] := by rw [kvN, hx]
      rw [← hkv] at hm5
      have HX := Lib.hid (And.intro hm5 (hu.out.trans (Upd.of_grown hg5) (fun i e => .inl (by injection e with e; exact e.symm))))
      clear y0 hx hm5 hg5 hz5 hkv
      go_wp2
      go_roundw
      case rel => exact ⟨k + 1, by omega, by go_num, Lib.hid HX.out.2, Lib.hid HX.out.1⟩
      case measure => simp [intOf]; omega
    · obtain rfl : k = N.length := by omega
      have k4 := H3.out.2.1.upd hu.out (by omega)
      have q1 : wr.cell? ⟨w.heap.size, 1, none⟩ = some (.slice B E.length d) := k4.cell 1
      have bw4 : Below w.heap.size w wr := H3.out.2.2.1.trans (hu.out.below (fun q _ e => by omega) H3.out.2.2.1.size)
      have re4 : ∀ (j : Nat) (x : Ed), E[j]? = some x → ∃ b o, B = some ⟨b, o, none⟩ ∧ b < wr.heap.size ∧ wr.cell? ⟨b, o + j * 3, none⟩ = some (.string x.fr) ∧ wr.cell? ⟨b, o + j * 3 + 1, none⟩ = some (.string x.lb) ∧ wr.cell? ⟨b, o + j * 3 + 2, none⟩ = some (.string x.to) := fun j x hx => by
        obtain ⟨bb, bo, e, y0, y1, y2⟩ := H3.out.1.re.ed hx
        have hbb := HB2.out bb bo none e (fun e => by rw [e] at hx; simp at hx)
        have hlt3 := World.block_lt_of_cell? W3 _ y0
        have cc := fun i => hu.out.cell (p := ⟨bb, i, none⟩) hlt3 (by show ¬ bb = _; omega)
        exact ⟨bb, bo, e, Nat.lt_of_lt_of_le hlt3 hu.out.size, (cc _).trans y0, (cc _).trans y1, (cc _).trans y2⟩
      have H4 := Lib.hid (And.intro bw4 re4)
      clear k4 bw4 re4 hk hlt hu
      obtain ⟨W4, hW4⟩ : ∃ W, W = wr := ⟨_, rfl⟩
      subst hW4
      go_wp2_with fail
      clear q1
      go_loopw [7, 35] (fun _ i wz => ∃ k : Nat, k ≤ E.length ∧ i = .int .i64 k ∧ Hid (Below W4.heap.size W4 wz) ∧ Hid (∀ j, j < k → ∀ x, E[j]? = some x → endsIn N x = true)) (fun _ i _ => E.length - (intOf i).toNat)
      case atStart => exact ⟨0, Nat.zero_le _, rfl, Lib.hid (Below.refl _ _), Lib.hid (fun j hj => by omega)⟩
      case round =>
        obtain ⟨k, hk, rfl, hb, hall⟩ := hrel
        by_cases hlt : k < E.length
        · have hltI : (k : Int) < (E.length : Int) := by omega
          have hkw : IntKind.i64.wrap ((k : Int) + 1) = (k : Int) + 1 := IntWalk.i64_in _ (by omega)
          obtain ⟨⟨s0, s1, s2⟩, hx⟩ : ∃ x, E[k]? = some x := ⟨E[k], List.getElem?_eq_getElem _⟩
          obtain ⟨ab, ao, rfl, hlt4, y0, y1, y2⟩ := H4.out.2 k _ hx
          dsimp only at y0 y1 y2
          have cc := fun i => hb.out.cell (p := ⟨ab, i, none⟩) hlt4
          have x0 := (cc _).trans y0
          have x1 := (cc _).trans y1
          have x2 := (cc _).trans y2
          have kx := Blk.new wr 39 #[.string s0, .string s1, .string s2]
          have bx : Below wr.heap.size wr (wr.alloc (.cells #[.string s0, .string s1, .string s2] 39)) := (Below.refl _ _).alloc (Nat.le_refl _) _
          have b5 := hb.out.trans (bx.mono hb.out.size)
          have hm5 := hm.out.upd (Upd.of_below b5 (fun _ => False)) id
          have HX := Lib.hid (And.intro hx (And.intro kx (And.intro b5 hm5)))
          clear hx y0 y1 y2 cc kx bx b5 hm5
          go_upto_region 12 with (fail)
          generalize wr.alloc (.cells #[.string s0, .string s1, .string s2] 39) = W5 at HX ⊢
          clear x0 x1 x2
          have x0 : W5.cell? ⟨wr.heap.size, 0, none⟩ = some (.string s0) := HX.out.2.1.cell 0
          have x2 : W5.cell? ⟨wr.heap.size, 2, none⟩ = some (.string s2) := HX.out.2.1.cell 2
          obtain ⟨v0, l0, h0, -⟩ := look_node HX.out.2.2.2 s0 ((HA.out.1.te _ (List.mem_of_getElem? HX.out.1)).1)
          obtain ⟨v1, l1, h1, -⟩ := look_node HX.out.2.2.2 s2 ((HA.out.1.te _ (List.mem_of_getElem? HX.out.1)).2.2)
          obtain ⟨i0, e0⟩ : ∃ b, inB s0 N = b := ⟨_, rfl⟩
          obtain ⟨i1, e1⟩ : ∃ b, inB s2 N = b := ⟨_, rfl⟩
          rw [e0] at h0
          rw [e1] at h1
          have hv : endsIn N ⟨s0, s1, s2⟩ = (i0 && i1) := by rw [endsIn, e0, e1]
          have HV := Lib.hid hv
          clear e0 e1 hv
          have fin : w.heap.size ≤ W4.heap.size := H4.out.1.size
          cases i0
          · simp only [Bool.not_false] at h0
            go_wp2
            go_ret
            refine ⟨retb ?_, H4.out.1.trans (HX.out.2.2.1.mono H4.out.1.size)⟩
            rw [formB, HE.out.1, HE.out.2, all_false_at (p := endsIn N) HX.out.1 HV.out]
            rfl
          · simp only [Bool.not_true] at h0
            cases i1
            · simp only [Bool.not_false] at h1
              go_wp2
              go_ret
              refine ⟨retb ?_, H4.out.1.trans (HX.out.2.2.1.mono H4.out.1.size)⟩
              rw [formB, HE.out.1, HE.out.2, all_false_at (p := endsIn N) HX.out.1 HV.out]
              rfl
            · simp only [Bool.not_true] at h1
              go_wp2
              go_roundw
              case rel => exact ⟨k + 1, by omega, by go_num, Lib.hid HX.out.2.2.1, Lib.hid (fun j hj y hy => by
                rcases Nat.lt_succ_iff_lt_or_eq.1 hj with h | rfl
                · exact hall.out j h y hy
                · rw [HX.out.1] at hy
                  injection hy with hy
                  rw [← hy]
                  exact HV.out)⟩
              case measure => simp [intOf]; omega
        · obtain rfl : k = E.length := by omega
          go_wp2
          go_ret
          refine ⟨retb ?_, H4.out.1.trans (hb.out.mono H4.out.1.size)⟩
          rw [formB, HE.out.1, HE.out.2, all_true_at (p := endsIn N) (fun j x hx => hall.out j (List.getElem?_eq_some_iff.1 hx).1 x hx)]
          rfl
end Go.Proofs.YthmkgnifcbnkpaaGreat
