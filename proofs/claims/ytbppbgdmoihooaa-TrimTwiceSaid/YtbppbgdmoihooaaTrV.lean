/- Forests: trim.Pick on a spot that is there. -/
import Derived.Test.YtbppbgdmoihooaaTrU
import Derived.WalkSmall
namespace Go.Proofs.Ytbppbgdmoihooaa
open Go.RowKit

set_option maxHeartbeats 1000000 in
set_option maxRecDepth 20000 in
theorem tpick_zero (w : World) (A : Option Addr) (c : Nat) (B : Option Addr) (d : Nat) (S : List Fct) (P : List Pk) (s : Nat) (h : ForR w A c B d S P) (ho : OkFor S P) (hs : s < S.length) (HDET : ∀ T Y, Settled P S.length T → ByAt P S.length T Y → at0 T (s : Int) = 0) :
    Calls Try.prog 39 #[forV A S.length c B P.length d, .int .i64 (s : Int)] w (Sam w (.tuple #[.slice none 0 0, .int .i64 390])) := by
  have HD0 := Lib.hid HDET
  clear HDET
  have hsI : (s : Int) < (S.length : Int) := by omega
  have k0 := Blk.new w 75 #[.slice A S.length c, .slice B P.length d]
  have u0 : Below w.heap.size w (w.alloc (.cells #[.slice A S.length c, .slice B P.length d] 75)) := (Below.refl _ _).alloc (Nat.le_refl _) _
  have H := Lib.hid (And.intro h (And.intro k0 u0))
  clear h k0 u0
  go_enter Try.func39, Try.ntmps39
  unfold forV
  go_upto_region 1 with (fail)
  generalize w.alloc (.cells #[.slice A S.length c, .slice B P.length d] 75) = W0 at H ⊢
  have q0 : W0.cell? ⟨w.heap.size, 0, none⟩ = some (.slice A S.length c) := H.out.2.1.cell 0
  have q1 : W0.cell? ⟨w.heap.size, 1, none⟩ = some (.slice B P.length d) := H.out.2.1.cell 1
  go_step3
  go_wp2_with fail
  refine (asked_ok W0 A c B d S P (s : Int) (H.out.1.below H.out.2.2) ho ⟨by omega, by omega⟩).mono ?_
  rintro e w1 ⟨rfl, b1⟩
  have k1 := H.out.2.1.upd (Upd.of_below b1 (fun _ => False)) id
  have q2 : w1.cell? ⟨w.heap.size, 0, none⟩ = some (.slice A S.length c) := k1.cell 0
  have q3 : w1.cell? ⟨w.heap.size, 1, none⟩ = some (.slice B P.length d) := k1.cell 1
  have b2 := H.out.2.2.trans (b1.mono H.out.2.2.size)
  have f1 := H.out.1.below b2
  have HC := Lib.hid (And.intro b2 k1)
  clear k1 b1 b2 q0 q1
  go_wp2_with fail
  refine (small_any w1 A c B d S P f1 ho).mono ?_
  rintro e w2 ⟨sb, mb, yb, T, Y, rfl, hS⟩
  have c1 : w2.cell? ⟨sb, 2, none⟩ = some (.slice (some ⟨mb, 0, none⟩) S.length S.length) := hS.s.blk.cell 2
  have m0 : w2.cell? ⟨mb, s, none⟩ = some (.int .i64 (at0 T (s : Int))) := by
    rw [hS.s.m.cell s]; exact ints_get (at0_get (by rw [hS.s.lm]; exact hs))
  have hv := hS.t.val.at (s : Int)
  have b3 := HC.out.1.trans (hS.l.mono HC.out.1.size)
  have k3 := HC.out.2.upd (Upd.of_below hS.l (fun _ => False)) id
  have hdet := HD0.out T Y hS.t hS.b
  have HS := Lib.hid (And.intro hS (And.intro b3 (And.intro k3 hdet)))
  clear f1 hS b3 k3 hdet q2 q3
  obtain ⟨v, hvd⟩ : ∃ v, at0 T (s : Int) = v := ⟨_, rfl⟩
  rw [hvd] at m0 hv
  have hc := HS.out.2.2.2
  rw [hvd] at hc
  subst hc
  clear hvd hv
  go_wp2
  go_ret2
  exact ⟨rfl, HS.out.2.1⟩

set_option maxHeartbeats 1000000 in
set_option maxRecDepth 20000 in
theorem tpick_many (w : World) (A : Option Addr) (c : Nat) (B : Option Addr) (d : Nat) (S : List Fct) (P : List Pk) (s : Nat) (h : ForR w A c B d S P) (ho : OkFor S P) (hs : s < S.length) (HDET : ∀ T Y, Settled P S.length T → ByAt P S.length T Y → 4096 < at0 T (s : Int)) :
    Calls Try.prog 39 #[forV A S.length c B P.length d, .int .i64 (s : Int)] w (Sam w (.tuple #[.slice none 0 0, .int .i64 251])) := by
  have HD0 := Lib.hid HDET
  clear HDET
  have hsI : (s : Int) < (S.length : Int) := by omega
  have k0 := Blk.new w 75 #[.slice A S.length c, .slice B P.length d]
  have u0 : Below w.heap.size w (w.alloc (.cells #[.slice A S.length c, .slice B P.length d] 75)) := (Below.refl _ _).alloc (Nat.le_refl _) _
  have H := Lib.hid (And.intro h (And.intro k0 u0))
  clear h k0 u0
  go_enter Try.func39, Try.ntmps39
  unfold forV
  go_upto_region 1 with (fail)
  generalize w.alloc (.cells #[.slice A S.length c, .slice B P.length d] 75) = W0 at H ⊢
  have q0 : W0.cell? ⟨w.heap.size, 0, none⟩ = some (.slice A S.length c) := H.out.2.1.cell 0
  have q1 : W0.cell? ⟨w.heap.size, 1, none⟩ = some (.slice B P.length d) := H.out.2.1.cell 1
  go_step3
  go_wp2_with fail
  refine (asked_ok W0 A c B d S P (s : Int) (H.out.1.below H.out.2.2) ho ⟨by omega, by omega⟩).mono ?_
  rintro e w1 ⟨rfl, b1⟩
  have k1 := H.out.2.1.upd (Upd.of_below b1 (fun _ => False)) id
  have q2 : w1.cell? ⟨w.heap.size, 0, none⟩ = some (.slice A S.length c) := k1.cell 0
  have q3 : w1.cell? ⟨w.heap.size, 1, none⟩ = some (.slice B P.length d) := k1.cell 1
  have b2 := H.out.2.2.trans (b1.mono H.out.2.2.size)
  have f1 := H.out.1.below b2
  have HC := Lib.hid (And.intro b2 k1)
  clear k1 b1 b2 q0 q1
  go_wp2_with fail
  refine (small_any w1 A c B d S P f1 ho).mono ?_
  rintro e w2 ⟨sb, mb, yb, T, Y, rfl, hS⟩
  have c1 : w2.cell? ⟨sb, 2, none⟩ = some (.slice (some ⟨mb, 0, none⟩) S.length S.length) := hS.s.blk.cell 2
  have m0 : w2.cell? ⟨mb, s, none⟩ = some (.int .i64 (at0 T (s : Int))) := by
    rw [hS.s.m.cell s]; exact ints_get (at0_get (by rw [hS.s.lm]; exact hs))
  have hv := hS.t.val.at (s : Int)
  have b3 := HC.out.1.trans (hS.l.mono HC.out.1.size)
  have k3 := HC.out.2.upd (Upd.of_below hS.l (fun _ => False)) id
  have hdet := HD0.out T Y hS.t hS.b
  have HS := Lib.hid (And.intro hS (And.intro b3 (And.intro k3 hdet)))
  clear f1 hS b3 k3 hdet q2 q3
  obtain ⟨v, hvd⟩ : ∃ v, at0 T (s : Int) = v := ⟨_, rfl⟩
  rw [hvd] at m0 hv
  have hc := HS.out.2.2.2
  rw [hvd] at hc
  have e1 : (v == 0) = false := by simp; omega
  have e2 : decide (4096 < v) = true := by simpa using hc
  clear hvd hc hv
  go_wp2
  go_ret2
  exact ⟨rfl, HS.out.2.1⟩

theorem push_own (w : World) (base t e size bytes : Nat) (z : Value) (ht : Try.prog.underlying t = some (.slice e)) (hi : (Try.prog.info? e).map (fun i => (i.zero, i.size, i.bytes)) = some (some z, size, bytes)) (hzs : z.cells.size = size) (h0 : 0 < size)
    (v : Value) (n : Nat) (xs : List Value) (own : w.ownsRow base e size v n xs) (news : List Value) (m : Nat) (hl : news.length = m * size) (h1 : ∀ u ∈ news, u.oneCell' = true) (hn : (n + m) * bytes ≤ 140737488355328) (h63 : n + m ≤ maxLen) (hb : base ≤ w.heap.size) :
    ∃ v' w', (Builtin.append_ #[t, t] t #[v, .slice (some ⟨w.heap.size, 0, none⟩) m m]).run Try.prog (w.alloc (.cells news.toArray e)) = .ok v' w' ∧ w'.ownsRow base e size v' (n + m) (xs ++ news) ∧ Upd (fun k => v.ownBlock = some k) w w' ∧ ∀ k, v'.ownBlock = some k → v.ownBlock = some k ∨ w.heap.size ≤ k := by
  obtain ⟨i0, hi0, hz0, hz1, hz2⟩ := info_parts hi
  obtain ⟨v', w', happ, own', gr, -, pl⟩ := run_append_own_at (P := Try.prog) (w.alloc (.cells news.toArray e)) base t t e i0 z size bytes ht hi0 hz0 hz1 hz2 hzs h0 v n xs (own.alloc _) ⟨w.heap.size, 0, none⟩ m m news hl (fun j u hu => by
    have := (Blk.new w e news.toArray).cell j
    rw [Addr.add_lit, Nat.zero_add, this]
    simpa using hu) h1 h63 hn (by simp; omega)
  refine ⟨v', w', happ, own', ((Upd.refl _ w).alloc _).grown gr (fun k hk => .inl hk), fun k hk => ?_⟩
  rcases pl with h | h
  · exact .inl (by rw [← h]; exact hk)
  · rw [h] at hk
    injection hk with hk
    simp at hk
    exact .inr (by omega)

/-- Both lists of the pick: what is out, and the pile. -/
structure Two (w2 wr : World) (ov pv : Value) (st : List Nat) (out : List Pk) : Prop where
  oo : wr.ownsRow w2.heap.size 125 5 ov out.length (packCells out)
  op : wr.ownsRow w2.heap.size 3 1 pv st.length (st.map fun i : Nat => Value.int .i64 (i : Int))
  ap : ∀ k, ov.ownBlock = some k → pv.ownBlock ≠ some k
  bl : Below w2.heap.size w2 wr
theorem Two.start (w2 : World) (s : Nat) : Two w2 (w2.alloc (.cells #[.int .i64 (s : Int)] 3)) (.slice none 0 0) (.slice (some ⟨w2.heap.size, 0, none⟩) 1 1) [s] [] :=
  ⟨World.ownsRow_nil _ _ _ _, ⟨rfl, .inr ⟨w2.heap.size, 1, #[.int .i64 (s : Int)], rfl, Nat.le_refl _, heap_alloc_new w2 _, Nat.le_refl _, by decide, rfl, rfl⟩⟩, fun k hk => by simp [Value.ownBlock] at hk, (Below.refl _ _).alloc (Nat.le_refl _) _⟩
theorem Two.below {w2 wr w' : World} {ov pv : Value} {st : List Nat} {out : List Pk} (h : Two w2 wr ov pv st out) (hb : Below wr.heap.size wr w') : Two w2 w' ov pv st out :=
  ⟨ownsRow_upd h.oo (Upd.of_below hb (fun _ => False)) (fun _ _ => id), ownsRow_upd h.op (Upd.of_below hb (fun _ => False)) (fun _ _ => id), h.ap, h.bl.trans (hb.mono h.bl.size)⟩
theorem Two.pop {w2 wr : World} {ov : Value} {g cp : Nat} {st : List Nat} {x : Nat} {out : List Pk} (h : Two w2 wr ov (.slice (some ⟨g, 0, none⟩) (st.length + 1) cp) (st ++ [x]) out) : Two w2 wr ov (.slice (some ⟨g, 0, none⟩) st.length cp) st out := by
  refine ⟨h.oo, ?_, h.ap, h.bl⟩
  have := h.op
  simp only [List.length_append, List.length_singleton, List.map_append] at this
  exact ownsRow_pop (by simp) this
theorem Two.out {w2 wr : World} {ov pv : Value} {st : List Nat} {out : List Pk} (h : Two w2 wr ov pv st out) (p : Pk) (hl : out.length ≤ 100000) :
    ∃ v' w', (Builtin.append_ #[73, 73] 73 #[ov, .slice (some ⟨wr.heap.size, 0, none⟩) 1 1]).run Try.prog (wr.alloc (.cells p.cells.toArray 125)) = .ok v' w' ∧ Two w2 w' v' pv st (out ++ [p]) ∧ Upd (fun k => ov.ownBlock = some k) wr w' := by
  obtain ⟨v', w', happ, own', up, pl⟩ := push_own wr w2.heap.size 73 125 5 40 _ Try.underlying73 info_pack rfl (by decide) ov out.length _ h.oo p.cells 1 rfl (by have := one_pack [p]; simpa [packCells] using this) (by omega) (by unfold maxLen; omega) h.bl.size
  refine ⟨v', w', happ, ⟨?_, ownsRow_upd h.op up (fun k hk e => h.ap k e hk), fun k hk e => ?_, ?_⟩, up⟩
  · rw [List.length_append, List.length_singleton, packCells_app]
    simpa [packCells] using own'
  · rcases pl k hk with h1 | h1
    · exact h.ap k h1 e
    · have := (h.op.lt k e).2; omega
  · exact h.bl.trans (up.below (fun k _ e => (h.oo.lt k e).1) h.bl.size)
theorem Two.pile {w2 wr : World} {ov pv : Value} {st : List Nat} {out : List Pk} (h : Two w2 wr ov pv st out) (a b : Nat) (hl : st.length ≤ 100000) :
    ∃ v' w', (Builtin.append_ #[44, 44] 44 #[pv, .slice (some ⟨wr.heap.size, 0, none⟩) 2 2]).run Try.prog (wr.alloc (.cells #[.int .i64 (a : Int), .int .i64 (b : Int)] 3)) = .ok v' w' ∧ Two w2 w' ov v' (st ++ [a, b]) out := by
  obtain ⟨v', w', happ, own', up, pl⟩ := push_own wr w2.heap.size 44 3 1 8 _ Try.underlying44 info_int rfl (by decide) pv st.length _ h.op [.int .i64 (a : Int), .int .i64 (b : Int)] 2 rfl (by simp; exact ⟨rfl, rfl⟩) (by omega) (by unfold maxLen; omega) h.bl.size
  refine ⟨v', w', happ, ⟨ownsRow_upd h.oo up (fun k hk e => h.ap k hk e), ?_, fun k hk e => ?_, ?_⟩⟩
  · rw [List.length_append, List.map_append]
    exact own'
  · rcases pl k e with h1 | h1
    · exact h.ap k hk h1
    · have := (h.oo.lt k hk).2; omega
  · exact h.bl.trans (up.below (fun k _ e => (h.op.lt k e).1) h.bl.size)

/-- A step of the derivation. -/
theorem der_step {P : List Pk} {n : Nat} {T Y : List Int} (h : Settled P n T) (hb : ByAt P n T Y) (hin : ∀ p ∈ P, PkIn n p) {x : Nat} (h0 : at0 T (x : Int) ≠ 0) (h1 : at0 T (x : Int) ≤ 4096) :
    ∃ (i : Nat) (p : Pk), at0 Y (x : Int) = i ∧ P[i]? = some p ∧ ((p.left < 0 ∧ derAt P Y 4096 x = [p]) ∨ ∃ l r : Nat, p.left = l ∧ p.right = r ∧ (at0 T (l : Int) ≠ 0 ∧ at0 T (l : Int) ≤ 4096) ∧ (at0 T (r : Int) ≠ 0 ∧ at0 T (r : Int) ≤ 4096) ∧ derAt P Y 4096 x = p :: (derAt P Y 4096 l ++ derAt P Y 4096 r)) := by
  obtain ⟨i, p, v⟩ := via_of h hb (by have := at0_in h.len h0; omega) h0 h1
  have hPi : P[(at0 Y (x : Int)).toNat]? = some p := by rw [v.y]; exact v.hi
  have hmem := List.mem_of_getElem? v.hi
  have hr : ∀ p ∈ P, ¬ p.left < 0 → 0 ≤ p.right := fun p hp hl => by
    rcases (hin p hp).2 with h2 | ⟨l, r, -, e, -⟩
    · exact (hl h2).elim
    · omega
  have e1 : derAt P Y 4096 x = p :: (if p.left < 0 then [] else derAt P Y 4095 p.left ++ derAt P Y 4095 p.right) := by
    show (match P[(at0 Y (x : Int)).toNat]? with | some p => _ | none => _) = _
    rw [hPi]
  refine ⟨i, p, v.y, v.hi, ?_⟩
  rcases (hin p hmem).2 with hl | ⟨l, r, el, er, -⟩
  · exact .inl ⟨hl, by rw [e1, if_pos hl]⟩
  · have hl : ¬ p.left < 0 := by omega
    obtain ⟨z1, z2, hsum⟩ := v.node hl
    have b1 := h.val.at p.left
    have b2 := h.val.at p.right
    rw [el] at z1 b1 hsum
    rw [er] at z2 b2 hsum
    have f1 := (derAt_spec h hb hr 4096 l z1 (by omega) (by omega)).2.2 4095 (by omega)
    have f2 := (derAt_spec h hb hr 4096 r z2 (by omega) (by omega)).2.2 4095 (by omega)
    exact .inr ⟨l, r, el, er, ⟨z1, by omega⟩, ⟨z2, by omega⟩, by rw [e1, if_neg hl, el, er, f1, f2]⟩
theorem flat_ge {D : Nat → List Pk} : ∀ (l : List Nat), (∀ x ∈ l, 1 ≤ (D x).length) → l.length ≤ (l.flatMap D).length
  | [], _ => by simp
  | x :: l, h => by
    have h1 := h x (by simp)
    have h2 := flat_ge (D := D) l (fun y hy => h y (by simp [hy]))
    simp only [List.flatMap_cons, List.length_append, List.length_cons]
    omega

/-- What is still to be told. -/
structure PickMid (T : List Int) (D : Nat → List Pk) (s : Nat) (st : List Nat) (out : List Pk) : Prop where
  po : ∀ x ∈ st, at0 T (x : Int) ≠ 0 ∧ at0 T (x : Int) ≤ 4096
  al : out ++ st.reverse.flatMap D = D s

def PickPost (w : World) (P : List Pk) (n s : Nat) (e : Ending) (w' : World) : Prop :=
  ∃ b l T, e = .returned (.tuple #[.slice (some ⟨b, 0, none⟩) l.length l.length, .int .i64 0]) ∧ RowR w' (some ⟨b, 0, none⟩) (packCells l) ∧ Der P s l ∧ Settled P n T ∧ (l.length : Int) = at0 T (s : Int) ∧ l.length ≤ 4096 ∧ Below w.heap.size w w'

set_option maxHeartbeats 4000000 in
set_option maxRecDepth 20000 in
theorem tpick_ok (w : World) (A : Option Addr) (c : Nat) (B : Option Addr) (d : Nat) (S : List Fct) (P : List Pk) (s : Nat) (h : ForR w A c B d S P) (ho : OkFor S P) (hs : s < S.length) (HDET : ∀ T Y, Settled P S.length T → ByAt P S.length T Y → at0 T (s : Int) ≠ 0 ∧ at0 T (s : Int) ≤ 4096) :
    Calls Try.prog 39 #[forV A S.length c B P.length d, .int .i64 (s : Int)] w (PickPost w P S.length s) := by
  have hdI : (P.length : Int) ≤ (d : Int) := by have := h.hd; omega
  have hin : ∀ p ∈ P, PkIn S.length p := fun p hp => by
    obtain ⟨i, hi⟩ := List.mem_iff_getElem?.1 hp
    exact ho.pk hi
  have HD1 := Lib.hid hin
  clear hin
  have HD0 := Lib.hid HDET
  clear HDET
  have hsI : (s : Int) < (S.length : Int) := by omega
  have k0 := Blk.new w 75 #[.slice A S.length c, .slice B P.length d]
  have u0 : Below w.heap.size w (w.alloc (.cells #[.slice A S.length c, .slice B P.length d] 75)) := (Below.refl _ _).alloc (Nat.le_refl _) _
  have H := Lib.hid (And.intro h (And.intro k0 u0))
  clear h k0 u0
  go_enter Try.func39, Try.ntmps39
  unfold forV
  go_upto_region 1 with (fail)
  generalize w.alloc (.cells #[.slice A S.length c, .slice B P.length d] 75) = W0 at H ⊢
  have q0 : W0.cell? ⟨w.heap.size, 0, none⟩ = some (.slice A S.length c) := H.out.2.1.cell 0
  have q1 : W0.cell? ⟨w.heap.size, 1, none⟩ = some (.slice B P.length d) := H.out.2.1.cell 1
  go_step3
  go_wp2_with fail
  refine (asked_ok W0 A c B d S P (s : Int) (H.out.1.below H.out.2.2) ho ⟨by omega, by omega⟩).mono ?_
  rintro e w1 ⟨rfl, b1⟩
  have k1 := H.out.2.1.upd (Upd.of_below b1 (fun _ => False)) id
  have q2 : w1.cell? ⟨w.heap.size, 0, none⟩ = some (.slice A S.length c) := k1.cell 0
  have q3 : w1.cell? ⟨w.heap.size, 1, none⟩ = some (.slice B P.length d) := k1.cell 1
  have b2 := H.out.2.2.trans (b1.mono H.out.2.2.size)
  have f1 := H.out.1.below b2
  have HC := Lib.hid (And.intro b2 k1)
  clear k1 b1 b2 q0 q1
  go_wp2_with fail
  refine (small_any w1 A c B d S P f1 ho).mono ?_
  rintro e w2 ⟨sb, mb, yb, T, Y, rfl, hS⟩
  have c1 : w2.cell? ⟨sb, 2, none⟩ = some (.slice (some ⟨mb, 0, none⟩) S.length S.length) := hS.s.blk.cell 2
  have m0 : w2.cell? ⟨mb, s, none⟩ = some (.int .i64 (at0 T (s : Int))) := by
    rw [hS.s.m.cell s]; exact ints_get (at0_get (by rw [hS.s.lm]; exact hs))
  have hv := hS.t.val.at (s : Int)
  have b3 := HC.out.1.trans (hS.l.mono HC.out.1.size)
  have k3 := HC.out.2.upd (Upd.of_below hS.l (fun _ => False)) id
  have hdet := HD0.out T Y hS.t hS.b
  have HS := Lib.hid (And.intro hS (And.intro b3 (And.intro k3 hdet)))
  clear f1 hS b3 k3 hdet q2 q3
  obtain ⟨v, hvd⟩ : ∃ v, at0 T (s : Int) = v := ⟨_, rfl⟩
  rw [hvd] at m0 hv
  have hc := HS.out.2.2.2
  rw [hvd] at hc
  have e1 : (v == 0) = false := by simpa using hc.1
  have e2 : decide (4096 < v) = false := by simpa using hc.2
  have HC1 := Lib.hid (And.intro hc hvd)
  clear hc hv hvd
  go_wp2
  have t0 := Two.start w2 s
  have HT0 := Lib.hid t0
  clear t0 c1 m0
  generalize w2.alloc (.cells #[.int .i64 (s : Int)] 3) = w3 at HT0 ⊢
  have hder : Der P s (derAt P Y 4096 s) ∧ ((derAt P Y 4096 s).length : Int) = at0 T (s : Int) := by
    have h1 := HC1.out.1
    have h2 := HC1.out.2
    have := derAt_spec HS.out.1.t HS.out.1.b (fun p hp hl => by
      rcases (HD1.out p hp).2 with h2 | ⟨l, r, -, e, -⟩
      · exact (hl h2).elim
      · omega) 4096 s (by omega) (by omega) (by omega)
    exact ⟨this.1, this.2.1⟩
  have hdl : (derAt P Y 4096 s).length ≤ 4096 := by
    have h1 := HC1.out.1
    have h2 := HC1.out.2
    have h3 := hder.2
    omega
  have HD2 := Lib.hid (And.intro hdl hder)
  clear hder hdl
  go_step3
  go_wp2
  go_loopg [9, 10] 5000 (fun g ov pv wr => ∃ (st : List Nat) (out : List Pk), Two w2 wr ov pv st out ∧ PickMid T (fun x : Nat => derAt P Y 4096 x) s st out ∧ out.length + g = 5000)
  case atStart =>
    have h1 := HC1.out.1
    have h2 := HC1.out.2
    exact ⟨[s], [], HT0.out, ⟨fun x hx => by simp at hx; subst hx; omega, by simp⟩, rfl⟩
  case round =>
    obtain ⟨st, out, hT, hM, hg⟩ := hrel
    rcases List.eq_nil_or_concat st with rfl | ⟨st0, x, rfl⟩
    · have hal := hM.al
      simp only [List.reverse_nil, List.flatMap_nil, List.append_nil] at hal
      obtain ⟨A', c', rfl, -, -⟩ := own_form hT.op
      have ho1 : 0 < out.length := by
        have h1 := HD2.out.2.2
        have h2 := HC1.out.1
        have h3 := HC1.out.2
        rw [hal]; omega
      obtain ⟨gp, cp, rfl, -, hcp, -, -, -⟩ := own_cells hT.oo ho1
      have HM := Lib.hid (And.intro hT (And.intro hal (And.intro hg ho1)))
      clear hT hal hg hM ho1
      go_wp2_with fail
      refine (clip_any wr gp out.length cp hcp HM.out.2.2.2).mono ?_
      rintro e w' ⟨rfl, rfl⟩
      go_wp2
      go_ret2
      obtain ⟨hT, hal, hg, ho1⟩ := HM.out
      refine ⟨gp, out, T, rfl, RowR.of_own hT.oo, ?_, HS.out.1.t, ?_, ?_, HS.out.2.1.trans (hT.bl.mono HS.out.2.1.size)⟩
      · rw [hal]; exact HD2.out.2.1
      · rw [hal]; exact HD2.out.2.2
      · rw [hal]; exact HD2.out.1
    · obtain ⟨gp, cp, rfl, -, hcp, -, -, cells⟩ := own_cells hT.op (by simp)
      rw [List.concat_eq_append] at hT hM cells
      rw [List.concat_eq_append, List.length_append, List.length_singleton] at hcp ⊢
      obtain ⟨i, p, hY, hP, hstep⟩ := der_step HS.out.1.t HS.out.1.b HD1.out (hM.po x (by simp)).1 (hM.po x (by simp)).2
      obtain ⟨gb, go, rfl, a0, a1, a2, a3, a4⟩ := (HS.out.1.s.f.rp.below hT.bl).pack hP
      have hiI : (i : Int) < (P.length : Int) := by have := (List.getElem?_eq_some_iff.1 hP).1; omega
      have hxI : (x : Int) < (S.length : Int) := by have := at0_in HS.out.1.t.len (hM.po x (by simp)).1; omega
      have hup := Upd.of_below hT.bl (fun _ => False)
      have q1 : wr.cell? ⟨w.heap.size, 1, none⟩ = some (.slice (some ⟨gb, go, none⟩) P.length d) := (HS.out.2.2.1.upd hup id).cell 1
      have q2 : wr.cell? ⟨sb, 3, none⟩ = some (.slice (some ⟨yb, 0, none⟩) S.length S.length) := (HS.out.1.s.blk.upd hup id).cell 3
      have q3 : wr.cell? ⟨yb, x, none⟩ = some (.int .i64 (i : Int)) := by
        rw [(HS.out.1.s.y.upd hup id).cell x, ← hY]
        exact ints_get (at0_get (by rw [HS.out.1.s.ly]; omega))
      have q4 : wr.cell? ⟨gp, st0.length, none⟩ = some (.int .i64 (x : Int)) := (cells st0.length (.int .i64 (x : Int)) (by simp)).1
      have hT2 : Two w2 wr u9 (.slice (some ⟨gp, 0, none⟩) st0.length cp) st0 out := by
        have := hT
        simp only [List.length_append, List.length_singleton] at this
        exact this.pop
      have hcI : (st0.length : Int) + 1 ≤ (cp : Int) := by omega
      have lens : out.length + (st0.length + 1) ≤ 4096 := by
        have h1 := congrArg List.length hM.al
        have h2 := flat_ge (D := fun x : Nat => derAt P Y 4096 x) (st0 ++ [x]).reverse (fun y hy => by
          have := hM.po y (List.mem_reverse.1 hy)
          obtain ⟨_, p, _, _, h3⟩ := der_step HS.out.1.t HS.out.1.b HD1.out this.1 this.2
          rcases h3 with ⟨_, h3⟩ | ⟨_, _, _, _, _, _, h3⟩ <;> simp [h3])
        have h3 := HD2.out.1
        simp only [List.length_append, List.length_reverse, List.length_singleton] at h1 h2
        omega
      obtain ⟨A9, c9, rfl, -, -⟩ := own_form hT.oo
      obtain ⟨p0, p1, p2, p3, p4⟩ := p
      have HB := Lib.hid (And.intro hT2 (And.intro hM (And.intro hg (And.intro hstep lens))))
      clear hT hT2 hM hg hstep hY hP hup hcp cells
      have up : ∀ w', Below wr.heap.size wr w' → w'.cell? ⟨w.heap.size, 1, none⟩ = some (.slice (some ⟨gb, go, none⟩) P.length d) ∧ w'.cell? ⟨sb, 3, none⟩ = some (.slice (some ⟨yb, 0, none⟩) S.length S.length) ∧ w'.cell? ⟨yb, x, none⟩ = some (.int .i64 (i : Int)) ∧ w'.cell? ⟨gp, st0.length, none⟩ = some (.int .i64 (x : Int)) ∧
          w'.cell? ⟨gb, go + i * 5, none⟩ = some (.int .i64 p0) ∧ w'.cell? ⟨gb, go + i * 5 + 1, none⟩ = some (.int .i64 p1) ∧ w'.cell? ⟨gb, go + i * 5 + 2, none⟩ = some (.int .i64 p2) ∧ w'.cell? ⟨gb, go + i * 5 + 3, none⟩ = some (.int .i64 p3) ∧ w'.cell? ⟨gb, go + i * 5 + 4, none⟩ = some (.int .i64 p4) := fun w' hb => by
        have g : ∀ {p : Addr} {u : Value}, wr.cell? p = some u → w'.cell? p = some u := fun {p u} h => (hb.cell (World.block_lt_of_cell? wr _ h)).trans h
        exact ⟨g q1, g q2, g q3, g q4, g a0, g a1, g a2, g a3, g a4⟩
      have UP := Lib.hid up
      have hwr : IntKind.i64.wrap (st0.length : Int) = (st0.length : Int) := IntWalk.i64_in _ (by omega)
      have hlt1 : (st0.length : Int) < (st0.length : Int) + 1 := by omega
      clear up q1 q2 q3 q4 a0 a1 a2 a3 a4
      go_wp2_with fail
      refine wp_region_ord (fun w' => w'.cell? ⟨w.heap.size, 1, none⟩ = some (.slice (some ⟨gb, go, none⟩) P.length d) ∧ w'.cell? ⟨sb, 3, none⟩ = some (.slice (some ⟨yb, 0, none⟩) S.length S.length) ∧ w'.cell? ⟨yb, x, none⟩ = some (.int .i64 (i : Int)) ∧ w'.cell? ⟨gp, st0.length, none⟩ = some (.int .i64 (x : Int)) ∧
          w'.cell? ⟨gb, go + i * 5, none⟩ = some (.int .i64 p0) ∧ w'.cell? ⟨gb, go + i * 5 + 1, none⟩ = some (.int .i64 p1) ∧ w'.cell? ⟨gb, go + i * 5 + 2, none⟩ = some (.int .i64 p2) ∧ w'.cell? ⟨gb, go + i * 5 + 3, none⟩ = some (.int .i64 p3) ∧ w'.cell? ⟨gb, go + i * 5 + 4, none⟩ = some (.int .i64 p4)) 17 [(0, true), (1, true), (2, true), (3, true), (4, true), (5, true), (6, true), (7, true), (8, true), (9, true), (10, true), (11, true), (12, true), (13, true), (14, true), (15, true), (16, false), (17, false)] (by kernel_rfl) (by kernel_rfl) (fun _ _ d _ _ h => by cases d <;> exact h) (UP.out _ (Below.refl _ _).drew) ?_
      iterate 16 (refine ord_take (v := ?_) rfl (by first | with_reducible rfl | kernel_rfl) ?_ ?_; rotate_left; (focus (intro wS hS; (try dsimp only at hS); go_split_ands; go_simp; (try with_reducible rfl); done)); (try simp only [Act.put, List.getElem_toArray, List.getElem_cons_succ, List.getElem_cons_zero, List.setIfInBounds_toArray, List.set_cons_zero, List.set_cons_succ]))
      refine ord_do rfl rfl (fun K hK => ?_)
      go_simp
      refine hK _ _ (fun _ => UP.out _ (by (repeat (first | exact Below.refl _ _ | apply Below.drew | refine Below.alloc ?_ (by first | exact Nat.le_refl _ | (simp; done) | (simp; omega)) _ | refine Below.setCell ?_ (by first | exact Nat.le_refl _ | (simp; done) | (simp; omega)) _)))) ?_
      clear hK K
      refine ord_do rfl rfl (fun K hK => ?_)
      go_simp
      refine hK _ _ (fun h => absurd rfl h) ?_
      clear hK K
      refine ord_done ?_
      have kx := (Blk.new wr 125 #[.int .i64 p0, .int .i64 p1, .int .i64 p2, .int .i64 p3, .int .i64 p4]).drew
      have bx : Below wr.heap.size wr (wr.alloc (.cells #[.int .i64 p0, .int .i64 p1, .int .i64 p2, .int .i64 p3, .int .i64 p4] 125)).drew := by (repeat (first | exact Below.refl _ _ | apply Below.drew | refine Below.alloc ?_ (by first | exact Nat.le_refl _ | (simp; done) | (simp; omega)) _ | refine Below.setCell ?_ (by first | exact Nat.le_refl _ | (simp; done) | (simp; omega)) _))
      have HX := Lib.hid (And.intro kx bx)
      clear kx bx
      generalize (wr.alloc (.cells #[.int .i64 p0, .int .i64 p1, .int .i64 p2, .int .i64 p3, .int .i64 p4] 125)).drew = W1 at HX ⊢
      obtain ⟨v5, w5, happ, hT5, up5⟩ := (HB.out.1.below HX.out.2).out ⟨p0, p1, p2, p3, p4⟩ (by omega)
      simp only [Pk.cells] at happ
      have k5 := HX.out.1.upd up5 (fun e => by have := (HB.out.1.oo.lt _ e).2; exact Nat.lt_irrefl _ this)
      have x0 : W1.cell? ⟨wr.heap.size, 0, none⟩ = some (.int .i64 p0) := HX.out.1.cell 0
      have x1 : W1.cell? ⟨wr.heap.size, 1, none⟩ = some (.int .i64 p1) := HX.out.1.cell 1
      have x2 : W1.cell? ⟨wr.heap.size, 2, none⟩ = some (.int .i64 p2) := HX.out.1.cell 2
      have x3 : W1.cell? ⟨wr.heap.size, 3, none⟩ = some (.int .i64 p3) := HX.out.1.cell 3
      have x4 : W1.cell? ⟨wr.heap.size, 4, none⟩ = some (.int .i64 p4) := HX.out.1.cell 4
      have y3 : w5.cell? ⟨wr.heap.size, 3, none⟩ = some (.int .i64 p3) := k5.cell 3
      have y4 : w5.cell? ⟨wr.heap.size, 4, none⟩ = some (.int .i64 p4) := k5.cell 4
      rcases HB.out.2.2.2.1 with ⟨hl, hD⟩ | ⟨l, r, el, er, hl, hr, hD⟩
      · have e3 : decide (p3 < 0) = true := by simpa using hl
        have HZ := Lib.hid (And.intro hT5 (And.intro hl hD))
        clear hT5 hl hD up5 k5 hlt1
        go_wp2_with (at_builtin; refine wpList_append_run rfl _ _ _ rfl rfl rfl happ ?_)
        go_roundg (gk - 1)
        case measure => have := HB.out.2.2.1; omega
        case rel =>
          obtain ⟨hT5, hl, hD⟩ := HZ.out
          obtain ⟨hT2, hM, hg, -, -⟩ := HB.out
          refine ⟨st0, out ++ [⟨p0, p1, p2, p3, p4⟩], hT5, ⟨fun y hy => hM.po y (by simp [hy]), ?_⟩, by simp; omega⟩
          rw [← hM.al]
          simp [hD]
      · subst el
        subst er
        obtain ⟨v6, w6, happ6, hT6⟩ := hT5.pile r l (by omega)
        have e3 : decide ((l : Int) < 0) = false := by simp
        have HZ := Lib.hid (And.intro hT6 (And.intro hl (And.intro hr hD)))
        clear hT5 hT6 hl hr hD up5 k5 hlt1
        go_wp2_with (at_builtin; first | (refine wpList_append_run rfl _ _ _ rfl rfl rfl happ ?_) | (refine wpList_append_run rfl _ _ _ rfl rfl rfl happ6 ?_))
        go_roundg (gk - 1)
        case measure => have := HB.out.2.2.1; omega
        case rel =>
          obtain ⟨hT6, hl, hr, hD⟩ := HZ.out
          obtain ⟨hT2, hM, hg, -, -⟩ := HB.out
          refine ⟨st0 ++ [r, l], out ++ [⟨p0, p1, p2, (l : Int), (r : Int)⟩], hT6, ⟨fun y hy => ?_, ?_⟩, by simp; omega⟩
          · simp only [List.mem_append, List.mem_cons, List.not_mem_nil, or_false] at hy
            rcases hy with hy | rfl | rfl
            · exact hM.po y (by simp [hy])
            · exact hr
            · exact hl
          · rw [← hM.al]
            simp [hD]
end Go.Proofs.Ytbppbgdmoihooaa
