/- Forests: sppf.Packs: what it hands back, as an iterator. -/
import Derived.Test.YtbppbgdmoihooaaTrG
import Derived.Shelf.Abstract
import Derived.Shelf.RegionOpen
import Derived.TacticsInMore
import Derived.LoopNIn
import Derived.LoopIn
import Derived.Test.YtbppbgdmoihooaaRangeIn
namespace Go.Proofs.Ytbppbgdmoihooaa
open Go.RowKit Go.Shelf
attribute [local go_sem] Oper.semAt_some

theorem row_nil_none {w : World} {P : List Pk} (h : RowR w none (packCells P)) : P = [] := by
  cases P with
  | nil => rfl
  | cons p P =>
    obtain ⟨b, o, e, -⟩ := h 0 (.int .i64 p.spot) rfl
    cases e

def CloneAt (w : World) (P : List Pk) (e : Ending) (w' : World) : Prop := ∃ v, e = .returned v ∧ w'.ownsRow w.heap.size 125 5 v P.length (packCells P) ∧ Below w.heap.size w w'

set_option maxHeartbeats 1000000 in
set_option maxRecDepth 20000 in
theorem clone_packs (w : World) (B : Option Addr) (d : Nat) (P : List Pk) (h : RowR w B (packCells P)) (hd : P.length ≤ d) (hP : P.length * 40 ≤ 140737488355328) :
    Calls Try.prog 88 #[.slice B P.length d] w (CloneAt w P) := by
  have heq := fun (A : Option Addr) (n c n' c' : Nat) (w : World) => Lib.run_eql_slice_nil (P := Try.prog) w 73 125 A n c n' c' Try.underlying73
  rcases B with _ | ⟨gb, go, sp⟩
  · obtain rfl := row_nil_none h
    clear h hP hd
    go_enter Try.func88, Try.ntmps88
    go_wp2
    go_ret
    exact ⟨_, rfl, World.ownsRow_nil _ _ _ _, Below.refl _ _⟩
  · obtain ⟨i0, hi0, hz0, hz1, hz2⟩ := info_parts info_pack
    have b1 : Below w.heap.size w (w.alloc (.cells #[] 125)) := (Below.refl _ _).alloc (Nat.le_refl _) _
    have hr := (h.below b1).reads (packCells_len P) (by decide)
    have own : (w.alloc (.cells #[] 125)).ownsRow w.heap.size 125 5 (.slice (some ⟨w.heap.size, 0, none⟩) 0 0) 0 [] := ⟨rfl, .inr ⟨w.heap.size, 0, #[], rfl, Nat.le_refl _, heap_alloc_new w _, Nat.le_refl _, by decide, rfl, rfl⟩⟩
    obtain ⟨v', w', happ, own', gr, -, -⟩ := run_append_own_at (P := Try.prog) (w.alloc (.cells #[] 125)) w.heap.size 73 73 125 i0 _ 5 40 Try.underlying73 hi0 hz0 hz1 hz2 rfl (by decide) (.slice (some ⟨w.heap.size, 0, none⟩) 0 0) 0 [] own ⟨gb, go, sp⟩ P.length d (packCells P) (packCells_len P) (hr.2.2 _ rfl) (one_pack P) (by unfold maxLen; omega) (by simpa using hP) (by simp)
    have fin : CloneAt w P (.returned v') w' := ⟨v', rfl, by simpa using own', b1.grown gr (by simp) (fun k hk => by simp [Value.ownBlock] at hk; omega)⟩
    have FIN := Lib.hid fin
    clear fin own own' gr hr b1 hi0 hz0 hz1 hz2 h hd
    go_enter Try.func88, Try.ntmps88
    go_wp2_with (at_builtin; refine wpList_append_run rfl _ _ _ rfl rfl rfl happ ?_)
    go_ret
    exact FIN.out

/-- What Packs hands back. -/
def PacksAt (w : World) (P : List Pk) (s : Int) (e : Ending) (w' : World) : Prop :=
  ∃ bl bs v, e = .returned (.func (.func 89) #[] #[.pointer (some ⟨bl, 0, none⟩), .pointer (some ⟨bs, 0, none⟩)]) ∧ Blk w' bl 73 #[v] ∧ Blk w' bs 3 #[.int .i64 s] ∧
    w'.ownsRow w.heap.size 125 5 v P.length (packCells P) ∧ Below w.heap.size w w' ∧ w.heap.size ≤ bl ∧ w.heap.size ≤ bs

set_option maxHeartbeats 1000000 in
set_option maxRecDepth 20000 in
theorem packs_any (w : World) (A : Option Addr) (c : Nat) (B : Option Addr) (d : Nat) (S : List Fct) (P : List Pk) (s : Int) (h : ForR w A c B d S P) :
    Calls Try.prog 79 #[forV A S.length c B P.length d, .int .i64 s] w (PacksAt w P s) := by
  have k0 := (Blk.new w 75 #[.slice A S.length c, .slice B P.length d]).alloc (.cells #[.int .i64 s] 3)
  have k1 := Blk.new (w.alloc (.cells #[.slice A S.length c, .slice B P.length d] 75)) 3 #[.int .i64 s]
  simp only [World.size_alloc] at k1
  have u0 : Below w.heap.size w ((w.alloc (.cells #[.slice A S.length c, .slice B P.length d] 75)).alloc (.cells #[.int .i64 s] 3)) := by (repeat (first | exact Below.refl _ _ | apply Below.drew | refine Below.alloc ?_ (by first | exact Nat.le_refl _ | (simp; done) | (simp; omega)) _ | refine Below.setCell ?_ (by first | exact Nat.le_refl _ | (simp; done) | (simp; omega)) _))
  have H := Lib.hid (And.intro h (And.intro k0 (And.intro k1 u0)))
  clear h k0 k1 u0
  go_enter Try.func79, Try.ntmps79
  unfold forV
  go_upto_region 1 with (fail)
  generalize (w.alloc (.cells #[.slice A S.length c, .slice B P.length d] 75)).alloc (.cells #[.int .i64 s] 3) = W0 at H ⊢
  have q1 : W0.cell? ⟨w.heap.size, 1, none⟩ = some (.slice B P.length d) := H.out.2.1.cell 1
  go_wp2_with fail
  refine (clone_packs W0 B d P (H.out.1.rp.below H.out.2.2.2) H.out.1.hd H.out.1.fit.p).mono ?_
  rintro e w1 ⟨v, rfl, own, b1⟩
  obtain ⟨A1, c1, rfl, -, -⟩ := own_form own
  have kl := Blk.new w1 73 #[.slice A1 P.length c1]
  have k2 := (H.out.2.2.1.upd (Upd.of_below b1 (fun _ => False)) id).alloc (.cells #[.slice A1 P.length c1] 73)
  have z0 := H.out.2.2.2.size
  have bb := (H.out.2.2.2.trans (b1.mono z0)).alloc (Nat.le_trans z0 b1.size) (.cells #[.slice A1 P.length c1] 73)
  have fin : PacksAt w P s (.returned (.func (.func 89) #[] #[.pointer (some ⟨w1.heap.size, 0, none⟩), .pointer (some ⟨w.heap.size + 1, 0, none⟩)])) (w1.alloc (.cells #[.slice A1 P.length c1] 73)) :=
    ⟨w1.heap.size, w.heap.size + 1, _, rfl, kl, k2, ownsRow_base (own.alloc _) (fun q hq => by have := (own.lt q hq).1; omega), bb, by have := b1.size; omega, by omega⟩
  have FIN := Lib.hid fin
  clear fin own kl k2 bb b1 z0 q1
  go_wp2
  go_ret
  exact FIN.out

/-- What stays but for new blocks, those from n₀ on and some. -/
def KpF (n₀ : Nat) (F : Nat → Prop) (A B : World) : Prop := Upd (fun q => n₀ ≤ q ∨ F q) A B
theorem KpF.trans {n₀ : Nat} {F : Nat → Prop} {A B C : World} (h : KpF n₀ F A B) (k : KpF n₀ F B C) : KpF n₀ F A C := Upd.trans h k (fun _ h => .inl h)
theorem KpF.put {n₀ : Nat} {F : Nat → Prop} {w : World} (hn : n₀ ≤ w.heap.size) (W : World) (l : Nat) (o o' : Obj) (hl : w.heap.size ≤ l) (_ : W.heap[l]? = some o) (_ : o.isCells = false) (_ : o.isWalk = false) : KpF n₀ F W (W.putObj l o') :=
  (Upd.of_grown (grownBy_putObj' W l o')).mono (fun i _ e => by injection e with e; omega)

/-- The packs of a spot, each with what holds of it. -/
def spotL (s : Int) (P : List Pk) (Q : Pk → Prop) (hQ : ∀ p ∈ ofSpot s P, Q p) : List {p : Pk // Q p} := (ofSpot s P).attachWith Q hQ
theorem spotL_len (s : Int) (P : List Pk) (Q : Pk → Prop) (hQ : ∀ p ∈ ofSpot s P, Q p) : (spotL s P Q hQ).length = (ofSpot s P).length := List.length_attachWith
def nk (s : Int) (P : List Pk) (k : Nat) : Nat := (ofSpot s (P.take k)).length
theorem nk_hit {s : Int} {P : List Pk} {Q : Pk → Prop} {hQ : ∀ p ∈ ofSpot s P, Q p} {k : Nat} {p : Pk} (hp : P[k]? = some p) (hs : p.spot = s) :
    nk s P (k + 1) = nk s P k + 1 ∧ nk s P k < (ofSpot s P).length ∧ ∃ h : Q p, (spotL s P Q hQ).take (nk s P (k + 1)) = (spotL s P Q hQ).take (nk s P k) ++ [⟨p, h⟩] := by
  have h1 := ofSpot_hit hp hs
  have h2 : ofSpot s P = ofSpot s (P.take (k + 1)) ++ ofSpot s (P.drop (k + 1)) := by
    unfold ofSpot
    rw [← List.filter_append, List.take_append_drop]
  have h3 : nk s P (k + 1) = nk s P k + 1 := by unfold nk; rw [h1]; simp
  have h4 : (ofSpot s P)[nk s P k]? = some p := by
    unfold nk
    rw [h2, h1, List.append_assoc, List.getElem?_append_right (Nat.le_refl _)]
    simp
  have h5 := (List.getElem?_eq_some_iff.1 h4).1
  refine ⟨h3, h5, hQ p (List.mem_of_getElem? h4), ?_⟩
  rw [h3]
  refine tk_snoc ?_
  unfold spotL
  rw [List.getElem?_attachWith]
  have h6 : (ofSpot s P)[nk s P k] = p := (List.getElem?_eq_some_iff.1 h4).2
  simp [h5, h6]
theorem nk_miss {s : Int} {P : List Pk} {k : Nat} {p : Pk} (hp : P[k]? = some p) (hs : ¬ p.spot = s) : nk s P (k + 1) = nk s P k := by
  unfold nk; rw [ofSpot_miss hp hs]
theorem nk_end (s : Int) (P : List Pk) (Q : Pk → Prop) (hQ : ∀ p ∈ ofSpot s P, Q p) : (spotL s P Q hQ).take (nk s P P.length) = spotL s P Q hQ := by
  rw [List.take_of_length_le]
  rw [spotL_len]
  unfold nk
  rw [List.take_length]
  exact Nat.le_refl _
theorem nk_le {s : Int} {P : List Pk} (k : Nat) : nk s P k ≤ (ofSpot s P).length := by
  unfold nk ofSpot
  exact List.Sublist.length_le ((List.take_sublist _ _).filter _)

def encP {Q : Pk → Prop} (p : {p : Pk // Q p}) : Array Value := #[p.1.agg]
set_option maxRecDepth 100000 in
set_option maxHeartbeats 4000000 in
theorem packs_in (F : Fence) (n : Nat) (h8 : F.fn 89) (hro : F.round = none) (hn : 1 ≤ n) (l bl bs n₀ base : Nat) (F0 : Nat → Prop) (P : List Pk) (s : Int) (v : Value) (Q : Pk → Prop) (hQ : ∀ p ∈ ofSpot s P, Q p) (hP : P.length * 40 ≤ 140737488355328) (J Jx : List {p : Pk // Q p} → World → Prop)
    (W : World) (hn₀ : n₀ ≤ W.heap.size) (hJ : AbidesFrom W.heap.size J)
    (hY : ∀ pre x W1, J pre W1 → pre.length < (ofSpot s P).length → YieldAt F (n - 1) Try.prog l (encP x) W1 fun e W' =>
      (e = .returned (.bool true) ∧ J (pre ++ [x]) W' ∧ KpF n₀ F0 W1 W') ∨ (e = .returned (.bool false) ∧ Jx (pre ++ [x]) W'))
    (hbl : W.cell? ⟨bl, 0, none⟩ = some v) (hbs : W.cell? ⟨bs, 0, none⟩ = some (.int .i64 s)) (hlb : bs < n₀ ∧ ¬ F0 bs) (hrow : W.ownsRow base 125 5 v P.length (packCells P)) (hlt : ∀ q, v.ownBlock = some q → q < n₀ ∧ ¬ F0 q) (h0 : J [] W) :
    CallsIn F n Try.prog 89 #[.func (.yield l) #[] #[], .pointer (some ⟨bl, 0, none⟩), .pointer (some ⟨bs, 0, none⟩)] W fun e W' => (∃ v, e = .returned v) ∧
      ((∃ ys, ys = spotL s P Q hQ ∧ J ys W') ∨ (∃ pre, (∃ k, k ≤ (ofSpot s P).length ∧ pre = (spotL s P Q hQ).take k) ∧ Jx pre W')) := by
  obtain ⟨A, c, rfl, hc, -⟩ := own_form hrow
  have hc' : (P.length : Int) ≤ (c : Int) := by omega
  have H := Lib.hid (And.intro hrow (And.intro hlt (And.intro hJ (And.intro hY (And.intro h0 (And.intro hn₀ (And.intro hbs hlb)))))))
  clear hrow hlt hJ hY h0 hn₀ hc hlb hbs
  refine callsIn_of_wp Try.func89 rfl h8 ?_ hro
  simp only [Try.ntmps89, List.size_toArray, List.length_cons, List.length_nil, Nat.reduceAdd, Nat.reduceSub, Array.replicate_succ, Array.replicate_zero, List.push_toArray, List.append_toArray, List.nil_append, List.cons_append]
  gi_wp2
  gi_loopw [8] (fun i wr => ∃ k : Nat, k ≤ P.length ∧ i = .int .i64 k ∧ J ((spotL s P Q hQ).take (nk s P k)) wr ∧ KpF n₀ F0 W wr ∧ W.heap.size ≤ wr.heap.size) (fun i _ => P.length - (intOf i).toNat)
  case atStart => exact ⟨0, Nat.zero_le _, rfl, by simpa [nk, ofSpot] using H.out.2.2.2.2.1, Upd.refl _ _, Nat.le_refl _⟩
  case round =>
    obtain ⟨k, hk, rfl, hJs, hnx, hsz⟩ := hrel
    by_cases hlt2 : k < P.length
    · obtain ⟨hrow, hlt, hJ, hY, -, hn₀, hbs, hlb⟩ := H.out
      obtain ⟨⟨p0, p1, p2, p3, p4⟩, hm⟩ : ∃ m, P[k]? = some m := ⟨P[k], List.getElem?_eq_getElem hlt2⟩
      obtain ⟨gl, cc, hv, hob, -, -, -, hcell⟩ := own_cells hrow (by omega)
      injection hv with hA _ hcc
      subst hA
      have hgl := hlt gl hob
      have hg := fun j (hj : j < 5) => flat_get Pk.cells 5 (fun _ => rfl) P k j _ hm hj
      have kc : ∀ {p : Addr} {u : Value}, W.cell? p = some u → p.block < n₀ ∧ ¬ F0 p.block → wr.cell? p = some u := fun {p u} h1 h2 => (Upd.cell hnx (World.block_lt_of_cell? W _ h1) (by intro e; rcases e with e | e; omega; exact h2.2 e)).trans h1
      have s0 : wr.cell? ⟨gl, k * 5, none⟩ = some (.int .i64 p0) := kc (hcell _ _ (hg 0 (by omega))).1 hgl
      have s1 : wr.cell? ⟨gl, k * 5 + 1, none⟩ = some (.int .i64 p1) := kc (hcell _ _ (hg 1 (by omega))).1 hgl
      have s2 : wr.cell? ⟨gl, k * 5 + 2, none⟩ = some (.int .i64 p2) := kc (hcell _ _ (hg 2 (by omega))).1 hgl
      have s3 : wr.cell? ⟨gl, k * 5 + 3, none⟩ = some (.int .i64 p3) := kc (hcell _ _ (hg 3 (by omega))).1 hgl
      have s4 : wr.cell? ⟨gl, k * 5 + 4, none⟩ = some (.int .i64 p4) := kc (hcell _ _ (hg 4 (by omega))).1 hgl
      have ss : wr.cell? ⟨bs, 0, none⟩ = some (.int .i64 s) := kc hbs hlb
      have sx := (World.cell?_alloc_lt wr (.cells #[.int .i64 p0, .int .i64 p1, .int .i64 p2, .int .i64 p3, .int .i64 p4] 125) ⟨bs, 0, none⟩ (World.block_lt_of_cell? wr _ ss)).trans ss
      have kb := Blk.new wr 125 #[.int .i64 p0, .int .i64 p1, .int .i64 p2, .int .i64 p3, .int .i64 p4]
      have q0 := kb.cell 0
      have q1 := kb.cell 1
      have q2 := kb.cell 2
      have q3 := kb.cell 3
      have q4 := kb.cell 4
      simp only [List.getElem?_toArray, List.getElem?_cons_succ, List.getElem?_cons_zero] at q0 q1 q2 q3 q4
      have hJa : J ((spotL s P Q hQ).take (nk s P k)) (wr.alloc (.cells #[.int .i64 p0, .int .i64 p1, .int .i64 p2, .int .i64 p3, .int .i64 p4] 125)) := hJ _ _ _ none hJs (World.grownBy_alloc wr _ none) (fun r e => by cases e)
      have hna : KpF n₀ F0 W (wr.alloc (.cells #[.int .i64 p0, .int .i64 p1, .int .i64 p2, .int .i64 p3, .int .i64 p4] 125)) := Upd.alloc hnx _
      have hza : W.heap.size ≤ (wr.alloc (.cells #[.int .i64 p0, .int .i64 p1, .int .i64 p2, .int .i64 p3, .int .i64 p4] 125)).heap.size := by simp; omega
      by_cases hs : p0 = s
      · subst hs
        obtain ⟨hsn, hle, hQp, htk⟩ := nk_hit (Q := Q) (hQ := hQ) hm (s := p0) rfl
        have hlk := nk_le (s := p0) (P := P) (k + 1)
        obtain ⟨fn, tmps, assign, body, hy, hR⟩ := hY _ ⟨⟨p0, p1, p2, p3, p4⟩, hQp⟩ _ hJa (by rw [List.length_take]; omega)
        dsimp only [encP, Pk.agg] at hy
        have HT := Lib.hid (And.intro htk (And.intro hna (And.intro hza hlk)))
        clear hm hcell hg hob hgl hcc hrow hlt hJ hY hn₀ hJs hnx hJa hna hza kb hsz hsn hle htk hlk hbs hlb kc
        gi_wp2
        refine hR.mono ?_
        rintro e W3 (⟨rfl, hJ3, hk3⟩ | ⟨rfl, hJx3⟩)
        · have hJ4 := hJ3
          rw [← HT.out.1] at hJ4
          have HR := Lib.hid (And.intro hJ4 (KpF.trans HT.out.2.1 hk3))
          have hz3 := Lib.hid (Nat.le_trans HT.out.2.2.1 (Upd.size hk3))
          clear hJ3 hJ4 hk3 q0 q1 q2 q3 q4 s0 s1 s2 s3 s4 ss sx hR hy
          gi_wp2
          go_roundw
          case rel => exact ⟨k + 1, by omega, by go_num, HR.out.1, HR.out.2, hz3.out⟩
          case measure => simp [intOf]; omega
        · clear hR hy
          gi_wp2
          refine bodyPost_ret (results_none rfl _ _ _) rfl ?_
          exact ⟨⟨_, rfl⟩, .inr ⟨_, ⟨nk p0 P (k + 1), HT.out.2.2.2, HT.out.1.symm⟩, hJx3⟩⟩
      · have hsn := nk_miss hm (s := s) hs
        have e1 : (p0 == s) = false := by simpa using hs
        rw [← hsn] at hJa
        have HT := Lib.hid (And.intro hJa (And.intro hna hza))
        clear hm hcell hg hob hgl hcc hrow hlt hJ hY hn₀ hJs hnx hJa hna hza kb hsz hsn hs hbs hlb kc
        gi_wp2
        refine ⟨fun f hf => (by cases hf), ?_⟩
        gi_wp2
        go_roundw
        case rel => exact ⟨k + 1, by omega, by go_num, HT.out.1, HT.out.2.1, HT.out.2.2⟩
        case measure => simp [intOf]; omega
    · obtain rfl : P.length = k := by omega
      gi_wp2
      go_end0
      rw [nk_end] at hJs
      exact ⟨⟨_, rfl⟩, .inl ⟨_, rfl, hJs⟩⟩

theorem packs_stops (F : Fence) (n : Nat) (h8 : F.fn 89) (hro : F.round = none) (hn : 1 ≤ n) (bl bs n₀ base : Nat) (F0 : Nat → Prop) (P : List Pk) (s : Int) (v : Value) (Q : Pk → Prop) (hQ : ∀ p ∈ ofSpot s P, Q p) (hP : P.length * 40 ≤ 140737488355328) (w : World) (hbl : bl < w.heap.size) (hn₀ : n₀ ≤ w.heap.size)
    (hcl : w.cell? ⟨bl, 0, none⟩ = some v) (hcs : w.cell? ⟨bs, 0, none⟩ = some (.int .i64 s)) (hlb : bs < n₀ ∧ ¬ F0 bs) (hrow : w.ownsRow base 125 5 v P.length (packCells P)) (hlt : ∀ q, v.ownBlock = some q → q < n₀ ∧ ¬ F0 q) :
    SeqStopsK F n Try.prog 89 #[.pointer (some ⟨bl, 0, none⟩), .pointer (some ⟨bs, 0, none⟩)] encP (KpF n₀ F0) (fun ys => ys = spotL s P Q hQ) (fun pre => ∃ k, k ≤ (ofSpot s P).length ∧ pre = (spotL s P Q hQ).take k) (ofSpot s P).length w := fun l J Jx W hW hJ _ hY h0 =>
  packs_in F n h8 hro hn l bl bs n₀ base F0 P s v Q hQ hP J Jx W (Nat.le_trans hn₀ hW.size) hJ hY ((hW.cell (p := ⟨bl, 0, none⟩) hbl).trans hcl) ((hW.cell (p := ⟨bs, 0, none⟩) (Nat.lt_of_lt_of_le hlb.1 hn₀)).trans hcs) hlb (ownsRow_upd hrow (Upd.of_below hW (fun _ => False)) (fun _ _ => id)) hlt h0
end Go.Proofs.Ytbppbgdmoihooaa
