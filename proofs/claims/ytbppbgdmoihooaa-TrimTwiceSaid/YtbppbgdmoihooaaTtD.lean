/- Forests: trim.Count's own function: how many derivations, at most two. -/
import Derived.Test.YtbppbgdmoihooaaTtC
namespace Go.Proofs.Ytbppbgdmoihooaa
open Go.RowKit Go.Shelf
attribute [local go_sem] Oper.semAt_some

def one2 (v : Int) : Prop := v = 1 ∨ v = 2
/-- What the function finds: its map, the forest, itself, the bound. -/
structure CntS (w : World) (m r bf bg bm : Nat) (A : Option Addr) (c : Nat) (B : Option Addr) (d : Nat) (S : List Fct) (P : List Pk) : Prop where
  km : Blk w m 138 #[.map (some r)]
  kf : Blk w bf 75 #[.slice A S.length c, .slice B P.length d]
  kg : Blk w bg 141 #[.func (.func 78) #[] #[.pointer (some ⟨m, 0, none⟩), .pointer (some ⟨bf, 0, none⟩), .pointer (some ⟨bg, 0, none⟩), .pointer (some ⟨bm, 0, none⟩)]]
  kb : Blk w bm 3 #[.int .i64 1]
  memo : ∃ kv, MapIs w Try.prog 3 r kv ∧ ∀ q ∈ kv, ∃ v, q.2 = .int .i64 v ∧ one2 v
  f : ForR w A c B d S P
  ne : r ≠ m ∧ r ≠ bf ∧ r ≠ bg ∧ r ≠ bm ∧ (∀ b o s, A = some ⟨b, o, s⟩ → b ≠ r) ∧ (∀ b o s, B = some ⟨b, o, s⟩ → b ≠ r)
def Cnt1 (w : World) (m r bf bg bm : Nat) (A : Option Addr) (c : Nat) (B : Option Addr) (d : Nat) (S : List Fct) (P : List Pk) (e : Ending) (w' : World) : Prop :=
  ∃ v, one2 v ∧ e = .returned (.int .i64 v) ∧ CntS w' m r bf bg bm A c B d S P ∧ Upd (fun q => q = r) w w'
theorem row_upd {w w' : World} {A : Option Addr} {xs : List Value} {r : Nat} {F : Nat → Prop} (h : RowR w A xs) (hu : Upd F w w') (hF : ∀ q, F q → q = r ∨ w.heap.size ≤ q) (hA : ∀ b o s, A = some ⟨b, o, s⟩ → b ≠ r) : RowR w' A xs := fun j u hj => by
  obtain ⟨b, o, rfl, hc⟩ := h j u hj
  have hlt := World.block_lt_of_cell? w _ hc
  refine ⟨b, o, rfl, (hu.cell (p := ⟨b, o + j, none⟩) hlt (fun hf => ?_)).trans hc⟩
  rcases hF _ hf with e | e
  · exact hA b o none rfl e
  · exact Nat.not_le_of_lt hlt e
/-- Where nothing of it turned but its map, it stands. -/
theorem CntS.upd {w w' : World} {m r bf bg bm : Nat} {A : Option Addr} {c : Nat} {B : Option Addr} {d : Nat} {S : List Fct} {P : List Pk} {F : Nat → Prop} (h : CntS w m r bf bg bm A c B d S P) (hu : Upd F w w') (hF : ∀ q, F q → q = r ∨ w.heap.size ≤ q)
    (hm : ∃ kv, MapIs w' Try.prog 3 r kv ∧ ∀ q ∈ kv, ∃ v, q.2 = .int .i64 v ∧ one2 v) : CntS w' m r bf bg bm A c B d S P := by
  obtain ⟨n1, n2, n3, n4, n5, n6⟩ := h.ne
  have hk : ∀ {g : Nat} {t : TypeId} {cs : Array Value}, Blk w g t cs → r ≠ g → Blk w' g t cs := fun {g t cs} hb hne => hb.upd hu (fun hf => by
    rcases hF _ hf with e | e
    · exact hne e.symm
    · have := hb.lt; omega)
  exact ⟨hk h.km n1, hk h.kf n2, hk h.kg n3, hk h.kb n4, hm, ⟨row_upd h.f.rs hu hF n5, row_upd h.f.rp hu hF n6, h.f.hc, h.f.hd, h.f.fit⟩, h.ne⟩
theorem keeps_of_upd {B : Nat} {w w' : World} {F : Nat → Prop} (h : Upd F w w') (hF : ∀ q, F q → q < B) : KeepsFrom B w w' :=
  ⟨h.size, fun k o hB hi _ => (h.block k (Array.getElem?_eq_some_iff.1 hi).1 (fun hf => by have := hF k hf; omega)).trans hi⟩

set_option maxHeartbeats 8000000 in
set_option maxRecDepth 100000 in
theorem count1_old (w : World) (m r bf bg bm : Nat) (A : Option Addr) (c : Nat) (B : Option Addr) (d : Nat) (S : List Fct) (P : List Pk) (s : Nat) (x : Int) (kv : List (Value × Value)) (h : CntS w m r bf bg bm A c B d S P) (hm : MapIs w Try.prog 3 r kv) (hv : ((.int .i64 (s : Int), .int .i64 x) : Value × Value) ∈ kv) (h12 : one2 x) :
    Calls Try.prog 78 #[.int .i64 (s : Int), .pointer (some ⟨m, 0, none⟩), .pointer (some ⟨bf, 0, none⟩), .pointer (some ⟨bg, 0, none⟩), .pointer (some ⟨bm, 0, none⟩)] w (Cnt1 w m r bf bg bm A c B d S P) := by
  have hl := hm.look_hit int_law Try.underlying138 hv true
  have c0 : w.cell? ⟨m, 0, none⟩ = some (.map (some r)) := h.km.cell 0
  have H := Lib.hid (And.intro h h12)
  clear h hm hv h12
  refine (callsIn_wide (n := 5)).1 ?_
  refine callsIn_of_wp_marks Try.func78 rfl trivial ?_ rfl
  simp only [Try.ntmps78, List.size_toArray, List.length_cons, List.length_nil, Nat.reduceAdd, Nat.reduceSub, Array.replicate_succ, Array.replicate_zero, List.push_toArray, List.append_toArray, List.nil_append, List.cons_append]
  refine wpIn_wide.2 ?_
  go_wp2
  exact ⟨.int .i64 x, by simp [results, Try.f78, go_sem], x, H.out.2, rfl, H.out.1, Upd.refl _ _⟩
/-- In the midst of a spot's packs. -/
structure CntI (w W : World) (r n9 : Nat) (first : Bool) : Prop where
  u : Upd (fun q => q = r ∨ w.heap.size ≤ q) w W
  m : ∃ kv, MapIs W Try.prog 3 r kv ∧ ∀ q ∈ kv, ∃ v, q.2 = .int .i64 v ∧ one2 v
  n : ∃ x : Int, Blk W n9 3 #[.int .i64 x] ∧ ((first = true ∧ x = 0) ∨ one2 x)
theorem CntI.keep {w W W' : World} {r n9 : Nat} {first : Bool} {row : Option Nat} {B : Nat} (h : CntI w W r n9 first) (hg : W.grownBy W' row) (hB : w.heap.size ≤ B) (hr : r < B) (hrow : ∀ r, row = some r → B ≤ r ∧ ∃ o : Obj, W.heap[r]? = some o ∧ o.isCells = false) : CntI w W' r n9 first := by
  obtain ⟨kv, h1, h2⟩ := h.m
  obtain ⟨x, h3, h4⟩ := h.n
  exact ⟨h.u.keep hg hB hrow, ⟨kv, h1.upd (Upd.of_grown hg) (fun e => by have := (hrow r e).1; omega), h2⟩, ⟨x, h3.keep hg hrow, h4⟩⟩

set_option maxHeartbeats 16000000 in
set_option maxRecDepth 100000 in
theorem count1_new (w : World) (m r bf bg bm : Nat) (A : Option Addr) (c : Nat) (B : Option Addr) (d : Nat) (S : List Fct) (P : List Pk) (s : Nat) (kv : List (Value × Value)) (h : CntS w m r bf bg bm A c B d S P) (hm : MapIs w Try.prog 3 r kv) (hkv : ∀ q ∈ kv, ∃ v, q.2 = .int .i64 v ∧ one2 v) (hno : ∀ q ∈ kv, q.1 ≠ .int .i64 (s : Int)) (hs : s < S.length) (ho : OkFor S P)
    (IH : ∀ x : Nat, x < S.length → partX P (s : Int) (x : Int) → ∀ w, CntS w m r bf bg bm A c B d S P → Calls Try.prog 78 #[.int .i64 (x : Int), .pointer (some ⟨m, 0, none⟩), .pointer (some ⟨bf, 0, none⟩), .pointer (some ⟨bg, 0, none⟩), .pointer (some ⟨bm, 0, none⟩)] w (Cnt1 w m r bf bg bm A c B d S P)) :
    Calls Try.prog 78 #[.int .i64 (s : Int), .pointer (some ⟨m, 0, none⟩), .pointer (some ⟨bf, 0, none⟩), .pointer (some ⟨bg, 0, none⟩), .pointer (some ⟨bm, 0, none⟩)] w (Cnt1 w m r bf bg bm A c B d S P) := by
  have hP8 : P.length * 40 ≤ 140737488355328 := h.f.fit.p
  have hS8 : S.length ≤ 140737488355328 := by have := h.f.fit.s; omega
  have hkey : ∃ l, keyOf Try.prog 3 (.int .i64 (s : Int)) = some l := ⟨_, Maps.keyOf_int_mk Try.underlying3 (wf_nat (by omega) (by omega))⟩
  have hl := hm.look_miss int_law Try.underlying138 hkey hno (zero_intT _) true
  have c0 : w.cell? ⟨m, 0, none⟩ = some (.map (some r)) := h.km.cell 0
  have n9 := Blk.new w 3 #[.int .i64 0]
  have b1 : Below w.heap.size w (w.alloc (.cells #[.int .i64 0] 3)) := (Below.refl _ _).alloc (Nat.le_refl _) _
  have h1 : CntS (w.alloc (.cells #[.int .i64 0] 3)) m r bf bg bm A c B d S P := h.upd (Upd.of_below b1 (fun _ => False)) (fun _ e => e.elim) ⟨kv, hm.alloc _, hkv⟩
  have H := Lib.hid (And.intro h (And.intro hkv (And.intro ho (And.intro IH hkey))))
  have H1 := Lib.hid (And.intro n9 (And.intro h1 (And.intro b1 (hm.alloc (.cells #[.int .i64 0] 3)))))
  clear h hm hkv hno ho IH n9 b1 h1 hkey
  refine (callsIn_wide (n := 5)).1 ?_
  refine callsIn_of_wp_marks Try.func78 rfl trivial ?_ rfl
  simp only [Try.ntmps78, List.size_toArray, List.length_cons, List.length_nil, Nat.reduceAdd, Nat.reduceSub, Array.replicate_succ, Array.replicate_zero, List.push_toArray, List.append_toArray, List.nil_append, List.cons_append]
  refine wpIn_wide.2 ?_
  go_upto_region 5 with (fail)
  generalize w.alloc (.cells #[.int .i64 0] 3) = W1 at H1 ⊢
  clear c0 hl
  have q0 : W1.cell? ⟨bf, 0, none⟩ = some (.slice A S.length c) := H1.out.2.1.kf.cell 0
  have q1 : W1.cell? ⟨bf, 1, none⟩ = some (.slice B P.length d) := H1.out.2.1.kf.cell 1
  go_wp2_with fail
  refine (packs_any W1 A c B d S P (s : Int) H1.out.2.1.f).mono ?_
  rintro e w3 ⟨bl, bs, v, rfl, kl, ks, own3, b3, hbl, hbs⟩
  clear q0 q1
  have hrm := H1.out.2.2.2.lt
  have hz1 := H1.out.1.lt
  have hr0 : r < w.heap.size := by obtain ⟨kv', hm', -⟩ := H.out.1.memo; exact hm'.lt
  have HP := Lib.hid (And.intro kl (And.intro ks (And.intro own3 (And.intro b3 (And.intro hbl hbs)))))
  clear kl ks own3 b3 hbl hbs
  go_wp2
  have hQ : ∀ p ∈ ofSpot (s : Int) P, p ∈ P ∧ p.spot = (s : Int) := fun p hp => ⟨(List.mem_filter.1 hp).1, by simpa using (List.mem_filter.1 hp).2⟩
  have z3 := HP.out.2.2.2.1.size
  have n93 := H1.out.1.upd (Upd.of_below HP.out.2.2.2.1 (fun _ => False)) id
  have m3 := H1.out.2.2.2.upd (Upd.of_below HP.out.2.2.2.1 (fun _ => False)) id
  have i3 : CntI w w3 r w.heap.size true := ⟨Upd.of_below (H1.out.2.2.1.trans (HP.out.2.2.2.1.mono H1.out.2.2.1.size)) _, ⟨kv, m3, H.out.2.1⟩, ⟨0, n93, .inl ⟨rfl, rfl⟩⟩⟩
  have HI3 := Lib.hid i3
  clear n93 m3 i3
  refine wp_range_end 5 (by omega) (gf := 89) (lb := #[.pointer (some ⟨bl, 0, none⟩), .pointer (some ⟨bs, 0, none⟩)]) rfl (enters_of Try.func89 (by kernel_rfl) rfl)
    (packs_stops Fence.wide (5 - 1) trivial rfl (by omega) bl bs w3.heap.size W1.heap.size (fun q => q = r ∨ q = w.heap.size) P (s : Int) v (fun p => p ∈ P ∧ p.spot = (s : Int)) hQ hP8 w3 HP.out.1.lt (Nat.le_refl _) (HP.out.1.cell 0) (HP.out.2.1.cell 0) ⟨HP.out.2.1.lt, by have := HP.out.2.2.2.2.2; omega⟩ HP.out.2.2.1 (fun q hq => ⟨(HP.out.2.2.1.lt q hq).2, by have := (HP.out.2.2.1.lt q hq).1; omega⟩))
    KpF.trans (KpF.put (Nat.le_refl _)) (Below.refl _ _) (fun _ => rfl)
    (fun pre W => CntI w W r w.heap.size pre.isEmpty ∧ w3.heap.size ≤ W.heap.size) (fun _ _ _ => False)
    ?hI ?hIx ?h0
    (fun T x b => (T.setIfInBounds 23 x.1.agg).setIfInBounds 10 (.pointer (some ⟨b, 0, none⟩)))
    (fun x b W => Blk W b 125 x.1.cells.toArray ∧ w3.heap.size ≤ b)
    ?hBx ?assign ?body (fun W => CntI w W r w.heap.size false) ?done ?stop ?fine
  case hI => exact fun st X Y row h hg hr => ⟨h.1.keep hg (by omega) (by omega) hr, Nat.le_trans h.2 hg.size⟩
  case hIx => exact fun c s X Y row h hg hr => h
  case h0 => exact ⟨HI3.out, Nat.le_refl _⟩
  case hBx => exact fun x b s X Y row h hg hr => ⟨h.1.keep hg hr, h.2⟩
  case assign =>
    rintro l pre ⟨⟨p0, p1, p2, p3, p4⟩, hp⟩ W K hi hK
    dsimp only [encP, Pk.agg]
    have HI := Lib.hid hi
    clear hi
    gi_wp2
    obtain ⟨⟨u, ⟨kv', hm', hk'⟩, ⟨x, hx, hc⟩⟩, hz⟩ := HI.out
    exact hK W.heap.size _ ((KeepsOthers.alloc W _).from _) (Upd.alloc (Upd.refl _ _) _) ⟨⟨u.alloc _, ⟨kv', hm'.alloc _, hk'⟩, ⟨x, hx.alloc _, hc⟩⟩, by simp; omega⟩ ⟨Blk.new W _ _, hz⟩
  case done =>
    rintro xs W rfl hi
    have hne : (spotL (s : Int) P (fun p => p ∈ P ∧ p.spot = (s : Int)) hQ).isEmpty = false := by
      obtain ⟨p, hp, e⟩ := H.out.2.2.1.all s hs
      have h1 : p ∈ ofSpot (s : Int) P := List.mem_filter.2 ⟨hp, by simpa using e⟩
      have h2 := List.length_pos_of_mem h1
      rw [← spotL_len (s : Int) P (fun p => p ∈ P ∧ p.spot = (s : Int)) hQ] at h2
      simpa [List.isEmpty_iff] using List.ne_nil_of_length_pos h2
    rw [hne] at hi
    exact hi.1
  case stop => exact fun c pre W _ h => h.elim
  case body =>
    rintro lp pre ⟨⟨p0, p1, p2, p3, p4⟩, hp, hsp⟩ b W hlw hrw ⟨hI, hzW⟩ ⟨kx, hbx⟩ hlt3
    have put : ∀ (V : World) (first : Bool) (y : Int), CntI w V r w.heap.size first → one2 y → CntI w (V.setCell ⟨w.heap.size, 0, none⟩ (.int .i64 y)) r w.heap.size false := fun V first y hV hy => by
      obtain ⟨u, ⟨kv', hm', hk'⟩, ⟨x, hx, -⟩⟩ := hV
      have us : Upd (fun q => q = w.heap.size) V (V.setCell ⟨w.heap.size, 0, none⟩ (.int .i64 y)) := (Upd.refl (fun q => q = w.heap.size) V).setCell (p := ⟨w.heap.size, 0, none⟩) (.inl rfl) _
      exact ⟨u.trans us (fun i e => .inl (.inr (by omega))), ⟨kv', hm'.upd us (by omega), hk'⟩, ⟨y, hx.set 0 _, .inr hy⟩⟩
    have hemp : (pre ++ [(⟨⟨p0, p1, p2, p3, p4⟩, hp, hsp⟩ : {p : Pk // p ∈ P ∧ p.spot = (s : Int)})]).isEmpty = false := by simp
    have hS := H.out.1.upd hI.u (fun q e => e) hI.m
    obtain ⟨x, hx, hc⟩ := hI.n
    have e9 : W.cell? ⟨w.heap.size, 0, none⟩ = some (.int .i64 x) := hx.cell 0
    have f9 := hx.frozen 0
    have ebm : W.cell? ⟨bm, 0, none⟩ = some (.int .i64 1) := hS.kb.cell 0
    have ebg := hS.kg.cell 0
    simp only [List.getElem?_toArray, List.getElem?_cons_zero] at ebg
    have c3 : W.cell? ⟨b, 3, none⟩ = some (.int .i64 p3) := kx.cell 3
    have c4 : W.cell? ⟨b, 4, none⟩ = some (.int .i64 p4) := kx.cell 4
    have PUT := Lib.hid put
    clear put
    simp only [List.setIfInBounds_toArray, List.set_cons_zero, List.set_cons_succ]
    rcases (H.out.2.2.1.pks _ hp).2 with hl | ⟨l, rr, el, er, hl, hr⟩
    · have n3 : decide (0 ≤ p3) = false := by simpa using hl
      have HW := Lib.hid (And.intro hI (And.intro hzW hx))
      clear hI hS hx hl kx
      have kp : ∀ y : Int, KeepsFrom w3.heap.size W (W.setCell ⟨w.heap.size, 0, none⟩ (.int .i64 y)) ∧ KpF w3.heap.size (fun q => q = r ∨ q = w.heap.size) W (W.setCell ⟨w.heap.size, 0, none⟩ (.int .i64 y)) ∧ w3.heap.size ≤ (W.setCell ⟨w.heap.size, 0, none⟩ (.int .i64 y)).heap.size := fun y => by
        refine ⟨(KeepsOthers.setCell W _ _).from _, (Upd.refl _ W).setCell (p := ⟨w.heap.size, 0, none⟩) (.inl (.inr (.inr rfl))) _, ?_⟩
        have := HW.out.2.1
        simpa using this
      have KP := Lib.hid kp
      clear kp
      rcases hc with ⟨-, rfl⟩ | rfl | rfl
      all_goals
        gi_wp2
        refine ⟨(KP.out _).1, (KP.out _).2.1, ?_, (KP.out _).2.2⟩
        rw [hemp]
        exact PUT.out _ _ _ HW.out.1 (by first | exact .inl rfl | exact .inr rfl)
    · dsimp only at el er
      subst el
      subst er
      have n3 : decide ((0 : Int) ≤ (l : Int)) = true := by simp
      have hpl : partX P (s : Int) (l : Int) := ⟨_, hp, hsp, by show ¬ ((l : Int) < 0); omega, .inl rfl⟩
      have hpr : partX P (s : Int) (rr : Int) := ⟨_, hp, hsp, by show ¬ ((l : Int) < 0); omega, .inr rfl⟩
      have HW := Lib.hid (And.intro hI (And.intro hzW (And.intro hx (And.intro hS (And.intro hpl (And.intro hpr kx))))))
      clear hI hS hx kx hpl hpr
      gi_wp2
      refine ⟨trivial, ?_⟩
      refine (callsIn_round (H.out.2.2.2.1 l hl HW.out.2.2.2.2.1 W HW.out.2.2.2.1)).mono ?_
      rintro e W4 ⟨v1, h1, rfl, hS4, u4⟩
      have hx4 := HW.out.2.2.1.upd u4 (by omega)
      have kx4 := HW.out.2.2.2.2.2.2.upd u4 (by omega)
      have hI4 : CntI w W4 r w.heap.size pre.isEmpty := ⟨HW.out.1.u.trans u4 (fun i e => .inl (.inl e)), hS4.memo, ⟨x, hx4, hc⟩⟩
      clear e9 f9 ebm ebg c3 c4
      have ebg := hS4.kg.cell 0
      simp only [List.getElem?_toArray, List.getElem?_cons_zero] at ebg
      have c4 : W4.cell? ⟨b, 4, none⟩ = some (.int .i64 (rr : Int)) := kx4.cell 4
      have HV := Lib.hid (And.intro hI4 (And.intro u4 hx4))
      clear hS4 u4 hx4 kx4 hI4
      have hS4 := Lib.hid (H.out.1.upd HV.out.1.u (fun q e => e) HV.out.1.m)
      have hm1 : IntKind.i64.wrap (1 * v1) = v1 := by rcases h1 with rfl | rfl <;> decide
      gi_wp2
      refine ⟨trivial, ?_⟩
      refine (callsIn_round (H.out.2.2.2.1 rr hr HW.out.2.2.2.2.2.1 W4 hS4.out)).mono ?_
      rintro e W5 ⟨v2, h2, rfl, hS5, u5⟩
      have hx5 := HV.out.2.2.upd u5 (by omega)
      have e9 : W5.cell? ⟨w.heap.size, 0, none⟩ = some (.int .i64 x) := hx5.cell 0
      have f9 := hx5.frozen 0
      have ebm : W5.cell? ⟨bm, 0, none⟩ = some (.int .i64 1) := hS5.kb.cell 0
      have hI5 : CntI w W5 r w.heap.size pre.isEmpty := ⟨HV.out.1.u.trans u5 (fun i e => .inl (.inl e)), hS5.memo, ⟨x, hx5, hc⟩⟩
      have uu : Upd (fun q => q = r) W W5 := HV.out.2.1.trans u5 (fun i e => .inl e)
      have kp : ∀ y : Int, KeepsFrom w3.heap.size W (W5.setCell ⟨w.heap.size, 0, none⟩ (.int .i64 y)) ∧ KpF w3.heap.size (fun q => q = r ∨ q = w.heap.size) W (W5.setCell ⟨w.heap.size, 0, none⟩ (.int .i64 y)) ∧ w3.heap.size ≤ (W5.setCell ⟨w.heap.size, 0, none⟩ (.int .i64 y)).heap.size := fun y => by
        refine ⟨(keeps_of_upd uu (fun q e => by omega)).trans ((KeepsOthers.setCell W5 _ _).from _), (uu.mono (fun i _ e => .inr (.inl e))).setCell (p := ⟨w.heap.size, 0, none⟩) (.inl (.inr (.inr rfl))) _, ?_⟩
        have := HW.out.2.1
        have := uu.size
        simp
        omega
      have KP := Lib.hid (And.intro kp hI5)
      clear kp hI5 uu hx5 hS5 u5 c4 ebg hm1
      rcases hc with ⟨-, rfl⟩ | rfl | rfl <;> rcases h1 with rfl | rfl <;> rcases h2 with rfl | rfl
      all_goals gi_wp2
      all_goals
        refine ⟨(KP.out.1 _).1, (KP.out.1 _).2.1, ?_, (KP.out.1 _).2.2⟩
        rw [hemp]
        exact PUT.out _ _ _ KP.out.2 (by first | exact .inl rfl | exact .inr rfl | exact .inl (by decide +kernel) | exact .inr (by decide +kernel) | (rename_i h; exact absurd h (by decide +kernel)))
  case fine =>
    intro D W hD hI hd
    have hS := H.out.1.upd hI.u (fun q e => e) hI.m
    obtain ⟨x, hx, hc⟩ := hI.n
    have h12 : one2 x := by rcases hc with ⟨h, -⟩ | h; cases h; exact h
    have e9 : W.cell? ⟨w.heap.size, 0, none⟩ = some (.int .i64 x) := hx.cell 0
    have em : W.cell? ⟨m, 0, none⟩ = some (.map (some r)) := hS.km.cell 0
    have hput : ∃ w', (Instr.mapUpdate 138 (.map (some r)) (.int .i64 (s : Int)) (.int .i64 x)).run Try.prog W = .ok () w' ∧ (∃ kv, MapIs w' Try.prog 3 r kv ∧ ∀ q ∈ kv, ∃ v, q.2 = .int .i64 v ∧ one2 v) ∧ W.grownBy w' (some r) := by
      obtain ⟨kv', hm', hk'⟩ := hI.m
      by_cases hin : ∃ v0, ((.int .i64 (s : Int), v0) : Value × Value) ∈ kv'
      · obtain ⟨v0, hv0⟩ := hin
        obtain ⟨w', j, hr1, -, hm2, hg, -⟩ := hm'.put_hit int_law Try.underlying138 (.int .i64 x) hv0
        refine ⟨w', hr1, ⟨_, hm2, fun q hq => ?_⟩, hg⟩
        rcases List.mem_or_eq_of_mem_set hq with hq | rfl
        · exact hk' q hq
        · exact ⟨x, rfl, h12⟩
      · obtain ⟨w', hr1, hm2, hg, -⟩ := hm'.put_miss int_law Try.underlying138 (.int .i64 x) H.out.2.2.2.2 (fun q hq e => hin ⟨q.2, by rw [← e]; exact hq⟩)
        refine ⟨w', hr1, ⟨_, hm2, fun q hq => ?_⟩, hg⟩
        rcases List.mem_append.1 hq with hq | hq
        · exact hk' q hq
        · obtain rfl := List.mem_singleton.1 hq
          exact ⟨x, rfl, h12⟩
    obtain ⟨w', hrun, hm2, hg⟩ := hput
    have u2 := Upd.of_grown hg
    have e9' : w'.cell? ⟨w.heap.size, 0, none⟩ = some (.int .i64 x) := (hx.upd u2 (fun e => by injection e with e; omega)).cell 0
    have fin : CntI w w' r w.heap.size false := ⟨hI.u.trans u2 (fun i e => .inl (by injection e with e; exact .inl e.symm)), hm2, ⟨x, hx.upd u2 (fun e => by injection e with e; omega), .inr h12⟩⟩
    have eD : w'.heap[D]? = some (.deferred (some [])) := (u2.block D (Array.getElem?_eq_some_iff.1 hd).1 (fun e => by injection e with e; omega)).trans hd
    have HF := Lib.hid (And.intro fin (And.intro eD h12))
    clear hI hd hS hx hc hm2 hg u2 fin eD h12
    go_wp2
    refine leaves_coll (B := w3.heap.size) (fun w1 => CntI w w1 r w.heap.size false) ?_ ?_ [D] _ (by simp) (fun D' hD' => by obtain rfl := List.mem_singleton.1 hD'; exact ⟨hD, HF.out.2.1⟩) HF.out.1
    · intro w1 D' hB hd hI
      exact hI.keep (B := w3.heap.size) (grownBy_putObj' w1 D' _) (by omega) (by omega) (fun q e => by injection e with e; subst e; exact ⟨hB, _, hd, rfl⟩)
    · intro w1 hI
      exact ⟨.int .i64 x, by simp [results, Try.f78, go_sem], x, HF.out.2.2, rfl, H.out.1.upd hI.u (fun q e => e) hI.m, hI.u.mono (fun i hi e => by rcases e with e | e; exact e; omega)⟩
end Go.Proofs.Ytbppbgdmoihooaa
