/- Graphs: Copy; Graphs: Out; Graphs: In, Len, Labels. -/
import Derived.Test.YtnmkieiehjajlaaGreatDoorZ31
set_option linter.unusedVariables false
set_option linter.unusedSimpArgs false
namespace Go.Proofs.YtnmkieiehjajlaaGreatDoor
open Go.RowKit

/-- A graph whose rows are being told. -/
structure GrC (w : World) (B : Nat) (O : Nat → Option Ro) (p : Nat) (N : List Txt) (U V : Nat → List Hp) (cnt : Int) (m l : Nat) (D : GrD) : Prop where
  blk : Blk w p 101 #[D.nv, .map (some D.r), D.ov, D.iv, .int .i64 cnt]
  map : MapIs w Tryz.prog 9 D.r (kvN N N.length)
  rn : w.ownsRow 0 9 1 D.nv N.length (txtCells N)
  ro : w.ownsRow 0 31 1 D.ov m (rowV D.fo m)
  ri : w.ownsRow 0 31 1 D.iv l (rowV D.fi l)
  fo : ∀ k, k < m → w.ownsRow 0 36 2 (D.fo k) (U k).length (hpCells (U k))
  fi : ∀ k, k < l → w.ownsRow 0 36 2 (D.fi k) (V k).length (hpCells (V k))
  op : O p = some .p
  om : O D.r = some .m
  on : ∀ k, D.nv.ownBlock = some k → O k = some .n
  oo : ∀ k, D.ov.ownBlock = some k → O k = some .o
  ii : ∀ k, D.iv.ownBlock = some k → O k = some .i
  oU : ∀ j k, (D.fo j).ownBlock = some k → O k = some (.oo j)
  oV : ∀ j k, (D.fi j).ownBlock = some k → O k = some (.ii j)
  lt : ∀ k, O k ≠ none → k < w.heap.size
  lo : ∀ k, O k ≠ none → B ≤ k
  outO : ∀ k, m ≤ k → D.fo k = .slice none 0 0
  outI : ∀ k, l ≤ k → D.fi k = .slice none 0 0
theorem GrC.pushO {w V3 : World} {B : Nat} {O : Nat → Option Ro} {p : Nat} {N : List Txt} {U V : Nat → List Hp} {cnt : Int} {m l : Nat} {D : GrD} (h : GrC w B O p N U V cnt m l D) {v nw : Value} (bs : Nat)
    (hv : V3.ownsRow w.heap.size 36 2 v (U m).length (hpCells (U m))) (hvl : ∀ k, v.ownBlock = some k → k < bs) (hbs : w.heap.size ≤ bs) (u : Upd (fun k => D.ov.ownBlock = some k) w V3) (o : V3.ownsRow 0 31 1 nw (m + 1) (rowV D.fo m ++ [v]))
    (pl : ∀ k, nw.ownBlock = some k → D.ov.ownBlock = some k ∨ bs ≤ k) (hB : B ≤ w.heap.size) : ∃ O' D', GrC (V3.setCell ⟨p, 2, none⟩ nw) B O' p N U V cnt (m + 1) l D' := by
  have us := (Upd.refl (fun k => k = p) V3).setCell (p := ⟨p, 2, none⟩) (.inl rfl) nw
  have fresh : ∀ k, w.heap.size ≤ k → O k = none := fun k hk => by
    cases e : O k with
    | none => rfl
    | some t => have := h.lt k (by simp [e]); omega
  have hnv : ∀ k, v.ownBlock = some k → O k = none ∧ w.heap.size ≤ k ∧ k < bs := fun k hk => ⟨fresh k (hv.lt k hk).1, (hv.lt k hk).1, hvl k hk⟩
  have hnw : ∀ k, nw.ownBlock = some k → O k = some .o ∨ O k = none ∧ bs ≤ k := fun k hk => by
    rcases pl k hk with h1 | h1
    · exact .inl (h.oo k h1)
    · exact .inr ⟨fresh k (by omega), h1⟩
  have keep : ∀ k t, O k = some t → (t = Ro.o → False) → (if v.ownBlock = some k then some (Ro.oo m) else if nw.ownBlock = some k then some Ro.o else O k) = some t := fun k t e ht => by
    rw [if_neg, if_neg, e]
    · intro hk
      rcases hnw k hk with h1 | h1
      · rw [h1] at e; injection e with e; exact ht e.symm
      · rw [h1.1] at e; cases e
    · intro hk
      rw [(hnv k hk).1] at e; cases e
  have no : ∀ k t, O k = some t → (t = Ro.o → False) → (t = Ro.p → False) → ¬ D.ov.ownBlock = some k ∧ ¬ k = p := fun k t e h1 h2 =>
    ⟨fun hk => (by have := h.oo k hk; rw [e] at this; injection this with this; exact h1 this), fun hk => (by rw [hk, h.op] at e; injection e with e; exact h2 e.symm)⟩
  have no1 : ∀ k t, O k = some t → (t = Ro.o → False) → ¬ D.ov.ownBlock = some k := fun k t e h1 hk => by
    have := h.oo k hk; rw [e] at this; injection this with this; exact h1 this
  have nwp : ∀ k, nw.ownBlock = some k → ¬ k = p := fun k hk e => by
    subst e
    rcases hnw k hk with h1 | h1
    · rw [h.op] at h1; cases h1
    · rw [h.op] at h1; cases h1.1
  have nvp : ∀ k, v.ownBlock = some k → ¬ k = p := fun k hk e => by
    have := (hnv k hk).1
    rw [e, h.op] at this; cases this
  have k2 := fun {x : Value} {base e size n : Nat} {xs : List Value} (hx : w.ownsRow base e size x n xs) (hr : ∀ k, x.ownBlock = some k → ¬ D.ov.ownBlock = some k ∧ ¬ k = p) => ownsRow_upd (ownsRow_upd hx u fun k hk => (hr k hk).1) us fun k hk => (hr k hk).2
  have erow : rowV (fset D.fo m v) (m + 1) = rowV D.fo m ++ [v] := by
    rw [rowV_succ, fset_same]
    congr 1
    unfold rowV
    refine List.map_congr_left fun k hk => ?_
    rw [List.mem_range] at hk
    exact fset_other _ _ (by omega)
  have bp := no1 _ _ h.op nofun
  have bm := no _ _ h.om nofun nofun
  refine ⟨fun k => if v.ownBlock = some k then some (Ro.oo m) else if nw.ownBlock = some k then some Ro.o else O k, ⟨D.r, D.nv, nw, D.iv, fset D.fo m v, D.fi⟩, ?_⟩
  constructor
  case blk => exact (h.blk.upd u bp).set 2 nw
  case map => exact (h.map.upd u bm.1).upd us bm.2
  case rn => exact k2 h.rn fun k hk => no _ _ (h.on k hk) nofun nofun
  case ro =>
    (try dsimp only)
    rw [erow]
    exact ownsRow_upd o us nwp
  case ri => exact k2 h.ri fun k hk => no _ _ (h.ii k hk) nofun nofun
  case fo =>
    intro k hk
    (try dsimp only)
    by_cases e : k = m
    · subst e
      rw [fset_same]
      exact ownsRow_base (ownsRow_upd hv us nvp) (fun _ _ => Nat.zero_le _)
    · rw [fset_other _ _ e]
      exact k2 (h.fo k (by omega)) fun j hj => no _ _ (h.oU k j hj) nofun nofun
  case fi => exact fun k hk => k2 (h.fi k hk) fun j hj => no _ _ (h.oV k j hj) nofun nofun
  case op => exact keep _ _ h.op nofun
  case om => exact keep _ _ h.om nofun
  case on => exact fun k hk => keep _ _ (h.on k hk) nofun
  case oo =>
    intro k hk
    (try dsimp only at hk ⊢)
    rw [if_neg, if_pos hk]
    intro h1
    rcases hnw k hk with h2 | h2
    · rw [(hnv k h1).1] at h2; cases h2
    · have := (hnv k h1).2.2; omega
  case ii => exact fun k hk => keep _ _ (h.ii k hk) nofun
  case oU =>
    intro j k hk
    (try dsimp only at hk ⊢)
    by_cases e : j = m
    · subst e
      rw [fset_same] at hk
      rw [if_pos hk]
    · rw [fset_other _ _ e] at hk
      exact keep _ _ (h.oU j k hk) nofun
  case oV => exact fun j k hk => keep _ _ (h.oV j k hk) nofun
  case lt =>
    intro k hk
    (try dsimp only at hk)
    by_cases h1 : v.ownBlock = some k
    · exact Nat.lt_of_lt_of_le (hv.lt k h1).2 us.size
    · rw [if_neg h1] at hk
      by_cases h2 : nw.ownBlock = some k
      · exact Nat.lt_of_lt_of_le (o.lt k h2).2 us.size
      · rw [if_neg h2] at hk
        exact Nat.lt_of_lt_of_le (h.lt k hk) (Nat.le_trans u.size us.size)
  case lo =>
    intro k hk
    (try dsimp only at hk)
    by_cases h1 : v.ownBlock = some k
    · have := (hnv k h1).2.1; omega
    · rw [if_neg h1] at hk
      by_cases h2 : nw.ownBlock = some k
      · rcases hnw k h2 with h3 | h3
        · exact h.lo k (by rw [h3]; nofun)
        · omega
      · rw [if_neg h2] at hk
        exact h.lo k hk
  case outO =>
    intro k hk
    (try dsimp only)
    rw [fset_other _ _ (by omega)]
    exact h.outO k (by omega)
  case outI => exact h.outI
theorem GrC.pushI {w V3 : World} {B : Nat} {O : Nat → Option Ro} {p : Nat} {N : List Txt} {U V : Nat → List Hp} {cnt : Int} {m l : Nat} {D : GrD} (h : GrC w B O p N U V cnt m l D) {v nw : Value} (bs : Nat)
    (hv : V3.ownsRow w.heap.size 36 2 v (V l).length (hpCells (V l))) (hvl : ∀ k, v.ownBlock = some k → k < bs) (hbs : w.heap.size ≤ bs) (u : Upd (fun k => D.iv.ownBlock = some k) w V3) (o : V3.ownsRow 0 31 1 nw (l + 1) (rowV D.fi l ++ [v]))
    (pl : ∀ k, nw.ownBlock = some k → D.iv.ownBlock = some k ∨ bs ≤ k) (hB : B ≤ w.heap.size) : ∃ O' D', GrC (V3.setCell ⟨p, 3, none⟩ nw) B O' p N U V cnt m (l + 1) D' := by
  have us := (Upd.refl (fun k => k = p) V3).setCell (p := ⟨p, 3, none⟩) (.inl rfl) nw
  have fresh : ∀ k, w.heap.size ≤ k → O k = none := fun k hk => by
    cases e : O k with
    | none => rfl
    | some t => have := h.lt k (by simp [e]); omega
  have hnv : ∀ k, v.ownBlock = some k → O k = none ∧ w.heap.size ≤ k ∧ k < bs := fun k hk => ⟨fresh k (hv.lt k hk).1, (hv.lt k hk).1, hvl k hk⟩
  have hnw : ∀ k, nw.ownBlock = some k → O k = some .i ∨ O k = none ∧ bs ≤ k := fun k hk => by
    rcases pl k hk with h1 | h1
    · exact .inl (h.ii k h1)
    · exact .inr ⟨fresh k (by omega), h1⟩
  have keep : ∀ k t, O k = some t → (t = Ro.i → False) → (if v.ownBlock = some k then some (Ro.ii l) else if nw.ownBlock = some k then some Ro.i else O k) = some t := fun k t e ht => by
    rw [if_neg, if_neg, e]
    · intro hk
      rcases hnw k hk with h1 | h1
      · rw [h1] at e; injection e with e; exact ht e.symm
      · rw [h1.1] at e; cases e
    · intro hk
      rw [(hnv k hk).1] at e; cases e
  have no : ∀ k t, O k = some t → (t = Ro.i → False) → (t = Ro.p → False) → ¬ D.iv.ownBlock = some k ∧ ¬ k = p := fun k t e h1 h2 =>
    ⟨fun hk => (by have := h.ii k hk; rw [e] at this; injection this with this; exact h1 this), fun hk => (by rw [hk, h.op] at e; injection e with e; exact h2 e.symm)⟩
  have no1 : ∀ k t, O k = some t → (t = Ro.i → False) → ¬ D.iv.ownBlock = some k := fun k t e h1 hk => by
    have := h.ii k hk; rw [e] at this; injection this with this; exact h1 this
  have nwp : ∀ k, nw.ownBlock = some k → ¬ k = p := fun k hk e => by
    subst e
    rcases hnw k hk with h1 | h1
    · rw [h.op] at h1; cases h1
    · rw [h.op] at h1; cases h1.1
  have nvp : ∀ k, v.ownBlock = some k → ¬ k = p := fun k hk e => by
    have := (hnv k hk).1
    rw [e, h.op] at this; cases this
  have k2 := fun {x : Value} {base e size n : Nat} {xs : List Value} (hx : w.ownsRow base e size x n xs) (hr : ∀ k, x.ownBlock = some k → ¬ D.iv.ownBlock = some k ∧ ¬ k = p) => ownsRow_upd (ownsRow_upd hx u fun k hk => (hr k hk).1) us fun k hk => (hr k hk).2
  have erow : rowV (fset D.fi l v) (l + 1) = rowV D.fi l ++ [v] := by
    rw [rowV_succ, fset_same]
    congr 1
    unfold rowV
    refine List.map_congr_left fun k hk => ?_
    rw [List.mem_range] at hk
    exact fset_other _ _ (by omega)
  have bp := no1 _ _ h.op nofun
  have bm := no _ _ h.om nofun nofun
  refine ⟨fun k => if v.ownBlock = some k then some (Ro.ii l) else if nw.ownBlock = some k then some Ro.i else O k, ⟨D.r, D.nv, D.ov, nw, D.fo, fset D.fi l v⟩, ?_⟩
  constructor
  case blk => exact (h.blk.upd u bp).set 3 nw
  case map => exact (h.map.upd u bm.1).upd us bm.2
  case rn => exact k2 h.rn fun k hk => no _ _ (h.on k hk) nofun nofun
  case ri =>
    (try dsimp only)
    rw [erow]
    exact ownsRow_upd o us nwp
  case ro => exact k2 h.ro fun k hk => no _ _ (h.oo k hk) nofun nofun
  case fi =>
    intro k hk
    (try dsimp only)
    by_cases e : k = l
    · subst e
      rw [fset_same]
      exact ownsRow_base (ownsRow_upd hv us nvp) (fun _ _ => Nat.zero_le _)
    · rw [fset_other _ _ e]
      exact k2 (h.fi k (by omega)) fun j hj => no _ _ (h.oV k j hj) nofun nofun
  case fo => exact fun k hk => k2 (h.fo k hk) fun j hj => no _ _ (h.oU k j hj) nofun nofun
  case op => exact keep _ _ h.op nofun
  case om => exact keep _ _ h.om nofun
  case on => exact fun k hk => keep _ _ (h.on k hk) nofun
  case ii =>
    intro k hk
    (try dsimp only at hk ⊢)
    rw [if_neg, if_pos hk]
    intro h1
    rcases hnw k hk with h2 | h2
    · rw [(hnv k h1).1] at h2; cases h2
    · have := (hnv k h1).2.2; omega
  case oo => exact fun k hk => keep _ _ (h.oo k hk) nofun
  case oV =>
    intro j k hk
    (try dsimp only at hk ⊢)
    by_cases e : j = l
    · subst e
      rw [fset_same] at hk
      rw [if_pos hk]
    · rw [fset_other _ _ e] at hk
      exact keep _ _ (h.oV j k hk) nofun
  case oU => exact fun j k hk => keep _ _ (h.oU j k hk) nofun
  case lt =>
    intro k hk
    (try dsimp only at hk)
    by_cases h1 : v.ownBlock = some k
    · exact Nat.lt_of_lt_of_le (hv.lt k h1).2 us.size
    · rw [if_neg h1] at hk
      by_cases h2 : nw.ownBlock = some k
      · exact Nat.lt_of_lt_of_le (o.lt k h2).2 us.size
      · rw [if_neg h2] at hk
        exact Nat.lt_of_lt_of_le (h.lt k hk) (Nat.le_trans u.size us.size)
  case lo =>
    intro k hk
    (try dsimp only at hk)
    by_cases h1 : v.ownBlock = some k
    · have := (hnv k h1).2.1; omega
    · rw [if_neg h1] at hk
      by_cases h2 : nw.ownBlock = some k
      · rcases hnw k h2 with h3 | h3
        · exact h.lo k (by rw [h3]; nofun)
        · omega
      · rw [if_neg h2] at hk
        exact h.lo k hk
  case outI =>
    intro k hk
    (try dsimp only)
    rw [fset_other _ _ (by omega)]
    exact h.outI k (by omega)
  case outO => exact h.outO
theorem GrC.all {w : World} {B : Nat} {O : Nat → Option Ro} {p : Nat} {G : Gr} {U V : Nat → List Hp} {D : GrD} (h : GrC w B O p G.N U V G.X.length G.N.length G.N.length D) (ho : HopsOK G.N G.X U V) : Fresh B p G w := by
  refine ⟨fun k => O k ≠ none, ⟨U, V, ⟨O, D, ⟨h.blk, h.map, h.rn, h.ro, h.ri, fun k => ?_, fun k => ?_, h.op, h.om, h.on, h.oo, h.ii, h.oU, h.oV, h.lt, fun k hk => ⟨h.outO k hk, h.outI k hk⟩⟩, rfl⟩, ho⟩, h.lo⟩
  · by_cases hk : k < G.N.length
    · exact h.fo k hk
    · rw [h.outO k (by omega), (ho.out (by omega)).1]
      exact World.ownsRow_nil _ _ _ _
  · by_cases hk : k < G.N.length
    · exact h.fi k hk
    · rw [h.outI k (by omega), (ho.out (by omega)).2]
      exact World.ownsRow_nil _ _ _ _
theorem GrC.start {w w1 w2 : World} {nv : Value} {N : List Txt} {U V : Nat → List Hp} {cnt : Int} (hn : w1.ownsRow w.heap.size 9 1 nv N.length (txtCells N)) (b1 : Below w.heap.size w w1) (es : Array MapEntry) (clock : Nat) (hb : w1.alloc (.map es clock) = w2) (hm : MapIs w2 Tryz.prog 9 w1.heap.size (kvN N N.length)) :
    ∃ O D, GrC (w2.alloc (.cells #[nv, .map (some w1.heap.size), .slice none 0 0, .slice none 0 0, .int .i64 cnt] 101)) w.heap.size O w2.heap.size N U V cnt 0 0 D := by
  subst hb
  have hz : (w1.alloc (.map es clock)).heap.size = w1.heap.size + 1 := by simp
  have kb := Blk.new (w1.alloc (.map es clock)) 101 #[nv, .map (some w1.heap.size), .slice none 0 0, .slice none 0 0, .int .i64 cnt]
  rw [hz] at kb ⊢
  have hs := b1.size
  refine ⟨fun k => if k = w1.heap.size + 1 then some Ro.p else if k = w1.heap.size then some Ro.m else if nv.ownBlock = some k then some Ro.n else none, ⟨w1.heap.size, nv, .slice none 0 0, .slice none 0 0, fun _ => .slice none 0 0, fun _ => .slice none 0 0⟩, ?_⟩
  constructor
  case blk => exact kb
  case map => exact hm.alloc _
  case rn => exact ownsRow_base ((hn.alloc _).alloc _) (fun _ _ => Nat.zero_le _)
  case ro => exact World.ownsRow_nil _ _ _ _
  case ri => exact World.ownsRow_nil _ _ _ _
  case fo => exact fun k hk => absurd hk (Nat.not_lt_zero _)
  case fi => exact fun k hk => absurd hk (Nat.not_lt_zero _)
  case op => exact if_pos rfl
  case om =>
    (try dsimp only)
    rw [if_neg (by omega), if_pos rfl]
  case on =>
    intro k hk
    have := (hn.lt k hk).2
    (try dsimp only at hk ⊢)
    rw [if_neg (by omega), if_neg (by omega), if_pos hk]
  case oo => intro k hk; simp [Value.ownBlock] at hk
  case ii => intro k hk; simp [Value.ownBlock] at hk
  case oU => intro j k hk; simp [Value.ownBlock] at hk
  case oV => intro j k hk; simp [Value.ownBlock] at hk
  case lt =>
    intro k hk
    simp only [World.size_alloc]
    (try dsimp only at hk)
    split at hk
    · omega
    split at hk
    · omega
    split at hk
    · rename_i h
      have := (hn.lt k h).2
      omega
    · exact absurd rfl hk
  case lo =>
    intro k hk
    (try dsimp only at hk)
    split at hk
    · omega
    split at hk
    · omega
    split at hk
    · rename_i h
      exact (hn.lt k h).1
    · exact absurd rfl hk
  case outO => exact fun _ _ => rfl
  case outI => exact fun _ _ => rfl
set_option maxHeartbeats 4000000 in
set_option maxRecDepth 20000 in
theorem copy_gr (w : World) (F : Nat → Prop) (p : Nat) (G : Gr) (h : GrS w F p G) (ok : GOk G) : Calls Tryz.prog 23 #[.pointer (some ⟨p, 0, none⟩)] w (GMade w G id) := by
  obtain ⟨U, V, ⟨O, ⟨r, nv, ov, iv, fo, fi⟩, hg, -⟩, ho⟩ := h
  have hf := ok.few
  obtain ⟨nA, nc, e1, -, -⟩ := own_form hg.rn
  (try dsimp only at e1)
  subst e1
  have HG := Lib.hid (And.intro hg ho)
  have q1 : w.cell? ⟨p, 1, none⟩ = some (.map (some r)) := hg.blk.cell 1
  obtain ⟨es, clock, hes, hrest⟩ := hg.map
  (try dsimp only at hes)
  have hct := clone_txt w.drew nA nc G.N (RowR.of_own hg.rn) (by omega)
  obtain ⟨n, hn⟩ : ∃ n, G.N.length = n := ⟨_, rfl⟩
  have hn32 : n ≤ 32 := by omega
  have hX : G.X.length ≤ 256 := hf.2
  have SR := Lib.hid (show ∀ W, Below w.heap.size w W → W.cell? ⟨p, 0, none⟩ = some (.slice nA n nc) ∧ W.cell? ⟨p, 1, none⟩ = some (.map (some r)) ∧ W.cell? ⟨p, 4, none⟩ = some (.int .i64 (G.X.length : Int)) from fun W hb => by
    have kb := hg.blk.upd (Upd.of_below hb (fun _ => False)) id
    exact ⟨by rw [← hn]; exact kb.cell 0, kb.cell 1, kb.cell 4⟩)
  have HL := Lib.hid hn
  have HM := Lib.hid (And.intro hes hrest)
  rw [hn] at hct
  clear hg ho hes hrest hn hf ok
  obtain ⟨cnt, hcnt⟩ : ∃ c, (G.X.length : Int) = c := ⟨_, rfl⟩
  have HCT := Lib.hid hcnt
  rw [hcnt] at SR
  clear hcnt
  go_enter Tryz.func23, Tryz.ntmps23
  go_wp2_with fail
  refine (is_any w p r q1).mono ?_
  rintro e w' ⟨rfl, hw⟩
  subst w'
  go_upto_region 3 with (fail)
  clear q1
  have hS := SR.out w.drew (Below.refl _ w).drew
  refine wp_region_ord (fun W => W.cell? ⟨p, 0, none⟩ = some (.slice nA n nc) ∧ W.cell? ⟨p, 1, none⟩ = some (.map (some r)) ∧ W.cell? ⟨p, 4, none⟩ = some (.int .i64 cnt)) 17 [(0, true), (1, true), (2, true), (3, true), (5, true), (6, true), (7, true), (8, true), (10, true), (11, true), (12, true), (13, true), (4, false), (9, false), (14, true), (15, false), (16, true)] (by kernel_rfl) (by kernel_rfl) (fun _ _ d _ _ h => by cases d <;> exact h) hS ?_
  have B1 := Lib.hid (show Below w.heap.size w w.drew from (Below.refl _ _).drew)
  have Z1 := Lib.hid (show w.drew.heap.size = w.heap.size from rfl)
  generalize w.drew = V1 at hS hct B1 Z1 ⊢
  iterate 12 (refine ord_take (v := ?_) rfl (by first | with_reducible rfl | kernel_rfl) ?_ ?_; rotate_left; (focus (intro wS hS; (try dsimp only at hS); go_split_ands; go_simp; (try with_reducible rfl); done)); (try simp only [Act.put, List.getElem_toArray, List.getElem_cons_succ, List.getElem_cons_zero, List.setIfInBounds_toArray, List.set_cons_zero, List.set_cons_succ]))
  refine ord_do rfl rfl (fun K hK => ?_)
  go_simp
  refine hct.mono ?_
  rintro e V2 ⟨v, rfl, own2, b2⟩
  rw [Z1.out] at own2 b2
  rw [HL.out] at own2
  obtain ⟨NA, Nc, rfl, -, -⟩ := own_form own2
  have B2 := Lib.hid (B1.out.trans b2)
  have HV := Lib.hid own2
  have hm2 := (Upd.of_below B2.out (fun _ => False)).block r (Array.getElem?_eq_some_iff.1 HM.out.1).1 id
  rw [HM.out.1] at hm2
  have hcm := clone_map V2 r es clock hm2
  clear own2 b2 hct B1 Z1 hm2
  refine hK _ _ (fun _ => SR.out _ B2.out) ?_
  clear hK K hS
  (try simp only [Act.put, List.getElem_toArray, List.getElem_cons_succ, List.getElem_cons_zero, List.setIfInBounds_toArray, List.set_cons_zero, List.set_cons_succ])
  refine ord_do rfl rfl (fun K hK => ?_)
  go_simp
  refine hcm.mono ?_
  clear hcm
  rintro e V3 ⟨rfl, hV3⟩
  have B3 := Lib.hid (show Below w.heap.size w V3 from by rw [hV3]; exact B2.out.alloc B2.out.size _)
  have M3 := Lib.hid (show MapIs V3 Tryz.prog 9 V2.heap.size (kvN G.N G.N.length) from by rw [hV3]; exact ⟨es, clock, heap_alloc_new V2 _, HM.out.2⟩)
  have HV3 := Lib.hid hV3.symm
  clear hV3
  have hS := SR.out _ B3.out
  refine hK _ _ (fun _ => hS) ?_
  clear hK K
  (try simp only [Act.put, List.getElem_toArray, List.getElem_cons_succ, List.getElem_cons_zero, List.setIfInBounds_toArray, List.set_cons_zero, List.set_cons_succ])
  (refine ord_take (v := ?_) rfl (by first | with_reducible rfl | kernel_rfl) ?_ ?_; rotate_left; (focus (intro wS hS; (try dsimp only at hS); go_split_ands; go_simp; (try with_reducible rfl); done)); (try simp only [Act.put, List.getElem_toArray, List.getElem_cons_succ, List.getElem_cons_zero, List.setIfInBounds_toArray, List.set_cons_zero, List.set_cons_succ]))
  refine ord_do rfl rfl (fun K hK => ?_)
  go_simp
  have B4 := Lib.hid (B3.out.alloc B3.out.size (.cells #[.slice NA n Nc, .map (some V2.heap.size), .slice none 0 0, .slice none 0 0, .int .i64 cnt] 101))
  have HC0 := Lib.hid (GrC.start (N := G.N) (U := U) (V := V) (cnt := cnt) (by rw [HL.out]; exact HV.out) B2.out es clock HV3.out M3.out)
  refine hK _ _ (fun _ => SR.out _ B4.out) ?_
  clear hK K hS
  (try simp only [Act.put, List.getElem_toArray, List.getElem_cons_succ, List.getElem_cons_zero, List.setIfInBounds_toArray, List.set_cons_zero, List.set_cons_succ])
  generalize V3.alloc (.cells #[.slice NA n Nc, .map (some V2.heap.size), .slice none 0 0, .slice none 0 0, .int .i64 cnt] 101) = W4 at B4 HC0 ⊢
  generalize V3.heap.size = po at HC0 ⊢
  have hS := SR.out _ B4.out
  (refine ord_take (v := ?_) rfl (by first | with_reducible rfl | kernel_rfl) ?_ ?_; rotate_left; (focus (intro wS hS; (try dsimp only at hS); go_split_ands; go_simp; (try with_reducible rfl); done)); (try simp only [Act.put, List.getElem_toArray, List.getElem_cons_succ, List.getElem_cons_zero, List.setIfInBounds_toArray, List.set_cons_zero, List.set_cons_succ]))
  refine ord_done ?_
  obtain ⟨z0, -, -⟩ := hS
  clear HV HV3 M3 B2 B3 HM
  go_wp2_with fail
  clear z0 SR
  go_loopw [29] (fun i wr => ∃ k : Nat, k ≤ n ∧ i = .int .i64 k ∧ Hid (∃ O D, GrC wr w.heap.size O po G.N U V cnt k k D) ∧ Hid (Below w.heap.size w wr)) (fun i _ => n - (intOf i).toNat)
  case atStart => exact ⟨0, Nat.zero_le _, rfl, HC0, B4⟩
  case round =>
    obtain ⟨k, hk, rfl, HC0, HB0⟩ := hrel
    by_cases hlt : k < n
    · have hltI : (k : Int) < (n : Int) := by omega
      have hkw : IntKind.i64.wrap ((k : Int) + 1) = (k : Int) + 1 := IntWalk.i64_in _ (by omega)
      have hltN : k < G.N.length := by rw [HL.out]; exact hlt
      -- O
      obtain ⟨O0, D0, hC0⟩ := HC0.out
      obtain ⟨A2, c2, e2, -, -⟩ := own_form hC0.ro
      have hg := HG.out.1.upd (Upd.of_below HB0.out (fun _ => False)) (fun _ _ => id)
      obtain ⟨og, oc, eo, -, co, -⟩ := row_get hg.ro hltN
      (try dsimp only at eo co)
      obtain ⟨Av, cA, eA, -, -⟩ := own_form (hg.fo k)
      dsimp only at eA
      have hrow := hg.fo k
      (try dsimp only at hrow)
      rw [eA] at co hrow
      have hcl := clone_hp wr.drew Av cA (U k) (RowR.of_own hrow) (by have := (HG.out.2.len k).1; omega)
      obtain ⟨mm, hmm⟩ : ∃ m, (U k).length = m := ⟨_, rfl⟩
      rw [hmm] at hcl co
      have hblk := hC0.blk
      rw [e2] at hblk
      have hn1 : ¬ (Value.slice A2 k c2).ownBlock = some po := fun e => by have := hC0.oo po (by rw [e2]; exact e); rw [hC0.op] at this; cases this
      have SR := Lib.hid (show ∀ W, Upd (fun b => (Value.slice A2 k c2).ownBlock = some b) wr W → W.cell? ⟨po, 2, none⟩ = some (.slice A2 k c2) ∧ W.cell? ⟨p, 2, none⟩ = some (.slice (some ⟨og, 0, none⟩) n oc) ∧ W.cell? ⟨og, k, none⟩ = some (.slice Av mm cA) from fun W hu => by
        have lo := fun b (e : (Value.slice A2 k c2).ownBlock = some b) => hC0.lo b (by rw [hC0.oo b (by rw [e2]; exact e)]; nofun)
        have n2 : ¬ (Value.slice A2 k c2).ownBlock = some p := fun e => by have := lo p e; have := HG.out.1.blk.lt; omega
        have n3 : ¬ (Value.slice A2 k c2).ownBlock = some og := fun e => by have := lo og e; have := (HG.out.1.ro.lt og (by dsimp only; rw [eo]; rfl)).2; omega
        refine ⟨(hblk.upd hu hn1).cell 2, ?_, ?_⟩
        · have := (hg.blk.upd hu n2).cell 2
          (try dsimp only at this)
          rw [eo, HL.out] at this
          exact this
        · rw [hu.cell (p := ⟨og, k, none⟩) (World.block_lt_of_cell? wr _ co) n3]; exact co)
      have hS := SR.out wr.drew (Upd.refl _ _).drew
      have HD := Lib.hid (And.intro hblk (And.intro e2 (And.intro hC0 (And.intro hmm hn1))))
      clear hg hrow eA co hblk e2 hC0 hmm eo hn1
      go_upto_region 7 with (fail)
      refine wp_region_ord (fun W => W.cell? ⟨po, 2, none⟩ = some (.slice A2 k c2) ∧ W.cell? ⟨p, 2, none⟩ = some (.slice (some ⟨og, 0, none⟩) n oc) ∧ W.cell? ⟨og, k, none⟩ = some (.slice Av mm cA)) 17 [(0, true), (1, true), (2, true), (3, true), (4, true), (5, true), (6, true), (7, true), (8, true), (9, true), (10, true), (11, true), (12, false), (13, false), (14, false), (15, true), (16, true), (17, false)] (by kernel_rfl) (by kernel_rfl) (fun _ _ d _ _ h => by cases d <;> exact h) hS ?_
      have B1 := Lib.hid (show Below wr.heap.size wr wr.drew from (Below.refl _ _).drew)
      have Z1 := Lib.hid (show wr.drew.heap.size = wr.heap.size from rfl)
      generalize wr.drew = V1 at hS hcl B1 Z1 ⊢
      iterate 12 (refine ord_take (v := ?_) rfl (by first | with_reducible rfl | kernel_rfl) ?_ ?_; rotate_left; (focus (intro wS hS; (try dsimp only at hS); go_split_ands; go_simp; (try with_reducible rfl); done)); (try simp only [Act.put, List.getElem_toArray, List.getElem_cons_succ, List.getElem_cons_zero, List.setIfInBounds_toArray, List.set_cons_zero, List.set_cons_succ]))
      refine ord_do rfl rfl (fun K hK => ?_)
      go_simp
      refine hcl.mono ?_
      rintro e V2 ⟨v, rfl, ov2, bv⟩
      rw [Z1.out] at ov2 bv
      rw [HD.out.2.2.2.1] at ov2
      obtain ⟨vA, vc, rfl, -, -⟩ := own_form ov2
      have B2 := Lib.hid (B1.out.trans bv)
      have HV := Lib.hid ov2
      clear ov2 bv hcl Z1 B1
      refine hK _ _ (fun _ => SR.out _ (Upd.of_below B2.out _)) ?_
      clear hK K hS
      (try simp only [Act.put, List.getElem_toArray, List.getElem_cons_succ, List.getElem_cons_zero, List.setIfInBounds_toArray, List.set_cons_zero, List.set_cons_succ])
      refine ord_do rfl rfl (fun K hK => ?_)
      go_simp
      have B3 := Lib.hid (B2.out.alloc B2.out.size (.cells #[.slice vA mm vc] 31))
      have hnew := Blk.new V2 31 #[.slice vA mm vc]
      have HV3 := Lib.hid (HV.out.alloc (.cells #[.slice vA mm vc] 31))
      have hvl := Lib.hid (show ∀ k, (Value.slice vA mm vc).ownBlock = some k → k < (V2.alloc (.cells #[.slice vA mm vc] 31)).heap.size from fun k hk => (HV3.out.lt k hk).2)
      refine hK _ _ (fun _ => SR.out _ (Upd.of_below B3.out _)) ?_
      clear hK K
      (try simp only [Act.put, List.getElem_toArray, List.getElem_cons_succ, List.getElem_cons_zero, List.setIfInBounds_toArray, List.set_cons_zero, List.set_cons_succ])
      generalize V2.alloc (.cells #[.slice vA mm vc] 31) = V3 at B3 hnew HV3 hvl ⊢
      have own3 := HD.out.2.2.1.ro
      rw [HD.out.2.1] at own3
      obtain ⟨A4, c4, V4, happ, o4, u4, p4⟩ := append_row2 V3 0 99 31 1 24 _ Tryz.underlying99 info_hops rfl (by decide) (by decide) A2 k c2 _ (ownsRow_upd own3 (Upd.of_below B3.out (fun _ => False)) (fun _ _ h => h)) (some ⟨V2.heap.size, 0, none⟩) 1 1 [.slice vA mm vc] (row_one hnew) rfl (by simp; rfl) (by omega) (Nat.zero_le _)
      have U4 := Lib.hid ((Upd.of_below B3.out (fun b => (Value.slice A2 k c2).ownBlock = some b)).trans u4 (fun _ h => .inl h))
      have kb4 := HD.out.1.upd U4.out HD.out.2.2.2.2
      have HC1 := Lib.hid (HD.out.2.2.1.pushO V3.heap.size (v := .slice vA mm vc) (nw := .slice A4 (k + 1) c4) (by rw [HD.out.2.2.2.1]; exact ownsRow_upd HV3.out u4 (fun b hb e => by have := (HV3.out.lt b hb).1; have := (own3.lt b e).2; omega)) hvl.out B3.out.size (by rw [HD.out.2.1]; exact U4.out) o4 (fun b hb => by rw [HD.out.2.1]; exact p4 b hb) HB0.out.size)
      have HB1 := Lib.hid (show Below w.heap.size w (V4.setCell ⟨po, 2, none⟩ (.slice A4 (k + 1) c4)) from HB0.out.trans ((U4.out.below (fun b _ e => HD.out.2.2.1.lo b (by rw [HD.out.2.2.1.oo b (by rw [HD.out.2.1]; exact e)]; nofun)) HB0.out.size).trans (((Upd.refl (fun b => b = po) V4).setCell (p := ⟨po, 2, none⟩) (.inl rfl) (.slice A4 (k + 1) c4)).below (fun b _ e => by rw [e]; exact HD.out.2.2.1.lo po (by rw [HD.out.2.2.1.op]; nofun)) (Nat.le_trans HB0.out.size U4.out.size))))
      have hS := SR.out _ U4.out
      have f0 : V4.frozen? ⟨po, 2, none⟩ = false := kb4.frozen 2
      clear own3 o4 u4 p4 kb4 hnew
      refine ord_do rfl rfl (fun K hK => ?_)
      refine wp_append_run _ _ _ rfl rfl rfl happ ?_
      refine hK _ _ (fun _ => hS) ?_
      clear hK K happ
      (try simp only [Act.put, List.getElem_toArray, List.getElem_cons_succ, List.getElem_cons_zero, List.setIfInBounds_toArray, List.set_cons_zero, List.set_cons_succ])
      (refine ord_take (v := ?_) rfl (by first | with_reducible rfl | kernel_rfl) ?_ ?_; rotate_left; (focus (intro wS hS; (try dsimp only at hS); go_split_ands; go_simp; (try with_reducible rfl); done)); (try simp only [Act.put, List.getElem_toArray, List.getElem_cons_succ, List.getElem_cons_zero, List.setIfInBounds_toArray, List.set_cons_zero, List.set_cons_succ]))
      (refine ord_take (v := ?_) rfl (by first | with_reducible rfl | kernel_rfl) ?_ ?_; rotate_left; (focus (intro wS hS; (try dsimp only at hS); go_split_ands; go_simp; (try with_reducible rfl); done)); (try simp only [Act.put, List.getElem_toArray, List.getElem_cons_succ, List.getElem_cons_zero, List.setIfInBounds_toArray, List.set_cons_zero, List.set_cons_succ]))
      refine ord_do rfl rfl (fun K hK => ?_)
      obtain ⟨r0, r1, r2⟩ := hS
      go_simp
      refine hK _ _ (fun h => absurd rfl h) ?_
      clear hK K r0 r1 r2 f0 SR HD HV HV3 hvl B2 B3 U4
      (try simp only [Act.put, List.getElem_toArray, List.getElem_cons_succ, List.getElem_cons_zero, List.setIfInBounds_toArray, List.set_cons_zero, List.set_cons_succ])
      refine ord_done ?_
      generalize V4.setCell ⟨po, 2, none⟩ (.slice A4 (k + 1) c4) = W1 at HC1 HB1 ⊢
      -- I
      obtain ⟨O1, D1, hC1⟩ := HC1.out
      obtain ⟨A2, c2, e2, -, -⟩ := own_form hC1.ri
      have hg := HG.out.1.upd (Upd.of_below HB1.out (fun _ => False)) (fun _ _ => id)
      obtain ⟨og, oc, eo, -, co, -⟩ := row_get hg.ri hltN
      (try dsimp only at eo co)
      obtain ⟨Av, cA, eA, -, -⟩ := own_form (hg.fi k)
      dsimp only at eA
      have hrow := hg.fi k
      (try dsimp only at hrow)
      rw [eA] at co hrow
      have hcl := clone_hp W1.drew Av cA (V k) (RowR.of_own hrow) (by have := (HG.out.2.len k).2; omega)
      obtain ⟨mm, hmm⟩ : ∃ m, (V k).length = m := ⟨_, rfl⟩
      rw [hmm] at hcl co
      have hblk := hC1.blk
      rw [e2] at hblk
      have hn1 : ¬ (Value.slice A2 k c2).ownBlock = some po := fun e => by have := hC1.ii po (by rw [e2]; exact e); rw [hC1.op] at this; cases this
      have SR := Lib.hid (show ∀ W, Upd (fun b => (Value.slice A2 k c2).ownBlock = some b) W1 W → W.cell? ⟨po, 3, none⟩ = some (.slice A2 k c2) ∧ W.cell? ⟨p, 3, none⟩ = some (.slice (some ⟨og, 0, none⟩) n oc) ∧ W.cell? ⟨og, k, none⟩ = some (.slice Av mm cA) from fun W hu => by
        have lo := fun b (e : (Value.slice A2 k c2).ownBlock = some b) => hC1.lo b (by rw [hC1.ii b (by rw [e2]; exact e)]; nofun)
        have n2 : ¬ (Value.slice A2 k c2).ownBlock = some p := fun e => by have := lo p e; have := HG.out.1.blk.lt; omega
        have n3 : ¬ (Value.slice A2 k c2).ownBlock = some og := fun e => by have := lo og e; have := (HG.out.1.ri.lt og (by dsimp only; rw [eo]; rfl)).2; omega
        refine ⟨(hblk.upd hu hn1).cell 3, ?_, ?_⟩
        · have := (hg.blk.upd hu n2).cell 3
          (try dsimp only at this)
          rw [eo, HL.out] at this
          exact this
        · rw [hu.cell (p := ⟨og, k, none⟩) (World.block_lt_of_cell? W1 _ co) n3]; exact co)
      have hS := SR.out W1.drew (Upd.refl _ _).drew
      have HD := Lib.hid (And.intro hblk (And.intro e2 (And.intro hC1 (And.intro hmm hn1))))
      clear hg hrow eA co hblk e2 hC1 hmm eo hn1
      go_upto_region 8 with (fail)
      refine wp_region_ord (fun W => W.cell? ⟨po, 3, none⟩ = some (.slice A2 k c2) ∧ W.cell? ⟨p, 3, none⟩ = some (.slice (some ⟨og, 0, none⟩) n oc) ∧ W.cell? ⟨og, k, none⟩ = some (.slice Av mm cA)) 17 [(0, true), (1, true), (2, true), (3, true), (4, true), (5, true), (6, true), (7, true), (8, true), (9, true), (10, true), (11, true), (12, false), (13, false), (14, false), (15, true), (16, true), (17, false)] (by kernel_rfl) (by kernel_rfl) (fun _ _ d _ _ h => by cases d <;> exact h) hS ?_
      have B1 := Lib.hid (show Below W1.heap.size W1 W1.drew from (Below.refl _ _).drew)
      have Z1 := Lib.hid (show W1.drew.heap.size = W1.heap.size from rfl)
      generalize W1.drew = V1 at hS hcl B1 Z1 ⊢
      iterate 12 (refine ord_take (v := ?_) rfl (by first | with_reducible rfl | kernel_rfl) ?_ ?_; rotate_left; (focus (intro wS hS; (try dsimp only at hS); go_split_ands; go_simp; (try with_reducible rfl); done)); (try simp only [Act.put, List.getElem_toArray, List.getElem_cons_succ, List.getElem_cons_zero, List.setIfInBounds_toArray, List.set_cons_zero, List.set_cons_succ]))
      refine ord_do rfl rfl (fun K hK => ?_)
      go_simp
      refine hcl.mono ?_
      rintro e V2 ⟨v, rfl, ov2, bv⟩
      rw [Z1.out] at ov2 bv
      rw [HD.out.2.2.2.1] at ov2
      obtain ⟨vA, vc, rfl, -, -⟩ := own_form ov2
      have B2 := Lib.hid (B1.out.trans bv)
      have HV := Lib.hid ov2
      clear ov2 bv hcl Z1 B1
      refine hK _ _ (fun _ => SR.out _ (Upd.of_below B2.out _)) ?_
      clear hK K hS
      (try simp only [Act.put, List.getElem_toArray, List.getElem_cons_succ, List.getElem_cons_zero, List.setIfInBounds_toArray, List.set_cons_zero, List.set_cons_succ])
      refine ord_do rfl rfl (fun K hK => ?_)
      go_simp
      have B3 := Lib.hid (B2.out.alloc B2.out.size (.cells #[.slice vA mm vc] 31))
      have hnew := Blk.new V2 31 #[.slice vA mm vc]
      have HV3 := Lib.hid (HV.out.alloc (.cells #[.slice vA mm vc] 31))
      have hvl := Lib.hid (show ∀ k, (Value.slice vA mm vc).ownBlock = some k → k < (V2.alloc (.cells #[.slice vA mm vc] 31)).heap.size from fun k hk => (HV3.out.lt k hk).2)
      refine hK _ _ (fun _ => SR.out _ (Upd.of_below B3.out _)) ?_
      clear hK K
      (try simp only [Act.put, List.getElem_toArray, List.getElem_cons_succ, List.getElem_cons_zero, List.setIfInBounds_toArray, List.set_cons_zero, List.set_cons_succ])
      generalize V2.alloc (.cells #[.slice vA mm vc] 31) = V3 at B3 hnew HV3 hvl ⊢
      have own3 := HD.out.2.2.1.ri
      rw [HD.out.2.1] at own3
      obtain ⟨A4, c4, V4, happ, o4, u4, p4⟩ := append_row2 V3 0 99 31 1 24 _ Tryz.underlying99 info_hops rfl (by decide) (by decide) A2 k c2 _ (ownsRow_upd own3 (Upd.of_below B3.out (fun _ => False)) (fun _ _ h => h)) (some ⟨V2.heap.size, 0, none⟩) 1 1 [.slice vA mm vc] (row_one hnew) rfl (by simp; rfl) (by omega) (Nat.zero_le _)
      have U4 := Lib.hid ((Upd.of_below B3.out (fun b => (Value.slice A2 k c2).ownBlock = some b)).trans u4 (fun _ h => .inl h))
      have kb4 := HD.out.1.upd U4.out HD.out.2.2.2.2
      have HC2 := Lib.hid (HD.out.2.2.1.pushI V3.heap.size (v := .slice vA mm vc) (nw := .slice A4 (k + 1) c4) (by rw [HD.out.2.2.2.1]; exact ownsRow_upd HV3.out u4 (fun b hb e => by have := (HV3.out.lt b hb).1; have := (own3.lt b e).2; omega)) hvl.out B3.out.size (by rw [HD.out.2.1]; exact U4.out) o4 (fun b hb => by rw [HD.out.2.1]; exact p4 b hb) HB1.out.size)
      have HB2 := Lib.hid (show Below w.heap.size w (V4.setCell ⟨po, 3, none⟩ (.slice A4 (k + 1) c4)) from HB1.out.trans ((U4.out.below (fun b _ e => HD.out.2.2.1.lo b (by rw [HD.out.2.2.1.ii b (by rw [HD.out.2.1]; exact e)]; nofun)) HB1.out.size).trans (((Upd.refl (fun b => b = po) V4).setCell (p := ⟨po, 3, none⟩) (.inl rfl) (.slice A4 (k + 1) c4)).below (fun b _ e => by rw [e]; exact HD.out.2.2.1.lo po (by rw [HD.out.2.2.1.op]; nofun)) (Nat.le_trans HB1.out.size U4.out.size))))
      have hS := SR.out _ U4.out
      have f0 : V4.frozen? ⟨po, 3, none⟩ = false := kb4.frozen 3
      clear own3 o4 u4 p4 kb4 hnew
      refine ord_do rfl rfl (fun K hK => ?_)
      refine wp_append_run _ _ _ rfl rfl rfl happ ?_
      refine hK _ _ (fun _ => hS) ?_
      clear hK K happ
      (try simp only [Act.put, List.getElem_toArray, List.getElem_cons_succ, List.getElem_cons_zero, List.setIfInBounds_toArray, List.set_cons_zero, List.set_cons_succ])
      (refine ord_take (v := ?_) rfl (by first | with_reducible rfl | kernel_rfl) ?_ ?_; rotate_left; (focus (intro wS hS; (try dsimp only at hS); go_split_ands; go_simp; (try with_reducible rfl); done)); (try simp only [Act.put, List.getElem_toArray, List.getElem_cons_succ, List.getElem_cons_zero, List.setIfInBounds_toArray, List.set_cons_zero, List.set_cons_succ]))
      (refine ord_take (v := ?_) rfl (by first | with_reducible rfl | kernel_rfl) ?_ ?_; rotate_left; (focus (intro wS hS; (try dsimp only at hS); go_split_ands; go_simp; (try with_reducible rfl); done)); (try simp only [Act.put, List.getElem_toArray, List.getElem_cons_succ, List.getElem_cons_zero, List.setIfInBounds_toArray, List.set_cons_zero, List.set_cons_succ]))
      refine ord_do rfl rfl (fun K hK => ?_)
      obtain ⟨r0, r1, r2⟩ := hS
      go_simp
      refine hK _ _ (fun h => absurd rfl h) ?_
      clear hK K r0 r1 r2 f0 SR HD HV HV3 hvl B2 B3 U4
      (try simp only [Act.put, List.getElem_toArray, List.getElem_cons_succ, List.getElem_cons_zero, List.setIfInBounds_toArray, List.set_cons_zero, List.set_cons_succ])
      refine ord_done ?_
      generalize V4.setCell ⟨po, 3, none⟩ (.slice A4 (k + 1) c4) = W2 at HC2 HB2 ⊢
      go_wp2
      go_roundw
      case rel => exact ⟨k + 1, by omega, by go_num, HC2, HB2⟩
      case measure => simp [intOf]; omega
    · obtain rfl : k = n := by omega
      have FIN := Lib.hid (show GMade w G id (.returned (.pointer (some ⟨po, 0, none⟩))) wr from by
        obtain ⟨O5, D5, hC⟩ := HC0.out
        refine ⟨po, rfl, GrC.all (O := O5) (D := D5) (U := U) (V := V) ?_ HG.out.2, HB0.out⟩
        rw [HCT.out, HL.out]
        exact hC)
      clear HC0 HB0
      go_wp2
      go_ret
      exact FIN.out
end Go.Proofs.YtnmkieiehjajlaaGreatDoor
namespace Go.Proofs.YtnmkieiehjajlaaGreatDoor
open Go.RowKit

structure OutOf (G : Gr) (k : Nat) (L : List Hp) : Prop where
  up : Rises ltH L
  mem : ∀ h, h ∈ L ↔ ∃ x ∈ G.X, G.N[k]? = some x.fr ∧ h = ⟨x.lb, (idxT G.N x.to : Int)⟩
def OutP (w : World) (G : Gr) (k : Nat) (e : Ending) (w' : World) : Prop := ∃ v L, OutOf G k L ∧ e = .returned (.tuple #[v, .int .i64 0]) ∧ w'.ownsRow w.heap.size 36 2 v L.length (hpCells L) ∧ Below w.heap.size w w'
set_option maxHeartbeats 1000000 in
set_option maxRecDepth 20000 in
theorem outs_any (w : World) (p : Nat) (v : Value) (q2 : w.cell? ⟨p, 2, none⟩ = some v) : Calls Tryz.prog 42 #[.pointer (some ⟨p, 0, none⟩)] w (Only w v) := by
  go_enter Tryz.func42, Tryz.ntmps42
  go_wp2
  go_ret
  exact ⟨rfl, rfl⟩
set_option maxHeartbeats 2000000 in
set_option maxRecDepth 20000 in
theorem out_gr (w : World) (F : Nat → Prop) (p : Nat) (G : Gr) (h : GrS w F p G) (ok : GOk G) (k : Nat) (hk : k < G.N.length) : Calls Tryz.prog 13 #[.pointer (some ⟨p, 0, none⟩), .int .i64 k] w (OutP w G k) := by
  obtain ⟨U, V, ⟨O, ⟨r, nv, ov, iv, fo, fi⟩, hg, -⟩, ho⟩ := h
  have hf := ok.few
  have q1 : w.cell? ⟨p, 1, none⟩ = some (.map (some r)) := hg.blk.cell 1
  obtain ⟨nA, nc, e1, -, -⟩ := own_form hg.rn
  dsimp only at e1
  subst e1
  obtain ⟨og, oc, eo, -, co, -⟩ := row_get hg.ro hk
  dsimp only at eo co
  subst eo
  obtain ⟨Av, cA, eA, -, -⟩ := own_form (hg.fo k)
  dsimp only at eA
  have hrow := hg.fo k
  dsimp only at hrow
  rw [eA] at co hrow
  have hcl := clone_hp w Av cA (U k) (RowR.of_own hrow) (by have := (ho.len k).1; omega)
  have HO := Lib.hid (show OutOf G k (U k) from ⟨ho.up k, ho.um k⟩)
  obtain ⟨mm, hmm⟩ : ∃ m, (U k).length = m := ⟨_, rfl⟩
  rw [hmm] at hcl co
  obtain ⟨n, hn⟩ : ∃ n, G.N.length = n := ⟨_, rfl⟩
  have hn32 : n ≤ 32 := by omega
  rw [hn] at hk
  have q0 : w.cell? ⟨p, 0, none⟩ = some (.slice nA n nc) := by rw [← hn]; exact hg.blk.cell 0
  have q2 : w.cell? ⟨p, 2, none⟩ = some (.slice (some ⟨og, 0, none⟩) n oc) := by rw [← hn]; exact hg.blk.cell 2
  have HM := Lib.hid hmm
  clear hg ho hrow eA hmm hn ok hf
  have hkI : (k : Int) < (n : Int) := by omega
  have eg : ∀ args w, (callFunc 42 args).run Tryz.prog w = .ok (.enter 42 args) w := Go.Proofs.enters_of Tryz.func42 (by kernel_rfl) rfl
  have hops : Calls Tryz.prog 41 #[.pointer (some ⟨p, 0, none⟩), .int .i64 k, .func (.func 42) #[.pointer (some ⟨p, 0, none⟩)] #[]] w (OutP w G k) := by
    go_enter Tryz.func41, Tryz.ntmps41
    go_wp2_with fail
    refine (is_any w p r q1).mono ?_
    rintro e w' ⟨rfl, hw⟩
    subst w'
    go_wp2_with fail
    refine (outs_any w p _ q2).mono ?_
    rintro e w' ⟨rfl, hw⟩
    subst w'
    go_wp2_with fail
    refine hcl.mono ?_
    rintro e w' ⟨v, rfl, o, b⟩
    have FIN := Lib.hid (show OutP w G k (.returned (.tuple #[v, .int .i64 0])) w' from ⟨v, U k, HO.out, rfl, o, b⟩)
    clear o b hcl
    go_wp2
    refine bodyPost_ret (v := .tuple #[v, .int .i64 0]) (by simp [results, Tryz.f41, go_sem]) rfl FIN.out
  clear eg q0 q1 q2 co hcl
  go_enter Tryz.func13, Tryz.ntmps13
  go_wp2_with fail
  refine hops.mono ?_
  rintro e w' ⟨v, L, hL, rfl, o, b⟩
  have FIN := Lib.hid (show OutP w G k (.returned (.tuple #[v, .int .i64 0])) w' from ⟨v, L, hL, rfl, o, b⟩)
  clear o b hL hops
  go_wp2
  refine bodyPost_ret (v := .tuple #[v, .int .i64 0]) (by simp [results, Tryz.f13, go_sem]) rfl FIN.out
end Go.Proofs.YtnmkieiehjajlaaGreatDoor
namespace Go.Proofs.YtnmkieiehjajlaaGreatDoor
open Go.RowKit

structure InOf (G : Gr) (k : Nat) (L : List Hp) : Prop where
  up : Rises ltH L
  mem : ∀ h, h ∈ L ↔ ∃ x ∈ G.X, G.N[k]? = some x.to ∧ h = ⟨x.lb, (idxT G.N x.fr : Int)⟩
def InP (w : World) (G : Gr) (k : Nat) (e : Ending) (w' : World) : Prop := ∃ v L, InOf G k L ∧ e = .returned (.tuple #[v, .int .i64 0]) ∧ w'.ownsRow w.heap.size 36 2 v L.length (hpCells L) ∧ Below w.heap.size w w'
set_option maxHeartbeats 1000000 in
set_option maxRecDepth 20000 in
theorem ins_any (w : World) (p : Nat) (v : Value) (q2 : w.cell? ⟨p, 3, none⟩ = some v) : Calls Tryz.prog 43 #[.pointer (some ⟨p, 0, none⟩)] w (Only w v) := by
  go_enter Tryz.func43, Tryz.ntmps43
  go_wp2
  go_ret
  exact ⟨rfl, rfl⟩
set_option maxHeartbeats 2000000 in
set_option maxRecDepth 20000 in
theorem in_gr (w : World) (F : Nat → Prop) (p : Nat) (G : Gr) (h : GrS w F p G) (ok : GOk G) (k : Nat) (hk : k < G.N.length) : Calls Tryz.prog 14 #[.pointer (some ⟨p, 0, none⟩), .int .i64 k] w (InP w G k) := by
  obtain ⟨U, V, ⟨O, ⟨r, nv, ov, iv, fo, fi⟩, hg, -⟩, ho⟩ := h
  have hf := ok.few
  have q1 : w.cell? ⟨p, 1, none⟩ = some (.map (some r)) := hg.blk.cell 1
  obtain ⟨nA, nc, e1, -, -⟩ := own_form hg.rn
  dsimp only at e1
  subst e1
  obtain ⟨og, oc, eo, -, co, -⟩ := row_get hg.ri hk
  dsimp only at eo co
  subst eo
  obtain ⟨Av, cA, eA, -, -⟩ := own_form (hg.fi k)
  dsimp only at eA
  have hrow := hg.fi k
  dsimp only at hrow
  rw [eA] at co hrow
  have hcl := clone_hp w Av cA (V k) (RowR.of_own hrow) (by have := (ho.len k).2; omega)
  have HO := Lib.hid (show InOf G k (V k) from ⟨ho.vp k, ho.vm k⟩)
  obtain ⟨mm, hmm⟩ : ∃ m, (V k).length = m := ⟨_, rfl⟩
  rw [hmm] at hcl co
  obtain ⟨n, hn⟩ : ∃ n, G.N.length = n := ⟨_, rfl⟩
  have hn32 : n ≤ 32 := by omega
  rw [hn] at hk
  have q0 : w.cell? ⟨p, 0, none⟩ = some (.slice nA n nc) := by rw [← hn]; exact hg.blk.cell 0
  have q2 : w.cell? ⟨p, 3, none⟩ = some (.slice (some ⟨og, 0, none⟩) n oc) := by rw [← hn]; exact hg.blk.cell 3
  have HM := Lib.hid hmm
  clear hg ho hrow eA hmm hn ok hf
  have hkI : (k : Int) < (n : Int) := by omega
  have eg : ∀ args w, (callFunc 43 args).run Tryz.prog w = .ok (.enter 43 args) w := Go.Proofs.enters_of Tryz.func43 (by kernel_rfl) rfl
  have hops : Calls Tryz.prog 41 #[.pointer (some ⟨p, 0, none⟩), .int .i64 k, .func (.func 43) #[.pointer (some ⟨p, 0, none⟩)] #[]] w (InP w G k) := by
    go_enter Tryz.func41, Tryz.ntmps41
    go_wp2_with fail
    refine (is_any w p r q1).mono ?_
    rintro e w' ⟨rfl, hw⟩
    subst w'
    go_wp2_with fail
    refine (ins_any w p _ q2).mono ?_
    rintro e w' ⟨rfl, hw⟩
    subst w'
    go_wp2_with fail
    refine hcl.mono ?_
    rintro e w' ⟨v, rfl, o, b⟩
    have FIN := Lib.hid (show InP w G k (.returned (.tuple #[v, .int .i64 0])) w' from ⟨v, V k, HO.out, rfl, o, b⟩)
    clear o b hcl
    go_wp2
    refine bodyPost_ret (v := .tuple #[v, .int .i64 0]) (by simp [results, Tryz.f41, go_sem]) rfl FIN.out
  clear eg q0 q1 q2 co hcl
  go_enter Tryz.func14, Tryz.ntmps14
  go_wp2_with fail
  refine hops.mono ?_
  rintro e w' ⟨v, L, hL, rfl, o, b⟩
  have FIN := Lib.hid (show InP w G k (.returned (.tuple #[v, .int .i64 0])) w' from ⟨v, L, hL, rfl, o, b⟩)
  clear o b hL hops
  go_wp2
  refine bodyPost_ret (v := .tuple #[v, .int .i64 0]) (by simp [results, Tryz.f14, go_sem]) rfl FIN.out
def labO (N : List Txt) (E : List Ed) : List Txt := if checkI N E = 0 then setOf ltT (lbs E) else []
def LabP (w : World) (L : List Txt) (z : Int) (e : Ending) (w' : World) : Prop :=
  ∃ A c, e = .returned (.tuple #[.slice A L.length c, .int .i64 z]) ∧ w'.ownsRow w.heap.size 9 1 (.slice A L.length c) L.length (txtCells L) ∧ Below w.heap.size w w'
set_option maxHeartbeats 4000000 in
set_option maxRecDepth 100000 in
theorem elabels_any (w : World) (A : Option Addr) (c : Nat) (B : Option Addr) (d : Nat) (N : List Txt) (E : List Ed) (h : ForG w A c B d N E) :
    Calls Tryz.prog 39 #[twoV A N.length c B E.length d] w (LabP w (labO N E) (checkI N E)) := by
  have k0 := Blk.new w 54 #[.slice A N.length c, .slice B E.length d]
  have u0 : Below w.heap.size w (w.alloc (.cells #[.slice A N.length c, .slice B E.length d] 54)) := (Below.refl _ _).alloc (Nat.le_refl _) _
  have H := Lib.hid (And.intro (h.below u0) (And.intro k0 u0))
  clear h k0 u0
  obtain ⟨z, hz⟩ : ∃ z, checkI N E = z := ⟨_, rfl⟩
  have HZ := Lib.hid hz
  clear hz
  unfold twoV
  go_enter Tryz.func39, Tryz.ntmps39
  go_upto_region 1 with (fail)
  generalize w.alloc (.cells #[.slice A N.length c, .slice B E.length d] 54) = W0 at H ⊢
  have q0 : W0.cell? ⟨w.heap.size, 0, none⟩ = some (.slice A N.length c) := H.out.2.1.cell 0
  have q1 : W0.cell? ⟨w.heap.size, 1, none⟩ = some (.slice B E.length d) := H.out.2.1.cell 1
  go_wp2_with fail
  refine (echeck_any W0 A c B d N E H.out.1).mono ?_
  rintro e W1 ⟨rfl, b1⟩
  rw [HZ.out]
  have k := H.out.2.1.upd (Upd.of_below b1 (fun _ => False)) id
  have H1 := Lib.hid (And.intro (H.out.1.below b1) (H.out.2.2.trans (b1.mono H.out.2.2.size)))
  clear q0 q1 b1
  by_cases h0 : z = 0
  · subst h0
    have q0 : W1.cell? ⟨w.heap.size, 0, none⟩ = some (.slice A N.length c) := k.cell 0
    have q1 : W1.cell? ⟨w.heap.size, 1, none⟩ = some (.slice B E.length d) := k.cell 1
    clear k
    go_wp2_with fail
    refine (labels_any W1 A c B d N E H1.out.1).mono ?_
    rintro e W2 ⟨M, hM, hlen, v, rfl, own2, b2⟩
    have eM : M = labO N E := by rw [labO, if_pos HZ.out]; exact hM.is stoT
    subst eM
    clear hM hlen
    obtain ⟨A4, c4, rfl, -, -⟩ := own_form own2
    have FIN := Lib.hid (show LabP w (labO N E) (checkI N E) (.returned (.tuple #[.slice A4 (labO N E).length c4, .int .i64 0])) W2 from ⟨A4, c4, by rw [HZ.out], ownsRow_base own2 (fun q hq => by have := (own2.lt q hq).1; have := H1.out.2.size; omega), H1.out.2.trans (b2.mono H1.out.2.size)⟩)
    clear own2 b2
    go_wp2
    refine bodyPost_ret (v := .tuple #[.slice A4 (labO N E).length c4, .int .i64 0]) (by simp [results, Tryz.f39, go_sem]) rfl FIN.out
  · have h0I : (z == 0) = false := by simpa using h0
    have e1 : labO N E = [] := by rw [labO, if_neg (by rw [HZ.out]; exact h0)]
    have FIN := Lib.hid (show LabP w (labO N E) (checkI N E) (.returned (.tuple #[.slice none 0 0, .int .i64 z])) W1 from by
      rw [e1, HZ.out]
      exact ⟨none, 0, rfl, World.ownsRow_nil _ _ _ _, H1.out.2⟩)
    clear e1 h0 k
    go_wp2
    refine bodyPost_ret (v := .tuple #[.slice none 0 0, .int .i64 z]) (by simp [results, Tryz.f39, go_sem]) rfl FIN.out
set_option maxHeartbeats 1000000 in
set_option maxRecDepth 20000 in
theorem len_gr (w : World) (F : Nat → Prop) (p : Nat) (G : Gr) (h : GrS w F p G) : Calls Tryz.prog 10 #[.pointer (some ⟨p, 0, none⟩)] w (Sam w (.tuple #[.int .i64 (G.N.length : Nat), .int .i64 (G.X.length : Nat)])) := by
  obtain ⟨U, V, ⟨O, ⟨r, nv, ov, iv, fo, fi⟩, hg, -⟩, -⟩ := h
  have q1 : w.cell? ⟨p, 1, none⟩ = some (.map (some r)) := hg.blk.cell 1
  obtain ⟨nA, nc, e1, -, -⟩ := own_form hg.rn
  dsimp only at e1
  subst e1
  have q0 : w.cell? ⟨p, 0, none⟩ = some (.slice nA G.N.length nc) := hg.blk.cell 0
  have q4 : w.cell? ⟨p, 4, none⟩ = some (.int .i64 (G.X.length : Int)) := hg.blk.cell 4
  clear hg
  generalize G.N.length = a at q0 ⊢
  generalize ((G.X.length : Nat) : Int) = b at q4 ⊢
  go_enter Tryz.func10, Tryz.ntmps10
  go_wp2_with fail
  refine (is_any w p r q1).mono ?_
  rintro e w' ⟨rfl, hw⟩
  subst w'
  go_upto_region 3 with (fail)
  go_quiet (fail)
  go_wp2
  refine bodyPost_ret (v := .tuple #[.int .i64 (a : Int), .int .i64 b]) (by simp [results, Tryz.f10, go_sem]) rfl ⟨rfl, ((Upd.refl (fun _ => False) w).drewN _).below (fun _ _ h => h.elim) (Nat.le_refl _)⟩
end Go.Proofs.YtnmkieiehjajlaaGreatDoor
