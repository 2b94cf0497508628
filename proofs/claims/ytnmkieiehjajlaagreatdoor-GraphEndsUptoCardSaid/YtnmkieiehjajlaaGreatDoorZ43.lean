/- GraphEnds: the walk. (Written by mkGeB.py.). -/
import Derived.Test.YtnmkieiehjajlaaGreatDoorZ42
import Derived.Test.YtnmkieiehjajlaaGreatDoorZ41
import Derived.Test.YtnmkieiehjajlaaGreatDoorZ33
import Derived.Test.YtnmkieiehjajlaaGreatDoorZ25
import Derived.Test.YtnmkieiehjajlaaGreatDoorZ31
import Derived.Test.YtnmkieiehjajlaaGreatDoorZ05
import Derived.Deep.Cut
set_option linter.unusedVariables false
set_option linter.unusedSimpArgs false
namespace Go.Proofs.YtnmkieiehjajlaaGreatDoor
open Go.RowKit Go.Shelf
attribute [local go_sem] Oper.semAt_some

theorem grwE_len : ∀ (L : List Ed) (s : Gr × Nat), (L.foldl stepC s).1.X.length + s.2 = s.1.X.length + (L.foldl stepC s).2
  | [], s => rfl
  | x :: L, s => by
    have h := grwE_len L (stepC s x)
    rw [List.foldl_cons]
    have : (stepC s x).1.X.length + s.2 = s.1.X.length + (stepC s x).2 := by
      unfold stepC addEdge
      split
      · simp
      · split
        · simp; omega
        · simp
    omega
theorem grwN_X : ∀ (M : List Txt) (G : Gr), (grwN G M).X = G.X
  | [], _ => rfl
  | s :: M, G => by
    have h := grwN_X M (addNode G s).1
    have h2 := (addNode_said G s).2.2.2.2.1
    unfold grwN at h ⊢
    rw [List.foldl_cons, h, h2]
theorem grown_cnt (L : List Ed) (M : List Txt) : (grwE L).2 = (grwN (grwE L).1 M).X.length := by
  rw [grwN_X]
  have := grwE_len L (⟨[], []⟩, 0)
  unfold grwE
  simp only [List.length_nil] at this
  omega

/-- A post that no panic reaches. -/
def noPan (Q : Exit → Act → World → Prop) : Exit → Act → World → Prop
  | .panic _, _, _ => False
  | e, a, w => Q e a w
theorem wp_noPan {P : Program} {c : Code} {Q : Exit → Act → World → Prop} {a : Act} {w : World} (h : c.wp P (noPan Q) a w) : c.wp P Q a w := fun b k cs => by
  obtain ⟨e, a', w', hq, ha⟩ := h b k cs
  refine ⟨e, a', w', ?_, ha⟩
  cases e <;> first | exact hq | exact hq.elim

/-- While names and labels are asked for, and two variables come. -/
structure LbI (W6 : World) (N L : List Txt) (n m : Nat) (V : World) (d1 d3 : Option (Option Addr × Nat)) (a4 a5 : Option Nat) : Prop where
  b : Below W6.heap.size W6 V
  h4 : ∀ g, a4 = some g → W6.heap.size ≤ g ∧ Blk V g 22 #[.slice none 0 0]
  h5 : ∀ g, a5 = some g → W6.heap.size ≤ g ∧ Blk V g 22 #[.slice none 0 0]
  ne : ∀ g g', a4 = some g → a5 = some g' → g ≠ g'
  h1 : ∀ A c, d1 = some (A, c) → V.ownsRow W6.heap.size 9 1 (.slice A n c) n (txtCells N)
  h3 : ∀ A c, d3 = some (A, c) → V.ownsRow W6.heap.size 9 1 (.slice A m c) m (txtCells L)
theorem LbI.below {W6 V V' : World} {N L : List Txt} {n m : Nat} {d1 d3 : Option (Option Addr × Nat)} {a4 a5 : Option Nat} (h : LbI W6 N L n m V d1 d3 a4 a5) (hb : Below V.heap.size V V') : LbI W6 N L n m V' d1 d3 a4 a5 :=
  have hu := Upd.of_below hb (fun _ => False)
  ⟨h.b.trans (hb.mono h.b.size), fun g e => ⟨(h.h4 g e).1, (h.h4 g e).2.upd hu id⟩, fun g e => ⟨(h.h5 g e).1, (h.h5 g e).2.upd hu id⟩, h.ne, fun A c e => ownsRow_upd (h.h1 A c e) hu (fun _ _ => id), fun A c e => ownsRow_upd (h.h3 A c e) hu (fun _ _ => id)⟩
theorem LbI.new4 {W6 V : World} {N L : List Txt} {n m : Nat} {d1 d3 : Option (Option Addr × Nat)} {a5 : Option Nat} (h : LbI W6 N L n m V d1 d3 none a5) : LbI W6 N L n m (V.alloc (.cells #[.slice none 0 0] 22)) d1 d3 (some V.heap.size) a5 := by
  have h2 := h.below ((Below.refl V.heap.size V).alloc (Nat.le_refl _) (.cells #[.slice none 0 0] 22))
  refine ⟨h2.b, fun g e => ?_, h2.h5, fun g g' e e' => ?_, h2.h1, h2.h3⟩
  · injection e with e; subst e
    exact ⟨h.b.size, Blk.new V _ _⟩
  · injection e with e; subst e
    have := (h.h5 g' e').2.lt
    omega
theorem LbI.new5 {W6 V : World} {N L : List Txt} {n m : Nat} {d1 d3 : Option (Option Addr × Nat)} {a4 : Option Nat} (h : LbI W6 N L n m V d1 d3 a4 none) : LbI W6 N L n m (V.alloc (.cells #[.slice none 0 0] 22)) d1 d3 a4 (some V.heap.size) := by
  have h2 := h.below ((Below.refl V.heap.size V).alloc (Nat.le_refl _) (.cells #[.slice none 0 0] 22))
  refine ⟨h2.b, h2.h4, fun g e => ?_, fun g g' e e' => ?_, h2.h1, h2.h3⟩
  · injection e with e; subst e
    exact ⟨h.b.size, Blk.new V _ _⟩
  · injection e' with e'; subst e'
    have := (h.h4 g e).2.lt
    omega
theorem LbI.row1 {W6 V V' : World} {N L : List Txt} {n m c : Nat} {A : Option Addr} {d1 d3 : Option (Option Addr × Nat)} {a4 a5 : Option Nat} (h : LbI W6 N L n m V d1 d3 a4 a5) (hb : Below V.heap.size V V') (o : V'.ownsRow V.heap.size 9 1 (.slice A n c) n (txtCells N)) : LbI W6 N L n m V' (some (A, c)) d3 a4 a5 := by
  have h2 := h.below hb
  refine ⟨h2.b, h2.h4, h2.h5, h2.ne, fun A' c' e => ?_, h2.h3⟩
  injection e with e
  injection e with e1 e2
  subst e1; subst e2
  exact ownsRow_base o (fun k hk => Nat.le_trans h.b.size (o.lt k hk).1)
theorem LbI.row3 {W6 V V' : World} {N L : List Txt} {n m c : Nat} {A : Option Addr} {d1 d3 : Option (Option Addr × Nat)} {a4 a5 : Option Nat} (h : LbI W6 N L n m V d1 d3 a4 a5) (hb : Below V.heap.size V V') (o : V'.ownsRow V.heap.size 9 1 (.slice A m c) m (txtCells L)) : LbI W6 N L n m V' d1 (some (A, c)) a4 a5 := by
  have h2 := h.below hb
  refine ⟨h2.b, h2.h4, h2.h5, h2.ne, h2.h1, fun A' c' e => ?_⟩
  injection e with e
  injection e with e1 e2
  subst e1; subst e2
  exact ownsRow_base o (fun k hk => Nat.le_trans h.b.size (o.lt k hk).1)
/-- Names and labels as they lie in their variables. -/
def LbE (W6 : World) (N L : List Txt) (n m : Nat) (V : World) (g9 g10 : Nat) : Prop :=
  Below W6.heap.size W6 V ∧ W6.heap.size ≤ g9 ∧ W6.heap.size ≤ g10 ∧ ∃ A c A' c', Blk V g9 22 #[.slice A n c] ∧ Blk V g10 22 #[.slice A' m c'] ∧ V.ownsRow W6.heap.size 9 1 (.slice A n c) n (txtCells N) ∧ V.ownsRow W6.heap.size 9 1 (.slice A' m c') m (txtCells L)
theorem own_ne {w : World} {base e size n g : Nat} {t : TypeId} {v : Value} {xs : List Value} {cs : Array Value} (h : w.ownsRow base e size v n xs) (hb : Blk w g t cs) (ht : e ≠ t) : ∀ k, v.ownBlock = some k → k ≠ g := by
  rintro k hk rfl
  rcases h.2 with ⟨rfl, -, -⟩ | ⟨g', cap, cur, rfl, -, hg, -⟩
  · cases hk
  · injection hk with hk
    subst hk
    rw [show w.heap[g']? = _ from hb] at hg
    injection hg with hg
    injection hg with _ hg
    exact ht hg.symm
theorem LbI.stored {W6 V : World} {N L : List Txt} {n m c c' g9 g10 : Nat} {A A' : Option Addr} (h : LbI W6 N L n m V (some (A, c)) (some (A', c')) (some g9) (some g10)) : LbE W6 N L n m ((V.setCell ⟨g9, 0, none⟩ (.slice A n c)).setCell ⟨g10, 0, none⟩ (.slice A' m c')) g9 g10 := by
  obtain ⟨z9, k9⟩ := h.h4 g9 rfl
  obtain ⟨z10, k10⟩ := h.h5 g10 rfl
  have hne := h.ne g9 g10 rfl rfl
  have o1 := h.h1 A c rfl
  have o3 := h.h3 A' c' rfl
  have hu : Upd (fun q => q = g9 ∨ q = g10) V ((V.setCell ⟨g9, 0, none⟩ (.slice A n c)).setCell ⟨g10, 0, none⟩ (.slice A' m c')) := ((Upd.refl _ V).setCell (p := ⟨g9, 0, none⟩) (.inl (.inl rfl)) _).setCell (p := ⟨g10, 0, none⟩) (.inl (.inr rfl)) _
  have m9 := (k9.set 0 (.slice A n c)).far (p := ⟨g10, 0, none⟩) hne (.slice A' m c')
  have m10 := (k10.far (p := ⟨g9, 0, none⟩) (Ne.symm hne) (.slice A n c)).set 0 (.slice A' m c')
  have n1 := own_ne o1 k9 (by decide)
  have n2 := own_ne o1 k10 (by decide)
  have n3 := own_ne o3 k9 (by decide)
  have n4 := own_ne o3 k10 (by decide)
  exact ⟨h.b.trans (hu.below (fun i _ e => by rcases e with rfl | rfl <;> omega) h.b.size), z9, z10, A, c, A', c', m9, m10, ownsRow_upd o1 hu (fun k hk e => e.elim (n1 k hk) (n2 k hk)), ownsRow_upd o3 hu (fun k hk e => e.elim (n3 k hk) (n4 k hk))⟩

/-- What stands in the walk: the graph, its variable, how many nodes, the answer's variable. -/
structure EnS (w : World) (F1 : Nat → Prop) (p : Nat) (G : Gr) (n g4 g5 g7 : Nat) (W : World) : Prop where
  gr : GrS W F1 p G
  k4 : Blk W g4 4 #[.bool false]
  k5 : Blk W g5 25 #[.pointer (some ⟨p, 0, none⟩)]
  k7 : Blk W g7 3 #[.int .i64 (n : Int)]
  b : Below w.heap.size w W
  tb : TabW W
theorem EnS.upd {w W W' : World} {F1 Q : Nat → Prop} {p n g4 g5 g7 : Nat} {G : Gr} (h : EnS w F1 p G n g4 g5 g7 W) (hu : Upd Q W W') (hF : ∀ k, F1 k → ¬ Q k) (h4 : ¬ Q g4) (h5 : ¬ Q g5) (h7 : ¬ Q g7) (hT : ¬ Q 1) (hQ : ∀ k, Q k → w.heap.size ≤ k) : EnS w F1 p G n g4 g5 g7 W' :=
  ⟨h.gr.upd hu hF, h.k4.upd hu h4, h.k5.upd hu h5, h.k7.upd hu h7, h.b.trans (hu.below (fun i _ hi => hQ i hi) h.b.size), h.tb.upd hu h.tb.lt hT⟩
theorem EnS.below {w W W' : World} {F1 : Nat → Prop} {p n g4 g5 g7 : Nat} {G : Gr} (h : EnS w F1 p G n g4 g5 g7 W) (hb : Below W.heap.size W W') : EnS w F1 p G n g4 g5 g7 W' :=
  h.upd (Upd.of_below hb (fun _ => False)) (fun _ _ => id) id id id id (fun _ h => h.elim)

/-- The blocks of what stands. -/
def EnO (F1 : Nat → Prop) (g4 g5 g7 g9 g10 : Nat) (NA LA : Option Addr) (k : Nat) : Prop :=
  F1 k ∨ k = g4 ∨ k = g5 ∨ k = g7 ∨ k = g9 ∨ k = g10 ∨ k = 1 ∨ (∃ a, NA = some a ∧ k = a.block) ∨ (∃ a, LA = some a ∧ k = a.block)
structure EnM (w : World) (F1 : Nat → Prop) (p : Nat) (G : Gr) (LB : List Txt) (n m g4 g5 g7 g9 g10 : Nat) (NA LA : Option Addr) (Nc Lc : Nat) (W : World) : Prop where
  s : EnS w F1 p G n g4 g5 g7 W
  k9 : Blk W g9 22 #[.slice NA n Nc]
  k10 : Blk W g10 22 #[.slice LA m Lc]
  o9 : W.ownsRow w.heap.size 9 1 (.slice NA n Nc) n (txtCells G.N)
  o10 : W.ownsRow w.heap.size 9 1 (.slice LA m Lc) m (txtCells LB)
section
variable {w W W' : World} {F1 Q : Nat → Prop} {p n m g4 g5 g7 g9 g10 Nc Lc : Nat} {G : Gr} {LB : List Txt} {NA LA : Option Addr}
theorem EnM.upd (h : EnM w F1 p G LB n m g4 g5 g7 g9 g10 NA LA Nc Lc W) (hu : Upd Q W W') (hQ : ∀ k, EnO F1 g4 g5 g7 g9 g10 NA LA k → ¬ Q k) (hw : ∀ k, Q k → w.heap.size ≤ k) : EnM w F1 p G LB n m g4 g5 g7 g9 g10 NA LA Nc Lc W' := by
  refine ⟨h.s.upd hu (fun k hk => hQ k (.inl hk)) (hQ _ (.inr (.inl rfl))) (hQ _ (.inr (.inr (.inl rfl)))) (hQ _ (.inr (.inr (.inr (.inl rfl))))) (hQ _ (.inr (.inr (.inr (.inr (.inr (.inr (.inl rfl)))))))) hw, h.k9.upd hu (hQ _ (.inr (.inr (.inr (.inr (.inl rfl)))))), h.k10.upd hu (hQ _ (.inr (.inr (.inr (.inr (.inr (.inl rfl))))))), ownsRow_upd h.o9 hu (fun k hk => hQ k ?_), ownsRow_upd h.o10 hu (fun k hk => hQ k ?_)⟩
  · cases NA with
    | none => cases hk
    | some a =>
      obtain ⟨b, o, q⟩ := a
      refine .inr (.inr (.inr (.inr (.inr (.inr (.inr (.inl ⟨_, rfl, ?_⟩)))))))
      cases q <;> cases o <;> simp [Value.ownBlock] at hk ⊢ <;> first | exact hk.symm | omega
  · cases LA with
    | none => cases hk
    | some a =>
      obtain ⟨b, o, q⟩ := a
      refine .inr (.inr (.inr (.inr (.inr (.inr (.inr (.inr ⟨_, rfl, ?_⟩)))))))
      cases q <;> cases o <;> simp [Value.ownBlock] at hk ⊢ <;> first | exact hk.symm | omega
theorem EnM.below (h : EnM w F1 p G LB n m g4 g5 g7 g9 g10 NA LA Nc Lc W) (hb : Below W.heap.size W W') : EnM w F1 p G LB n m g4 g5 g7 g9 g10 NA LA Nc Lc W' :=
  h.upd (Upd.of_below hb (fun _ => False)) (fun _ _ => id) (fun _ h => h.elim)
theorem EnM.lt (h : EnM w F1 p G LB n m g4 g5 g7 g9 g10 NA LA Nc Lc W) : ∀ k, EnO F1 g4 g5 g7 g9 g10 NA LA k → k < W.heap.size := by
  rintro k (hk | rfl | rfl | rfl | rfl | rfl | rfl | ⟨a, rfl, rfl⟩ | ⟨a, rfl, rfl⟩)
  · exact h.s.gr.lt k hk
  · exact h.s.k4.lt
  · exact h.s.k5.lt
  · exact h.s.k7.lt
  · exact h.k9.lt
  · exact h.k10.lt
  · exact h.s.tb.lt
  · rcases h.o9.2 with h0 | ⟨g', cap, cur, e, -, hg, -⟩
    · have h1 := h0.1
      injection h1 with h1
      cases h1
    · injection e with e
      injection e with e
      subst e
      exact (Array.getElem?_eq_some_iff.1 hg).1
  · rcases h.o10.2 with h0 | ⟨g', cap, cur, e, -, hg, -⟩
    · have h1 := h0.1
      injection h1 with h1
      cases h1
    · injection e with e
      injection e with e
      subst e
      exact (Array.getElem?_eq_some_iff.1 hg).1
theorem EnM.name (h : EnM w F1 p G LB n m g4 g5 g7 g9 g10 NA LA Nc Lc W) {j : Nat} {s : Txt} (hj : G.N[j]? = some s) (hn : G.N.length = n) : ∃ gN, NA = some ⟨gN, 0, none⟩ ∧ W.cell? ⟨gN, j, none⟩ = some (.string s) := by
  have hl := (List.getElem?_eq_some_iff.1 hj).1
  obtain ⟨gN, cc, e, -, -, -, -, hcell⟩ := own_cells h.o9 (by omega)
  injection e with e
  exact ⟨gN, e, (hcell j _ (by simp [txtCells, hj])).1⟩
theorem EnM.label (h : EnM w F1 p G LB n m g4 g5 g7 g9 g10 NA LA Nc Lc W) {j : Nat} {s : Txt} (hj : LB[j]? = some s) (hm : LB.length = m) : ∃ gL, LA = some ⟨gL, 0, none⟩ ∧ W.cell? ⟨gL, j, none⟩ = some (.string s) := by
  have hl := (List.getElem?_eq_some_iff.1 hj).1
  obtain ⟨gL, cc, e, -, -, -, -, hcell⟩ := own_cells h.o10 (by omega)
  injection e with e
  exact ⟨gL, e, (hcell j _ (by simp [txtCells, hj])).1⟩
end
theorem ends_ok {G : Gr} (ok : GOk G) {x : Ed} (hx : x ∈ G.X) : TxtOk x.fr ∧ TxtOk x.to := by
  have hc := check_made ok.may
  have hs := Short.of (check_caps hc).2.1
  have := hs.e x (gE_mem.2 hx)
  unfold TxtOk
  omega

theorem form224 {T : Array Value} (h : T.size = 224) : T = #[T.getD 0 undef, T.getD 1 undef, T.getD 2 undef, T.getD 3 undef, T.getD 4 undef, T.getD 5 undef, T.getD 6 undef, T.getD 7 undef, T.getD 8 undef, T.getD 9 undef, T.getD 10 undef, T.getD 11 undef, T.getD 12 undef, T.getD 13 undef, T.getD 14 undef, T.getD 15 undef, T.getD 16 undef, T.getD 17 undef, T.getD 18 undef, T.getD 19 undef, T.getD 20 undef, T.getD 21 undef, T.getD 22 undef, T.getD 23 undef, T.getD 24 undef, T.getD 25 undef, T.getD 26 undef, T.getD 27 undef, T.getD 28 undef, T.getD 29 undef, T.getD 30 undef, T.getD 31 undef, T.getD 32 undef, T.getD 33 undef, T.getD 34 undef, T.getD 35 undef, T.getD 36 undef, T.getD 37 undef, T.getD 38 undef, T.getD 39 undef, T.getD 40 undef, T.getD 41 undef, T.getD 42 undef, T.getD 43 undef, T.getD 44 undef, T.getD 45 undef, T.getD 46 undef, T.getD 47 undef, T.getD 48 undef, T.getD 49 undef, T.getD 50 undef, T.getD 51 undef, T.getD 52 undef, T.getD 53 undef, T.getD 54 undef, T.getD 55 undef, T.getD 56 undef, T.getD 57 undef, T.getD 58 undef, T.getD 59 undef, T.getD 60 undef, T.getD 61 undef, T.getD 62 undef, T.getD 63 undef, T.getD 64 undef, T.getD 65 undef, T.getD 66 undef, T.getD 67 undef, T.getD 68 undef, T.getD 69 undef, T.getD 70 undef, T.getD 71 undef, T.getD 72 undef, T.getD 73 undef, T.getD 74 undef, T.getD 75 undef, T.getD 76 undef, T.getD 77 undef, T.getD 78 undef, T.getD 79 undef, T.getD 80 undef, T.getD 81 undef, T.getD 82 undef, T.getD 83 undef, T.getD 84 undef, T.getD 85 undef, T.getD 86 undef, T.getD 87 undef, T.getD 88 undef, T.getD 89 undef, T.getD 90 undef, T.getD 91 undef, T.getD 92 undef, T.getD 93 undef, T.getD 94 undef, T.getD 95 undef, T.getD 96 undef, T.getD 97 undef, T.getD 98 undef, T.getD 99 undef, T.getD 100 undef, T.getD 101 undef, T.getD 102 undef, T.getD 103 undef, T.getD 104 undef, T.getD 105 undef, T.getD 106 undef, T.getD 107 undef, T.getD 108 undef, T.getD 109 undef, T.getD 110 undef, T.getD 111 undef, T.getD 112 undef, T.getD 113 undef, T.getD 114 undef, T.getD 115 undef, T.getD 116 undef, T.getD 117 undef, T.getD 118 undef, T.getD 119 undef, T.getD 120 undef, T.getD 121 undef, T.getD 122 undef, T.getD 123 undef, T.getD 124 undef, T.getD 125 undef, T.getD 126 undef, T.getD 127 undef, T.getD 128 undef, T.getD 129 undef, T.getD 130 undef, T.getD 131 undef, T.getD 132 undef, T.getD 133 undef, T.getD 134 undef, T.getD 135 undef, T.getD 136 undef, T.getD 137 undef, T.getD 138 undef, T.getD 139 undef, T.getD 140 undef, T.getD 141 undef, T.getD 142 undef, T.getD 143 undef, T.getD 144 undef, T.getD 145 undef, T.getD 146 undef, T.getD 147 undef, T.getD 148 undef, T.getD 149 undef, T.getD 150 undef, T.getD 151 undef, T.getD 152 undef, T.getD 153 undef, T.getD 154 undef, T.getD 155 undef, T.getD 156 undef, T.getD 157 undef, T.getD 158 undef, T.getD 159 undef, T.getD 160 undef, T.getD 161 undef, T.getD 162 undef, T.getD 163 undef, T.getD 164 undef, T.getD 165 undef, T.getD 166 undef, T.getD 167 undef, T.getD 168 undef, T.getD 169 undef, T.getD 170 undef, T.getD 171 undef, T.getD 172 undef, T.getD 173 undef, T.getD 174 undef, T.getD 175 undef, T.getD 176 undef, T.getD 177 undef, T.getD 178 undef, T.getD 179 undef, T.getD 180 undef, T.getD 181 undef, T.getD 182 undef, T.getD 183 undef, T.getD 184 undef, T.getD 185 undef, T.getD 186 undef, T.getD 187 undef, T.getD 188 undef, T.getD 189 undef, T.getD 190 undef, T.getD 191 undef, T.getD 192 undef, T.getD 193 undef, T.getD 194 undef, T.getD 195 undef, T.getD 196 undef, T.getD 197 undef, T.getD 198 undef, T.getD 199 undef, T.getD 200 undef, T.getD 201 undef, T.getD 202 undef, T.getD 203 undef, T.getD 204 undef, T.getD 205 undef, T.getD 206 undef, T.getD 207 undef, T.getD 208 undef, T.getD 209 undef, T.getD 210 undef, T.getD 211 undef, T.getD 212 undef, T.getD 213 undef, T.getD 214 undef, T.getD 215 undef, T.getD 216 undef, T.getD 217 undef, T.getD 218 undef, T.getD 219 undef, T.getD 220 undef, T.getD 221 undef, T.getD 222 undef, T.getD 223 undef] := by
  have e : T = ((List.range 224).map (fun i => T.getD i undef)).toArray := by
    apply Array.ext
    · simp [h]
    · intro i h1 h2
      simp [h1]
  exact e
theorem label_mem {G : Gr} {s : Txt} : s ∈ setOf ltT (lbs (datE G)) ↔ ∃ x ∈ G.X, x.lb = s := by
  rw [(setOf_is stoT _).mem s, lbs_mem]
  constructor
  · rintro ⟨x, hx, e⟩; exact ⟨x, gE_mem.1 hx, e⟩
  · rintro ⟨x, hx, e⟩; exact ⟨x, gE_mem.2 hx, e⟩
theorem eql_seq_nil (W : World) (f : Fn) (x y : Array Value) : (binOp .eql 43 (.func f x y) .nilFunc).run Tryz.prog W = .ok (.bool false) W := by
  have h : Tryz.prog.underlying 43 = some (.func #[119] #[] false) := by kernel_rfl
  have e9 : ∀ d, (Op.equalIn (d + 1) 43 (.func f x y) .nilFunc).run Tryz.prog W = .ok false W := fun d => by simp [Op.equalIn, run_underlying h]
  have e : (Op.equal 43 (.func f x y) .nilFunc).run Tryz.prog W = .ok false W := e9 9999
  simp only [binOp]
  simp [e]
/-- In the midst of the labels. -/
structure EnL (w : World) (F1 : Nat → Prop) (p : Nat) (G : Gr) (LB : List Txt) (n m g4 g5 g7 g9 g10 g13 : Nat) (NA LA : Option Addr) (Nc Lc : Nat) (k ga : Nat) (Ds : List Nat) (V : World) : Prop where
  m : EnM w F1 p G LB n m g4 g5 g7 g9 g10 NA LA Nc Lc V
  k13 : Blk V g13 3 #[.int .i64 ((sumK Ed.lb G.X LB k : Nat) : Int)]
  ka : Blk V ga 3 #[.int .i64 (k : Int)]
  za : g13 < ga
  nd : Ds.Nodup
  ds : ∀ D ∈ Ds, g13 < D ∧ V.heap[D]? = some (.deferred (some []))

theorem EnL.below {w W W' : World} {F1 : Nat → Prop} {p n m g4 g5 g7 g9 g10 g13 Nc Lc k ga : Nat} {G : Gr} {LB : List Txt} {NA LA : Option Addr} {Ds : List Nat} (h : EnL w F1 p G LB n m g4 g5 g7 g9 g10 g13 NA LA Nc Lc k ga Ds W) (hb : Below W.heap.size W W') : EnL w F1 p G LB n m g4 g5 g7 g9 g10 g13 NA LA Nc Lc k ga Ds W' :=
  have hu := Upd.of_below hb (fun _ => False)
  ⟨h.m.below hb, h.k13.upd hu id, h.ka.upd hu id, h.za, h.nd, fun D hD => ⟨(h.ds D hD).1, (hu.block D (Array.getElem?_eq_some_iff.1 (h.ds D hD).2).1 id).trans (h.ds D hD).2⟩⟩

set_option maxHeartbeats 16000000 in
set_option maxRecDepth 100000 in
theorem gends_any (w : World) (A : Option Addr) (c : Nat) (B : Option Addr) (d : Nat) (M : List Txt) (L : List Ed) (h : ForG w A c B d M L) (hT : TabW w) :
    Calls Tryz.prog 3 #[.slice A M.length c, .slice B L.length d] w (Sam w (.bool true)) := by
  have okG := grwN_ok M _ (grwE_ok L)
  have hcn := grown_cnt L M
  have hgr := fun W (hW : ForG W A c B d M L) => grown_any W A c B d M L hW
  obtain ⟨G, hG⟩ : ∃ G, grwN (grwE L).1 M = G := ⟨_, rfl⟩
  rw [hcn] at hgr
  rw [hG] at okG hgr
  clear hG hcn
  obtain ⟨n, hn⟩ : ∃ q, G.N.length = q := ⟨_, rfl⟩
  obtain ⟨cn, hcn⟩ : ∃ q, G.X.length = q := ⟨_, rfl⟩
  obtain ⟨LB, hLB⟩ : ∃ q, setOf ltT (lbs (datE G)) = q := ⟨_, rfl⟩
  obtain ⟨m, hm⟩ : ∃ q, LB.length = q := ⟨_, rfl⟩
  have hn32 : n ≤ 32 := by rw [← hn]; exact okG.few.1
  have hc256 : cn ≤ 256 := by rw [← hcn]; exact okG.few.2
  have hm256 : m ≤ 256 := by
    have h1 : LB.length ≤ (G.X.map Ed.lb).length := by
      rw [← hLB]
      exact len_sub ((setOf_is stoT _).up.nodup stoT) (fun s hs => by
        obtain ⟨x, hx, e⟩ := label_mem.1 hs
        exact List.mem_map.2 ⟨x, hx, e⟩)
    rw [List.length_map] at h1
    omega
  obtain ⟨mN, hmN⟩ : ∃ q, M.length = q := ⟨_, rfl⟩
  obtain ⟨mL, hmL⟩ : ∃ q, L.length = q := ⟨_, rfl⟩
  have k4 := Blk.new w 4 #[.bool false]
  have bx : Below w.heap.size w (w.alloc (.cells #[.bool false] 4)) := (Below.refl _ _).alloc (Nat.le_refl _) _
  have tb := hT.upd (Upd.of_below bx (fun _ => False)) hT.lt id
  have H := Lib.hid (And.intro (h.below bx) (And.intro k4 (And.intro bx tb)))
  rw [hmN, hmL] at hgr ⊢
  rw [hcn] at hgr
  have HG := Lib.hid (And.intro okG (And.intro hn (And.intro hcn (And.intro hLB hm))))
  clear h k4 bx tb hT hmN hmL okG hn hcn hLB hm
  refine (callsIn_wide (n := 1)).1 ?_
  refine callsIn_of_wp_marks Tryz.func3 rfl trivial ?_ rfl
  simp only [Tryz.ntmps3, List.size_toArray, List.length_cons, List.length_nil, Nat.reduceAdd, Nat.reduceSub, Array.replicate_succ, Array.replicate_zero, List.push_toArray, List.append_toArray, List.nil_append, List.cons_append]
  refine wpIn_wide.2 ?_
  go_upto_region 1 with (fail)
  generalize w.alloc (.cells #[.bool false] 4) = W0 at H ⊢
  by_cases hbig : mL ≤ 300 ∧ mN ≤ 100
  rotate_left
  · clear hgr
    by_cases hm3 : mL ≤ 300
    · have h100 : ¬ (mN ≤ 100) := fun e => hbig ⟨hm3, e⟩
      have t1 : ¬ ((300 : Int) < (mL : Int)) := by omega
      have t2 : (100 : Int) < (mN : Int) := by omega
      go_wp2_with fail
      refine (gawake_any W0).mono ?_
      rintro e W9 ⟨rfl, b9⟩
      have k4 := H.out.2.1.upd (Upd.of_below b9 (fun _ => False)) id
      have c4 : W9.cell? ⟨w.heap.size, 0, none⟩ = some (.bool false) := k4.cell 0
      have f4 := k4.frozen 0
      have b4 := (H.out.2.2.1.trans (b9.mono H.out.2.2.1.size)).setCell (p := ⟨w.heap.size, 0, none⟩) (Nat.le_refl _) (.bool true)
      have k4s := (k4.set 0 (.bool true)).cell 0
      simp only [List.setIfInBounds_toArray, List.set_cons_zero, List.getElem?_toArray, List.getElem?_cons_zero] at k4s
      have FIN := Lib.hid b4
      clear b9 k4 b4
      go_wp2
      refine ⟨.bool true, by simp [results, Tryz.f3, go_sem, k4s], rfl, FIN.out⟩
    · have t1 : (300 : Int) < (mL : Int) := by omega
      go_wp2_with fail
      refine (gawake_any W0).mono ?_
      rintro e W9 ⟨rfl, b9⟩
      have k4 := H.out.2.1.upd (Upd.of_below b9 (fun _ => False)) id
      have c4 : W9.cell? ⟨w.heap.size, 0, none⟩ = some (.bool false) := k4.cell 0
      have f4 := k4.frozen 0
      have b4 := (H.out.2.2.1.trans (b9.mono H.out.2.2.1.size)).setCell (p := ⟨w.heap.size, 0, none⟩) (Nat.le_refl _) (.bool true)
      have k4s := (k4.set 0 (.bool true)).cell 0
      simp only [List.setIfInBounds_toArray, List.set_cons_zero, List.getElem?_toArray, List.getElem?_cons_zero] at k4s
      have FIN := Lib.hid b4
      clear b9 k4 b4
      go_wp2
      refine ⟨.bool true, by simp [results, Tryz.f3, go_sem, k4s], rfl, FIN.out⟩
  obtain ⟨hm3, hn1⟩ := hbig
  have t1 : ¬ ((300 : Int) < (mL : Int)) := by omega
  have t2 : ¬ ((100 : Int) < (mN : Int)) := by omega
  go_wp2_with fail
  refine (hgr W0 H.out.1).mono ?_
  clear hgr
  rintro e W1 ⟨p, rfl, ⟨F1, g1, nF⟩, b1⟩
  have k5 := Blk.new W1 25 #[.pointer (some ⟨p, 0, none⟩)]
  have b5 : Below W1.heap.size W1 (W1.alloc (.cells #[.pointer (some ⟨p, 0, none⟩)] 25)) := (Below.refl _ _).alloc (Nat.le_refl _) _
  have H1 := Lib.hid (show GrS (W1.alloc (.cells #[.pointer (some ⟨p, 0, none⟩)] 25)) F1 p G ∧ (∀ k, F1 k → W0.heap.size ≤ k ∧ k < W1.heap.size) ∧ Blk (W1.alloc (.cells #[.pointer (some ⟨p, 0, none⟩)] 25)) W1.heap.size 25 #[.pointer (some ⟨p, 0, none⟩)] ∧ Blk (W1.alloc (.cells #[.pointer (some ⟨p, 0, none⟩)] 25)) w.heap.size 4 #[.bool false] ∧ Below w.heap.size w (W1.alloc (.cells #[.pointer (some ⟨p, 0, none⟩)] 25)) ∧ TabW (W1.alloc (.cells #[.pointer (some ⟨p, 0, none⟩)] 25)) ∧ w.heap.size < W1.heap.size from by
    have b15 := b1.trans (b5.mono b1.size)
    have hu := Upd.of_below b15 (fun _ => False)
    have := H.out.2.1.lt
    have z1 := b1.size
    exact ⟨g1.below b5, fun k hk => ⟨nF k hk, g1.lt k hk⟩, k5, H.out.2.1.upd hu id, H.out.2.2.1.trans (b15.mono H.out.2.2.1.size), H.out.2.2.2.upd hu H.out.2.2.2.lt id, by omega⟩)
  clear k5 b5 g1 nF b1
  go_upto_region 4 with (fail)
  generalize W1.alloc (.cells #[.pointer (some ⟨p, 0, none⟩)] 25) = W2 at H1 ⊢
  have q5 : W2.cell? ⟨W1.heap.size, 0, none⟩ = some (.pointer (some ⟨p, 0, none⟩)) := H1.out.2.2.1.cell 0
  have hcon := len_gr W2 F1 p G H1.out.1
  rw [HG.out.2.1, HG.out.2.2.1] at hcon
  go_wp2_with fail
  refine hcon.mono ?_
  clear hcon q5
  rintro e W3 ⟨rfl, b3⟩
  have k7 := Blk.new W3 3 #[.int .i64 (n : Int)]
  have H6 := Lib.hid (show EnS w F1 p G n w.heap.size W1.heap.size W3.heap.size (W3.alloc (.cells #[.int .i64 (n : Int)] 3)) ∧ (∀ k, F1 k → w.heap.size < k ∧ k ≠ W1.heap.size ∧ k ≠ W3.heap.size) ∧ w.heap.size < W1.heap.size ∧ W1.heap.size < W3.heap.size from by
    have b36 : Below W3.heap.size W3 (W3.alloc (.cells #[.int .i64 (n : Int)] 3)) := (Below.refl _ _).alloc (Nat.le_refl _) _
    have b26 := b3.trans (b36.mono b3.size)
    have hu := Upd.of_below b26 (fun _ => False)
    have z2 := H1.out.2.2.1.lt
    have z3 := b3.size
    have z0 := H.out.2.1.lt
    refine ⟨⟨H1.out.1.below b26, H1.out.2.2.2.1.upd hu id, H1.out.2.2.1.upd hu id, k7, H1.out.2.2.2.2.1.trans (b26.mono H1.out.2.2.2.2.1.size), H1.out.2.2.2.2.2.1.upd hu H1.out.2.2.2.2.2.1.lt id⟩, fun k hk => ?_, H1.out.2.2.2.2.2.2, by omega⟩
    have := H1.out.2.1 k hk
    omega)
  clear k7 b3
  go_upto_region 7 with (fail)
  generalize hg7 : W3.heap.size = g7 at H6
  generalize W3.alloc (.cells #[.int .i64 (n : Int)] 3) = W6 at H6 ⊢
  (try rw [hg7])
  generalize hg5 : W1.heap.size = g5 at H6
  (try rw [hg5])
  clear hg7 hg5 H1 H
  have EN := Lib.hid (show ∀ V, Below W6.heap.size W6 V → EnS w F1 p G n w.heap.size g5 g7 V from fun V hb => H6.out.1.below hb)
  have SR := Lib.hid (show ∀ V, Below W6.heap.size W6 V → V.cell? ⟨g5, 0, none⟩ = some (.pointer (some ⟨p, 0, none⟩)) from fun V hb => (EN.out V hb).k5.cell 0)
  go_cut [8, 9, 10] from 8 (fun s8 s9 s10 wc => s8 = .int .i64 (cn : Int) ∧ ∃ g9 g10 : Nat, s9 = .pointer (some ⟨g9, 0, none⟩) ∧ s10 = .pointer (some ⟨g10, 0, none⟩) ∧ Hid (LbE W6 G.N LB n m wc g9 g10))
  case first =>
    have HI0 := Lib.hid (show LbI W6 G.N LB n m W6.drew none none none none from ⟨(Below.refl _ _).drew, fun g e => (by cases e), fun g e => (by cases e), fun g g' e => (by cases e), fun A c e => (by cases e), fun A c e => (by cases e)⟩)
    have hS := SR.out _ HI0.out.b
    refine wp_noPan ?_
    refine wp_region_any2 (fun V => V.cell? ⟨g5, 0, none⟩ = some (.pointer (some ⟨p, 0, none⟩))) (by kernel_rfl) (by kernel_rfl) hS ?_
    refine any_start (fun hd => ?_)
    generalize W6.drew = V0 at HI0 hS ⊢
    (refine any_take (i := 0) (v := ?_) rfl (by kernel_rfl) hd (Nat.le_refl _) (fun _ _ d _ _ h => by cases d <;> exact h) hS (by first | with_reducible rfl | kernel_rfl) ?_ ?_; rotate_left; (focus (intro wS hS; (try dsimp only at hS); go_split_ands; go_simp; (try with_reducible rfl); done)); clear hd; intro hd; (try simp only [Act.put, List.getElem_toArray, List.getElem_cons_zero, List.setIfInBounds_toArray, List.set_cons_zero, List.set_cons_succ]))
    (refine any_take (i := 2) (v := ?_) rfl (by kernel_rfl) hd (Nat.le_refl _) (fun _ _ d _ _ h => by cases d <;> exact h) hS (by first | with_reducible rfl | kernel_rfl) ?_ ?_; rotate_left; (focus (intro wS hS; (try dsimp only at hS); go_split_ands; go_simp; (try with_reducible rfl); done)); clear hd; intro hd; (try simp only [Act.put, List.getElem_toArray, List.getElem_cons_succ, List.getElem_cons_zero, List.setIfInBounds_toArray, List.set_cons_zero, List.set_cons_succ]))
    clear hS
    refine any_run hd (L := [1, 4, 5]) (by kernel_rfl) (by decide) (fun i hi hd2 => ?_)
    clear hd
    have hd := hd2
    clear hd2
    simp only [List.mem_cons, List.not_mem_nil, or_false] at hi
    rcases hi with rfl | rfl | rfl
    · as_aux_lemma =>
        refine any_do rfl rfl (fun K hK => ?_)
        go_simp
        have hcon := nodes_gr V0 F1 p G (EN.out _ HI0.out.b).gr HG.out.1
        refine hcon.mono ?_
        clear hcon
        rintro e V1 ⟨v, rfl, own, b⟩
        rw [HG.out.2.1] at own
        obtain ⟨A1, c1, rfl, -, -⟩ := own_form own
        have HI1 := Lib.hid (HI0.out.row1 b own)
        clear own b
        refine hK _ _ (SR.out _ HI1.out.b) ?_
        clear hK K
        (try simp only [Act.put, List.getElem_toArray, List.getElem_cons_succ, List.getElem_cons_zero, List.setIfInBounds_toArray, List.set_cons_zero, List.set_cons_succ])
        refine any_run hd (L := [3, 4, 5]) (by kernel_rfl) (by decide) (fun i hi hd2 => ?_)
        clear hd
        have hd := hd2
        clear hd2
        simp only [List.mem_cons, List.not_mem_nil, or_false] at hi
        rcases hi with rfl | rfl | rfl
        · as_aux_lemma =>
            refine any_do rfl rfl (fun K hK => ?_)
            go_simp
            have hcon := labels_gr V1 F1 p G (EN.out _ HI1.out.b).gr HG.out.1
            rw [HG.out.2.2.2.1] at hcon
            refine hcon.mono ?_
            clear hcon
            rintro e V2 ⟨v, rfl, own, b⟩
            rw [HG.out.2.2.2.2] at own
            obtain ⟨A2, c2, rfl, -, -⟩ := own_form own
            have HI2 := Lib.hid (HI1.out.row3 b own)
            clear own b
            refine hK _ _ (SR.out _ HI2.out.b) ?_
            clear hK K
            (try simp only [Act.put, List.getElem_toArray, List.getElem_cons_succ, List.getElem_cons_zero, List.setIfInBounds_toArray, List.set_cons_zero, List.set_cons_succ])
            refine any_run hd (L := [4, 5]) (by kernel_rfl) (by decide) (fun i hi hd2 => ?_)
            clear hd
            have hd := hd2
            clear hd2
            simp only [List.mem_cons, List.not_mem_nil, or_false] at hi
            rcases hi with rfl | rfl
            · refine any_do rfl rfl (fun K hK => ?_)
              go_simp
              have HI3 := Lib.hid HI2.out.new4
              refine hK _ _ (SR.out _ HI3.out.b) ?_
              clear hK K
              (try simp only [Act.put, List.getElem_toArray, List.getElem_cons_succ, List.getElem_cons_zero, List.setIfInBounds_toArray, List.set_cons_zero, List.set_cons_succ])
              generalize V2.alloc (.cells #[.slice none 0 0] 22) = V3 at HI3 ⊢
              refine any_run hd (L := [5]) (by kernel_rfl) (by decide) (fun i hi hd2 => ?_)
              clear hd
              have hd := hd2
              clear hd2
              obtain rfl := List.mem_singleton.1 hi
              clear hi
              refine any_do rfl rfl (fun K hK => ?_)
              go_simp
              have HI4 := Lib.hid HI3.out.new5
              refine hK _ _ (SR.out _ HI4.out.b) ?_
              clear hK K
              (try simp only [Act.put, List.getElem_toArray, List.getElem_cons_succ, List.getElem_cons_zero, List.setIfInBounds_toArray, List.set_cons_zero, List.set_cons_succ])
              generalize V3.alloc (.cells #[.slice none 0 0] 22) = V4 at HI4 ⊢
              have hE := LbI.stored HI4.out
              have z9 := (HI4.out.h4 _ rfl).2
              have z10 := (HI4.out.h5 _ rfl).2
              have hne := HI4.out.ne _ _ rfl rfl
              have q9 : V4.cell? ⟨V2.heap.size, 0, none⟩ = some (.slice none 0 0) := z9.cell 0
              have f9 := z9.frozen 0
              have z10s := z10.far (p := ⟨V2.heap.size, 0, none⟩) (Ne.symm hne) (.slice A1 n c1)
              have q10 : (V4.setCell ⟨V2.heap.size, 0, none⟩ (.slice A1 n c1)).cell? ⟨V3.heap.size, 0, none⟩ = some (.slice none 0 0) := z10s.cell 0
              have f10 := z10s.frozen 0
              have hS1 : (fun V => V.cell? ⟨g5, 0, none⟩ = some (.pointer (some ⟨p, 0, none⟩))) (V4.setCell ⟨V2.heap.size, 0, none⟩ (.slice A1 n c1)) := SR.out _ (HI4.out.b.trans ((((Upd.refl (fun q => q = V2.heap.size) V4).setCell (p := ⟨V2.heap.size, 0, none⟩) (.inl rfl) _).below (fun i _ e => by have := (HI4.out.h4 _ rfl).1; omega) HI4.out.b.size)))
              clear z9 z10 hne z10s
              have HE := Lib.hid hE
              clear hE
              refine any_run hd (L := [6]) (by kernel_rfl) (by decide) (fun i hi hd2 => ?_)
              clear hd
              have hd := hd2
              clear hd2
              obtain rfl := List.mem_singleton.1 hi
              clear hi
              refine any_do rfl rfl (fun K hK => ?_)
              go_simp
              refine hK _ _ hS1 ?_
              clear hK K q9 f9
              (try simp only [Act.put, List.getElem_toArray, List.getElem_cons_succ, List.getElem_cons_zero, List.setIfInBounds_toArray, List.set_cons_zero, List.set_cons_succ])
              refine any_run hd (L := [7]) (by kernel_rfl) (by decide) (fun i hi hd2 => ?_)
              clear hd
              have hd := hd2
              clear hd2
              obtain rfl := List.mem_singleton.1 hi
              clear hi
              refine any_do rfl rfl (fun K hK => ?_)
              go_simp
              refine hK _ _ (SR.out _ HE.out.1) ?_
              clear hK K q10 f10 hS1
              (try simp only [Act.put, List.getElem_toArray, List.getElem_cons_succ, List.getElem_cons_zero, List.setIfInBounds_toArray, List.set_cons_zero, List.set_cons_succ])
              refine any_done (by kernel_rfl) ?_
              clear hd
              simp only [noPan]
              go_wp2
              go_meet
              case rel => exact ⟨rfl, _, _, rfl, rfl, HE⟩
            · refine any_do rfl rfl (fun K hK => ?_)
              go_simp
              have HI5 := Lib.hid HI2.out.new5
              refine hK _ _ (SR.out _ HI5.out.b) ?_
              clear hK K
              (try simp only [Act.put, List.getElem_toArray, List.getElem_cons_succ, List.getElem_cons_zero, List.setIfInBounds_toArray, List.set_cons_zero, List.set_cons_succ])
              generalize V2.alloc (.cells #[.slice none 0 0] 22) = V5 at HI5 ⊢
              refine any_run hd (L := [4]) (by kernel_rfl) (by decide) (fun i hi hd2 => ?_)
              clear hd
              have hd := hd2
              clear hd2
              obtain rfl := List.mem_singleton.1 hi
              clear hi
              refine any_do rfl rfl (fun K hK => ?_)
              go_simp
              have HI6 := Lib.hid HI5.out.new4
              refine hK _ _ (SR.out _ HI6.out.b) ?_
              clear hK K
              (try simp only [Act.put, List.getElem_toArray, List.getElem_cons_succ, List.getElem_cons_zero, List.setIfInBounds_toArray, List.set_cons_zero, List.set_cons_succ])
              generalize V5.alloc (.cells #[.slice none 0 0] 22) = V6 at HI6 ⊢
              have hE := LbI.stored HI6.out
              have z9 := (HI6.out.h4 _ rfl).2
              have z10 := (HI6.out.h5 _ rfl).2
              have hne := HI6.out.ne _ _ rfl rfl
              have q9 : V6.cell? ⟨V5.heap.size, 0, none⟩ = some (.slice none 0 0) := z9.cell 0
              have f9 := z9.frozen 0
              have z10s := z10.far (p := ⟨V5.heap.size, 0, none⟩) (Ne.symm hne) (.slice A1 n c1)
              have q10 : (V6.setCell ⟨V5.heap.size, 0, none⟩ (.slice A1 n c1)).cell? ⟨V2.heap.size, 0, none⟩ = some (.slice none 0 0) := z10s.cell 0
              have f10 := z10s.frozen 0
              have hS1 : (fun V => V.cell? ⟨g5, 0, none⟩ = some (.pointer (some ⟨p, 0, none⟩))) (V6.setCell ⟨V5.heap.size, 0, none⟩ (.slice A1 n c1)) := SR.out _ (HI6.out.b.trans ((((Upd.refl (fun q => q = V5.heap.size) V6).setCell (p := ⟨V5.heap.size, 0, none⟩) (.inl rfl) _).below (fun i _ e => by have := (HI6.out.h4 _ rfl).1; omega) HI6.out.b.size)))
              clear z9 z10 hne z10s
              have HE := Lib.hid hE
              clear hE
              refine any_run hd (L := [6]) (by kernel_rfl) (by decide) (fun i hi hd2 => ?_)
              clear hd
              have hd := hd2
              clear hd2
              obtain rfl := List.mem_singleton.1 hi
              clear hi
              refine any_do rfl rfl (fun K hK => ?_)
              go_simp
              refine hK _ _ hS1 ?_
              clear hK K q9 f9
              (try simp only [Act.put, List.getElem_toArray, List.getElem_cons_succ, List.getElem_cons_zero, List.setIfInBounds_toArray, List.set_cons_zero, List.set_cons_succ])
              refine any_run hd (L := [7]) (by kernel_rfl) (by decide) (fun i hi hd2 => ?_)
              clear hd
              have hd := hd2
              clear hd2
              obtain rfl := List.mem_singleton.1 hi
              clear hi
              refine any_do rfl rfl (fun K hK => ?_)
              go_simp
              refine hK _ _ (SR.out _ HE.out.1) ?_
              clear hK K q10 f10 hS1
              (try simp only [Act.put, List.getElem_toArray, List.getElem_cons_succ, List.getElem_cons_zero, List.setIfInBounds_toArray, List.set_cons_zero, List.set_cons_succ])
              refine any_done (by kernel_rfl) ?_
              clear hd
              simp only [noPan]
              go_wp2
              go_meet
              case rel => exact ⟨rfl, _, _, rfl, rfl, HE⟩
        · as_aux_lemma =>
            refine any_do rfl rfl (fun K hK => ?_)
            go_simp
            have HI7 := Lib.hid HI1.out.new4
            refine hK _ _ (SR.out _ HI7.out.b) ?_
            clear hK K
            (try simp only [Act.put, List.getElem_toArray, List.getElem_cons_succ, List.getElem_cons_zero, List.setIfInBounds_toArray, List.set_cons_zero, List.set_cons_succ])
            generalize V1.alloc (.cells #[.slice none 0 0] 22) = V7 at HI7 ⊢
            refine any_run hd (L := [3, 5]) (by kernel_rfl) (by decide) (fun i hi hd2 => ?_)
            clear hd
            have hd := hd2
            clear hd2
            simp only [List.mem_cons, List.not_mem_nil, or_false] at hi
            rcases hi with rfl | rfl
            · refine any_do rfl rfl (fun K hK => ?_)
              go_simp
              have hcon := labels_gr V7 F1 p G (EN.out _ HI7.out.b).gr HG.out.1
              rw [HG.out.2.2.2.1] at hcon
              refine hcon.mono ?_
              clear hcon
              rintro e V8 ⟨v, rfl, own, b⟩
              rw [HG.out.2.2.2.2] at own
              obtain ⟨A8, c8, rfl, -, -⟩ := own_form own
              have HI8 := Lib.hid (HI7.out.row3 b own)
              clear own b
              refine hK _ _ (SR.out _ HI8.out.b) ?_
              clear hK K
              (try simp only [Act.put, List.getElem_toArray, List.getElem_cons_succ, List.getElem_cons_zero, List.setIfInBounds_toArray, List.set_cons_zero, List.set_cons_succ])
              refine any_run hd (L := [5]) (by kernel_rfl) (by decide) (fun i hi hd2 => ?_)
              clear hd
              have hd := hd2
              clear hd2
              obtain rfl := List.mem_singleton.1 hi
              clear hi
              refine any_do rfl rfl (fun K hK => ?_)
              go_simp
              have HI9 := Lib.hid HI8.out.new5
              refine hK _ _ (SR.out _ HI9.out.b) ?_
              clear hK K
              (try simp only [Act.put, List.getElem_toArray, List.getElem_cons_succ, List.getElem_cons_zero, List.setIfInBounds_toArray, List.set_cons_zero, List.set_cons_succ])
              generalize V8.alloc (.cells #[.slice none 0 0] 22) = V9 at HI9 ⊢
              have hE := LbI.stored HI9.out
              have z9 := (HI9.out.h4 _ rfl).2
              have z10 := (HI9.out.h5 _ rfl).2
              have hne := HI9.out.ne _ _ rfl rfl
              have q9 : V9.cell? ⟨V1.heap.size, 0, none⟩ = some (.slice none 0 0) := z9.cell 0
              have f9 := z9.frozen 0
              have z10s := z10.far (p := ⟨V1.heap.size, 0, none⟩) (Ne.symm hne) (.slice A1 n c1)
              have q10 : (V9.setCell ⟨V1.heap.size, 0, none⟩ (.slice A1 n c1)).cell? ⟨V8.heap.size, 0, none⟩ = some (.slice none 0 0) := z10s.cell 0
              have f10 := z10s.frozen 0
              have hS1 : (fun V => V.cell? ⟨g5, 0, none⟩ = some (.pointer (some ⟨p, 0, none⟩))) (V9.setCell ⟨V1.heap.size, 0, none⟩ (.slice A1 n c1)) := SR.out _ (HI9.out.b.trans ((((Upd.refl (fun q => q = V1.heap.size) V9).setCell (p := ⟨V1.heap.size, 0, none⟩) (.inl rfl) _).below (fun i _ e => by have := (HI9.out.h4 _ rfl).1; omega) HI9.out.b.size)))
              clear z9 z10 hne z10s
              have HE := Lib.hid hE
              clear hE
              refine any_run hd (L := [6]) (by kernel_rfl) (by decide) (fun i hi hd2 => ?_)
              clear hd
              have hd := hd2
              clear hd2
              obtain rfl := List.mem_singleton.1 hi
              clear hi
              refine any_do rfl rfl (fun K hK => ?_)
              go_simp
              refine hK _ _ hS1 ?_
              clear hK K q9 f9
              (try simp only [Act.put, List.getElem_toArray, List.getElem_cons_succ, List.getElem_cons_zero, List.setIfInBounds_toArray, List.set_cons_zero, List.set_cons_succ])
              refine any_run hd (L := [7]) (by kernel_rfl) (by decide) (fun i hi hd2 => ?_)
              clear hd
              have hd := hd2
              clear hd2
              obtain rfl := List.mem_singleton.1 hi
              clear hi
              refine any_do rfl rfl (fun K hK => ?_)
              go_simp
              refine hK _ _ (SR.out _ HE.out.1) ?_
              clear hK K q10 f10 hS1
              (try simp only [Act.put, List.getElem_toArray, List.getElem_cons_succ, List.getElem_cons_zero, List.setIfInBounds_toArray, List.set_cons_zero, List.set_cons_succ])
              refine any_done (by kernel_rfl) ?_
              clear hd
              simp only [noPan]
              go_wp2
              go_meet
              case rel => exact ⟨rfl, _, _, rfl, rfl, HE⟩
            · refine any_do rfl rfl (fun K hK => ?_)
              go_simp
              have HI10 := Lib.hid HI7.out.new5
              refine hK _ _ (SR.out _ HI10.out.b) ?_
              clear hK K
              (try simp only [Act.put, List.getElem_toArray, List.getElem_cons_succ, List.getElem_cons_zero, List.setIfInBounds_toArray, List.set_cons_zero, List.set_cons_succ])
              generalize V7.alloc (.cells #[.slice none 0 0] 22) = V10 at HI10 ⊢
              refine any_run hd (L := [3]) (by kernel_rfl) (by decide) (fun i hi hd2 => ?_)
              clear hd
              have hd := hd2
              clear hd2
              obtain rfl := List.mem_singleton.1 hi
              clear hi
              refine any_do rfl rfl (fun K hK => ?_)
              go_simp
              have hcon := labels_gr V10 F1 p G (EN.out _ HI10.out.b).gr HG.out.1
              rw [HG.out.2.2.2.1] at hcon
              refine hcon.mono ?_
              clear hcon
              rintro e V11 ⟨v, rfl, own, b⟩
              rw [HG.out.2.2.2.2] at own
              obtain ⟨A11, c11, rfl, -, -⟩ := own_form own
              have HI11 := Lib.hid (HI10.out.row3 b own)
              clear own b
              refine hK _ _ (SR.out _ HI11.out.b) ?_
              clear hK K
              (try simp only [Act.put, List.getElem_toArray, List.getElem_cons_succ, List.getElem_cons_zero, List.setIfInBounds_toArray, List.set_cons_zero, List.set_cons_succ])
              have hE := LbI.stored HI11.out
              have z9 := (HI11.out.h4 _ rfl).2
              have z10 := (HI11.out.h5 _ rfl).2
              have hne := HI11.out.ne _ _ rfl rfl
              have q9 : V11.cell? ⟨V1.heap.size, 0, none⟩ = some (.slice none 0 0) := z9.cell 0
              have f9 := z9.frozen 0
              have z10s := z10.far (p := ⟨V1.heap.size, 0, none⟩) (Ne.symm hne) (.slice A1 n c1)
              have q10 : (V11.setCell ⟨V1.heap.size, 0, none⟩ (.slice A1 n c1)).cell? ⟨V7.heap.size, 0, none⟩ = some (.slice none 0 0) := z10s.cell 0
              have f10 := z10s.frozen 0
              have hS1 : (fun V => V.cell? ⟨g5, 0, none⟩ = some (.pointer (some ⟨p, 0, none⟩))) (V11.setCell ⟨V1.heap.size, 0, none⟩ (.slice A1 n c1)) := SR.out _ (HI11.out.b.trans ((((Upd.refl (fun q => q = V1.heap.size) V11).setCell (p := ⟨V1.heap.size, 0, none⟩) (.inl rfl) _).below (fun i _ e => by have := (HI11.out.h4 _ rfl).1; omega) HI11.out.b.size)))
              clear z9 z10 hne z10s
              have HE := Lib.hid hE
              clear hE
              refine any_run hd (L := [6]) (by kernel_rfl) (by decide) (fun i hi hd2 => ?_)
              clear hd
              have hd := hd2
              clear hd2
              obtain rfl := List.mem_singleton.1 hi
              clear hi
              refine any_do rfl rfl (fun K hK => ?_)
              go_simp
              refine hK _ _ hS1 ?_
              clear hK K q9 f9
              (try simp only [Act.put, List.getElem_toArray, List.getElem_cons_succ, List.getElem_cons_zero, List.setIfInBounds_toArray, List.set_cons_zero, List.set_cons_succ])
              refine any_run hd (L := [7]) (by kernel_rfl) (by decide) (fun i hi hd2 => ?_)
              clear hd
              have hd := hd2
              clear hd2
              obtain rfl := List.mem_singleton.1 hi
              clear hi
              refine any_do rfl rfl (fun K hK => ?_)
              go_simp
              refine hK _ _ (SR.out _ HE.out.1) ?_
              clear hK K q10 f10 hS1
              (try simp only [Act.put, List.getElem_toArray, List.getElem_cons_succ, List.getElem_cons_zero, List.setIfInBounds_toArray, List.set_cons_zero, List.set_cons_succ])
              refine any_done (by kernel_rfl) ?_
              clear hd
              simp only [noPan]
              go_wp2
              go_meet
              case rel => exact ⟨rfl, _, _, rfl, rfl, HE⟩
        · as_aux_lemma =>
            refine any_do rfl rfl (fun K hK => ?_)
            go_simp
            have HI12 := Lib.hid HI1.out.new5
            refine hK _ _ (SR.out _ HI12.out.b) ?_
            clear hK K
            (try simp only [Act.put, List.getElem_toArray, List.getElem_cons_succ, List.getElem_cons_zero, List.setIfInBounds_toArray, List.set_cons_zero, List.set_cons_succ])
            generalize V1.alloc (.cells #[.slice none 0 0] 22) = V12 at HI12 ⊢
            refine any_run hd (L := [3, 4]) (by kernel_rfl) (by decide) (fun i hi hd2 => ?_)
            clear hd
            have hd := hd2
            clear hd2
            simp only [List.mem_cons, List.not_mem_nil, or_false] at hi
            rcases hi with rfl | rfl
            · refine any_do rfl rfl (fun K hK => ?_)
              go_simp
              have hcon := labels_gr V12 F1 p G (EN.out _ HI12.out.b).gr HG.out.1
              rw [HG.out.2.2.2.1] at hcon
              refine hcon.mono ?_
              clear hcon
              rintro e V13 ⟨v, rfl, own, b⟩
              rw [HG.out.2.2.2.2] at own
              obtain ⟨A13, c13, rfl, -, -⟩ := own_form own
              have HI13 := Lib.hid (HI12.out.row3 b own)
              clear own b
              refine hK _ _ (SR.out _ HI13.out.b) ?_
              clear hK K
              (try simp only [Act.put, List.getElem_toArray, List.getElem_cons_succ, List.getElem_cons_zero, List.setIfInBounds_toArray, List.set_cons_zero, List.set_cons_succ])
              refine any_run hd (L := [4]) (by kernel_rfl) (by decide) (fun i hi hd2 => ?_)
              clear hd
              have hd := hd2
              clear hd2
              obtain rfl := List.mem_singleton.1 hi
              clear hi
              refine any_do rfl rfl (fun K hK => ?_)
              go_simp
              have HI14 := Lib.hid HI13.out.new4
              refine hK _ _ (SR.out _ HI14.out.b) ?_
              clear hK K
              (try simp only [Act.put, List.getElem_toArray, List.getElem_cons_succ, List.getElem_cons_zero, List.setIfInBounds_toArray, List.set_cons_zero, List.set_cons_succ])
              generalize V13.alloc (.cells #[.slice none 0 0] 22) = V14 at HI14 ⊢
              have hE := LbI.stored HI14.out
              have z9 := (HI14.out.h4 _ rfl).2
              have z10 := (HI14.out.h5 _ rfl).2
              have hne := HI14.out.ne _ _ rfl rfl
              have q9 : V14.cell? ⟨V13.heap.size, 0, none⟩ = some (.slice none 0 0) := z9.cell 0
              have f9 := z9.frozen 0
              have z10s := z10.far (p := ⟨V13.heap.size, 0, none⟩) (Ne.symm hne) (.slice A1 n c1)
              have q10 : (V14.setCell ⟨V13.heap.size, 0, none⟩ (.slice A1 n c1)).cell? ⟨V1.heap.size, 0, none⟩ = some (.slice none 0 0) := z10s.cell 0
              have f10 := z10s.frozen 0
              have hS1 : (fun V => V.cell? ⟨g5, 0, none⟩ = some (.pointer (some ⟨p, 0, none⟩))) (V14.setCell ⟨V13.heap.size, 0, none⟩ (.slice A1 n c1)) := SR.out _ (HI14.out.b.trans ((((Upd.refl (fun q => q = V13.heap.size) V14).setCell (p := ⟨V13.heap.size, 0, none⟩) (.inl rfl) _).below (fun i _ e => by have := (HI14.out.h4 _ rfl).1; omega) HI14.out.b.size)))
              clear z9 z10 hne z10s
              have HE := Lib.hid hE
              clear hE
              refine any_run hd (L := [6]) (by kernel_rfl) (by decide) (fun i hi hd2 => ?_)
              clear hd
              have hd := hd2
              clear hd2
              obtain rfl := List.mem_singleton.1 hi
              clear hi
              refine any_do rfl rfl (fun K hK => ?_)
              go_simp
              refine hK _ _ hS1 ?_
              clear hK K q9 f9
              (try simp only [Act.put, List.getElem_toArray, List.getElem_cons_succ, List.getElem_cons_zero, List.setIfInBounds_toArray, List.set_cons_zero, List.set_cons_succ])
              refine any_run hd (L := [7]) (by kernel_rfl) (by decide) (fun i hi hd2 => ?_)
              clear hd
              have hd := hd2
              clear hd2
              obtain rfl := List.mem_singleton.1 hi
              clear hi
              refine any_do rfl rfl (fun K hK => ?_)
              go_simp
              refine hK _ _ (SR.out _ HE.out.1) ?_
              clear hK K q10 f10 hS1
              (try simp only [Act.put, List.getElem_toArray, List.getElem_cons_succ, List.getElem_cons_zero, List.setIfInBounds_toArray, List.set_cons_zero, List.set_cons_succ])
              refine any_done (by kernel_rfl) ?_
              clear hd
              simp only [noPan]
              go_wp2
              go_meet
              case rel => exact ⟨rfl, _, _, rfl, rfl, HE⟩
            · refine any_do rfl rfl (fun K hK => ?_)
              go_simp
              have HI15 := Lib.hid HI12.out.new4
              refine hK _ _ (SR.out _ HI15.out.b) ?_
              clear hK K
              (try simp only [Act.put, List.getElem_toArray, List.getElem_cons_succ, List.getElem_cons_zero, List.setIfInBounds_toArray, List.set_cons_zero, List.set_cons_succ])
              generalize V12.alloc (.cells #[.slice none 0 0] 22) = V15 at HI15 ⊢
              refine any_run hd (L := [3]) (by kernel_rfl) (by decide) (fun i hi hd2 => ?_)
              clear hd
              have hd := hd2
              clear hd2
              obtain rfl := List.mem_singleton.1 hi
              clear hi
              refine any_do rfl rfl (fun K hK => ?_)
              go_simp
              have hcon := labels_gr V15 F1 p G (EN.out _ HI15.out.b).gr HG.out.1
              rw [HG.out.2.2.2.1] at hcon
              refine hcon.mono ?_
              clear hcon
              rintro e V16 ⟨v, rfl, own, b⟩
              rw [HG.out.2.2.2.2] at own
              obtain ⟨A16, c16, rfl, -, -⟩ := own_form own
              have HI16 := Lib.hid (HI15.out.row3 b own)
              clear own b
              refine hK _ _ (SR.out _ HI16.out.b) ?_
              clear hK K
              (try simp only [Act.put, List.getElem_toArray, List.getElem_cons_succ, List.getElem_cons_zero, List.setIfInBounds_toArray, List.set_cons_zero, List.set_cons_succ])
              have hE := LbI.stored HI16.out
              have z9 := (HI16.out.h4 _ rfl).2
              have z10 := (HI16.out.h5 _ rfl).2
              have hne := HI16.out.ne _ _ rfl rfl
              have q9 : V16.cell? ⟨V12.heap.size, 0, none⟩ = some (.slice none 0 0) := z9.cell 0
              have f9 := z9.frozen 0
              have z10s := z10.far (p := ⟨V12.heap.size, 0, none⟩) (Ne.symm hne) (.slice A1 n c1)
              have q10 : (V16.setCell ⟨V12.heap.size, 0, none⟩ (.slice A1 n c1)).cell? ⟨V1.heap.size, 0, none⟩ = some (.slice none 0 0) := z10s.cell 0
              have f10 := z10s.frozen 0
              have hS1 : (fun V => V.cell? ⟨g5, 0, none⟩ = some (.pointer (some ⟨p, 0, none⟩))) (V16.setCell ⟨V12.heap.size, 0, none⟩ (.slice A1 n c1)) := SR.out _ (HI16.out.b.trans ((((Upd.refl (fun q => q = V12.heap.size) V16).setCell (p := ⟨V12.heap.size, 0, none⟩) (.inl rfl) _).below (fun i _ e => by have := (HI16.out.h4 _ rfl).1; omega) HI16.out.b.size)))
              clear z9 z10 hne z10s
              have HE := Lib.hid hE
              clear hE
              refine any_run hd (L := [6]) (by kernel_rfl) (by decide) (fun i hi hd2 => ?_)
              clear hd
              have hd := hd2
              clear hd2
              obtain rfl := List.mem_singleton.1 hi
              clear hi
              refine any_do rfl rfl (fun K hK => ?_)
              go_simp
              refine hK _ _ hS1 ?_
              clear hK K q9 f9
              (try simp only [Act.put, List.getElem_toArray, List.getElem_cons_succ, List.getElem_cons_zero, List.setIfInBounds_toArray, List.set_cons_zero, List.set_cons_succ])
              refine any_run hd (L := [7]) (by kernel_rfl) (by decide) (fun i hi hd2 => ?_)
              clear hd
              have hd := hd2
              clear hd2
              obtain rfl := List.mem_singleton.1 hi
              clear hi
              refine any_do rfl rfl (fun K hK => ?_)
              go_simp
              refine hK _ _ (SR.out _ HE.out.1) ?_
              clear hK K q10 f10 hS1
              (try simp only [Act.put, List.getElem_toArray, List.getElem_cons_succ, List.getElem_cons_zero, List.setIfInBounds_toArray, List.set_cons_zero, List.set_cons_succ])
              refine any_done (by kernel_rfl) ?_
              clear hd
              simp only [noPan]
              go_wp2
              go_meet
              case rel => exact ⟨rfl, _, _, rfl, rfl, HE⟩
    · as_aux_lemma =>
        refine any_do rfl rfl (fun K hK => ?_)
        go_simp
        have HI17 := Lib.hid HI0.out.new4
        refine hK _ _ (SR.out _ HI17.out.b) ?_
        clear hK K
        (try simp only [Act.put, List.getElem_toArray, List.getElem_cons_succ, List.getElem_cons_zero, List.setIfInBounds_toArray, List.set_cons_zero, List.set_cons_succ])
        generalize V0.alloc (.cells #[.slice none 0 0] 22) = V17 at HI17 ⊢
        refine any_run hd (L := [1, 5]) (by kernel_rfl) (by decide) (fun i hi hd2 => ?_)
        clear hd
        have hd := hd2
        clear hd2
        simp only [List.mem_cons, List.not_mem_nil, or_false] at hi
        rcases hi with rfl | rfl
        · as_aux_lemma =>
            refine any_do rfl rfl (fun K hK => ?_)
            go_simp
            have hcon := nodes_gr V17 F1 p G (EN.out _ HI17.out.b).gr HG.out.1
            refine hcon.mono ?_
            clear hcon
            rintro e V18 ⟨v, rfl, own, b⟩
            rw [HG.out.2.1] at own
            obtain ⟨A18, c18, rfl, -, -⟩ := own_form own
            have HI18 := Lib.hid (HI17.out.row1 b own)
            clear own b
            refine hK _ _ (SR.out _ HI18.out.b) ?_
            clear hK K
            (try simp only [Act.put, List.getElem_toArray, List.getElem_cons_succ, List.getElem_cons_zero, List.setIfInBounds_toArray, List.set_cons_zero, List.set_cons_succ])
            refine any_run hd (L := [3, 5]) (by kernel_rfl) (by decide) (fun i hi hd2 => ?_)
            clear hd
            have hd := hd2
            clear hd2
            simp only [List.mem_cons, List.not_mem_nil, or_false] at hi
            rcases hi with rfl | rfl
            · refine any_do rfl rfl (fun K hK => ?_)
              go_simp
              have hcon := labels_gr V18 F1 p G (EN.out _ HI18.out.b).gr HG.out.1
              rw [HG.out.2.2.2.1] at hcon
              refine hcon.mono ?_
              clear hcon
              rintro e V19 ⟨v, rfl, own, b⟩
              rw [HG.out.2.2.2.2] at own
              obtain ⟨A19, c19, rfl, -, -⟩ := own_form own
              have HI19 := Lib.hid (HI18.out.row3 b own)
              clear own b
              refine hK _ _ (SR.out _ HI19.out.b) ?_
              clear hK K
              (try simp only [Act.put, List.getElem_toArray, List.getElem_cons_succ, List.getElem_cons_zero, List.setIfInBounds_toArray, List.set_cons_zero, List.set_cons_succ])
              refine any_run hd (L := [5]) (by kernel_rfl) (by decide) (fun i hi hd2 => ?_)
              clear hd
              have hd := hd2
              clear hd2
              obtain rfl := List.mem_singleton.1 hi
              clear hi
              refine any_do rfl rfl (fun K hK => ?_)
              go_simp
              have HI20 := Lib.hid HI19.out.new5
              refine hK _ _ (SR.out _ HI20.out.b) ?_
              clear hK K
              (try simp only [Act.put, List.getElem_toArray, List.getElem_cons_succ, List.getElem_cons_zero, List.setIfInBounds_toArray, List.set_cons_zero, List.set_cons_succ])
              generalize V19.alloc (.cells #[.slice none 0 0] 22) = V20 at HI20 ⊢
              have hE := LbI.stored HI20.out
              have z9 := (HI20.out.h4 _ rfl).2
              have z10 := (HI20.out.h5 _ rfl).2
              have hne := HI20.out.ne _ _ rfl rfl
              have q9 : V20.cell? ⟨V0.heap.size, 0, none⟩ = some (.slice none 0 0) := z9.cell 0
              have f9 := z9.frozen 0
              have z10s := z10.far (p := ⟨V0.heap.size, 0, none⟩) (Ne.symm hne) (.slice A18 n c18)
              have q10 : (V20.setCell ⟨V0.heap.size, 0, none⟩ (.slice A18 n c18)).cell? ⟨V19.heap.size, 0, none⟩ = some (.slice none 0 0) := z10s.cell 0
              have f10 := z10s.frozen 0
              have hS1 : (fun V => V.cell? ⟨g5, 0, none⟩ = some (.pointer (some ⟨p, 0, none⟩))) (V20.setCell ⟨V0.heap.size, 0, none⟩ (.slice A18 n c18)) := SR.out _ (HI20.out.b.trans ((((Upd.refl (fun q => q = V0.heap.size) V20).setCell (p := ⟨V0.heap.size, 0, none⟩) (.inl rfl) _).below (fun i _ e => by have := (HI20.out.h4 _ rfl).1; omega) HI20.out.b.size)))
              clear z9 z10 hne z10s
              have HE := Lib.hid hE
              clear hE
              refine any_run hd (L := [6]) (by kernel_rfl) (by decide) (fun i hi hd2 => ?_)
              clear hd
              have hd := hd2
              clear hd2
              obtain rfl := List.mem_singleton.1 hi
              clear hi
              refine any_do rfl rfl (fun K hK => ?_)
              go_simp
              refine hK _ _ hS1 ?_
              clear hK K q9 f9
              (try simp only [Act.put, List.getElem_toArray, List.getElem_cons_succ, List.getElem_cons_zero, List.setIfInBounds_toArray, List.set_cons_zero, List.set_cons_succ])
              refine any_run hd (L := [7]) (by kernel_rfl) (by decide) (fun i hi hd2 => ?_)
              clear hd
              have hd := hd2
              clear hd2
              obtain rfl := List.mem_singleton.1 hi
              clear hi
              refine any_do rfl rfl (fun K hK => ?_)
              go_simp
              refine hK _ _ (SR.out _ HE.out.1) ?_
              clear hK K q10 f10 hS1
              (try simp only [Act.put, List.getElem_toArray, List.getElem_cons_succ, List.getElem_cons_zero, List.setIfInBounds_toArray, List.set_cons_zero, List.set_cons_succ])
              refine any_done (by kernel_rfl) ?_
              clear hd
              simp only [noPan]
              go_wp2
              go_meet
              case rel => exact ⟨rfl, _, _, rfl, rfl, HE⟩
            · refine any_do rfl rfl (fun K hK => ?_)
              go_simp
              have HI21 := Lib.hid HI18.out.new5
              refine hK _ _ (SR.out _ HI21.out.b) ?_
              clear hK K
              (try simp only [Act.put, List.getElem_toArray, List.getElem_cons_succ, List.getElem_cons_zero, List.setIfInBounds_toArray, List.set_cons_zero, List.set_cons_succ])
              generalize V18.alloc (.cells #[.slice none 0 0] 22) = V21 at HI21 ⊢
              refine any_run hd (L := [3]) (by kernel_rfl) (by decide) (fun i hi hd2 => ?_)
              clear hd
              have hd := hd2
              clear hd2
              obtain rfl := List.mem_singleton.1 hi
              clear hi
              refine any_do rfl rfl (fun K hK => ?_)
              go_simp
              have hcon := labels_gr V21 F1 p G (EN.out _ HI21.out.b).gr HG.out.1
              rw [HG.out.2.2.2.1] at hcon
              refine hcon.mono ?_
              clear hcon
              rintro e V22 ⟨v, rfl, own, b⟩
              rw [HG.out.2.2.2.2] at own
              obtain ⟨A22, c22, rfl, -, -⟩ := own_form own
              have HI22 := Lib.hid (HI21.out.row3 b own)
              clear own b
              refine hK _ _ (SR.out _ HI22.out.b) ?_
              clear hK K
              (try simp only [Act.put, List.getElem_toArray, List.getElem_cons_succ, List.getElem_cons_zero, List.setIfInBounds_toArray, List.set_cons_zero, List.set_cons_succ])
              have hE := LbI.stored HI22.out
              have z9 := (HI22.out.h4 _ rfl).2
              have z10 := (HI22.out.h5 _ rfl).2
              have hne := HI22.out.ne _ _ rfl rfl
              have q9 : V22.cell? ⟨V0.heap.size, 0, none⟩ = some (.slice none 0 0) := z9.cell 0
              have f9 := z9.frozen 0
              have z10s := z10.far (p := ⟨V0.heap.size, 0, none⟩) (Ne.symm hne) (.slice A18 n c18)
              have q10 : (V22.setCell ⟨V0.heap.size, 0, none⟩ (.slice A18 n c18)).cell? ⟨V18.heap.size, 0, none⟩ = some (.slice none 0 0) := z10s.cell 0
              have f10 := z10s.frozen 0
              have hS1 : (fun V => V.cell? ⟨g5, 0, none⟩ = some (.pointer (some ⟨p, 0, none⟩))) (V22.setCell ⟨V0.heap.size, 0, none⟩ (.slice A18 n c18)) := SR.out _ (HI22.out.b.trans ((((Upd.refl (fun q => q = V0.heap.size) V22).setCell (p := ⟨V0.heap.size, 0, none⟩) (.inl rfl) _).below (fun i _ e => by have := (HI22.out.h4 _ rfl).1; omega) HI22.out.b.size)))
              clear z9 z10 hne z10s
              have HE := Lib.hid hE
              clear hE
              refine any_run hd (L := [6]) (by kernel_rfl) (by decide) (fun i hi hd2 => ?_)
              clear hd
              have hd := hd2
              clear hd2
              obtain rfl := List.mem_singleton.1 hi
              clear hi
              refine any_do rfl rfl (fun K hK => ?_)
              go_simp
              refine hK _ _ hS1 ?_
              clear hK K q9 f9
              (try simp only [Act.put, List.getElem_toArray, List.getElem_cons_succ, List.getElem_cons_zero, List.setIfInBounds_toArray, List.set_cons_zero, List.set_cons_succ])
              refine any_run hd (L := [7]) (by kernel_rfl) (by decide) (fun i hi hd2 => ?_)
              clear hd
              have hd := hd2
              clear hd2
              obtain rfl := List.mem_singleton.1 hi
              clear hi
              refine any_do rfl rfl (fun K hK => ?_)
              go_simp
              refine hK _ _ (SR.out _ HE.out.1) ?_
              clear hK K q10 f10 hS1
              (try simp only [Act.put, List.getElem_toArray, List.getElem_cons_succ, List.getElem_cons_zero, List.setIfInBounds_toArray, List.set_cons_zero, List.set_cons_succ])
              refine any_done (by kernel_rfl) ?_
              clear hd
              simp only [noPan]
              go_wp2
              go_meet
              case rel => exact ⟨rfl, _, _, rfl, rfl, HE⟩
        · as_aux_lemma =>
            refine any_do rfl rfl (fun K hK => ?_)
            go_simp
            have HI23 := Lib.hid HI17.out.new5
            refine hK _ _ (SR.out _ HI23.out.b) ?_
            clear hK K
            (try simp only [Act.put, List.getElem_toArray, List.getElem_cons_succ, List.getElem_cons_zero, List.setIfInBounds_toArray, List.set_cons_zero, List.set_cons_succ])
            generalize V17.alloc (.cells #[.slice none 0 0] 22) = V23 at HI23 ⊢
            refine any_run hd (L := [1]) (by kernel_rfl) (by decide) (fun i hi hd2 => ?_)
            clear hd
            have hd := hd2
            clear hd2
            obtain rfl := List.mem_singleton.1 hi
            clear hi
            refine any_do rfl rfl (fun K hK => ?_)
            go_simp
            have hcon := nodes_gr V23 F1 p G (EN.out _ HI23.out.b).gr HG.out.1
            refine hcon.mono ?_
            clear hcon
            rintro e V24 ⟨v, rfl, own, b⟩
            rw [HG.out.2.1] at own
            obtain ⟨A24, c24, rfl, -, -⟩ := own_form own
            have HI24 := Lib.hid (HI23.out.row1 b own)
            clear own b
            refine hK _ _ (SR.out _ HI24.out.b) ?_
            clear hK K
            (try simp only [Act.put, List.getElem_toArray, List.getElem_cons_succ, List.getElem_cons_zero, List.setIfInBounds_toArray, List.set_cons_zero, List.set_cons_succ])
            refine any_run hd (L := [3]) (by kernel_rfl) (by decide) (fun i hi hd2 => ?_)
            clear hd
            have hd := hd2
            clear hd2
            obtain rfl := List.mem_singleton.1 hi
            clear hi
            refine any_do rfl rfl (fun K hK => ?_)
            go_simp
            have hcon := labels_gr V24 F1 p G (EN.out _ HI24.out.b).gr HG.out.1
            rw [HG.out.2.2.2.1] at hcon
            refine hcon.mono ?_
            clear hcon
            rintro e V25 ⟨v, rfl, own, b⟩
            rw [HG.out.2.2.2.2] at own
            obtain ⟨A25, c25, rfl, -, -⟩ := own_form own
            have HI25 := Lib.hid (HI24.out.row3 b own)
            clear own b
            refine hK _ _ (SR.out _ HI25.out.b) ?_
            clear hK K
            (try simp only [Act.put, List.getElem_toArray, List.getElem_cons_succ, List.getElem_cons_zero, List.setIfInBounds_toArray, List.set_cons_zero, List.set_cons_succ])
            have hE := LbI.stored HI25.out
            have z9 := (HI25.out.h4 _ rfl).2
            have z10 := (HI25.out.h5 _ rfl).2
            have hne := HI25.out.ne _ _ rfl rfl
            have q9 : V25.cell? ⟨V0.heap.size, 0, none⟩ = some (.slice none 0 0) := z9.cell 0
            have f9 := z9.frozen 0
            have z10s := z10.far (p := ⟨V0.heap.size, 0, none⟩) (Ne.symm hne) (.slice A24 n c24)
            have q10 : (V25.setCell ⟨V0.heap.size, 0, none⟩ (.slice A24 n c24)).cell? ⟨V17.heap.size, 0, none⟩ = some (.slice none 0 0) := z10s.cell 0
            have f10 := z10s.frozen 0
            have hS1 : (fun V => V.cell? ⟨g5, 0, none⟩ = some (.pointer (some ⟨p, 0, none⟩))) (V25.setCell ⟨V0.heap.size, 0, none⟩ (.slice A24 n c24)) := SR.out _ (HI25.out.b.trans ((((Upd.refl (fun q => q = V0.heap.size) V25).setCell (p := ⟨V0.heap.size, 0, none⟩) (.inl rfl) _).below (fun i _ e => by have := (HI25.out.h4 _ rfl).1; omega) HI25.out.b.size)))
            clear z9 z10 hne z10s
            have HE := Lib.hid hE
            clear hE
            refine any_run hd (L := [6]) (by kernel_rfl) (by decide) (fun i hi hd2 => ?_)
            clear hd
            have hd := hd2
            clear hd2
            obtain rfl := List.mem_singleton.1 hi
            clear hi
            refine any_do rfl rfl (fun K hK => ?_)
            go_simp
            refine hK _ _ hS1 ?_
            clear hK K q9 f9
            (try simp only [Act.put, List.getElem_toArray, List.getElem_cons_succ, List.getElem_cons_zero, List.setIfInBounds_toArray, List.set_cons_zero, List.set_cons_succ])
            refine any_run hd (L := [7]) (by kernel_rfl) (by decide) (fun i hi hd2 => ?_)
            clear hd
            have hd := hd2
            clear hd2
            obtain rfl := List.mem_singleton.1 hi
            clear hi
            refine any_do rfl rfl (fun K hK => ?_)
            go_simp
            refine hK _ _ (SR.out _ HE.out.1) ?_
            clear hK K q10 f10 hS1
            (try simp only [Act.put, List.getElem_toArray, List.getElem_cons_succ, List.getElem_cons_zero, List.setIfInBounds_toArray, List.set_cons_zero, List.set_cons_succ])
            refine any_done (by kernel_rfl) ?_
            clear hd
            simp only [noPan]
            go_wp2
            go_meet
            case rel => exact ⟨rfl, _, _, rfl, rfl, HE⟩
    · as_aux_lemma =>
        refine any_do rfl rfl (fun K hK => ?_)
        go_simp
        have HI26 := Lib.hid HI0.out.new5
        refine hK _ _ (SR.out _ HI26.out.b) ?_
        clear hK K
        (try simp only [Act.put, List.getElem_toArray, List.getElem_cons_succ, List.getElem_cons_zero, List.setIfInBounds_toArray, List.set_cons_zero, List.set_cons_succ])
        generalize V0.alloc (.cells #[.slice none 0 0] 22) = V26 at HI26 ⊢
        refine any_run hd (L := [1, 4]) (by kernel_rfl) (by decide) (fun i hi hd2 => ?_)
        clear hd
        have hd := hd2
        clear hd2
        simp only [List.mem_cons, List.not_mem_nil, or_false] at hi
        rcases hi with rfl | rfl
        · as_aux_lemma =>
            refine any_do rfl rfl (fun K hK => ?_)
            go_simp
            have hcon := nodes_gr V26 F1 p G (EN.out _ HI26.out.b).gr HG.out.1
            refine hcon.mono ?_
            clear hcon
            rintro e V27 ⟨v, rfl, own, b⟩
            rw [HG.out.2.1] at own
            obtain ⟨A27, c27, rfl, -, -⟩ := own_form own
            have HI27 := Lib.hid (HI26.out.row1 b own)
            clear own b
            refine hK _ _ (SR.out _ HI27.out.b) ?_
            clear hK K
            (try simp only [Act.put, List.getElem_toArray, List.getElem_cons_succ, List.getElem_cons_zero, List.setIfInBounds_toArray, List.set_cons_zero, List.set_cons_succ])
            refine any_run hd (L := [3, 4]) (by kernel_rfl) (by decide) (fun i hi hd2 => ?_)
            clear hd
            have hd := hd2
            clear hd2
            simp only [List.mem_cons, List.not_mem_nil, or_false] at hi
            rcases hi with rfl | rfl
            · refine any_do rfl rfl (fun K hK => ?_)
              go_simp
              have hcon := labels_gr V27 F1 p G (EN.out _ HI27.out.b).gr HG.out.1
              rw [HG.out.2.2.2.1] at hcon
              refine hcon.mono ?_
              clear hcon
              rintro e V28 ⟨v, rfl, own, b⟩
              rw [HG.out.2.2.2.2] at own
              obtain ⟨A28, c28, rfl, -, -⟩ := own_form own
              have HI28 := Lib.hid (HI27.out.row3 b own)
              clear own b
              refine hK _ _ (SR.out _ HI28.out.b) ?_
              clear hK K
              (try simp only [Act.put, List.getElem_toArray, List.getElem_cons_succ, List.getElem_cons_zero, List.setIfInBounds_toArray, List.set_cons_zero, List.set_cons_succ])
              refine any_run hd (L := [4]) (by kernel_rfl) (by decide) (fun i hi hd2 => ?_)
              clear hd
              have hd := hd2
              clear hd2
              obtain rfl := List.mem_singleton.1 hi
              clear hi
              refine any_do rfl rfl (fun K hK => ?_)
              go_simp
              have HI29 := Lib.hid HI28.out.new4
              refine hK _ _ (SR.out _ HI29.out.b) ?_
              clear hK K
              (try simp only [Act.put, List.getElem_toArray, List.getElem_cons_succ, List.getElem_cons_zero, List.setIfInBounds_toArray, List.set_cons_zero, List.set_cons_succ])
              generalize V28.alloc (.cells #[.slice none 0 0] 22) = V29 at HI29 ⊢
              have hE := LbI.stored HI29.out
              have z9 := (HI29.out.h4 _ rfl).2
              have z10 := (HI29.out.h5 _ rfl).2
              have hne := HI29.out.ne _ _ rfl rfl
              have q9 : V29.cell? ⟨V28.heap.size, 0, none⟩ = some (.slice none 0 0) := z9.cell 0
              have f9 := z9.frozen 0
              have z10s := z10.far (p := ⟨V28.heap.size, 0, none⟩) (Ne.symm hne) (.slice A27 n c27)
              have q10 : (V29.setCell ⟨V28.heap.size, 0, none⟩ (.slice A27 n c27)).cell? ⟨V0.heap.size, 0, none⟩ = some (.slice none 0 0) := z10s.cell 0
              have f10 := z10s.frozen 0
              have hS1 : (fun V => V.cell? ⟨g5, 0, none⟩ = some (.pointer (some ⟨p, 0, none⟩))) (V29.setCell ⟨V28.heap.size, 0, none⟩ (.slice A27 n c27)) := SR.out _ (HI29.out.b.trans ((((Upd.refl (fun q => q = V28.heap.size) V29).setCell (p := ⟨V28.heap.size, 0, none⟩) (.inl rfl) _).below (fun i _ e => by have := (HI29.out.h4 _ rfl).1; omega) HI29.out.b.size)))
              clear z9 z10 hne z10s
              have HE := Lib.hid hE
              clear hE
              refine any_run hd (L := [6]) (by kernel_rfl) (by decide) (fun i hi hd2 => ?_)
              clear hd
              have hd := hd2
              clear hd2
              obtain rfl := List.mem_singleton.1 hi
              clear hi
              refine any_do rfl rfl (fun K hK => ?_)
              go_simp
              refine hK _ _ hS1 ?_
              clear hK K q9 f9
              (try simp only [Act.put, List.getElem_toArray, List.getElem_cons_succ, List.getElem_cons_zero, List.setIfInBounds_toArray, List.set_cons_zero, List.set_cons_succ])
              refine any_run hd (L := [7]) (by kernel_rfl) (by decide) (fun i hi hd2 => ?_)
              clear hd
              have hd := hd2
              clear hd2
              obtain rfl := List.mem_singleton.1 hi
              clear hi
              refine any_do rfl rfl (fun K hK => ?_)
              go_simp
              refine hK _ _ (SR.out _ HE.out.1) ?_
              clear hK K q10 f10 hS1
              (try simp only [Act.put, List.getElem_toArray, List.getElem_cons_succ, List.getElem_cons_zero, List.setIfInBounds_toArray, List.set_cons_zero, List.set_cons_succ])
              refine any_done (by kernel_rfl) ?_
              clear hd
              simp only [noPan]
              go_wp2
              go_meet
              case rel => exact ⟨rfl, _, _, rfl, rfl, HE⟩
            · refine any_do rfl rfl (fun K hK => ?_)
              go_simp
              have HI30 := Lib.hid HI27.out.new4
              refine hK _ _ (SR.out _ HI30.out.b) ?_
              clear hK K
              (try simp only [Act.put, List.getElem_toArray, List.getElem_cons_succ, List.getElem_cons_zero, List.setIfInBounds_toArray, List.set_cons_zero, List.set_cons_succ])
              generalize V27.alloc (.cells #[.slice none 0 0] 22) = V30 at HI30 ⊢
              refine any_run hd (L := [3]) (by kernel_rfl) (by decide) (fun i hi hd2 => ?_)
              clear hd
              have hd := hd2
              clear hd2
              obtain rfl := List.mem_singleton.1 hi
              clear hi
              refine any_do rfl rfl (fun K hK => ?_)
              go_simp
              have hcon := labels_gr V30 F1 p G (EN.out _ HI30.out.b).gr HG.out.1
              rw [HG.out.2.2.2.1] at hcon
              refine hcon.mono ?_
              clear hcon
              rintro e V31 ⟨v, rfl, own, b⟩
              rw [HG.out.2.2.2.2] at own
              obtain ⟨A31, c31, rfl, -, -⟩ := own_form own
              have HI31 := Lib.hid (HI30.out.row3 b own)
              clear own b
              refine hK _ _ (SR.out _ HI31.out.b) ?_
              clear hK K
              (try simp only [Act.put, List.getElem_toArray, List.getElem_cons_succ, List.getElem_cons_zero, List.setIfInBounds_toArray, List.set_cons_zero, List.set_cons_succ])
              have hE := LbI.stored HI31.out
              have z9 := (HI31.out.h4 _ rfl).2
              have z10 := (HI31.out.h5 _ rfl).2
              have hne := HI31.out.ne _ _ rfl rfl
              have q9 : V31.cell? ⟨V27.heap.size, 0, none⟩ = some (.slice none 0 0) := z9.cell 0
              have f9 := z9.frozen 0
              have z10s := z10.far (p := ⟨V27.heap.size, 0, none⟩) (Ne.symm hne) (.slice A27 n c27)
              have q10 : (V31.setCell ⟨V27.heap.size, 0, none⟩ (.slice A27 n c27)).cell? ⟨V0.heap.size, 0, none⟩ = some (.slice none 0 0) := z10s.cell 0
              have f10 := z10s.frozen 0
              have hS1 : (fun V => V.cell? ⟨g5, 0, none⟩ = some (.pointer (some ⟨p, 0, none⟩))) (V31.setCell ⟨V27.heap.size, 0, none⟩ (.slice A27 n c27)) := SR.out _ (HI31.out.b.trans ((((Upd.refl (fun q => q = V27.heap.size) V31).setCell (p := ⟨V27.heap.size, 0, none⟩) (.inl rfl) _).below (fun i _ e => by have := (HI31.out.h4 _ rfl).1; omega) HI31.out.b.size)))
              clear z9 z10 hne z10s
              have HE := Lib.hid hE
              clear hE
              refine any_run hd (L := [6]) (by kernel_rfl) (by decide) (fun i hi hd2 => ?_)
              clear hd
              have hd := hd2
              clear hd2
              obtain rfl := List.mem_singleton.1 hi
              clear hi
              refine any_do rfl rfl (fun K hK => ?_)
              go_simp
              refine hK _ _ hS1 ?_
              clear hK K q9 f9
              (try simp only [Act.put, List.getElem_toArray, List.getElem_cons_succ, List.getElem_cons_zero, List.setIfInBounds_toArray, List.set_cons_zero, List.set_cons_succ])
              refine any_run hd (L := [7]) (by kernel_rfl) (by decide) (fun i hi hd2 => ?_)
              clear hd
              have hd := hd2
              clear hd2
              obtain rfl := List.mem_singleton.1 hi
              clear hi
              refine any_do rfl rfl (fun K hK => ?_)
              go_simp
              refine hK _ _ (SR.out _ HE.out.1) ?_
              clear hK K q10 f10 hS1
              (try simp only [Act.put, List.getElem_toArray, List.getElem_cons_succ, List.getElem_cons_zero, List.setIfInBounds_toArray, List.set_cons_zero, List.set_cons_succ])
              refine any_done (by kernel_rfl) ?_
              clear hd
              simp only [noPan]
              go_wp2
              go_meet
              case rel => exact ⟨rfl, _, _, rfl, rfl, HE⟩
        · as_aux_lemma =>
            refine any_do rfl rfl (fun K hK => ?_)
            go_simp
            have HI32 := Lib.hid HI26.out.new4
            refine hK _ _ (SR.out _ HI32.out.b) ?_
            clear hK K
            (try simp only [Act.put, List.getElem_toArray, List.getElem_cons_succ, List.getElem_cons_zero, List.setIfInBounds_toArray, List.set_cons_zero, List.set_cons_succ])
            generalize V26.alloc (.cells #[.slice none 0 0] 22) = V32 at HI32 ⊢
            refine any_run hd (L := [1]) (by kernel_rfl) (by decide) (fun i hi hd2 => ?_)
            clear hd
            have hd := hd2
            clear hd2
            obtain rfl := List.mem_singleton.1 hi
            clear hi
            refine any_do rfl rfl (fun K hK => ?_)
            go_simp
            have hcon := nodes_gr V32 F1 p G (EN.out _ HI32.out.b).gr HG.out.1
            refine hcon.mono ?_
            clear hcon
            rintro e V33 ⟨v, rfl, own, b⟩
            rw [HG.out.2.1] at own
            obtain ⟨A33, c33, rfl, -, -⟩ := own_form own
            have HI33 := Lib.hid (HI32.out.row1 b own)
            clear own b
            refine hK _ _ (SR.out _ HI33.out.b) ?_
            clear hK K
            (try simp only [Act.put, List.getElem_toArray, List.getElem_cons_succ, List.getElem_cons_zero, List.setIfInBounds_toArray, List.set_cons_zero, List.set_cons_succ])
            refine any_run hd (L := [3]) (by kernel_rfl) (by decide) (fun i hi hd2 => ?_)
            clear hd
            have hd := hd2
            clear hd2
            obtain rfl := List.mem_singleton.1 hi
            clear hi
            refine any_do rfl rfl (fun K hK => ?_)
            go_simp
            have hcon := labels_gr V33 F1 p G (EN.out _ HI33.out.b).gr HG.out.1
            rw [HG.out.2.2.2.1] at hcon
            refine hcon.mono ?_
            clear hcon
            rintro e V34 ⟨v, rfl, own, b⟩
            rw [HG.out.2.2.2.2] at own
            obtain ⟨A34, c34, rfl, -, -⟩ := own_form own
            have HI34 := Lib.hid (HI33.out.row3 b own)
            clear own b
            refine hK _ _ (SR.out _ HI34.out.b) ?_
            clear hK K
            (try simp only [Act.put, List.getElem_toArray, List.getElem_cons_succ, List.getElem_cons_zero, List.setIfInBounds_toArray, List.set_cons_zero, List.set_cons_succ])
            have hE := LbI.stored HI34.out
            have z9 := (HI34.out.h4 _ rfl).2
            have z10 := (HI34.out.h5 _ rfl).2
            have hne := HI34.out.ne _ _ rfl rfl
            have q9 : V34.cell? ⟨V26.heap.size, 0, none⟩ = some (.slice none 0 0) := z9.cell 0
            have f9 := z9.frozen 0
            have z10s := z10.far (p := ⟨V26.heap.size, 0, none⟩) (Ne.symm hne) (.slice A33 n c33)
            have q10 : (V34.setCell ⟨V26.heap.size, 0, none⟩ (.slice A33 n c33)).cell? ⟨V0.heap.size, 0, none⟩ = some (.slice none 0 0) := z10s.cell 0
            have f10 := z10s.frozen 0
            have hS1 : (fun V => V.cell? ⟨g5, 0, none⟩ = some (.pointer (some ⟨p, 0, none⟩))) (V34.setCell ⟨V26.heap.size, 0, none⟩ (.slice A33 n c33)) := SR.out _ (HI34.out.b.trans ((((Upd.refl (fun q => q = V26.heap.size) V34).setCell (p := ⟨V26.heap.size, 0, none⟩) (.inl rfl) _).below (fun i _ e => by have := (HI34.out.h4 _ rfl).1; omega) HI34.out.b.size)))
            clear z9 z10 hne z10s
            have HE := Lib.hid hE
            clear hE
            refine any_run hd (L := [6]) (by kernel_rfl) (by decide) (fun i hi hd2 => ?_)
            clear hd
            have hd := hd2
            clear hd2
            obtain rfl := List.mem_singleton.1 hi
            clear hi
            refine any_do rfl rfl (fun K hK => ?_)
            go_simp
            refine hK _ _ hS1 ?_
            clear hK K q9 f9
            (try simp only [Act.put, List.getElem_toArray, List.getElem_cons_succ, List.getElem_cons_zero, List.setIfInBounds_toArray, List.set_cons_zero, List.set_cons_succ])
            refine any_run hd (L := [7]) (by kernel_rfl) (by decide) (fun i hi hd2 => ?_)
            clear hd
            have hd := hd2
            clear hd2
            obtain rfl := List.mem_singleton.1 hi
            clear hi
            refine any_do rfl rfl (fun K hK => ?_)
            go_simp
            refine hK _ _ (SR.out _ HE.out.1) ?_
            clear hK K q10 f10 hS1
            (try simp only [Act.put, List.getElem_toArray, List.getElem_cons_succ, List.getElem_cons_zero, List.setIfInBounds_toArray, List.set_cons_zero, List.set_cons_succ])
            refine any_done (by kernel_rfl) ?_
            clear hd
            simp only [noPan]
            go_wp2
            go_meet
            case rel => exact ⟨rfl, _, _, rfl, rfl, HE⟩
  case rest =>
    obtain ⟨rfl, g9, g10, rfl, rfl, hlb⟩ := hcut
    obtain ⟨b67, z9, z10, NA, Nc, LA, Lc, k9, k10, o9, o10⟩ := hlb.out
    have hs7 := EN.out wc b67
    have q7 : wc.cell? ⟨g7, 0, none⟩ = some (.int .i64 (n : Int)) := hs7.k7.cell 0
    have q9 : wc.cell? ⟨g9, 0, none⟩ = some (.slice NA n Nc) := k9.cell 0
    have hbw := H6.out.1.b.size
    have M0 := Lib.hid (show EnM w F1 p G LB n m w.heap.size g5 g7 g9 g10 NA LA Nc Lc wc from ⟨hs7, k9, k10, ownsRow_base o9 (fun k hk => Nat.le_trans hbw (o9.lt k hk).1), ownsRow_base o10 (fun k hk => Nat.le_trans hbw (o10.lt k hk).1)⟩)
    have K13 := Lib.hid (Blk.new wc 3 #[.int .i64 0])
    clear b67 z9 z10 k9 k10 o9 o10 hs7 hlb hbw
    go_upto_region 11 with (fail)
    generalize hg13 : wc.heap.size = g13 at K13
    have b711 : Below wc.heap.size wc (wc.alloc (.cells #[.int .i64 0] 3)) := (Below.refl _ _).alloc (Nat.le_refl _) _
    have M1 := M0.out.below b711
    have hO := M0.out.lt
    rw [hg13] at hO
    clear q7 q9 b711 hg13
    generalize wc.alloc (.cells #[.int .i64 0] 3) = W0 at M1 K13 ⊢
    have HO := Lib.hid hO
    have HM := Lib.hid M1
    have HNE := Lib.hid (show w.heap.size < g7 by have := H6.out.2.2.1; have := H6.out.2.2.2; omega)
    clear M1 hO M0 EN SR H6
    go_wp2
    go_loopw [11, 12, 14] (fun o nn i wr => ∃ k : Nat, k ≤ n ∧ i = .int .i64 (k : Int) ∧ o = .int .i64 ((sumK Ed.fr G.X G.N k : Nat) : Int) ∧ nn = .int .i64 ((sumK Ed.to G.X G.N k : Nat) : Int) ∧ Hid (Below W0.heap.size W0 wr)) (fun _ _ i _ => n - (intOf i).toNat)
    case atStart => exact ⟨0, Nat.zero_le _, rfl, rfl, rfl, Lib.hid (Below.refl _ _)⟩
    case round =>
      obtain ⟨i, hi, rfl, rfl, rfl, hb⟩ := hrel
      have q7 : wr.cell? ⟨g7, 0, none⟩ = some (.int .i64 (n : Int)) := (HM.out.below hb.out).s.k7.cell 0
      by_cases hlt : i < n
      · have hltI : (i : Int) < (n : Int) := by omega
        as_aux_lemma =>
        obtain ⟨sN, hsN⟩ : ∃ sN, G.N[i]? = some sN := ⟨G.N[i]'(by rw [HG.out.2.1]; exact hlt), List.getElem?_eq_getElem _⟩
        have okG := HG.out.1
        have hM := HM.out.below hb.out
        have q5 : wr.cell? ⟨g5, 0, none⟩ = some (.pointer (some ⟨p, 0, none⟩)) := hM.s.k5.cell 0
        have hcon := out_gr wr F1 p G hM.s.gr okG i (by rw [HG.out.2.1]; exact hlt)
        have kf := fun x (hx : x ∈ G.X) => (okG.ends x hx).1
        have kt := fun x (hx : x ∈ G.X) => (okG.ends x hx).2
        have l1 : sumK Ed.fr G.X G.N (i + 1) ≤ cn := by rw [← HG.out.2.2.1]; exact sumK_le okG.nd kf _
        have l2 : sumK Ed.to G.X G.N (i + 1) ≤ cn := by rw [← HG.out.2.2.1]; exact sumK_le okG.nd kt _
        have e1 : sumK Ed.fr G.X G.N (i + 1) = _ := sumK_succ hsN
        have e2 : sumK Ed.to G.X G.N (i + 1) = _ := sumK_succ hsN
        obtain ⟨s1, hs1⟩ : ∃ s1, sumK Ed.fr G.X G.N i = s1 := ⟨_, rfl⟩
        obtain ⟨s2, hs2⟩ : ∃ s2, sumK Ed.to G.X G.N i = s2 := ⟨_, rfl⟩
        rw [hs1] at e1
        rw [hs2] at e2
        have HS := Lib.hid (And.intro hsN (And.intro e1 (And.intro e2 (And.intro l1 l2))))
        simp only [hs1, hs2]
        clear l1 l2 e1 e2 kf kt hs1 hs2 hM hsN
        go_wp2_with fail
        refine hcon.mono ?_
        clear hcon q5
        rintro e Wa ⟨v, L1, ho, rfl, own1, ba⟩
        obtain ⟨A1, c1, rfl, -, -⟩ := own_form own1
        obtain ⟨m1, hm1⟩ : ∃ q, L1.length = q := ⟨_, rfl⟩
        rw [hm1] at own1 ⊢
        have H1 := Lib.hid (And.intro own1 (And.intro ba (And.intro ho hm1)))
        clear own1 ba ho hm1
        have hMa := HM.out.below (hb.out.trans (H1.out.2.1.mono hb.out.size))
        have q5 : Wa.cell? ⟨g5, 0, none⟩ = some (.pointer (some ⟨p, 0, none⟩)) := hMa.s.k5.cell 0
        have hcon := in_gr Wa F1 p G hMa.s.gr okG i (by rw [HG.out.2.1]; exact hlt)
        clear hMa q7
        go_wp2_with fail
        refine hcon.mono ?_
        clear hcon q5
        rintro e Wb ⟨v, L2, hi2, rfl, own2, bb⟩
        obtain ⟨A2, c2, rfl, -, -⟩ := own_form own2
        have hl2 : L2.length = cntK Ed.to G.X sN := in_len okG HS.out.1 hi2
        have hl1 : m1 = cntK Ed.fr G.X sN := by rw [← H1.out.2.2.2]; exact out_len okG HS.out.1 H1.out.2.2.1
        have hsum2 : sumK Ed.to G.X G.N (i + 1) = s2 + L2.length := by rw [HS.out.2.2.1, hl2]
        have hsum1 : sumK Ed.fr G.X G.N (i + 1) = s1 + m1 := by rw [HS.out.2.1, hl1]
        obtain ⟨m2, hm2⟩ : ∃ q, L2.length = q := ⟨_, rfl⟩
        rw [hm2] at hsum2 ⊢
        have hsw : IntKind.i64.wrap ((s2 : Int) + (m2 : Int)) = ((s2 + m2 : Nat) : Int) := by
          have := HS.out.2.2.2.2
          rw [hsum2] at this
          rw [IntKind.wrap_i64]; omega
        have hle1 : s1 + m1 ≤ 256 := by have := HS.out.2.2.2.1; rw [hsum1] at this; omega
        have bab := hb.out.trans ((H1.out.2.1.trans (bb.mono H1.out.2.1.size)).mono hb.out.size)
        have HB := Lib.hid (And.intro bab (And.intro bb (And.intro hsum1 hsum2)))
        clear own2 hi2 bb hl2 hl1 hsum1 hsum2 bab hm2
        go_wp2
        go_loopw [11, 19] (fun o kk wr => ∃ k : Nat, k ≤ m1 ∧ kk = .int .i64 (k : Int) ∧ o = .int .i64 ((s1 + k : Nat) : Int) ∧ Hid (Below Wb.heap.size Wb wr)) (fun _ kk _ => m1 - (intOf kk).toNat)
        case atStart => exact ⟨0, Nat.zero_le _, rfl, rfl, Lib.hid (Below.refl _ _)⟩
        case round =>
          obtain ⟨k, hk, rfl, rfl, hb2⟩ := hrel
          by_cases hlt2 : k < m1
          · have hltJ : (k : Int) < (m1 : Int) := by omega
            as_aux_lemma =>
            have hkw : IntKind.i64.wrap ((k : Int) + 1) = (k : Int) + 1 := IntWalk.i64_in _ (by omega)
            have hsw2 : IntKind.i64.wrap (((s1 + k : Nat) : Int) + 1) = ((s1 + (k + 1) : Nat) : Int) := by rw [IntKind.wrap_i64]; omega
            obtain ⟨y, hy⟩ : ∃ y, L1[k]? = some y := ⟨L1[k]'(by rw [H1.out.2.2.2]; exact hlt2), List.getElem?_eq_getElem _⟩
            obtain ⟨x, hx, hfr, hye⟩ := (H1.out.2.2.1.mem y).1 (List.mem_of_getElem? hy)
            obtain ⟨j, hj⟩ : ∃ j, idxT G.N x.to = j := ⟨_, rfl⟩
            have hto : G.N[j]? = some x.to := by rw [← hj]; exact idxT_at (okG.ends x hx).2
            have hjn : j < n := by rw [← HG.out.2.1]; exact (List.getElem?_eq_some_iff.1 hto).1
            obtain ⟨gh, ch, e, -, -, -, -, hcell⟩ := own_cells H1.out.1 (by omega)
            injection e with e
            subst e
            have g0 := flat_get Hp.cells 2 (fun _ => rfl) L1 k 0 _ hy (by omega)
            have g1 := flat_get Hp.cells 2 (fun _ => rfl) L1 k 1 _ hy (by omega)
            obtain ⟨gN, hNA, -⟩ := (HM.out.below hb.out).name hfr HG.out.2.1
            subst hNA
            have SR := Lib.hid (show ∀ V, Below Wb.heap.size Wb V → (fun V => V.cell? ⟨gh, k * 2, none⟩ = some (.string x.lb) ∧ V.cell? ⟨gh, k * 2 + 1, none⟩ = some (.int .i64 (j : Int)) ∧ V.cell? ⟨g5, 0, none⟩ = some (.pointer (some ⟨p, 0, none⟩)) ∧ V.cell? ⟨g7, 0, none⟩ = some (.int .i64 (n : Int)) ∧ V.cell? ⟨g9, 0, none⟩ = some (.slice (some ⟨gN, 0, none⟩) n Nc) ∧ V.cell? ⟨gN, i, none⟩ = some (.string x.fr) ∧ V.cell? ⟨gN, j, none⟩ = some (.string x.to)) V from fun V hbV => by
              have b1 := HB.out.2.1.trans (hbV.mono HB.out.2.1.size)
              have hM := HM.out.below (HB.out.1.trans (hbV.mono HB.out.1.size))
              obtain ⟨gN', e, c1⟩ := hM.name hfr HG.out.2.1
              injection e with e
              injection e with e
              subst e
              obtain ⟨gN', e, c2⟩ := hM.name hto HG.out.2.1
              injection e with e
              injection e with e
              subst e
              subst hye
              rw [hj] at g1
              have h0 := (hcell _ _ g0).1
              have h1 := (hcell _ _ g1).1
              have lh := World.block_lt_of_cell? Wa _ h0
              exact ⟨(b1.cell (p := ⟨gh, k * 2 + 0, none⟩) lh).trans h0, (b1.cell (p := ⟨gh, k * 2 + 1, none⟩) lh).trans h1, hM.s.k5.cell 0, hM.s.k7.cell 0, hM.k9.cell 0, c1, c2⟩)
            have hjJ : (j : Int) < (n : Int) := by omega
            have j1 : decide ((j : Int) < 0) = false := by simp
            have j2 : decide (n ≤ j) = false := by simp; omega
            have hiI : (i : Int) < (n : Int) := by omega
            have HX := Lib.hid (And.intro hx (And.intro hj hfr))
            clear hy hfr hye hj hto hcell g0 g1 hx
            go_upto_region 22 with (fail)
            have B0 := Lib.hid (show Below Wb.heap.size Wb wr.drew from hb2.out.drew)
            have hS := SR.out _ B0.out
            refine wp_noPan ?_
            refine wp_region_ord (fun V => V.cell? ⟨gh, k * 2, none⟩ = some (.string x.lb) ∧ V.cell? ⟨gh, k * 2 + 1, none⟩ = some (.int .i64 (j : Int)) ∧ V.cell? ⟨g5, 0, none⟩ = some (.pointer (some ⟨p, 0, none⟩)) ∧ V.cell? ⟨g7, 0, none⟩ = some (.int .i64 (n : Int)) ∧ V.cell? ⟨g9, 0, none⟩ = some (.slice (some ⟨gN, 0, none⟩) n Nc) ∧ V.cell? ⟨gN, i, none⟩ = some (.string x.fr) ∧ V.cell? ⟨gN, j, none⟩ = some (.string x.to)) 37 [(0, true), (1, true), (2, true), (3, true), (4, true), (5, true), (6, true), (7, true), (8, true), (9, true), (10, true), (11, true), (12, true), (13, true), (14, true), (15, true), (16, true), (17, true), (18, true), (19, true), (20, true), (21, true), (22, true), (23, true), (24, true), (25, true), (26, true), (27, true), (28, true), (29, true), (30, true), (31, true), (32, true), (33, true), (34, false), (35, true), (36, true)] (by kernel_rfl) (by kernel_rfl) (fun _ _ _ _ _ h => h.elim) hS ?_
            generalize wr.drew = V0 at B0 hS ⊢
            (refine ord_take (v := ?_) rfl (by first | with_reducible rfl | kernel_rfl) ?_ ?_; rotate_left; (focus (intro wS hS; (try dsimp only at hS); go_split_ands; go_simp; (try with_reducible rfl); done)); (try simp only [Act.put, List.getElem_toArray, List.getElem_cons_succ, List.getElem_cons_zero, List.setIfInBounds_toArray, List.set_cons_zero, List.set_cons_succ]))
            (refine ord_take (v := ?_) rfl (by first | with_reducible rfl | kernel_rfl) ?_ ?_; rotate_left; (focus (intro wS hS; (try dsimp only at hS); go_split_ands; go_simp; (try with_reducible rfl); done)); (try simp only [Act.put, List.getElem_toArray, List.getElem_cons_succ, List.getElem_cons_zero, List.setIfInBounds_toArray, List.set_cons_zero, List.set_cons_succ]))
            (refine ord_take (v := ?_) rfl (by first | with_reducible rfl | kernel_rfl) ?_ ?_; rotate_left; (focus (intro wS hS; (try dsimp only at hS); go_split_ands; go_simp; (try with_reducible rfl); done)); (try simp only [Act.put, List.getElem_toArray, List.getElem_cons_succ, List.getElem_cons_zero, List.setIfInBounds_toArray, List.set_cons_zero, List.set_cons_succ]))
            (refine ord_take (v := ?_) rfl (by first | with_reducible rfl | kernel_rfl) ?_ ?_; rotate_left; (focus (intro wS hS; (try dsimp only at hS); go_split_ands; go_simp; (try with_reducible rfl); done)); (try simp only [Act.put, List.getElem_toArray, List.getElem_cons_succ, List.getElem_cons_zero, List.setIfInBounds_toArray, List.set_cons_zero, List.set_cons_succ]))
            (refine ord_take (v := ?_) rfl (by first | with_reducible rfl | kernel_rfl) ?_ ?_; rotate_left; (focus (intro wS hS; (try dsimp only at hS); go_split_ands; go_simp; (try with_reducible rfl); done)); (try simp only [Act.put, List.getElem_toArray, List.getElem_cons_succ, List.getElem_cons_zero, List.setIfInBounds_toArray, List.set_cons_zero, List.set_cons_succ]))
            (refine ord_take (v := ?_) rfl (by first | with_reducible rfl | kernel_rfl) ?_ ?_; rotate_left; (focus (intro wS hS; (try dsimp only at hS); go_split_ands; go_simp; (try with_reducible rfl); done)); (try simp only [Act.put, List.getElem_toArray, List.getElem_cons_succ, List.getElem_cons_zero, List.setIfInBounds_toArray, List.set_cons_zero, List.set_cons_succ]))
            (refine ord_take (v := ?_) rfl (by first | with_reducible rfl | kernel_rfl) ?_ ?_; rotate_left; (focus (intro wS hS; (try dsimp only at hS); go_split_ands; go_simp; (try with_reducible rfl); done)); (try simp only [Act.put, List.getElem_toArray, List.getElem_cons_succ, List.getElem_cons_zero, List.setIfInBounds_toArray, List.set_cons_zero, List.set_cons_succ]))
            (refine ord_take (v := ?_) rfl (by first | with_reducible rfl | kernel_rfl) ?_ ?_; rotate_left; (focus (intro wS hS; (try dsimp only at hS); go_split_ands; go_simp; (try with_reducible rfl); done)); (try simp only [Act.put, List.getElem_toArray, List.getElem_cons_succ, List.getElem_cons_zero, List.setIfInBounds_toArray, List.set_cons_zero, List.set_cons_succ]))
            (refine ord_take (v := ?_) rfl (by first | with_reducible rfl | kernel_rfl) ?_ ?_; rotate_left; (focus (intro wS hS; (try dsimp only at hS); go_split_ands; go_simp; (try with_reducible rfl); done)); (try simp only [Act.put, List.getElem_toArray, List.getElem_cons_succ, List.getElem_cons_zero, List.setIfInBounds_toArray, List.set_cons_zero, List.set_cons_succ]))
            (refine ord_take (v := ?_) rfl (by first | with_reducible rfl | kernel_rfl) ?_ ?_; rotate_left; (focus (intro wS hS; (try dsimp only at hS); go_split_ands; go_simp; (try with_reducible rfl); done)); (try simp only [Act.put, List.getElem_toArray, List.getElem_cons_succ, List.getElem_cons_zero, List.setIfInBounds_toArray, List.set_cons_zero, List.set_cons_succ]))
            (refine ord_take (v := ?_) rfl (by first | with_reducible rfl | kernel_rfl) ?_ ?_; rotate_left; (focus (intro wS hS; (try dsimp only at hS); go_split_ands; go_simp; (try with_reducible rfl); done)); (try simp only [Act.put, List.getElem_toArray, List.getElem_cons_succ, List.getElem_cons_zero, List.setIfInBounds_toArray, List.set_cons_zero, List.set_cons_succ]))
            (refine ord_take (v := ?_) rfl (by first | with_reducible rfl | kernel_rfl) ?_ ?_; rotate_left; (focus (intro wS hS; (try dsimp only at hS); go_split_ands; go_simp; (try with_reducible rfl); done)); (try simp only [Act.put, List.getElem_toArray, List.getElem_cons_succ, List.getElem_cons_zero, List.setIfInBounds_toArray, List.set_cons_zero, List.set_cons_succ]))
            (refine ord_take (v := ?_) rfl (by first | with_reducible rfl | kernel_rfl) ?_ ?_; rotate_left; (focus (intro wS hS; (try dsimp only at hS); go_split_ands; go_simp; (try with_reducible rfl); done)); (try simp only [Act.put, List.getElem_toArray, List.getElem_cons_succ, List.getElem_cons_zero, List.setIfInBounds_toArray, List.set_cons_zero, List.set_cons_succ]))
            (refine ord_take (v := ?_) rfl (by first | with_reducible rfl | kernel_rfl) ?_ ?_; rotate_left; (focus (intro wS hS; (try dsimp only at hS); go_split_ands; go_simp; (try with_reducible rfl); done)); (try simp only [Act.put, List.getElem_toArray, List.getElem_cons_succ, List.getElem_cons_zero, List.setIfInBounds_toArray, List.set_cons_zero, List.set_cons_succ]))
            (refine ord_take (v := ?_) rfl (by first | with_reducible rfl | kernel_rfl) ?_ ?_; rotate_left; (focus (intro wS hS; (try dsimp only at hS); go_split_ands; go_simp; (try with_reducible rfl); done)); (try simp only [Act.put, List.getElem_toArray, List.getElem_cons_succ, List.getElem_cons_zero, List.setIfInBounds_toArray, List.set_cons_zero, List.set_cons_succ]))
            (refine ord_take (v := ?_) rfl (by first | with_reducible rfl | kernel_rfl) ?_ ?_; rotate_left; (focus (intro wS hS; (try dsimp only at hS); go_split_ands; go_simp; (try with_reducible rfl); done)); (try simp only [Act.put, List.getElem_toArray, List.getElem_cons_succ, List.getElem_cons_zero, List.setIfInBounds_toArray, List.set_cons_zero, List.set_cons_succ]))
            (refine ord_take (v := ?_) rfl (by first | with_reducible rfl | kernel_rfl) ?_ ?_; rotate_left; (focus (intro wS hS; (try dsimp only at hS); go_split_ands; go_simp; (try with_reducible rfl); done)); (try simp only [Act.put, List.getElem_toArray, List.getElem_cons_succ, List.getElem_cons_zero, List.setIfInBounds_toArray, List.set_cons_zero, List.set_cons_succ]))
            (refine ord_take (v := ?_) rfl (by first | with_reducible rfl | kernel_rfl) ?_ ?_; rotate_left; (focus (intro wS hS; (try dsimp only at hS); go_split_ands; go_simp; (try with_reducible rfl); done)); (try simp only [Act.put, List.getElem_toArray, List.getElem_cons_succ, List.getElem_cons_zero, List.setIfInBounds_toArray, List.set_cons_zero, List.set_cons_succ]))
            (refine ord_take (v := ?_) rfl (by first | with_reducible rfl | kernel_rfl) ?_ ?_; rotate_left; (focus (intro wS hS; (try dsimp only at hS); go_split_ands; go_simp; (try with_reducible rfl); done)); (try simp only [Act.put, List.getElem_toArray, List.getElem_cons_succ, List.getElem_cons_zero, List.setIfInBounds_toArray, List.set_cons_zero, List.set_cons_succ]))
            (refine ord_take (v := ?_) rfl (by first | with_reducible rfl | kernel_rfl) ?_ ?_; rotate_left; (focus (intro wS hS; (try dsimp only at hS); go_split_ands; go_simp; (try with_reducible rfl); done)); (try simp only [Act.put, List.getElem_toArray, List.getElem_cons_succ, List.getElem_cons_zero, List.setIfInBounds_toArray, List.set_cons_zero, List.set_cons_succ]))
            (refine ord_take (v := ?_) rfl (by first | with_reducible rfl | kernel_rfl) ?_ ?_; rotate_left; (focus (intro wS hS; (try dsimp only at hS); go_split_ands; go_simp; (try with_reducible rfl); done)); (try simp only [Act.put, List.getElem_toArray, List.getElem_cons_succ, List.getElem_cons_zero, List.setIfInBounds_toArray, List.set_cons_zero, List.set_cons_succ]))
            (refine ord_take (v := ?_) rfl (by first | with_reducible rfl | kernel_rfl) ?_ ?_; rotate_left; (focus (intro wS hS; (try dsimp only at hS); go_split_ands; go_simp; (try with_reducible rfl); done)); (try simp only [Act.put, List.getElem_toArray, List.getElem_cons_succ, List.getElem_cons_zero, List.setIfInBounds_toArray, List.set_cons_zero, List.set_cons_succ]))
            (refine ord_take (v := ?_) rfl (by first | with_reducible rfl | kernel_rfl) ?_ ?_; rotate_left; (focus (intro wS hS; (try dsimp only at hS); go_split_ands; go_simp; (try with_reducible rfl); done)); (try simp only [Act.put, List.getElem_toArray, List.getElem_cons_succ, List.getElem_cons_zero, List.setIfInBounds_toArray, List.set_cons_zero, List.set_cons_succ]))
            (refine ord_take (v := ?_) rfl (by first | with_reducible rfl | kernel_rfl) ?_ ?_; rotate_left; (focus (intro wS hS; (try dsimp only at hS); go_split_ands; go_simp; (try with_reducible rfl); done)); (try simp only [Act.put, List.getElem_toArray, List.getElem_cons_succ, List.getElem_cons_zero, List.setIfInBounds_toArray, List.set_cons_zero, List.set_cons_succ]))
            (refine ord_take (v := ?_) rfl (by first | with_reducible rfl | kernel_rfl) ?_ ?_; rotate_left; (focus (intro wS hS; (try dsimp only at hS); go_split_ands; go_simp; (try with_reducible rfl); done)); (try simp only [Act.put, List.getElem_toArray, List.getElem_cons_succ, List.getElem_cons_zero, List.setIfInBounds_toArray, List.set_cons_zero, List.set_cons_succ]))
            (refine ord_take (v := ?_) rfl (by first | with_reducible rfl | kernel_rfl) ?_ ?_; rotate_left; (focus (intro wS hS; (try dsimp only at hS); go_split_ands; go_simp; (try with_reducible rfl); done)); (try simp only [Act.put, List.getElem_toArray, List.getElem_cons_succ, List.getElem_cons_zero, List.setIfInBounds_toArray, List.set_cons_zero, List.set_cons_succ]))
            (refine ord_take (v := ?_) rfl (by first | with_reducible rfl | kernel_rfl) ?_ ?_; rotate_left; (focus (intro wS hS; (try dsimp only at hS); go_split_ands; go_simp; (try with_reducible rfl); done)); (try simp only [Act.put, List.getElem_toArray, List.getElem_cons_succ, List.getElem_cons_zero, List.setIfInBounds_toArray, List.set_cons_zero, List.set_cons_succ]))
            (refine ord_take (v := ?_) rfl (by first | with_reducible rfl | kernel_rfl) ?_ ?_; rotate_left; (focus (intro wS hS; (try dsimp only at hS); go_split_ands; go_simp; (try with_reducible rfl); done)); (try simp only [Act.put, List.getElem_toArray, List.getElem_cons_succ, List.getElem_cons_zero, List.setIfInBounds_toArray, List.set_cons_zero, List.set_cons_succ]))
            (refine ord_take (v := ?_) rfl (by first | with_reducible rfl | kernel_rfl) ?_ ?_; rotate_left; (focus (intro wS hS; (try dsimp only at hS); go_split_ands; go_simp; (try with_reducible rfl); done)); (try simp only [Act.put, List.getElem_toArray, List.getElem_cons_succ, List.getElem_cons_zero, List.setIfInBounds_toArray, List.set_cons_zero, List.set_cons_succ]))
            (refine ord_take (v := ?_) rfl (by first | with_reducible rfl | kernel_rfl) ?_ ?_; rotate_left; (focus (intro wS hS; (try dsimp only at hS); go_split_ands; go_simp; (try with_reducible rfl); done)); (try simp only [Act.put, List.getElem_toArray, List.getElem_cons_succ, List.getElem_cons_zero, List.setIfInBounds_toArray, List.set_cons_zero, List.set_cons_succ]))
            (refine ord_take (v := ?_) rfl (by first | with_reducible rfl | kernel_rfl) ?_ ?_; rotate_left; (focus (intro wS hS; (try dsimp only at hS); go_split_ands; go_simp; (try with_reducible rfl); done)); (try simp only [Act.put, List.getElem_toArray, List.getElem_cons_succ, List.getElem_cons_zero, List.setIfInBounds_toArray, List.set_cons_zero, List.set_cons_succ]))
            (refine ord_take (v := ?_) rfl (by first | with_reducible rfl | kernel_rfl) ?_ ?_; rotate_left; (focus (intro wS hS; (try dsimp only at hS); go_split_ands; go_simp; (try with_reducible rfl); done)); (try simp only [Act.put, List.getElem_toArray, List.getElem_cons_succ, List.getElem_cons_zero, List.setIfInBounds_toArray, List.set_cons_zero, List.set_cons_succ]))
            (refine ord_take (v := ?_) rfl (by first | with_reducible rfl | kernel_rfl) ?_ ?_; rotate_left; (focus (intro wS hS; (try dsimp only at hS); go_split_ands; go_simp; (try with_reducible rfl); done)); (try simp only [Act.put, List.getElem_toArray, List.getElem_cons_succ, List.getElem_cons_zero, List.setIfInBounds_toArray, List.set_cons_zero, List.set_cons_succ]))
            (refine ord_take (v := ?_) rfl (by first | with_reducible rfl | kernel_rfl) ?_ ?_; rotate_left; (focus (intro wS hS; (try dsimp only at hS); go_split_ands; go_simp; (try with_reducible rfl); done)); (try simp only [Act.put, List.getElem_toArray, List.getElem_cons_succ, List.getElem_cons_zero, List.setIfInBounds_toArray, List.set_cons_zero, List.set_cons_succ]))
            (refine ord_dog rfl (by first | with_reducible rfl | kernel_rfl) (fun K hK => ?_); go_simp)
            have hM := HM.out.below (HB.out.1.trans (B0.out.mono HB.out.1.size))
            have hcon := has_gr V0 F1 p G hM.s.gr okG x (ends_ok okG HX.out.1).1 (ends_ok okG HX.out.1).2
            rw [decide_eq_true HX.out.1] at hcon
            refine hcon.mono ?_
            clear hcon hM
            rintro e V1 ⟨rfl, b1⟩
            have B1 := Lib.hid (B0.out.trans (b1.mono B0.out.size))
            have hS := SR.out _ B1.out
            refine hK _ _ (fun _ => hS) ?_
            clear hK K b1
            (try simp only [Act.put, List.getElem_toArray, List.getElem_cons_succ, List.getElem_cons_zero, List.setIfInBounds_toArray, List.set_cons_zero, List.set_cons_succ])
            (refine ord_take (v := ?_) rfl (by first | with_reducible rfl | kernel_rfl) ?_ ?_; rotate_left; (focus (intro wS hS; (try dsimp only at hS); go_split_ands; go_simp; (try with_reducible rfl); done)); (try simp only [Act.put, List.getElem_toArray, List.getElem_cons_succ, List.getElem_cons_zero, List.setIfInBounds_toArray, List.set_cons_zero, List.set_cons_succ]))
            (refine ord_take (v := ?_) rfl (by first | with_reducible rfl | kernel_rfl) ?_ ?_; rotate_left; (focus (intro wS hS; (try dsimp only at hS); go_split_ands; go_simp; (try with_reducible rfl); done)); (try simp only [Act.put, List.getElem_toArray, List.getElem_cons_succ, List.getElem_cons_zero, List.setIfInBounds_toArray, List.set_cons_zero, List.set_cons_succ]))
            refine ord_done ?_
            dsimp only [noPan]
            clear hS SR
            go_wp2
            go_roundw
            case rel =>
              refine ⟨k + 1, by omega, ?_⟩
              constructor <;> omega
            case measure => simp [intOf]; omega
          · obtain rfl : m1 = k := by omega
            have HE := Lib.hid (show Below W0.heap.size W0 wr from HB.out.1.trans (hb2.out.mono HB.out.1.size))
            have HQ := Lib.hid (And.intro HB.out.2.2.1 HB.out.2.2.2)
            have hkw : IntKind.i64.wrap ((i : Int) + 1) = (i : Int) + 1 := IntWalk.i64_in _ (by omega)
            go_wp2
            go_roundw
            case rel => exact ⟨i + 1, by omega, by go_num, by rw [HQ.out.1], by rw [HQ.out.2, Int.natCast_add], HE⟩
            case measure => simp [intOf]; omega
      · obtain rfl : n = i := by omega
        have okG := HG.out.1
        have t1 : sumK Ed.fr G.X G.N n = cn := by rw [← HG.out.2.1, ← HG.out.2.2.1]; exact sumK_all okG.nd (fun x hx => (okG.ends x hx).1)
        have t2 : sumK Ed.to G.X G.N n = cn := by rw [← HG.out.2.1, ← HG.out.2.2.1]; exact sumK_all okG.nd (fun x hx => (okG.ends x hx).2)
        rw [t1, t2]
        have HM2 := Lib.hid (HM.out.below hb.out)
        have K132 := Lib.hid (K13.out.upd (Upd.of_below hb.out (fun _ => False)) id)
        clear t1 t2 hb
        go_upto_region 26 with (fail)
        as_aux_lemma =>
        have K20 := Lib.hid (Blk.new wr 3 #[.int .i64 0])
        have I0 := Lib.hid (show EnL w F1 p G LB n m w.heap.size g5 g7 g9 g10 g13 NA LA Nc Lc 0 wr.heap.size [] (wr.alloc (.cells #[.int .i64 0] 3)) from
          ⟨HM2.out.below ((Below.refl _ _).alloc (Nat.le_refl _) _), K132.out.alloc _, K20.out, K132.out.lt, List.nodup_nil, fun D hD => (by cases hD)⟩)
        clear K20 HM2 K132 q7
        generalize wr.heap.size = g20 at I0 ⊢
        generalize wr.alloc (.cells #[.int .i64 0] 3) = W1 at I0 ⊢
        refine wp_loop (fun a wr => ∃ (k ga : Nat) (Ds : List Nat) (T : Array Value), a = ⟨T, Ds.map (fun D => { target := .collected D, args := #[] })⟩ ∧ T.size = 224 ∧ (T.getD 0 undef = .slice A mN c ∧ T.getD 1 undef = .slice B mL d ∧ T.getD 4 undef = .pointer (some ⟨w.heap.size, 0, none⟩) ∧ T.getD 5 undef = .pointer (some ⟨g5, 0, none⟩) ∧ T.getD 6 undef = .int .i64 (cn : Int) ∧ T.getD 7 undef = .pointer (some ⟨g7, 0, none⟩) ∧ T.getD 8 undef = .int .i64 (cn : Int) ∧ T.getD 9 undef = .pointer (some ⟨g9, 0, none⟩) ∧ T.getD 10 undef = .pointer (some ⟨g10, 0, none⟩) ∧ T.getD 11 undef = .int .i64 (cn : Int) ∧ T.getD 12 undef = .int .i64 (cn : Int) ∧ T.getD 13 undef = .pointer (some ⟨g13, 0, none⟩) ∧ T.getD 20 undef = .pointer (some ⟨ga, 0, none⟩)) ∧ (Ds.length = k ∧ k ≤ m) ∧ EnL w F1 p G LB n m w.heap.size g5 g7 g9 g10 g13 NA LA Nc Lc k ga Ds wr) (fun a _ => m - a.defers.length) ?_ ?_
        · exact ⟨0, g20, [], _, rfl, rfl, ⟨rfl, rfl, rfl, rfl, rfl, rfl, rfl, rfl, rfl, rfl, rfl, rfl, rfl⟩, ⟨rfl, Nat.zero_le _⟩, I0.out⟩
        · rintro a wr ⟨k, ga, Ds, T, rfl, hT, ⟨h0, h1, h4, h5, h6, h7, h8, h9, h10, h11, h12, h13, h20⟩, ⟨hDl, hk⟩, hI⟩
          have HDl := Lib.hid hDl
          clear hDl
          obtain ⟨f, rfl⟩ : ∃ f : Nat → Value, T = #[.slice A mN c, .slice B mL d, f 2, f 3, .pointer (some ⟨w.heap.size, 0, none⟩), .pointer (some ⟨g5, 0, none⟩), .int .i64 (cn : Int), .pointer (some ⟨g7, 0, none⟩), .int .i64 (cn : Int), .pointer (some ⟨g9, 0, none⟩), .pointer (some ⟨g10, 0, none⟩), .int .i64 (cn : Int), .int .i64 (cn : Int), .pointer (some ⟨g13, 0, none⟩), f 14, f 15, f 16, f 17, f 18, f 19, .pointer (some ⟨ga, 0, none⟩), f 21, f 22, f 23, f 24, f 25, f 26, f 27, f 28, f 29, f 30, f 31, f 32, f 33, f 34, f 35, f 36, f 37, f 38, f 39, f 40, f 41, f 42, f 43, f 44, f 45, f 46, f 47, f 48, f 49, f 50, f 51, f 52, f 53, f 54, f 55, f 56, f 57, f 58, f 59, f 60, f 61, f 62, f 63, f 64, f 65, f 66, f 67, f 68, f 69, f 70, f 71, f 72, f 73, f 74, f 75, f 76, f 77, f 78, f 79, f 80, f 81, f 82, f 83, f 84, f 85, f 86, f 87, f 88, f 89, f 90, f 91, f 92, f 93, f 94, f 95, f 96, f 97, f 98, f 99, f 100, f 101, f 102, f 103, f 104, f 105, f 106, f 107, f 108, f 109, f 110, f 111, f 112, f 113, f 114, f 115, f 116, f 117, f 118, f 119, f 120, f 121, f 122, f 123, f 124, f 125, f 126, f 127, f 128, f 129, f 130, f 131, f 132, f 133, f 134, f 135, f 136, f 137, f 138, f 139, f 140, f 141, f 142, f 143, f 144, f 145, f 146, f 147, f 148, f 149, f 150, f 151, f 152, f 153, f 154, f 155, f 156, f 157, f 158, f 159, f 160, f 161, f 162, f 163, f 164, f 165, f 166, f 167, f 168, f 169, f 170, f 171, f 172, f 173, f 174, f 175, f 176, f 177, f 178, f 179, f 180, f 181, f 182, f 183, f 184, f 185, f 186, f 187, f 188, f 189, f 190, f 191, f 192, f 193, f 194, f 195, f 196, f 197, f 198, f 199, f 200, f 201, f 202, f 203, f 204, f 205, f 206, f 207, f 208, f 209, f 210, f 211, f 212, f 213, f 214, f 215, f 216, f 217, f 218, f 219, f 220, f 221, f 222, f 223] := ⟨fun i => T.getD i undef, by
            have e := form224 hT
            rw [h0, h1, h4, h5, h6, h7, h8, h9, h10, h11, h12, h13, h20] at e
            exact e⟩
          clear hT h0 h1 h4 h5 h6 h7 h8 h9 h10 h11 h12 h13 h20
          have HI := Lib.hid hI
          have qa : wr.cell? ⟨ga, 0, none⟩ = some (.int .i64 (k : Int)) := hI.ka.cell 0
          have q10 : wr.cell? ⟨g10, 0, none⟩ = some (.slice LA m Lc) := hI.m.k10.cell 0
          clear hI
          by_cases hlt : k < m
          · have hltI : (k : Int) < (m : Int) := by omega
            have okG := HG.out.1
            as_aux_lemma =>
            obtain ⟨lb, hlb⟩ : ∃ lb, LB[k]? = some lb := ⟨LB[k]'(by rw [HG.out.2.2.2.2]; exact hlt), List.getElem?_eq_getElem _⟩
            obtain ⟨x0, hx0, hxl⟩ : ∃ x ∈ G.X, x.lb = lb := label_mem.1 (by rw [HG.out.2.2.2.1]; exact List.mem_of_getElem? hlb)
            have hn0 : 0 < n := by rw [← HG.out.2.1]; exact List.length_pos_of_mem (okG.ends x0 hx0).1
            obtain ⟨gL, hLA, -⟩ := HI.out.m.label hlb HG.out.2.2.2.2
            subst hLA
            have SL := Lib.hid (show ∀ V, Below wr.heap.size wr V → (fun V => V.cell? ⟨g5, 0, none⟩ = some (.pointer (some ⟨p, 0, none⟩)) ∧ V.cell? ⟨g7, 0, none⟩ = some (.int .i64 (n : Int)) ∧ V.cell? ⟨g10, 0, none⟩ = some (.slice (some ⟨gL, 0, none⟩) m Lc) ∧ V.cell? ⟨gL, k, none⟩ = some (.string lb) ∧ V.cell? ⟨ga, 0, none⟩ = some (.int .i64 (k : Int))) V from fun V hb => by
              have hM := HI.out.m.below hb
              obtain ⟨gL', e, c1⟩ := hM.label hlb HG.out.2.2.2.2
              injection e with e
              injection e with e
              subst e
              exact ⟨hM.s.k5.cell 0, hM.s.k7.cell 0, hM.k10.cell 0, c1, (HI.out.ka.upd (Upd.of_below hb (fun _ => False)) id).cell 0⟩)
            have hmx : max (1 : Int) (n : Int) = (n : Int) := by omega
            have HX := Lib.hid (And.intro hlb (And.intro hx0 hxl))
            clear hlb hx0 hxl
            go_upto_region 28 with (fail)
            have B0 := Lib.hid (show Below wr.heap.size wr wr.drew from (Below.refl _ _).drew)
            have hS := SL.out _ B0.out
            refine wp_noPan ?_
            refine wp_region_ord (fun V => V.cell? ⟨g5, 0, none⟩ = some (.pointer (some ⟨p, 0, none⟩)) ∧ V.cell? ⟨g7, 0, none⟩ = some (.int .i64 (n : Int)) ∧ V.cell? ⟨g10, 0, none⟩ = some (.slice (some ⟨gL, 0, none⟩) m Lc) ∧ V.cell? ⟨gL, k, none⟩ = some (.string lb) ∧ V.cell? ⟨ga, 0, none⟩ = some (.int .i64 (k : Int))) 13 [(0, true), (1, true), (2, true), (3, true), (4, true), (5, true), (6, false), (7, false), (8, true), (9, true), (10, true), (11, true), (12, true)] (by kernel_rfl) (by kernel_rfl) (fun _ _ _ _ _ h => h.elim) hS ?_
            generalize wr.drew = V0 at B0 hS ⊢
            (refine ord_take (v := ?_) rfl (by first | with_reducible rfl | kernel_rfl) ?_ ?_; rotate_left; (focus (intro wS hS; (try dsimp only at hS); go_split_ands; go_simp; (try with_reducible rfl); done)); (try simp only [Act.put, List.getElem_toArray, List.getElem_cons_succ, List.getElem_cons_zero, List.setIfInBounds_toArray, List.set_cons_zero, List.set_cons_succ]))
            (refine ord_take (v := ?_) rfl (by first | with_reducible rfl | kernel_rfl) ?_ ?_; rotate_left; (focus (intro wS hS; (try dsimp only at hS); go_split_ands; go_simp; (try with_reducible rfl); done)); (try simp only [Act.put, List.getElem_toArray, List.getElem_cons_succ, List.getElem_cons_zero, List.setIfInBounds_toArray, List.set_cons_zero, List.set_cons_succ]))
            (refine ord_take (v := ?_) rfl (by first | with_reducible rfl | kernel_rfl) ?_ ?_; rotate_left; (focus (intro wS hS; (try dsimp only at hS); go_split_ands; go_simp; (try with_reducible rfl); done)); (try simp only [Act.put, List.getElem_toArray, List.getElem_cons_succ, List.getElem_cons_zero, List.setIfInBounds_toArray, List.set_cons_zero, List.set_cons_succ]))
            (refine ord_take (v := ?_) rfl (by first | with_reducible rfl | kernel_rfl) ?_ ?_; rotate_left; (focus (intro wS hS; (try dsimp only at hS); go_split_ands; go_simp; (try with_reducible rfl); done)); (try simp only [Act.put, List.getElem_toArray, List.getElem_cons_succ, List.getElem_cons_zero, List.setIfInBounds_toArray, List.set_cons_zero, List.set_cons_succ]))
            (refine ord_take (v := ?_) rfl (by first | with_reducible rfl | kernel_rfl) ?_ ?_; rotate_left; (focus (intro wS hS; (try dsimp only at hS); go_split_ands; go_simp; (try with_reducible rfl); done)); (try simp only [Act.put, List.getElem_toArray, List.getElem_cons_succ, List.getElem_cons_zero, List.setIfInBounds_toArray, List.set_cons_zero, List.set_cons_succ]))
            (refine ord_take (v := ?_) rfl (by first | with_reducible rfl | kernel_rfl) ?_ ?_; rotate_left; (focus (intro wS hS; (try dsimp only at hS); go_split_ands; go_simp; (try with_reducible rfl); done)); (try simp only [Act.put, List.getElem_toArray, List.getElem_cons_succ, List.getElem_cons_zero, List.setIfInBounds_toArray, List.set_cons_zero, List.set_cons_succ]))
            refine ord_do rfl rfl (fun K hK => ?_)
            go_simp
            refine hK _ _ (fun _ => hS) ?_
            clear hK K
            (try simp only [Act.put, List.getElem_toArray, List.getElem_cons_succ, List.getElem_cons_zero, List.setIfInBounds_toArray, List.set_cons_zero, List.set_cons_succ])
            refine ord_do rfl rfl (fun K hK => ?_)
            go_simp
            have hcon := matrix_gr V0 F1 p G (HI.out.m.below B0.out).s.gr okG lb n (by rw [HG.out.2.1]; exact Nat.le_refl _) (by omega) (by omega)
            refine hcon.mono ?_
            clear hcon
            rintro e V1 ⟨q, b, rfl, ⟨Fq, qs, nq⟩, b1, hmat⟩
            have B1 := Lib.hid (B0.out.trans (b1.mono B0.out.size))
            have HMt := Lib.hid (And.intro qs (And.intro nq (And.intro b1 hmat)))
            clear qs nq b1 hmat
            have hS := SL.out _ B1.out
            refine hK _ _ (fun _ => hS) ?_
            clear hK K
            (try simp only [Act.put, List.getElem_toArray, List.getElem_cons_succ, List.getElem_cons_zero, List.setIfInBounds_toArray, List.set_cons_zero, List.set_cons_succ])
            (refine ord_take (v := ?_) rfl (by first | with_reducible rfl | kernel_rfl) ?_ ?_; rotate_left; (focus (intro wS hS; (try dsimp only at hS); go_split_ands; go_simp; (try with_reducible rfl); done)); (try simp only [Act.put, List.getElem_toArray, List.getElem_cons_succ, List.getElem_cons_zero, List.setIfInBounds_toArray, List.set_cons_zero, List.set_cons_succ]))
            (refine ord_take (v := ?_) rfl (by first | with_reducible rfl | kernel_rfl) ?_ ?_; rotate_left; (focus (intro wS hS; (try dsimp only at hS); go_split_ands; go_simp; (try with_reducible rfl); done)); (try simp only [Act.put, List.getElem_toArray, List.getElem_cons_succ, List.getElem_cons_zero, List.setIfInBounds_toArray, List.set_cons_zero, List.set_cons_succ]))
            (refine ord_take (v := ?_) rfl (by first | with_reducible rfl | kernel_rfl) ?_ ?_; rotate_left; (focus (intro wS hS; (try dsimp only at hS); go_split_ands; go_simp; (try with_reducible rfl); done)); (try simp only [Act.put, List.getElem_toArray, List.getElem_cons_succ, List.getElem_cons_zero, List.setIfInBounds_toArray, List.set_cons_zero, List.set_cons_succ]))
            (refine ord_take (v := ?_) rfl (by first | with_reducible rfl | kernel_rfl) ?_ ?_; rotate_left; (focus (intro wS hS; (try dsimp only at hS); go_split_ands; go_simp; (try with_reducible rfl); done)); (try simp only [Act.put, List.getElem_toArray, List.getElem_cons_succ, List.getElem_cons_zero, List.setIfInBounds_toArray, List.set_cons_zero, List.set_cons_succ]))
            (refine ord_take (v := ?_) rfl (by first | with_reducible rfl | kernel_rfl) ?_ ?_; rotate_left; (focus (intro wS hS; (try dsimp only at hS); go_split_ands; go_simp; (try with_reducible rfl); done)); (try simp only [Act.put, List.getElem_toArray, List.getElem_cons_succ, List.getElem_cons_zero, List.setIfInBounds_toArray, List.set_cons_zero, List.set_cons_succ]))
            refine ord_done ?_
            dsimp only [noPan]
            clear hS
            go_wp2
            as_aux_lemma =>
            have hw := HMt.out.1.wd
            have hcnt : lenB (oldW b) = cntK Ed.lb G.X lb := by rw [← qcL_len]; exact mat_len okG hw HMt.out.2.2.2
            have hpos : 0 < cntK Ed.lb G.X lb := cnt_pos ⟨x0, HX.out.2.1, HX.out.2.2⟩
            have SQ := Lib.hid (show ∀ V, Below V1.heap.size V1 V → ∃ cq : Nat, 0 < cq ∧ Calls Tryz.prog 17 #[.pointer (some ⟨q, 0, none⟩)] V (Only V (.int .i64 (cq : Int))) from fun V hb => by
              obtain ⟨O, dep, cnt, m', last, L', pv, lv, hq, ok, -⟩ := HMt.out.1.below hb
              have hc0 : cnt = lenB (oldW b) := oldW_cnt ok
              exact ⟨cnt, by omega, qlen_any V q n cnt ok.s1 (hq.blk.cell 0) (hq.blk.cell 2)⟩)
            go_cut [172] from 30 (fun s172 wc => s172 = .bool false ∧ Hid (Below V1.heap.size V1 wc))
            case first =>
              have C0 := Lib.hid (show Below V1.heap.size V1 V1.drew from (Below.refl _ _).drew)
              obtain ⟨cq, hcq, hlen⟩ := SQ.out _ C0.out
              have hcz : ((cq : Int) == 0) = false := by simp; omega
              have z1 := B1.out.size
              refine wp_noPan ?_
              by_cases hk0 : k = 0
              · subst hk0
                as_aux_lemma =>
                have hS := SL.out _ (B1.out.trans (C0.out.mono B1.out.size))
                refine wp_region_ord (fun V => V.cell? ⟨g5, 0, none⟩ = some (.pointer (some ⟨p, 0, none⟩)) ∧ V.cell? ⟨g7, 0, none⟩ = some (.int .i64 (n : Int)) ∧ V.cell? ⟨g10, 0, none⟩ = some (.slice (some ⟨gL, 0, none⟩) m Lc) ∧ V.cell? ⟨gL, 0, none⟩ = some (.string lb) ∧ V.cell? ⟨ga, 0, none⟩ = some (.int .i64 ((0 : Nat) : Int))) 23 [(0, true), (1, true), (2, true), (3, true), (4, false), (5, true), (6, true), (7, true), (8, true), (9, true), (10, true), (11, true), (12, true), (13, true), (14, true), (15, true), (16, true), (17, true), (18, true), (19, true), (20, true), (21, true), (22, true)] (by kernel_rfl) (by kernel_rfl) (fun _ _ _ _ _ h => h.elim) hS ?_
                generalize V1.drew = V2 at C0 hS hlen ⊢
                (refine ord_take (v := ?_) rfl (by first | with_reducible rfl | kernel_rfl) ?_ ?_; rotate_left; (focus (intro wS hS; (try dsimp only at hS); go_split_ands; go_simp; (try with_reducible rfl); done)); (try simp only [Act.put, List.getElem_toArray, List.getElem_cons_succ, List.getElem_cons_zero, List.setIfInBounds_toArray, List.set_cons_zero, List.set_cons_succ]))
                (refine ord_take (v := ?_) rfl (by first | with_reducible rfl | kernel_rfl) ?_ ?_; rotate_left; (focus (intro wS hS; (try dsimp only at hS); go_split_ands; go_simp; (try with_reducible rfl); done)); (try simp only [Act.put, List.getElem_toArray, List.getElem_cons_succ, List.getElem_cons_zero, List.setIfInBounds_toArray, List.set_cons_zero, List.set_cons_succ]))
                (refine ord_take (v := ?_) rfl (by first | with_reducible rfl | kernel_rfl) ?_ ?_; rotate_left; (focus (intro wS hS; (try dsimp only at hS); go_split_ands; go_simp; (try with_reducible rfl); done)); (try simp only [Act.put, List.getElem_toArray, List.getElem_cons_succ, List.getElem_cons_zero, List.setIfInBounds_toArray, List.set_cons_zero, List.set_cons_succ]))
                (refine ord_take (v := ?_) rfl (by first | with_reducible rfl | kernel_rfl) ?_ ?_; rotate_left; (focus (intro wS hS; (try dsimp only at hS); go_split_ands; go_simp; (try with_reducible rfl); done)); (try simp only [Act.put, List.getElem_toArray, List.getElem_cons_succ, List.getElem_cons_zero, List.setIfInBounds_toArray, List.set_cons_zero, List.set_cons_succ]))
                (refine ord_dog rfl (by first | with_reducible rfl | kernel_rfl) (fun K hK => ?_); go_simp)
                refine hlen.mono ?_
                clear hlen
                rintro e V3 ⟨rfl, hw3⟩
                subst V3
                refine hK _ _ (fun _ => hS) ?_
                clear hK K
                (try simp only [Act.put, List.getElem_toArray, List.getElem_cons_succ, List.getElem_cons_zero, List.setIfInBounds_toArray, List.set_cons_zero, List.set_cons_succ])
                (refine ord_take (v := ?_) rfl (by first | with_reducible rfl | kernel_rfl) ?_ ?_; rotate_left; (focus (intro wS hS; (try dsimp only at hS); go_split_ands; go_simp; (try with_reducible rfl); done)); (try simp only [Act.put, List.getElem_toArray, List.getElem_cons_succ, List.getElem_cons_zero, List.setIfInBounds_toArray, List.set_cons_zero, List.set_cons_succ]))
                (refine ord_take (v := ?_) rfl (by first | with_reducible rfl | kernel_rfl) ?_ ?_; rotate_left; (focus (intro wS hS; (try dsimp only at hS); go_split_ands; go_simp; (try with_reducible rfl); done)); (try simp only [Act.put, List.getElem_toArray, List.getElem_cons_succ, List.getElem_cons_zero, List.setIfInBounds_toArray, List.set_cons_zero, List.set_cons_succ]))
                (refine ord_take (v := ?_) rfl (by first | with_reducible rfl | kernel_rfl) ?_ ?_; rotate_left; (focus (intro wS hS; (try dsimp only at hS); go_split_ands; go_simp; (try with_reducible rfl); done)); (try simp only [Act.put, List.getElem_toArray, List.getElem_cons_succ, List.getElem_cons_zero, List.setIfInBounds_toArray, List.set_cons_zero, List.set_cons_succ]))
                (refine ord_take (v := ?_) rfl (by first | with_reducible rfl | kernel_rfl) ?_ ?_; rotate_left; (focus (intro wS hS; (try dsimp only at hS); go_split_ands; go_simp; (try with_reducible rfl); done)); (try simp only [Act.put, List.getElem_toArray, List.getElem_cons_succ, List.getElem_cons_zero, List.setIfInBounds_toArray, List.set_cons_zero, List.set_cons_succ]))
                (refine ord_take (v := ?_) rfl (by first | with_reducible rfl | kernel_rfl) ?_ ?_; rotate_left; (focus (intro wS hS; (try dsimp only at hS); go_split_ands; go_simp; (try with_reducible rfl); done)); (try simp only [Act.put, List.getElem_toArray, List.getElem_cons_succ, List.getElem_cons_zero, List.setIfInBounds_toArray, List.set_cons_zero, List.set_cons_succ]))
                (refine ord_take (v := ?_) rfl (by first | with_reducible rfl | kernel_rfl) ?_ ?_; rotate_left; (focus (intro wS hS; (try dsimp only at hS); go_split_ands; go_simp; (try with_reducible rfl); done)); (try simp only [Act.put, List.getElem_toArray, List.getElem_cons_succ, List.getElem_cons_zero, List.setIfInBounds_toArray, List.set_cons_zero, List.set_cons_succ]))
                (refine ord_skip rfl (by kernel_rfl) ?_; (try simp only [Act.put, List.getElem_toArray, List.getElem_cons_succ, List.getElem_cons_zero, List.setIfInBounds_toArray, List.set_cons_zero, List.set_cons_succ]))
                (refine ord_skip rfl (by kernel_rfl) ?_; (try simp only [Act.put, List.getElem_toArray, List.getElem_cons_succ, List.getElem_cons_zero, List.setIfInBounds_toArray, List.set_cons_zero, List.set_cons_succ]))
                (refine ord_skip rfl (by kernel_rfl) ?_; (try simp only [Act.put, List.getElem_toArray, List.getElem_cons_succ, List.getElem_cons_zero, List.setIfInBounds_toArray, List.set_cons_zero, List.set_cons_succ]))
                (refine ord_skip rfl (by kernel_rfl) ?_; (try simp only [Act.put, List.getElem_toArray, List.getElem_cons_succ, List.getElem_cons_zero, List.setIfInBounds_toArray, List.set_cons_zero, List.set_cons_succ]))
                (refine ord_skip rfl (by kernel_rfl) ?_; (try simp only [Act.put, List.getElem_toArray, List.getElem_cons_succ, List.getElem_cons_zero, List.setIfInBounds_toArray, List.set_cons_zero, List.set_cons_succ]))
                (refine ord_skip rfl (by kernel_rfl) ?_; (try simp only [Act.put, List.getElem_toArray, List.getElem_cons_succ, List.getElem_cons_zero, List.setIfInBounds_toArray, List.set_cons_zero, List.set_cons_succ]))
                (refine ord_skip rfl (by kernel_rfl) ?_; (try simp only [Act.put, List.getElem_toArray, List.getElem_cons_succ, List.getElem_cons_zero, List.setIfInBounds_toArray, List.set_cons_zero, List.set_cons_succ]))
                (refine ord_skip rfl (by kernel_rfl) ?_; (try simp only [Act.put, List.getElem_toArray, List.getElem_cons_succ, List.getElem_cons_zero, List.setIfInBounds_toArray, List.set_cons_zero, List.set_cons_succ]))
                (refine ord_skip rfl (by kernel_rfl) ?_; (try simp only [Act.put, List.getElem_toArray, List.getElem_cons_succ, List.getElem_cons_zero, List.setIfInBounds_toArray, List.set_cons_zero, List.set_cons_succ]))
                (refine ord_skip rfl (by kernel_rfl) ?_; (try simp only [Act.put, List.getElem_toArray, List.getElem_cons_succ, List.getElem_cons_zero, List.setIfInBounds_toArray, List.set_cons_zero, List.set_cons_succ]))
                (refine ord_take (v := ?_) rfl (by first | with_reducible rfl | kernel_rfl) ?_ ?_; rotate_left; (focus (intro wS hS; (try dsimp only at hS); go_split_ands; go_simp; (try with_reducible rfl); done)); (try simp only [Act.put, List.getElem_toArray, List.getElem_cons_succ, List.getElem_cons_zero, List.setIfInBounds_toArray, List.set_cons_zero, List.set_cons_succ]))
                (refine ord_take (v := ?_) rfl (by first | with_reducible rfl | kernel_rfl) ?_ ?_; rotate_left; (focus (intro wS hS; (try dsimp only at hS); go_split_ands; go_simp; (try with_reducible rfl); done)); (try simp only [Act.put, List.getElem_toArray, List.getElem_cons_succ, List.getElem_cons_zero, List.setIfInBounds_toArray, List.set_cons_zero, List.set_cons_succ]))
                refine ord_done ?_
                dsimp only [noPan]
                clear hS
                go_wp2
                go_meet
                case rel => exact ⟨rfl, C0⟩
              · obtain ⟨k', rfl⟩ : ∃ k', k = k' + 1 := ⟨k - 1, by omega⟩
                as_aux_lemma =>
                obtain ⟨lb0, hlb0⟩ : ∃ lb0, LB[k']? = some lb0 := ⟨LB[k']'(by rw [HG.out.2.2.2.2]; omega), List.getElem?_eq_getElem _⟩
                have hrise : Rises ltT LB := by rw [← HG.out.2.2.2.1]; exact (setOf_is stoT _).up
                have hlt0 : ltT lb0 lb = true := by
                  have h1 := (List.getElem?_eq_some_iff.1 hlb0)
                  have h2 := (List.getElem?_eq_some_iff.1 HX.out.1)
                  obtain ⟨h1, rfl⟩ := h1
                  obtain ⟨h2, rfl⟩ := h2
                  exact List.pairwise_iff_getElem.1 hrise k' (k' + 1) h1 h2 (by omega)
                have hls : Op.bytesLess (ByteArray.toList lb0) (ByteArray.toList lb) = true := hlt0
                have hkm : IntKind.i64.wrap (k' : Int) = (k' : Int) := IntWalk.i64_in _ (by omega)
                have hkI : (k' : Int) < (m : Int) := by omega
                have hkA : (0 : Int) ≤ (k' : Int) + 1 := by omega
                have hkB : (k' : Int) + 1 < (m : Int) := by omega
                have SL2 := Lib.hid (show ∀ V, Below wr.heap.size wr V → (fun V => V.cell? ⟨g5, 0, none⟩ = some (.pointer (some ⟨p, 0, none⟩)) ∧ V.cell? ⟨g7, 0, none⟩ = some (.int .i64 (n : Int)) ∧ V.cell? ⟨g10, 0, none⟩ = some (.slice (some ⟨gL, 0, none⟩) m Lc) ∧ V.cell? ⟨gL, k' + 1, none⟩ = some (.string lb) ∧ V.cell? ⟨ga, 0, none⟩ = some (.int .i64 ((k' + 1 : Nat) : Int)) ∧ V.cell? ⟨gL, k', none⟩ = some (.string lb0)) V from fun V hb => by
                  have h := SL.out V hb
                  obtain ⟨gL', e, c1⟩ := (HI.out.m.below hb).label hlb0 HG.out.2.2.2.2
                  injection e with e
                  injection e with e
                  subst e
                  exact ⟨h.1, h.2.1, h.2.2.1, h.2.2.2.1, h.2.2.2.2, c1⟩)
                have hkp : decide ((0 : Int) < ((k' + 1 : Nat) : Int)) = true := by simp
                have hS := SL2.out _ (B1.out.trans (C0.out.mono B1.out.size))
                clear hrise hlt0
                refine wp_region_ord (fun V => V.cell? ⟨g5, 0, none⟩ = some (.pointer (some ⟨p, 0, none⟩)) ∧ V.cell? ⟨g7, 0, none⟩ = some (.int .i64 (n : Int)) ∧ V.cell? ⟨g10, 0, none⟩ = some (.slice (some ⟨gL, 0, none⟩) m Lc) ∧ V.cell? ⟨gL, k' + 1, none⟩ = some (.string lb) ∧ V.cell? ⟨ga, 0, none⟩ = some (.int .i64 ((k' + 1 : Nat) : Int)) ∧ V.cell? ⟨gL, k', none⟩ = some (.string lb0)) 23 [(0, true), (1, true), (2, true), (3, true), (4, false), (5, true), (6, true), (7, true), (8, true), (9, true), (10, true), (11, true), (12, true), (13, true), (14, true), (15, true), (16, true), (17, true), (18, true), (19, true), (20, true), (21, true), (22, true)] (by kernel_rfl) (by kernel_rfl) (fun _ _ _ _ _ h => h.elim) hS ?_
                generalize V1.drew = V2 at C0 hS hlen ⊢
                (refine ord_take (v := ?_) rfl (by first | with_reducible rfl | kernel_rfl) ?_ ?_; rotate_left; (focus (intro wS hS; (try dsimp only at hS); go_split_ands; go_simp; (try with_reducible rfl); done)); (try simp only [Act.put, List.getElem_toArray, List.getElem_cons_succ, List.getElem_cons_zero, List.setIfInBounds_toArray, List.set_cons_zero, List.set_cons_succ]))
                (refine ord_take (v := ?_) rfl (by first | with_reducible rfl | kernel_rfl) ?_ ?_; rotate_left; (focus (intro wS hS; (try dsimp only at hS); go_split_ands; go_simp; (try with_reducible rfl); done)); (try simp only [Act.put, List.getElem_toArray, List.getElem_cons_succ, List.getElem_cons_zero, List.setIfInBounds_toArray, List.set_cons_zero, List.set_cons_succ]))
                (refine ord_take (v := ?_) rfl (by first | with_reducible rfl | kernel_rfl) ?_ ?_; rotate_left; (focus (intro wS hS; (try dsimp only at hS); go_split_ands; go_simp; (try with_reducible rfl); done)); (try simp only [Act.put, List.getElem_toArray, List.getElem_cons_succ, List.getElem_cons_zero, List.setIfInBounds_toArray, List.set_cons_zero, List.set_cons_succ]))
                (refine ord_take (v := ?_) rfl (by first | with_reducible rfl | kernel_rfl) ?_ ?_; rotate_left; (focus (intro wS hS; (try dsimp only at hS); go_split_ands; go_simp; (try with_reducible rfl); done)); (try simp only [Act.put, List.getElem_toArray, List.getElem_cons_succ, List.getElem_cons_zero, List.setIfInBounds_toArray, List.set_cons_zero, List.set_cons_succ]))
                (refine ord_dog rfl (by first | with_reducible rfl | kernel_rfl) (fun K hK => ?_); go_simp)
                refine hlen.mono ?_
                clear hlen
                rintro e V3 ⟨rfl, hw3⟩
                subst V3
                refine hK _ _ (fun _ => hS) ?_
                clear hK K
                (try simp only [Act.put, List.getElem_toArray, List.getElem_cons_succ, List.getElem_cons_zero, List.setIfInBounds_toArray, List.set_cons_zero, List.set_cons_succ])
                (refine ord_take (v := ?_) rfl (by first | with_reducible rfl | kernel_rfl) ?_ ?_; rotate_left; (focus (intro wS hS; (try dsimp only at hS); go_split_ands; go_simp; (try with_reducible rfl); done)); (try simp only [Act.put, List.getElem_toArray, List.getElem_cons_succ, List.getElem_cons_zero, List.setIfInBounds_toArray, List.set_cons_zero, List.set_cons_succ]))
                (refine ord_take (v := ?_) rfl (by first | with_reducible rfl | kernel_rfl) ?_ ?_; rotate_left; (focus (intro wS hS; (try dsimp only at hS); go_split_ands; go_simp; (try with_reducible rfl); done)); (try simp only [Act.put, List.getElem_toArray, List.getElem_cons_succ, List.getElem_cons_zero, List.setIfInBounds_toArray, List.set_cons_zero, List.set_cons_succ]))
                (refine ord_take (v := ?_) rfl (by first | with_reducible rfl | kernel_rfl) ?_ ?_; rotate_left; (focus (intro wS hS; (try dsimp only at hS); go_split_ands; go_simp; (try with_reducible rfl); done)); (try simp only [Act.put, List.getElem_toArray, List.getElem_cons_succ, List.getElem_cons_zero, List.setIfInBounds_toArray, List.set_cons_zero, List.set_cons_succ]))
                (refine ord_take (v := ?_) rfl (by first | with_reducible rfl | kernel_rfl) ?_ ?_; rotate_left; (focus (intro wS hS; (try dsimp only at hS); go_split_ands; go_simp; (try with_reducible rfl); done)); (try simp only [Act.put, List.getElem_toArray, List.getElem_cons_succ, List.getElem_cons_zero, List.setIfInBounds_toArray, List.set_cons_zero, List.set_cons_succ]))
                (refine ord_take (v := ?_) rfl (by first | with_reducible rfl | kernel_rfl) ?_ ?_; rotate_left; (focus (intro wS hS; (try dsimp only at hS); go_split_ands; go_simp; (try with_reducible rfl); done)); (try simp only [Act.put, List.getElem_toArray, List.getElem_cons_succ, List.getElem_cons_zero, List.setIfInBounds_toArray, List.set_cons_zero, List.set_cons_succ]))
                (refine ord_take (v := ?_) rfl (by first | with_reducible rfl | kernel_rfl) ?_ ?_; rotate_left; (focus (intro wS hS; (try dsimp only at hS); go_split_ands; go_simp; (try with_reducible rfl); done)); (try simp only [Act.put, List.getElem_toArray, List.getElem_cons_succ, List.getElem_cons_zero, List.setIfInBounds_toArray, List.set_cons_zero, List.set_cons_succ]))
                (refine ord_take (v := ?_) rfl (by first | with_reducible rfl | kernel_rfl) ?_ ?_; rotate_left; (focus (intro wS hS; (try dsimp only at hS); go_split_ands; go_simp; (try with_reducible rfl); done)); (try simp only [Act.put, List.getElem_toArray, List.getElem_cons_succ, List.getElem_cons_zero, List.setIfInBounds_toArray, List.set_cons_zero, List.set_cons_succ]))
                (refine ord_take (v := ?_) rfl (by first | with_reducible rfl | kernel_rfl) ?_ ?_; rotate_left; (focus (intro wS hS; (try dsimp only at hS); go_split_ands; go_simp; (try with_reducible rfl); done)); (try simp only [Act.put, List.getElem_toArray, List.getElem_cons_succ, List.getElem_cons_zero, List.setIfInBounds_toArray, List.set_cons_zero, List.set_cons_succ]))
                (refine ord_take (v := ?_) rfl (by first | with_reducible rfl | kernel_rfl) ?_ ?_; rotate_left; (focus (intro wS hS; (try dsimp only at hS); go_split_ands; go_simp; (try with_reducible rfl); done)); (try simp only [Act.put, List.getElem_toArray, List.getElem_cons_succ, List.getElem_cons_zero, List.setIfInBounds_toArray, List.set_cons_zero, List.set_cons_succ]))
                (refine ord_take (v := ?_) rfl (by first | with_reducible rfl | kernel_rfl) ?_ ?_; rotate_left; (focus (intro wS hS; (try dsimp only at hS); go_split_ands; go_simp; (try with_reducible rfl); done)); (try simp only [Act.put, List.getElem_toArray, List.getElem_cons_succ, List.getElem_cons_zero, List.setIfInBounds_toArray, List.set_cons_zero, List.set_cons_succ]))
                (refine ord_take (v := ?_) rfl (by first | with_reducible rfl | kernel_rfl) ?_ ?_; rotate_left; (focus (intro wS hS; (try dsimp only at hS); go_split_ands; go_simp; (try with_reducible rfl); done)); (try simp only [Act.put, List.getElem_toArray, List.getElem_cons_succ, List.getElem_cons_zero, List.setIfInBounds_toArray, List.set_cons_zero, List.set_cons_succ]))
                (refine ord_take (v := ?_) rfl (by first | with_reducible rfl | kernel_rfl) ?_ ?_; rotate_left; (focus (intro wS hS; (try dsimp only at hS); go_split_ands; go_simp; (try with_reducible rfl); done)); (try simp only [Act.put, List.getElem_toArray, List.getElem_cons_succ, List.getElem_cons_zero, List.setIfInBounds_toArray, List.set_cons_zero, List.set_cons_succ]))
                (refine ord_take (v := ?_) rfl (by first | with_reducible rfl | kernel_rfl) ?_ ?_; rotate_left; (focus (intro wS hS; (try dsimp only at hS); go_split_ands; go_simp; (try with_reducible rfl); done)); (try simp only [Act.put, List.getElem_toArray, List.getElem_cons_succ, List.getElem_cons_zero, List.setIfInBounds_toArray, List.set_cons_zero, List.set_cons_succ]))
                (refine ord_take (v := ?_) rfl (by first | with_reducible rfl | kernel_rfl) ?_ ?_; rotate_left; (focus (intro wS hS; (try dsimp only at hS); go_split_ands; go_simp; (try with_reducible rfl); done)); (try simp only [Act.put, List.getElem_toArray, List.getElem_cons_succ, List.getElem_cons_zero, List.setIfInBounds_toArray, List.set_cons_zero, List.set_cons_succ]))
                (refine ord_take (v := ?_) rfl (by first | with_reducible rfl | kernel_rfl) ?_ ?_; rotate_left; (focus (intro wS hS; (try dsimp only at hS); go_split_ands; go_simp; (try with_reducible rfl); done)); (try simp only [Act.put, List.getElem_toArray, List.getElem_cons_succ, List.getElem_cons_zero, List.setIfInBounds_toArray, List.set_cons_zero, List.set_cons_succ]))
                (refine ord_take (v := ?_) rfl (by first | with_reducible rfl | kernel_rfl) ?_ ?_; rotate_left; (focus (intro wS hS; (try dsimp only at hS); go_split_ands; go_simp; (try with_reducible rfl); done)); (try simp only [Act.put, List.getElem_toArray, List.getElem_cons_succ, List.getElem_cons_zero, List.setIfInBounds_toArray, List.set_cons_zero, List.set_cons_succ]))
                (refine ord_take (v := ?_) rfl (by first | with_reducible rfl | kernel_rfl) ?_ ?_; rotate_left; (focus (intro wS hS; (try dsimp only at hS); go_split_ands; go_simp; (try with_reducible rfl); done)); (try simp only [Act.put, List.getElem_toArray, List.getElem_cons_succ, List.getElem_cons_zero, List.setIfInBounds_toArray, List.set_cons_zero, List.set_cons_succ]))
                (refine ord_take (v := ?_) rfl (by first | with_reducible rfl | kernel_rfl) ?_ ?_; rotate_left; (focus (intro wS hS; (try dsimp only at hS); go_split_ands; go_simp; (try with_reducible rfl); done)); (try simp only [Act.put, List.getElem_toArray, List.getElem_cons_succ, List.getElem_cons_zero, List.setIfInBounds_toArray, List.set_cons_zero, List.set_cons_succ]))
                refine ord_done ?_
                dsimp only [noPan]
                clear hS
                go_wp2
                go_meet
                case rel => exact ⟨rfl, C0⟩
            case rest =>
              obtain ⟨rfl, hb2⟩ := hcut
              as_aux_lemma =>
              have qs2 := HMt.out.1.below hb2.out
              have hcon := mcells_made wc Fq q n b qs2
              clear qs2 SQ
              go_wp2_with fail
              refine hcon.mono ?_
              clear hcon
              rintro e V4 ⟨gc, A5, n5, c5, zc, rfl, kc, b4, hm5⟩
              have hnil := fun (W : World) (ff : Fn) (x y : Array Value) => eql_seq_nil W ff x y
              have B4 := Lib.hid (B1.out.trans ((hb2.out.trans (b4.mono hb2.out.size)).mono B1.out.size))
              have z1 := B1.out.size
              have z2 := hb2.out.size
              have I4 := EnL.below HI.out B4.out
              have hlg := I4.k13.lt
              have h7 := I4.m.s.k7
              have h7c : V4.cell? ⟨g7, 0, none⟩ = some (.int .i64 (n : Int)) := h7.cell 0
              have rg7 : RgM g7 V4 := RgM.of_none h7c rfl
              have g7lt := h7.lt
              have g713 : g7 < g13 := HO.out g7 (.inr (.inr (.inr (.inl rfl))))
              have tb13 : 1 < g13 := HO.out _ (.inr (.inr (.inr (.inr (.inr (.inr (.inl rfl)))))))
              have g13w : g13 < wr.heap.size := HI.out.k13.lt
              have hQm : ∀ y ∈ qcL b, y.1 < n ∧ y.2 < n ∧ ∃ e ∈ G.X, e.lb = lb ∧ G.N[y.1]? = some e.fr ∧ G.N[y.2]? = some e.to := fun y hy => by
                obtain ⟨e, he, e1, e2, e3⟩ := mat_in okG hw HMt.out.2.2.2 (i := y.1) (j := y.2) hy
                exact ⟨by rw [← HG.out.2.1]; exact (List.getElem?_eq_some_iff.1 e2).1, by rw [← HG.out.2.1]; exact (List.getElem?_eq_some_iff.1 e3).1, e, he, e1, e2, e3⟩
              have hst := mcells_stops V4 b hw I4.m.s.tb gc c5 n5 A5 (fun y => y.1 < n ∧ y.2 < n ∧ ∃ e ∈ G.X, e.lb = lb ∧ G.N[y.1]? = some e.fr ∧ G.N[y.2]? = some e.to) (fun y hy => by have := hy.1; have := hy.2.1; omega) hQm kc _ hm5
              have hOw : ∀ q', CellO gc b (.slice A5 n5 c5) q' → q' < V4.heap.size ∧ q' ≠ g13 := by
                rintro q' (rfl | rfl | ⟨hs, ho⟩)
                · exact ⟨by omega, by omega⟩
                · exact ⟨kc.lt, by omega⟩
                · have h1 := hm5.own hs ho
                  exact ⟨h1.2, by omega⟩
              have c13 : sumK Ed.lb G.X LB (k + 1) = sumK Ed.lb G.X LB k + (qcL b).length := by rw [sumK_succ HX.out.1, ← mat_len okG hw HMt.out.2.2.2]
              have c13le : sumK Ed.lb G.X LB (k + 1) ≤ 256 := by
                have := sumK_le (key := Ed.lb) (X := G.X) (N := LB) (by rw [← HG.out.2.2.2.1]; exact (setOf_is stoT _).up.nodup stoT) (fun x hx => by rw [← HG.out.2.2.2.1]; exact label_mem.2 ⟨x, hx, rfl⟩) (k + 1)
                rw [HG.out.2.2.1] at this
                omega
              obtain ⟨c0, hc0⟩ : ∃ c0, sumK Ed.lb G.X LB k = c0 := ⟨_, rfl⟩
              have k130 := I4.k13
              rw [hc0] at c13 k130
              have hOI : OwnP g7 (fun q => q = g13) V4.heap.size (fun (pre : List {y : Nat × Nat // y.1 < n ∧ y.2 < n ∧ ∃ e ∈ G.X, e.lb = lb ∧ G.N[y.1]? = some e.fr ∧ G.N[y.2]? = some e.to}) V => Blk V g13 3 #[.int .i64 ((c0 + pre.length : Nat) : Int)] ∧ KpM g7 (fun q => q = g13) V4 V) := by
                rintro s X Y row ⟨h1, h2⟩ hgr hr
                exact ⟨h1.grown hgr (fun e => by have := (hr _ e.symm).1; omega), ownP_kpM (β := Unit) (Nat.le_refl _) g7lt rg7 () X Y row h2 hgr hr⟩
              have HV := Lib.hid (And.intro I4 (And.intro rg7 (And.intro g7lt (And.intro hOw (And.intro c13 (And.intro c13le (And.intro k130 hc0)))))))
              have HST := Lib.hid hst
              have HOI := Lib.hid hOI
              clear kc hm5 hst hOw c13 c13le k130 hc0 hOI I4 h7 h7c rg7 b4
              go_wp2
              refine wp_rangeM (gf := 50) (cap := #[.pointer (some ⟨gc, 0, none⟩)]) rfl (enters_of Tryz.func50 (by kernel_rfl) rfl) HST.out (Below.refl _ _) (fun q' h => (HV.out.2.2.2.1 q' h).1) (fun _ => rfl)
                g7 (fun q => q = g13) HV.out.2.2.1 HV.out.2.1 (fun q' e => ⟨by omega, fun h => (HV.out.2.2.2.1 q' h).2 e⟩) (fun v q' hv ho => absurd (HV.out.2.1.elim_int (HV.out.1.m.s.k7.cell 0) hv ho) id)
                _ (fun _ _ _ => False) HOI.out (fun c s X Y row h _ _ => h) ⟨by simpa using HV.out.2.2.2.2.2.2.1, KpM.refl _ _ _⟩
                (fun T y _ => (((T.setIfInBounds 178 (.int .i64 (y.1.1 : Int))).setIfInBounds 179 (.int .i64 (y.1.2 : Int))).setIfInBounds 24 (.int .i64 (y.1.1 : Int))).setIfInBounds 25 (.int .i64 (y.1.2 : Int)))
                (fun _ _ _ => True) ?hBx ?assign ?body ?done ?stop
              case hBx => exact fun y b' s X Y row h hg hr => trivial
              case assign =>
                rintro l2 pre y V Kc hrV hsV hi hK
                dsimp only [enc2]
                have HI2 := Lib.hid hi
                clear hi
                gi_wp2
                exact hK 0 _ (KpM.refl _ _ _) HI2.out trivial
              case body =>
                rintro l2 pre ⟨⟨u, v⟩, hy⟩ b' V hrV hsV ⟨k13, kp⟩ - hlt2
                obtain ⟨hu, hv, x, hxX, hxl, hxu, hxv⟩ := hy
                dsimp only at hu hv hxu hxv
                as_aux_lemma =>
                have hk2 : Upd (fun q => q = g13) V4 V := (kp HV.out.2.1).1.mono (fun q' _ ha => ha.elim id (fun ⟨vv, h1, h2⟩ => (HV.out.2.1.elim_int (HV.out.1.m.s.k7.cell 0) h1 h2).elim))
                have hMV : EnM w F1 p G LB n m w.heap.size g5 g7 g9 g10 NA (some ⟨gL, 0, none⟩) Nc Lc V := HV.out.1.m.upd hk2 (fun q' ho e => by have := HO.out q' ho; omega) (fun q' e => by rw [e]; have := HO.out w.heap.size (.inr (.inl rfl)); omega)
                have hKV : Blk V ga 3 #[.int .i64 (k : Int)] := HV.out.1.ka.upd hk2 (by have := HI.out.za; omega)
                obtain ⟨gN, hNA, -⟩ := hMV.name hxu HG.out.2.1
                subst hNA
                have SV := Lib.hid (show ∀ X, Below V.heap.size V X → (fun X => X.cell? ⟨g7, 0, none⟩ = some (.int .i64 (n : Int)) ∧ X.cell? ⟨g5, 0, none⟩ = some (.pointer (some ⟨p, 0, none⟩)) ∧ X.cell? ⟨g9, 0, none⟩ = some (.slice (some ⟨gN, 0, none⟩) n Nc) ∧ X.cell? ⟨gN, u, none⟩ = some (.string x.fr) ∧ X.cell? ⟨g10, 0, none⟩ = some (.slice (some ⟨gL, 0, none⟩) m Lc) ∧ X.cell? ⟨ga, 0, none⟩ = some (.int .i64 (k : Int)) ∧ X.cell? ⟨gL, k, none⟩ = some (.string lb) ∧ X.cell? ⟨gN, v, none⟩ = some (.string x.to)) X from fun X hb => by
                  have hM := hMV.below hb
                  obtain ⟨gN', e, c1⟩ := hM.name hxu HG.out.2.1
                  injection e with e
                  injection e with e
                  subst e
                  obtain ⟨gN', e, c2⟩ := hM.name hxv HG.out.2.1
                  injection e with e
                  injection e with e
                  subst e
                  obtain ⟨gL', e, c3⟩ := hM.label HX.out.1 HG.out.2.2.2.2
                  injection e with e
                  injection e with e
                  subst e
                  exact ⟨hM.s.k7.cell 0, hM.s.k5.cell 0, hM.k9.cell 0, c1, hM.k10.cell 0, (hKV.upd (Upd.of_below hb (fun _ => False)) id).cell 0, c3, c2⟩)
                have hui : (u : Int) < (n : Int) := by omega
                have hvi : (v : Int) < (n : Int) := by omega
                have hu1 : decide (n ≤ u) = false := by simp; omega
                have hv1 : decide (n ≤ v) = false := by simp; omega
                have HBd := Lib.hid (And.intro k13 (And.intro kp (And.intro hMV (And.intro hxX (And.intro hxl hrV)))))
                have hS := SV.out V.drew (Below.refl _ _).drew
                have g7V := (hMV.s.k7).lt
                clear k13 kp hMV hKV hk2 hrV
                simp only [List.setIfInBounds_toArray, List.set_cons_zero, List.set_cons_succ]
                gi_wp2
                refine wpIn_region_ord (fun X => X.cell? ⟨g7, 0, none⟩ = some (.int .i64 (n : Int)) ∧ X.cell? ⟨g5, 0, none⟩ = some (.pointer (some ⟨p, 0, none⟩)) ∧ X.cell? ⟨g9, 0, none⟩ = some (.slice (some ⟨gN, 0, none⟩) n Nc) ∧ X.cell? ⟨gN, u, none⟩ = some (.string x.fr) ∧ X.cell? ⟨g10, 0, none⟩ = some (.slice (some ⟨gL, 0, none⟩) m Lc) ∧ X.cell? ⟨ga, 0, none⟩ = some (.int .i64 (k : Int)) ∧ X.cell? ⟨gL, k, none⟩ = some (.string lb) ∧ X.cell? ⟨gN, v, none⟩ = some (.string x.to)) 25 [(0, true), (1, true), (2, true), (3, true), (4, true), (5, true), (6, true), (7, true), (8, true), (9, true), (10, true), (11, true), (12, true), (13, true), (14, true), (15, true), (16, true), (17, true), (18, true), (19, true), (20, true), (21, true), (22, false), (23, true), (24, true)] (by kernel_rfl) (by kernel_rfl) (by kernel_rfl) (fun ⟨_, _, h⟩ => h) (fun _ _ _ _ _ h => h) hS ?_
                have C0 := Lib.hid (show Below V.heap.size V V.drew from (Below.refl _ _).drew)
                generalize V.drew = X0 at hS C0 ⊢
                (refine ord_take (v := ?_) rfl (by first | with_reducible rfl | kernel_rfl) ?_ ?_; rotate_left; (focus (intro wS hS; (try dsimp only at hS); go_split_ands; go_simp; (try with_reducible rfl); done)); (try simp only [Act.put, List.getElem_toArray, List.getElem_cons_succ, List.getElem_cons_zero, List.setIfInBounds_toArray, List.set_cons_zero, List.set_cons_succ]))
                (refine ord_take (v := ?_) rfl (by first | with_reducible rfl | kernel_rfl) ?_ ?_; rotate_left; (focus (intro wS hS; (try dsimp only at hS); go_split_ands; go_simp; (try with_reducible rfl); done)); (try simp only [Act.put, List.getElem_toArray, List.getElem_cons_succ, List.getElem_cons_zero, List.setIfInBounds_toArray, List.set_cons_zero, List.set_cons_succ]))
                (refine ord_take (v := ?_) rfl (by first | with_reducible rfl | kernel_rfl) ?_ ?_; rotate_left; (focus (intro wS hS; (try dsimp only at hS); go_split_ands; go_simp; (try with_reducible rfl); done)); (try simp only [Act.put, List.getElem_toArray, List.getElem_cons_succ, List.getElem_cons_zero, List.setIfInBounds_toArray, List.set_cons_zero, List.set_cons_succ]))
                (refine ord_take (v := ?_) rfl (by first | with_reducible rfl | kernel_rfl) ?_ ?_; rotate_left; (focus (intro wS hS; (try dsimp only at hS); go_split_ands; go_simp; (try with_reducible rfl); done)); (try simp only [Act.put, List.getElem_toArray, List.getElem_cons_succ, List.getElem_cons_zero, List.setIfInBounds_toArray, List.set_cons_zero, List.set_cons_succ]))
                (refine ord_take (v := ?_) rfl (by first | with_reducible rfl | kernel_rfl) ?_ ?_; rotate_left; (focus (intro wS hS; (try dsimp only at hS); go_split_ands; go_simp; (try with_reducible rfl); done)); (try simp only [Act.put, List.getElem_toArray, List.getElem_cons_succ, List.getElem_cons_zero, List.setIfInBounds_toArray, List.set_cons_zero, List.set_cons_succ]))
                (refine ord_take (v := ?_) rfl (by first | with_reducible rfl | kernel_rfl) ?_ ?_; rotate_left; (focus (intro wS hS; (try dsimp only at hS); go_split_ands; go_simp; (try with_reducible rfl); done)); (try simp only [Act.put, List.getElem_toArray, List.getElem_cons_succ, List.getElem_cons_zero, List.setIfInBounds_toArray, List.set_cons_zero, List.set_cons_succ]))
                (refine ord_take (v := ?_) rfl (by first | with_reducible rfl | kernel_rfl) ?_ ?_; rotate_left; (focus (intro wS hS; (try dsimp only at hS); go_split_ands; go_simp; (try with_reducible rfl); done)); (try simp only [Act.put, List.getElem_toArray, List.getElem_cons_succ, List.getElem_cons_zero, List.setIfInBounds_toArray, List.set_cons_zero, List.set_cons_succ]))
                (refine ord_take (v := ?_) rfl (by first | with_reducible rfl | kernel_rfl) ?_ ?_; rotate_left; (focus (intro wS hS; (try dsimp only at hS); go_split_ands; go_simp; (try with_reducible rfl); done)); (try simp only [Act.put, List.getElem_toArray, List.getElem_cons_succ, List.getElem_cons_zero, List.setIfInBounds_toArray, List.set_cons_zero, List.set_cons_succ]))
                (refine ord_take (v := ?_) rfl (by first | with_reducible rfl | kernel_rfl) ?_ ?_; rotate_left; (focus (intro wS hS; (try dsimp only at hS); go_split_ands; go_simp; (try with_reducible rfl); done)); (try simp only [Act.put, List.getElem_toArray, List.getElem_cons_succ, List.getElem_cons_zero, List.setIfInBounds_toArray, List.set_cons_zero, List.set_cons_succ]))
                (refine ord_take (v := ?_) rfl (by first | with_reducible rfl | kernel_rfl) ?_ ?_; rotate_left; (focus (intro wS hS; (try dsimp only at hS); go_split_ands; go_simp; (try with_reducible rfl); done)); (try simp only [Act.put, List.getElem_toArray, List.getElem_cons_succ, List.getElem_cons_zero, List.setIfInBounds_toArray, List.set_cons_zero, List.set_cons_succ]))
                (refine ord_take (v := ?_) rfl (by first | with_reducible rfl | kernel_rfl) ?_ ?_; rotate_left; (focus (intro wS hS; (try dsimp only at hS); go_split_ands; go_simp; (try with_reducible rfl); done)); (try simp only [Act.put, List.getElem_toArray, List.getElem_cons_succ, List.getElem_cons_zero, List.setIfInBounds_toArray, List.set_cons_zero, List.set_cons_succ]))
                (refine ord_take (v := ?_) rfl (by first | with_reducible rfl | kernel_rfl) ?_ ?_; rotate_left; (focus (intro wS hS; (try dsimp only at hS); go_split_ands; go_simp; (try with_reducible rfl); done)); (try simp only [Act.put, List.getElem_toArray, List.getElem_cons_succ, List.getElem_cons_zero, List.setIfInBounds_toArray, List.set_cons_zero, List.set_cons_succ]))
                (refine ord_take (v := ?_) rfl (by first | with_reducible rfl | kernel_rfl) ?_ ?_; rotate_left; (focus (intro wS hS; (try dsimp only at hS); go_split_ands; go_simp; (try with_reducible rfl); done)); (try simp only [Act.put, List.getElem_toArray, List.getElem_cons_succ, List.getElem_cons_zero, List.setIfInBounds_toArray, List.set_cons_zero, List.set_cons_succ]))
                (refine ord_take (v := ?_) rfl (by first | with_reducible rfl | kernel_rfl) ?_ ?_; rotate_left; (focus (intro wS hS; (try dsimp only at hS); go_split_ands; go_simp; (try with_reducible rfl); done)); (try simp only [Act.put, List.getElem_toArray, List.getElem_cons_succ, List.getElem_cons_zero, List.setIfInBounds_toArray, List.set_cons_zero, List.set_cons_succ]))
                (refine ord_take (v := ?_) rfl (by first | with_reducible rfl | kernel_rfl) ?_ ?_; rotate_left; (focus (intro wS hS; (try dsimp only at hS); go_split_ands; go_simp; (try with_reducible rfl); done)); (try simp only [Act.put, List.getElem_toArray, List.getElem_cons_succ, List.getElem_cons_zero, List.setIfInBounds_toArray, List.set_cons_zero, List.set_cons_succ]))
                (refine ord_take (v := ?_) rfl (by first | with_reducible rfl | kernel_rfl) ?_ ?_; rotate_left; (focus (intro wS hS; (try dsimp only at hS); go_split_ands; go_simp; (try with_reducible rfl); done)); (try simp only [Act.put, List.getElem_toArray, List.getElem_cons_succ, List.getElem_cons_zero, List.setIfInBounds_toArray, List.set_cons_zero, List.set_cons_succ]))
                (refine ord_take (v := ?_) rfl (by first | with_reducible rfl | kernel_rfl) ?_ ?_; rotate_left; (focus (intro wS hS; (try dsimp only at hS); go_split_ands; go_simp; (try with_reducible rfl); done)); (try simp only [Act.put, List.getElem_toArray, List.getElem_cons_succ, List.getElem_cons_zero, List.setIfInBounds_toArray, List.set_cons_zero, List.set_cons_succ]))
                (refine ord_take (v := ?_) rfl (by first | with_reducible rfl | kernel_rfl) ?_ ?_; rotate_left; (focus (intro wS hS; (try dsimp only at hS); go_split_ands; go_simp; (try with_reducible rfl); done)); (try simp only [Act.put, List.getElem_toArray, List.getElem_cons_succ, List.getElem_cons_zero, List.setIfInBounds_toArray, List.set_cons_zero, List.set_cons_succ]))
                (refine ord_take (v := ?_) rfl (by first | with_reducible rfl | kernel_rfl) ?_ ?_; rotate_left; (focus (intro wS hS; (try dsimp only at hS); go_split_ands; go_simp; (try with_reducible rfl); done)); (try simp only [Act.put, List.getElem_toArray, List.getElem_cons_succ, List.getElem_cons_zero, List.setIfInBounds_toArray, List.set_cons_zero, List.set_cons_succ]))
                (refine ord_take (v := ?_) rfl (by first | with_reducible rfl | kernel_rfl) ?_ ?_; rotate_left; (focus (intro wS hS; (try dsimp only at hS); go_split_ands; go_simp; (try with_reducible rfl); done)); (try simp only [Act.put, List.getElem_toArray, List.getElem_cons_succ, List.getElem_cons_zero, List.setIfInBounds_toArray, List.set_cons_zero, List.set_cons_succ]))
                (refine ord_take (v := ?_) rfl (by first | with_reducible rfl | kernel_rfl) ?_ ?_; rotate_left; (focus (intro wS hS; (try dsimp only at hS); go_split_ands; go_simp; (try with_reducible rfl); done)); (try simp only [Act.put, List.getElem_toArray, List.getElem_cons_succ, List.getElem_cons_zero, List.setIfInBounds_toArray, List.set_cons_zero, List.set_cons_succ]))
                (refine ord_take (v := ?_) rfl (by first | with_reducible rfl | kernel_rfl) ?_ ?_; rotate_left; (focus (intro wS hS; (try dsimp only at hS); go_split_ands; go_simp; (try with_reducible rfl); done)); (try simp only [Act.put, List.getElem_toArray, List.getElem_cons_succ, List.getElem_cons_zero, List.setIfInBounds_toArray, List.set_cons_zero, List.set_cons_succ]))
                (refine ord_dog rfl (by first | with_reducible rfl | kernel_rfl) (fun K hK => ?_); go_simp)
                have hcon := has_gr X0 F1 p G (HBd.out.2.2.1.below C0.out).s.gr okG x (ends_ok okG HBd.out.2.2.2.1).1 (ends_ok okG HBd.out.2.2.2.1).2
                rw [decide_eq_true HBd.out.2.2.2.1, HBd.out.2.2.2.2.1] at hcon
                refine hcon.mono ?_
                clear hcon
                rintro e X1 ⟨rfl, b1⟩
                have C1 := Lib.hid (C0.out.trans (b1.mono C0.out.size))
                have hS := SV.out _ C1.out
                refine hK _ _ (fun _ => hS) ?_
                clear hK K b1
                (try simp only [Act.put, List.getElem_toArray, List.getElem_cons_succ, List.getElem_cons_zero, List.setIfInBounds_toArray, List.set_cons_zero, List.set_cons_succ])
                (refine ord_take (v := ?_) rfl (by first | with_reducible rfl | kernel_rfl) ?_ ?_; rotate_left; (focus (intro wS hS; (try dsimp only at hS); go_split_ands; go_simp; (try with_reducible rfl); done)); (try simp only [Act.put, List.getElem_toArray, List.getElem_cons_succ, List.getElem_cons_zero, List.setIfInBounds_toArray, List.set_cons_zero, List.set_cons_succ]))
                (refine ord_take (v := ?_) rfl (by first | with_reducible rfl | kernel_rfl) ?_ ?_; rotate_left; (focus (intro wS hS; (try dsimp only at hS); go_split_ands; go_simp; (try with_reducible rfl); done)); (try simp only [Act.put, List.getElem_toArray, List.getElem_cons_succ, List.getElem_cons_zero, List.setIfInBounds_toArray, List.set_cons_zero, List.set_cons_succ]))
                refine ord_done ?_
                clear hS SV
                have k131 := HBd.out.1.upd (Upd.of_below C1.out (fun _ => False)) id
                have q13 : X1.cell? ⟨g13, 0, none⟩ = some (.int .i64 ((c0 + pre.length : Nat) : Int)) := k131.cell 0
                have f13 := k131.frozen 0
                have hwr : IntKind.i64.wrap (((c0 + pre.length : Nat) : Int) + 1) = ((c0 + (pre.length + 1) : Nat) : Int) := by
                  have := HV.out.2.2.2.2.2.1
                  rw [HV.out.2.2.2.2.1] at this
                  rw [IntKind.wrap_i64]; omega
                have FIN := Lib.hid (show KpM g7 (fun q => q = g13) V (X1.setCell ⟨g13, 0, none⟩ (.int .i64 ((c0 + (pre.length + 1) : Nat) : Int))) ∧ Blk (X1.setCell ⟨g13, 0, none⟩ (.int .i64 ((c0 + (pre.length + 1) : Nat) : Int))) g13 3 #[.int .i64 ((c0 + (pre.length + 1) : Nat) : Int)] from by
                  have k1 := KpM.of_below (lb := g7) (F := fun q => q = g13) C1.out g7V
                  have k2 := KpM.of_upd (lb := g7) ((Upd.refl (fun q => q = g13) X1).setCell (p := ⟨g13, 0, none⟩) (.inl rfl) (.int .i64 ((c0 + (pre.length + 1) : Nat) : Int))) (by have := C1.out.size; omega) (by omega)
                  exact ⟨k1.trans k2, k131.set 0 _⟩)
                clear k131
                obtain ⟨c1, hc1⟩ : ∃ c1, c0 + (pre.length + 1) = c1 := ⟨_, rfl⟩
                rw [hc1] at hwr FIN
                obtain ⟨c2, hc2⟩ : ∃ c2, c0 + pre.length = c2 := ⟨_, rfl⟩
                rw [hc2] at hwr q13
                have HC := Lib.hid hc1
                clear hc1 hc2
                gi_wp2
                refine ⟨FIN.out.1, ?_, HBd.out.2.1.trans FIN.out.1⟩
                rw [List.length_append, List.length_singleton, HC.out]
                exact FIN.out.2
              case done =>
                rintro ys V rfl ⟨k13, kp⟩ hrV pD hD
                as_aux_lemma =>
                have hk2 : Upd (fun q => q = g13) V4 V := (kp HV.out.2.1).1.mono (fun q' _ ha => ha.elim id (fun ⟨vv, h1, h2⟩ => (HV.out.2.1.elim_int (HV.out.1.m.s.k7.cell 0) h1 h2).elim))
                have hMV : EnM w F1 p G LB n m w.heap.size g5 g7 g9 g10 NA (some ⟨gL, 0, none⟩) Nc Lc V := HV.out.1.m.upd hk2 (fun q' ho e => by have := HO.out q' ho; omega) (fun q' e => by rw [e]; have := HO.out w.heap.size (.inr (.inl rfl)); omega)
                have hKV : Blk V ga 3 #[.int .i64 (k : Int)] := HV.out.1.ka.upd hk2 (by have := HI.out.za; omega)
                have hkw : IntKind.i64.wrap ((k : Int) + 1) = (k : Int) + 1 := IntWalk.i64_in _ (by omega)
                have zV : V4.heap.size ≤ V.heap.size := hk2.size
                have z4 := B4.out.size
                have hN : EnL w F1 p G LB n m w.heap.size g5 g7 g9 g10 g13 NA (some ⟨gL, 0, none⟩) Nc Lc (k + 1) V.heap.size (V4.heap.size :: Ds) (V.alloc (.cells #[.int .i64 ((k : Int) + 1)] 3)) := by
                  have bV : Below V.heap.size V (V.alloc (.cells #[.int .i64 ((k : Int) + 1)] 3)) := (Below.refl _ _).alloc (Nat.le_refl _) _
                  have uV := Upd.of_below bV (fun _ => False)
                  refine ⟨hMV.below bV, ?_, Blk.new V _ _, by omega, ?_, fun D hD' => ?_⟩
                  · have := k13.upd uV id
                    rw [subL_len, ← HV.out.2.2.2.2.1] at this
                    exact this
                  · rw [List.nodup_cons]
                    exact ⟨fun hm => by have := (Array.getElem?_eq_some_iff.1 (HI.out.ds _ hm).2).1; omega, HI.out.nd⟩
                  · rcases List.mem_cons.1 hD' with rfl | hm
                    · exact ⟨by omega, (uV.block _ pD.1 id).trans hD⟩
                    · have h5 := HV.out.1.ds D hm
                      have h6 := (Array.getElem?_eq_some_iff.1 h5.2).1
                      exact ⟨h5.1, (uV.block D (by omega) id).trans ((hk2.block D h6 (by omega)).trans h5.2)⟩
                have qaV : V.cell? ⟨ga, 0, none⟩ = some (.int .i64 (k : Int)) := hKV.cell 0
                have HN := Lib.hid hN
                clear k13 kp hrV pD hD hk2 hMV hKV hN
                go_wp2
                refine ⟨⟨k + 1, V.heap.size, V4.heap.size :: Ds, _, rfl, rfl, ⟨rfl, rfl, rfl, rfl, rfl, rfl, rfl, rfl, rfl, rfl, rfl, rfl, rfl⟩, ⟨by rw [List.length_cons, HDl.out], by omega⟩, HN.out⟩, ?_⟩
                have := HDl.out
                simp only [List.length_cons, List.length_map]
                omega
              case stop =>
                exact fun c pre V _ h => h.elim
          · obtain rfl : m = k := by omega
            as_aux_lemma =>
            have tot : sumK Ed.lb G.X LB m = cn := by
              rw [← HG.out.2.2.2.2, ← HG.out.2.2.1]
              exact sumK_all (by rw [← HG.out.2.2.2.1]; exact (setOf_is stoT _).up.nodup stoT) (fun x hx => by rw [← HG.out.2.2.2.1]; exact label_mem.2 ⟨x, hx, rfl⟩)
            have k13 := HI.out.k13
            rw [tot] at k13
            have q13 : wr.cell? ⟨g13, 0, none⟩ = some (.int .i64 (cn : Int)) := k13.cell 0
            have z13 := k13.lt
            clear k13 tot
            go_wp2_with fail
            refine (gawake_any wr).mono ?_
            rintro e W9 ⟨rfl, b9⟩
            have I9 := EnL.below HI.out b9
            have k4 := I9.m.s.k4
            have c4 : W9.cell? ⟨w.heap.size, 0, none⟩ = some (.bool false) := k4.cell 0
            have f4 := k4.frozen 0
            have us := (Upd.refl (fun q => q = w.heap.size) W9).setCell (p := ⟨w.heap.size, 0, none⟩) (.inl rfl) (.bool true)
            have k4s := k4.set 0 (.bool true)
            have g4lt := HO.out w.heap.size (.inr (.inl rfl))
            have g7lt := HO.out g7 (.inr (.inr (.inr (.inl rfl))))
            have HF := Lib.hid (show (∀ D ∈ Ds, g13 + 1 ≤ D ∧ Prv g7 (fun _ => False) (W9.setCell ⟨w.heap.size, 0, none⟩ (.bool true)) D ∧ (W9.setCell ⟨w.heap.size, 0, none⟩ (.bool true)).heap[D]? = some (.deferred (some []))) ∧ Blk (W9.setCell ⟨w.heap.size, 0, none⟩ (.bool true)) w.heap.size 4 #[.bool true] ∧ Below w.heap.size w (W9.setCell ⟨w.heap.size, 0, none⟩ (.bool true)) ∧ g7 < (W9.setCell ⟨w.heap.size, 0, none⟩ (.bool true)).heap.size from by
              have h7 : (W9.setCell ⟨w.heap.size, 0, none⟩ (.bool true)).cell? ⟨g7, 0, none⟩ = some (.int .i64 (n : Int)) := (us.cell (p := ⟨g7, 0, none⟩) I9.m.s.k7.lt (fun e => by have : g7 = w.heap.size := e; have h1 := HNE.out; omega)).trans (I9.m.s.k7.cell 0)
              refine ⟨fun D hD => ?_, k4s, I9.m.s.b.trans (us.below (fun i _ e => by omega) I9.m.s.b.size), Nat.lt_of_lt_of_le I9.m.s.k7.lt us.size⟩
              have h1 := I9.ds D hD
              have h2 := (Array.getElem?_eq_some_iff.1 h1.2).1
              have h3 := (us.block D h2 (by omega)).trans h1.2
              exact ⟨h1.1, ⟨Nat.lt_of_lt_of_le h2 us.size, fun ha => ha.elim id (fun ⟨v, hv, ho⟩ => (RgM.of_none (lb := g7) h7 rfl).elim_int h7 hv ho)⟩, h3⟩)
            have HND := Lib.hid I9.nd
            clear b9 k4 us k4s I9
            go_wp2
            refine leaves_own (B := g13 + 1) (fun w1 => Below w.heap.size w w1 ∧ Blk w1 w.heap.size 4 #[.bool true]) ?_ (by omega) ?_ Ds _ HND.out HF.out.1 HF.out.2.2.2 ⟨HF.out.2.2.1, HF.out.2.1⟩
            · rintro s X Y row ⟨h1, h2⟩ hg hrr
              refine ⟨h1.trans ?_, h2.grown hg (fun e => by have := (hrr _ e.symm).1; omega)⟩
              exact (Upd.of_grown hg).below (fun i _ e => by have := (hrr i e).1; omega) h1.size
            · rintro w1 ⟨h1, h2⟩
              have hc8 := h2.cell 0
              simp only [List.getElem?_toArray, List.getElem?_cons_zero] at hc8
              exact ⟨.bool true, by simp [results, Tryz.f3, go_sem, hc8], rfl, h1⟩
end Go.Proofs.YtnmkieiehjajlaaGreatDoor
