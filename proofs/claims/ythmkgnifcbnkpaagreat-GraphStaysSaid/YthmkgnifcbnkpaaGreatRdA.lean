/- Edges: read: the state in the midst of it; the mark that is next; what the marks tell. -/
import Derived.Test.YthmkgnifcbnkpaaGreatMkE
import Derived.ScopeJumps
namespace Go.Proofs.YthmkgnifcbnkpaaGreat
open Go.RowKit

/-! A scope with jumps to several labels. -/
def Exit.jumps (J : Nat → Act → World → Prop) (Q : Exit → Act → World → Prop) : Exit → Act → World → Prop
  | .goto l, a, w => J l a w
  | e, a, w => Q e a w
theorem wp_scope_many {P : Program} {a : Act} {w : World} {Q : Exit → Act → World → Prop} {c : Code} (J : Nat → Act → World → Prop) (μ : Nat → Act → World → Nat)
    (first : c.wp P (Exit.jumps J Q) a w)
    (pass : ∀ l a w, J l a w → ∃ rest, findLabel c l = some rest ∧ rest.wp P (Exit.jumps (fun l' a' w' => J l' a' w' ∧ μ l' a' w' < μ l a w) Q) a w) : (Code.scope c).wp P Q a w := by
  intro b k cs
  have hg : ∀ l rest, findLabel c l = some rest → gotoIn l (.inScope c :: k) = some (.code rest :: .inScope c :: k) := fun l rest hf => by simp [gotoIn, hf]
  have key : ∀ n l a w, μ l a w = n → J l a w → ∀ rest, findLabel c l = some rest → ∃ e a' w', Q e a' w' ∧ Arrives P (lone (b.at a (.code rest :: .inScope c :: k)) cs w) b k cs e a' w' := by
    intro n
    induction n using Nat.strongRecOn with
    | _ n ih =>
      intro l a w hn hJ rest hf
      obtain ⟨rest', hf', hp⟩ := pass l a w hJ
      rw [hf] at hf'
      injection hf' with hf'
      subst hf'
      obtain ⟨e, a₁, w₁, hq, harr⟩ := hp b (.inScope c :: k) cs
      cases e with
      | normal => exact ⟨.normal, a₁, w₁, hq, Steps.trans harr (.one step_inScope)⟩
      | exit id => exact ⟨.exit id, a₁, w₁, hq, fun k' hk => harr k' (by simp [exitTo, hk])⟩
      | goto l' =>
        obtain ⟨hJ', hlt⟩ := hq
        obtain ⟨rest2, hf2, _⟩ := pass l' a₁ w₁ hJ'
        obtain ⟨e₂, a₂, w₂, hq₂, harr₂⟩ := ih _ (by omega) l' a₁ w₁ rfl hJ' rest2 hf2
        exact ⟨e₂, a₂, w₂, hq₂, .of_steps (harr _ (hg l' rest2 hf2)) harr₂⟩
      | ret => exact ⟨_, a₁, w₁, hq, harr⟩
      | panic ch => exact ⟨_, a₁, w₁, hq, harr⟩
      | outgrown => exact ⟨_, a₁, w₁, hq, harr⟩
  obtain ⟨e, a₁, w₁, hq, harr⟩ := first b (.inScope c :: k) cs
  cases e with
  | normal => exact ⟨.normal, a₁, w₁, hq, .head step_scope (Steps.trans harr (.one step_inScope))⟩
  | exit id => exact ⟨.exit id, a₁, w₁, hq, fun k' hk => .head step_scope (harr k' (by simp [exitTo, hk]))⟩
  | goto l' =>
    obtain ⟨rest2, hf2, _⟩ := pass l' a₁ w₁ hq
    obtain ⟨e₂, a₂, w₂, hq₂, harr₂⟩ := key _ l' a₁ w₁ rfl hq rest2 hf2
    exact ⟨e₂, a₂, w₂, hq₂, .of_steps (.head step_scope (harr _ (hg l' rest2 hf2))) harr₂⟩
  | ret => exact ⟨_, a₁, w₁, hq, .of_steps (.one step_scope) harr⟩
  | panic ch => exact ⟨_, a₁, w₁, hq, .of_steps (.one step_scope) harr⟩
  | outgrown => exact ⟨_, a₁, w₁, hq, .of_steps (.one step_scope) harr⟩

theorem wp_scope_first {P : Program} {a : Act} {w : World} {Q : Exit → Act → World → Prop} {c c' : Code} (J : Nat → Act → World → Prop) (μ : Nat → Act → World → Nat) (hf : findLabel c 0 = some (Code.skip.seq c'))
    (first : (∀ a w, J 0 a w → c'.wp P (Exit.jumps J Q) a w) → c.wp P (Exit.jumps J Q) a w)
    (pass0 : ∀ a w, J 0 a w → c'.wp P (Exit.jumps (fun l' a' w' => J l' a' w' ∧ μ l' a' w' < μ 0 a w) Q) a w)
    (pass : ∀ l a w, l ≠ 0 → J l a w → ∃ rest, findLabel c l = some rest ∧ rest.wp P (Exit.jumps (fun l' a' w' => J l' a' w' ∧ μ l' a' w' < μ l a w) Q) a w) : (Code.scope c).wp P Q a w :=
  wp_scope_many J μ (first fun a w hJ => by
    refine wp_mono (pass0 a w hJ) (fun e a' w' hq => ?_)
    cases e <;> first | exact hq | exact hq.1) (fun l a w hJ => by
    by_cases hl : l = 0
    · subst hl
      exact ⟨_, hf, wp_seq (wp_skip (pass0 a w hJ))⟩
    · exact pass l a w hl hJ)

/-! What the marks tell. -/
def hereM (L : List Mk) (e i : Nat) : Mk := (L[i]?).getD ⟨0, e, []⟩
def readI (L : List Mk) (e i : Nat) (N : List Txt) (E : List Ed) : Rd :=
  if _h : L.length ≤ i then .good N E
  else if wordK (hereM L e i) = false then .bad (hereM L e i).pl
  else if (hereM L e (i + 1)).kind = 5 then readI L e (i + 2) (N ++ [(hereM L e i).txt]) E
  else if (hereM L e (i + 1)).kind ≠ 2 then .bad (hereM L e (i + 1)).pl
  else if wordK (hereM L e (i + 2)) = false then .bad (hereM L e (i + 2)).pl
  else if (hereM L e (i + 3)).kind ≠ 5 then .bad (hereM L e (i + 3)).pl
  else readI L e (i + 4) N (E ++ [⟨(hereM L e i).txt, (hereM L e (i + 1)).txt, (hereM L e (i + 2)).txt⟩])
termination_by L.length - i

theorem word_any (m : Mk) (w : World) : Calls Tryz.prog 76 #[m.agg] w (Sam w (.bool (wordK m))) := by
  obtain ⟨k, p, t⟩ := m
  have key : ∀ b, wordK ⟨k, p, t⟩ = b → Calls Tryz.prog 76 #[Mk.agg ⟨k, p, t⟩] w (Sam w (.bool b)) := by
    intro b hb
    have HB := Lib.hid hb
    clear hb
    have k0 := Blk.new w 72 #[.int .i64 k, .int .i64 p, .string (toTxt t)]
    have u0 : Below w.heap.size w (w.alloc (.cells #[.int .i64 k, .int .i64 p, .string (toTxt t)] 72)) := (Below.refl _ _).alloc (Nat.le_refl _) _
    have H := Lib.hid u0
    have q0 := k0.cell 0
    simp only [List.getElem?_toArray, List.getElem?_cons_zero] at q0
    clear k0 u0
    unfold Mk.agg
    go_enter Tryz.func76, Tryz.ntmps76
    by_cases h1 : 1 ≤ k
    · have h1I : (1 : Int) ≤ (k : Int) := by omega
      by_cases h2 : k ≤ 3
      · have h2I : (k : Int) ≤ 3 := by omega
        have hb : b = true := by rw [← HB.out]; simp [wordK]; omega
        subst hb
        go_wp2
        go_ret
        exact ⟨rfl, H.out⟩
      · have h2I : ¬ ((k : Int) ≤ 3) := by omega
        have hb : b = false := by rw [← HB.out]; simp [wordK]; omega
        subst hb
        go_wp2
        go_ret
        exact ⟨rfl, H.out⟩
    · have h1I : ¬ ((1 : Int) ≤ (k : Int)) := by omega
      have hb : b = false := by rw [← HB.out]; simp [wordK]; omega
      subst hb
      go_wp2
      go_ret
      exact ⟨rfl, H.out⟩
  exact key _ rfl

theorem one_ed1 (x : Ed) : ∀ u ∈ x.cells, u.oneCell' = true := by
  intro u hf
  simp [Ed.cells] at hf
  rcases hf with rfl | rfl | rfl <;> rfl
/-- In the midst of read: n is the first block of its own. -/
structure RdS (w W : World) (n : Nat) (A : Option Addr) (c : Nat) (L : List Mk) (e i : Nat) (N : List Txt) (E : List Ed) (x1 x2 x3 : Txt) (vn ve : Value) : Prop where
  kl : Blk W n 64 #[.slice A L.length c]
  ke : Blk W (n + 1) 3 #[.int .i64 e]
  kr : Blk W (n + 2) 74 #[.slice none 0 0, .slice none 0 0]
  kt : Blk W (n + 3) 74 #[vn, ve]
  kx : Blk W (n + 4) 39 #[.string x1, .string x2, .string x3]
  ka : Blk W (n + 5) 3 #[.int .i64 i]
  on : W.ownsRow (n + 6) 9 1 vn N.length (txtCells N)
  oe : W.ownsRow (n + 6) 39 3 ve E.length (edCells E)
  ne : ∀ q, vn.ownBlock = some q → ve.ownBlock ≠ some q
  b : Below n w W
theorem RdS.start (w : World) (A : Option Addr) (c : Nat) (L : List Mk) (e : Nat) : RdS w ((((((w.alloc (.cells #[.slice A L.length c] 64)).alloc (.cells #[.int .i64 e] 3)).alloc (.cells #[.slice none 0 0, .slice none 0 0] 74)).alloc (.cells #[.slice none 0 0, .slice none 0 0] 74)).alloc (.cells #[.string ⟨#[]⟩, .string ⟨#[]⟩, .string ⟨#[]⟩] 39)).alloc (.cells #[.int .i64 0] 3)) w.heap.size A c L e 0 [] [] ⟨#[]⟩ ⟨#[]⟩ ⟨#[]⟩ (.slice none 0 0) (.slice none 0 0) := by
  have k0 := Blk.new w 64 #[.slice A L.length c]
  have k1 := Blk.new (w.alloc (.cells #[.slice A L.length c] 64)) 3 #[.int .i64 e]
  generalize hw1 : w.alloc (.cells #[.slice A L.length c] 64) = w1 at *
  have s1 : w1.heap.size = w.heap.size + 1 := by rw [← hw1]; simp
  have k2 := Blk.new (w1.alloc (.cells #[.int .i64 e] 3)) 74 #[.slice none 0 0, .slice none 0 0]
  have k0 := k0.alloc (.cells #[.int .i64 e] 3)
  generalize hw2 : w1.alloc (.cells #[.int .i64 e] 3) = w2 at *
  have s2 : w2.heap.size = w.heap.size + 2 := by rw [← hw2]; simp [s1]
  have k3 := Blk.new (w2.alloc (.cells #[.slice none 0 0, .slice none 0 0] 74)) 74 #[.slice none 0 0, .slice none 0 0]
  have k0 := k0.alloc (.cells #[.slice none 0 0, .slice none 0 0] 74)
  have k1 := k1.alloc (.cells #[.slice none 0 0, .slice none 0 0] 74)
  generalize hw3 : w2.alloc (.cells #[.slice none 0 0, .slice none 0 0] 74) = w3 at *
  have s3 : w3.heap.size = w.heap.size + 3 := by rw [← hw3]; simp [s2]
  have k4 := Blk.new (w3.alloc (.cells #[.slice none 0 0, .slice none 0 0] 74)) 39 #[.string ⟨#[]⟩, .string ⟨#[]⟩, .string ⟨#[]⟩]
  have k0 := k0.alloc (.cells #[.slice none 0 0, .slice none 0 0] 74)
  have k1 := k1.alloc (.cells #[.slice none 0 0, .slice none 0 0] 74)
  have k2 := k2.alloc (.cells #[.slice none 0 0, .slice none 0 0] 74)
  generalize hw4 : w3.alloc (.cells #[.slice none 0 0, .slice none 0 0] 74) = w4 at *
  have s4 : w4.heap.size = w.heap.size + 4 := by rw [← hw4]; simp [s3]
  have k5 := Blk.new (w4.alloc (.cells #[.string ⟨#[]⟩, .string ⟨#[]⟩, .string ⟨#[]⟩] 39)) 3 #[.int .i64 0]
  have k0 := (k0.alloc (.cells #[.string ⟨#[]⟩, .string ⟨#[]⟩, .string ⟨#[]⟩] 39)).alloc (.cells #[.int .i64 0] 3)
  have k1 := (k1.alloc (.cells #[.string ⟨#[]⟩, .string ⟨#[]⟩, .string ⟨#[]⟩] 39)).alloc (.cells #[.int .i64 0] 3)
  have k2 := (k2.alloc (.cells #[.string ⟨#[]⟩, .string ⟨#[]⟩, .string ⟨#[]⟩] 39)).alloc (.cells #[.int .i64 0] 3)
  have k3 := (k3.alloc (.cells #[.string ⟨#[]⟩, .string ⟨#[]⟩, .string ⟨#[]⟩] 39)).alloc (.cells #[.int .i64 0] 3)
  have k4 := k4.alloc (.cells #[.int .i64 0] 3)
  have s5 : (w4.alloc (.cells #[.string ⟨#[]⟩, .string ⟨#[]⟩, .string ⟨#[]⟩] 39)).heap.size = w.heap.size + 5 := by simp [s4]
  rw [s1] at k1
  rw [s2] at k2
  rw [s3] at k3
  rw [s4] at k4
  rw [s5] at k5
  refine ⟨k0, k1, k2, k3, k4, k5, World.ownsRow_nil _ _ _ _, World.ownsRow_nil _ _ _ _, fun q h => by simp [Value.ownBlock] at h, ?_⟩
  rw [← hw4, ← hw3, ← hw2, ← hw1]
  (repeat (first | exact Below.refl _ _ | apply Below.drew | refine Below.alloc ?_ (by first | exact Nat.le_refl _ | (simp; done) | (simp; omega)) _ | refine Below.setCell ?_ (by first | exact Nat.le_refl _ | (simp; done) | (simp; omega)) _))
section
variable {w W W' : World} {n : Nat} {A : Option Addr} {c : Nat} {L : List Mk} {e i : Nat} {N : List Txt} {E : List Ed} {x1 x2 x3 : Txt} {vn ve : Value}
theorem RdS.below (h : RdS w W n A c L e i N E x1 x2 x3 vn ve) (hb : Below W.heap.size W W') : RdS w W' n A c L e i N E x1 x2 x3 vn ve := by
  have u := Upd.of_below hb (fun _ => False)
  exact ⟨h.kl.upd u id, h.ke.upd u id, h.kr.upd u id, h.kt.upd u id, h.kx.upd u id, h.ka.upd u id, ownsRow_upd h.on u (fun _ _ => id), ownsRow_upd h.oe u (fun _ _ => id), h.ne, h.b.trans (hb.mono (by have := h.kl.lt; omega))⟩
theorem RdS.setAt (h : RdS w W n A c L e i N E x1 x2 x3 vn ve) (j : Nat) (z : Int) (hz : z = j) : RdS w (W.setCell ⟨n + 5, 0, none⟩ (.int .i64 z)) n A c L e j N E x1 x2 x3 vn ve := by
  subst hz
  have u : Upd (fun q => q = n + 5) W (W.setCell ⟨n + 5, 0, none⟩ (.int .i64 j)) := (Upd.refl (fun q => q = n + 5) W).setCell (p := ⟨n + 5, 0, none⟩) (.inl rfl) _
  exact ⟨h.kl.upd u (by omega), h.ke.upd u (by omega), h.kr.upd u (by omega), h.kt.upd u (by omega), h.kx.upd u (by omega), h.ka.set 0 _, ownsRow_upd h.on u (fun k hk e => by have := (h.on.lt k hk).1; omega), ownsRow_upd h.oe u (fun k hk e => by have := (h.oe.lt k hk).1; omega), h.ne, h.b.trans (u.below (fun q _ e => by omega) (by have := h.kl.lt; omega))⟩
theorem RdS.setX (h : RdS w W n A c L e i N E x1 x2 x3 vn ve) (y1 y2 y3 : Txt) {W' : World} (hu : Upd (fun q => q = n + 4) W W') (hk : Blk W' (n + 4) 39 #[.string y1, .string y2, .string y3]) : RdS w W' n A c L e i N E y1 y2 y3 vn ve :=
  ⟨h.kl.upd hu (by omega), h.ke.upd hu (by omega), h.kr.upd hu (by omega), h.kt.upd hu (by omega), hk, h.ka.upd hu (by omega), ownsRow_upd h.on hu (fun k hk e => by have := (h.on.lt k hk).1; omega), ownsRow_upd h.oe hu (fun k hk e => by have := (h.oe.lt k hk).1; omega), h.ne, h.b.trans (hu.below (fun q _ e => by omega) (by have := h.kl.lt; omega))⟩
theorem RdS.pushN (h : RdS w W n A c L e i N E x1 x2 x3 vn ve) (s : Txt) (hl : N.length ≤ 1000000) :
    ∃ A' c' W1, (Builtin.append_ #[22, 22] 22 #[vn, .slice (some ⟨W.heap.size, 0, none⟩) 1 1]).run Tryz.prog (W.alloc (.cells #[.string s] 9)) = .ok (.slice A' (N.length + 1) c') W1 ∧
      Blk W1 (n + 3) 74 #[vn, ve] ∧ RdS w (W1.setCell ⟨n + 3, 0, none⟩ (.slice A' (N.length + 1) c')) n A c L e i (N ++ [s]) E x1 x2 x3 (.slice A' (N.length + 1) c') ve := by
  have hz : n + 6 ≤ W.heap.size := by have := h.ka.lt; omega
  obtain ⟨v', w', happ, own', up, pl⟩ := push_own W (n + 6) 22 9 1 16 _ Tryz.underlying22 info_string rfl (by decide) vn N.length _ h.on [.string s] 1 rfl (by simp; rfl) (by omega) (by unfold maxLen; omega) hz
  obtain ⟨A', c', rfl, -, -⟩ := own_form own'
  have lt3 : ∀ k, (Value.slice A' (N.length + 1) c').ownBlock = some k → n + 6 ≤ k := fun k hk => (own'.lt k hk).1
  have hF : ∀ k, vn.ownBlock = some k → n + 6 ≤ k := fun k hk => (h.on.lt k hk).1
  have us : Upd (fun q => q = n + 3) w' (w'.setCell ⟨n + 3, 0, none⟩ (.slice A' (N.length + 1) c')) := (Upd.refl (fun q => q = n + 3) w').setCell (p := ⟨n + 3, 0, none⟩) (.inl rfl) _
  have uu : Upd (fun q => q = n + 3 ∨ vn.ownBlock = some q) W (w'.setCell ⟨n + 3, 0, none⟩ (.slice A' (N.length + 1) c')) := (up.mono (fun i _ h => .inr h)).trans us (fun i h => .inl (.inl h))
  have no : ∀ q, q < n + 6 → q ≠ n + 3 → ¬ (q = n + 3 ∨ vn.ownBlock = some q) := fun q h1 h2 h3 => by
    rcases h3 with h3 | h3
    · exact h2 h3
    · have := hF q h3; omega
  have k3 : Blk w' (n + 3) 74 #[vn, ve] := h.kt.upd up (fun e => by have := hF _ e; omega)
  refine ⟨A', c', w', happ, k3, ⟨h.kl.upd uu (no _ (by omega) (by omega)), h.ke.upd uu (no _ (by omega) (by omega)), h.kr.upd uu (no _ (by omega) (by omega)), k3.set 0 _, h.kx.upd uu (no _ (by omega) (by omega)), h.ka.upd uu (no _ (by omega) (by omega)), ?_, ?_, ?_, h.b.trans (uu.below (fun q _ e => ?_) (by omega))⟩⟩
  · have := ownsRow_upd own' us (fun k hk e => by have := lt3 k hk; omega)
    rw [List.length_append, txtCells, List.map_append]
    exact this
  · refine ownsRow_upd h.oe uu (fun k hk e => ?_)
    rcases e with e | e
    · have := (h.oe.lt k hk).1; omega
    · exact h.ne k e hk
  · intro q hq he
    rcases pl q hq with h1 | h1
    · exact h.ne q h1 he
    · have := (h.oe.lt q he).2; omega
  · rcases e with e | e
    · omega
    · have := hF _ e; omega
theorem RdS.pushE (h : RdS w W n A c L e i N E x1 x2 x3 vn ve) (hl : E.length ≤ 1000000) :
    ∃ A' c' W1, (Builtin.append_ #[23, 23] 23 #[ve, .slice (some ⟨W.heap.size, 0, none⟩) 1 1]).run Tryz.prog (W.alloc (.cells #[.string x1, .string x2, .string x3] 39)) = .ok (.slice A' (E.length + 1) c') W1 ∧
      Blk W1 (n + 3) 74 #[vn, ve] ∧ RdS w (W1.setCell ⟨n + 3, 1, none⟩ (.slice A' (E.length + 1) c')) n A c L e i N (E ++ [⟨x1, x2, x3⟩]) x1 x2 x3 vn (.slice A' (E.length + 1) c') := by
  have hz : n + 6 ≤ W.heap.size := by have := h.ka.lt; omega
  obtain ⟨v', w', happ, own', up, pl⟩ := push_own W (n + 6) 23 39 3 48 _ Tryz.underlying23 info_edge rfl (by decide) ve E.length _ h.oe (Ed.cells ⟨x1, x2, x3⟩) 1 rfl (one_ed1 _) (by omega) (by unfold maxLen; omega) hz
  obtain ⟨A', c', rfl, -, -⟩ := own_form own'
  have lt3 : ∀ k, (Value.slice A' (E.length + 1) c').ownBlock = some k → n + 6 ≤ k := fun k hk => (own'.lt k hk).1
  have hF : ∀ k, ve.ownBlock = some k → n + 6 ≤ k := fun k hk => (h.oe.lt k hk).1
  have us : Upd (fun q => q = n + 3) w' (w'.setCell ⟨n + 3, 1, none⟩ (.slice A' (E.length + 1) c')) := (Upd.refl (fun q => q = n + 3) w').setCell (p := ⟨n + 3, 1, none⟩) (.inl rfl) _
  have uu : Upd (fun q => q = n + 3 ∨ ve.ownBlock = some q) W (w'.setCell ⟨n + 3, 1, none⟩ (.slice A' (E.length + 1) c')) := (up.mono (fun i _ h => .inr h)).trans us (fun i h => .inl (.inl h))
  have no : ∀ q, q < n + 6 → q ≠ n + 3 → ¬ (q = n + 3 ∨ ve.ownBlock = some q) := fun q h1 h2 h3 => by
    rcases h3 with h3 | h3
    · exact h2 h3
    · have := hF q h3; omega
  have k3 : Blk w' (n + 3) 74 #[vn, ve] := h.kt.upd up (fun e => by have := hF _ e; omega)
  refine ⟨A', c', w', happ, k3, ⟨h.kl.upd uu (no _ (by omega) (by omega)), h.ke.upd uu (no _ (by omega) (by omega)), h.kr.upd uu (no _ (by omega) (by omega)), k3.set 1 _, h.kx.upd uu (no _ (by omega) (by omega)), h.ka.upd uu (no _ (by omega) (by omega)), ?_, ?_, ?_, h.b.trans (uu.below (fun q _ e => ?_) (by omega))⟩⟩
  · refine ownsRow_upd h.on uu (fun k hk e => ?_)
    rcases e with e | e
    · have := (h.on.lt k hk).1; omega
    · exact h.ne k hk e
  · have := ownsRow_upd own' us (fun k hk e => by have := lt3 k hk; omega)
    rw [List.length_append, edCells, List.flatMap_append]
    simpa [edCells] using this
  · intro q hq he
    rcases pl q he with h1 | h1
    · exact h.ne q hq h1
    · have := (h.on.lt q hq).2; omega
  · rcases e with e | e
    · omega
    · have := hF _ e; omega
end

set_option maxHeartbeats 1000000 in
set_option maxRecDepth 20000 in
theorem here_any {w W : World} {n : Nat} {A : Option Addr} {c : Nat} {L : List Mk} {e i : Nat} {N : List Txt} {E : List Ed} {x1 x2 x3 : Txt} {vn ve : Value} (h : RdS w W n A c L e i N E x1 x2 x3 vn ve) (hr : RowR W A (mkCells L)) (_hc : L.length ≤ c) (_hL : L.length ≤ 1000000) (_hi : i ≤ 1000000) :
    Calls Tryz.prog 75 #[.pointer (some ⟨n + 5, 0, none⟩), .pointer (some ⟨n, 0, none⟩), .pointer (some ⟨n + 1, 0, none⟩)] W (NextP W (hereM L e i)) := by
  have k0 := Blk.new W 72 #[.int .i64 0, .int .i64 0, .string ⟨#[]⟩]
  have u0 : Below W.heap.size W (W.alloc (.cells #[.int .i64 0, .int .i64 0, .string ⟨#[]⟩] 72)) := (Below.refl _ _).alloc (Nat.le_refl _) _
  have HH := h.below u0
  have H := Lib.hid (And.intro k0 (And.intro u0 (hr.below u0)))
  have hn : n + 5 < W.heap.size := h.ka.lt
  clear k0 u0 h hr
  go_enter Tryz.func75, Tryz.ntmps75
  go_upto_region 1 with (fail)
  generalize W.alloc (.cells #[.int .i64 0, .int .i64 0, .string ⟨#[]⟩] 72) = W0 at H HH ⊢
  have c5 : W0.cell? ⟨n + 5, 0, none⟩ = some (.int .i64 i) := HH.ka.cell 0
  have c0 : W0.cell? ⟨n, 0, none⟩ = some (.slice A L.length c) := HH.kl.cell 0
  have c1 : W0.cell? ⟨n + 1, 0, none⟩ = some (.int .i64 e) := HH.ke.cell 0
  have y0 : W0.cell? ⟨W.heap.size, 0, none⟩ = some (.int .i64 0) := H.out.1.cell 0
  have y1 : W0.cell? ⟨W.heap.size, 1, none⟩ = some (.int .i64 0) := H.out.1.cell 1
  have y2 : W0.cell? ⟨W.heap.size, 2, none⟩ = some (.string ⟨#[]⟩) := H.out.1.cell 2
  have f0 := H.out.1.frozen 0
  have f1 := H.out.1.frozen 1
  have f2 := H.out.1.frozen 2
  have hz := H.out.2.1.size
  clear HH
  by_cases hlt : i < L.length
  · have hltI : (i : Int) < (L.length : Int) := by omega
    obtain ⟨⟨k, p, t⟩, hm⟩ : ∃ m, L[i]? = some m := ⟨L[i], List.getElem?_eq_getElem hlt⟩
    have hg := fun j (hj : j < 3) => flat_get Mk.cells 3 (fun _ => rfl) L i j _ hm hj
    obtain ⟨ab, ao, rfl, m0⟩ := H.out.2.2 _ _ (hg 0 (by omega))
    obtain ⟨_, _, e1, m1⟩ := H.out.2.2 _ _ (hg 1 (by omega))
    injection e1 with e1; injection e1 with e1 e2; subst e1; subst e2
    obtain ⟨_, _, e1, m2⟩ := H.out.2.2 _ _ (hg 2 (by omega))
    injection e1 with e1; injection e1 with e1 e2; subst e1; subst e2
    simp only [Nat.add_zero] at m0
    rw [← Nat.add_assoc] at m1 m2
    obtain ⟨kF, uF⟩ := fill3 H.out.1 rfl (.int .i64 k) (.int .i64 p) (.string (toTxt t))
    have e0 := kF.cell 0
    have e1 := kF.cell 1
    have e2 := kF.cell 2
    simp only [List.getElem?_toArray, List.getElem?_cons_succ, List.getElem?_cons_zero] at e0 e1 e2
    have FIN := Lib.hid (show NextP W (hereM L e i) (.returned (.agg #[.int .i64 k, .int .i64 p, .string (toTxt t)])) _ from ⟨by rw [hereM, hm]; rfl, H.out.2.1.trans (uF.below (fun q _ e => by omega) hz)⟩)
    clear kF uF hg hm
    go_wp2
    refine bodyPost_ret (v := .agg #[.int .i64 k, .int .i64 p, .string (toTxt t)]) (by simp [results, Tryz.f75, go_sem, e0, e1, e2]) rfl FIN.out
  · have hltI : ¬ ((i : Int) < (L.length : Int)) := by omega
    obtain ⟨kF, uF⟩ := fill3 H.out.1 rfl (.int .i64 0) (.int .i64 e) (.string ⟨#[]⟩)
    have e0 := kF.cell 0
    have e1 := kF.cell 1
    have e2 := kF.cell 2
    simp only [List.getElem?_toArray, List.getElem?_cons_succ, List.getElem?_cons_zero] at e0 e1 e2
    have FIN := Lib.hid (show NextP W (hereM L e i) (.returned (.agg #[.int .i64 0, .int .i64 e, .string ⟨#[]⟩])) _ from ⟨by rw [hereM, List.getElem?_eq_none (by omega)]; rfl, H.out.2.1.trans (uF.below (fun q _ e => by omega) hz)⟩)
    clear kF uF
    go_wp2
    refine bodyPost_ret (v := .agg #[.int .i64 0, .int .i64 e, .string ⟨#[]⟩]) (by simp [results, Tryz.f75, go_sem, e0, e1, e2]) rfl FIN.out
end Go.Proofs.YthmkgnifcbnkpaaGreat
