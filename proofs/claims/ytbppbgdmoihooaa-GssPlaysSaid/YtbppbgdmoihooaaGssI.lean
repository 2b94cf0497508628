/- The shared stack (gss): calls that change nothing. -/
import Derived.Test.YtbppbgdmoihooaaGssH
namespace Go.Proofs.Ytbppbgdmoihooaa
open Go.RowKit

/-- The call comes back with this, and nothing that was there has turned. -/
def Same (w : World) (v : Value) (e : Ending) (w' : World) : Prop := e = .returned v ∧ Below w.heap.size w w'

set_option maxHeartbeats 400000 in
set_option maxRecDepth 20000 in
theorem at_no (w : World) (F : Nat → Prop) (b : Nat) (N : List GNode) (n : Int) (h : StkAt w F b N) (hn : ¬ (0 ≤ n ∧ n < (N.length : Int))) :
    Calls Try.prog 13 #[.pointer (some ⟨b, 0, none⟩), .int .i64 n] w (Same w (.tuple #[.int .i64 0, .int .i64 0, .int .i64 4])) := by
  have u1 := (Upd.refl (fun _ => False) w).alloc (.cells #[.int .i64 n] 3)
  have k0 := Blk.new w 3 #[.int .i64 n]
  have hB : Below w.heap.size w (w.alloc (.cells #[.int .i64 n] 3)) := (Below.refl _ _).alloc (Nat.le_refl _) _
  have h1 := h.upd u1 (fun _ _ => id)
  have hw : wrongOf N.length [n] = 4 := wrongOf_bad (k := 0) rfl hn
  have H : Hid _ := Lib.hid (And.intro k0 (And.intro hB h1))
  clear u1 k0 hB h1 h hn
  go_enter Try.func13, Try.ntmps13
  go_wp2_with (go_at_call 52; refine (wrong_any _ _ b N H.out.2.2 w.heap.size _ [n] (fun j y hj => by
    match j, hj with
    | 0, hj => simp at hj; subst hj; exact H.out.1.cell 0
    | j + 1, hj => simp at hj) (by simp)).mono ?_; rintro e w' ⟨rfl, rfl⟩)
  first | (refine bodyPost_ret (results_tmp3 rfl _ _ _) rfl ?_) | go_ret2
  exact ⟨rfl, H.out.2.1⟩

set_option maxHeartbeats 400000 in
set_option maxRecDepth 20000 in
theorem frames_no (w : World) (F : Nat → Prop) (b : Nat) (N : List GNode) (n : Int) (h : StkAt w F b N) (hn : ¬ (0 ≤ n ∧ n < (N.length : Int))) :
    Calls Try.prog 18 #[.pointer (some ⟨b, 0, none⟩), .int .i64 n] w (Same w (.tuple #[.slice none 0 0, .int .i64 4])) := by
  have u1 := (Upd.refl (fun _ => False) w).alloc (.cells #[.int .i64 n] 3)
  have k0 := Blk.new w 3 #[.int .i64 n]
  have hB : Below w.heap.size w (w.alloc (.cells #[.int .i64 n] 3)) := (Below.refl _ _).alloc (Nat.le_refl _) _
  have h1 := h.upd u1 (fun _ _ => id)
  have hw : wrongOf N.length [n] = 4 := wrongOf_bad (k := 0) rfl hn
  have H : Hid _ := Lib.hid (And.intro k0 (And.intro hB h1))
  clear u1 k0 hB h1 h hn
  go_enter Try.func18, Try.ntmps18
  go_wp2_with (go_at_call 52; refine (wrong_any _ _ b N H.out.2.2 w.heap.size _ [n] (fun j y hj => by
    match j, hj with
    | 0, hj => simp at hj; subst hj; exact H.out.1.cell 0
    | j + 1, hj => simp at hj) (by simp)).mono ?_; rintro e w' ⟨rfl, rfl⟩)
  first | (refine bodyPost_ret (results_tmp3 rfl _ _ _) rfl ?_) | go_ret2
  exact ⟨rfl, H.out.2.1⟩

set_option maxHeartbeats 400000 in
set_option maxRecDepth 20000 in
theorem pops_no (w : World) (F : Nat → Prop) (b : Nat) (N : List GNode) (n : Int) (h : StkAt w F b N) (hn : ¬ (0 ≤ n ∧ n < (N.length : Int))) :
    Calls Try.prog 19 #[.pointer (some ⟨b, 0, none⟩), .int .i64 n] w (Same w (.tuple #[.slice none 0 0, .int .i64 4])) := by
  have u1 := (Upd.refl (fun _ => False) w).alloc (.cells #[.int .i64 n] 3)
  have k0 := Blk.new w 3 #[.int .i64 n]
  have hB : Below w.heap.size w (w.alloc (.cells #[.int .i64 n] 3)) := (Below.refl _ _).alloc (Nat.le_refl _) _
  have h1 := h.upd u1 (fun _ _ => id)
  have hw : wrongOf N.length [n] = 4 := wrongOf_bad (k := 0) rfl hn
  have H : Hid _ := Lib.hid (And.intro k0 (And.intro hB h1))
  clear u1 k0 hB h1 h hn
  go_enter Try.func19, Try.ntmps19
  go_wp2_with (go_at_call 52; refine (wrong_any _ _ b N H.out.2.2 w.heap.size _ [n] (fun j y hj => by
    match j, hj with
    | 0, hj => simp at hj; subst hj; exact H.out.1.cell 0
    | j + 1, hj => simp at hj) (by simp)).mono ?_; rintro e w' ⟨rfl, rfl⟩)
  first | (refine bodyPost_ret (results_tmp3 rfl _ _ _) rfl ?_) | go_ret2
  exact ⟨rfl, H.out.2.1⟩

set_option maxHeartbeats 400000 in
set_option maxRecDepth 20000 in
theorem pop_no (w : World) (F : Nat → Prop) (b : Nat) (N : List GNode) (n p : Int) (h : StkAt w F b N) (hn : ¬ (0 ≤ n ∧ n < (N.length : Int))) :
    Calls Try.prog 27 #[.pointer (some ⟨b, 0, none⟩), .int .i64 n, .int .i64 p] w (Same w (.tuple #[.slice none 0 0, .bool false, .int .i64 4])) := by
  have u1 := (Upd.refl (fun _ => False) w).alloc (.cells #[.int .i64 n] 3)
  have k0 := Blk.new w 3 #[.int .i64 n]
  have hB : Below w.heap.size w (w.alloc (.cells #[.int .i64 n] 3)) := (Below.refl _ _).alloc (Nat.le_refl _) _
  have h1 := h.upd u1 (fun _ _ => id)
  have hw : wrongOf N.length [n] = 4 := wrongOf_bad (k := 0) rfl hn
  have H : Hid _ := Lib.hid (And.intro k0 (And.intro hB h1))
  clear u1 k0 hB h1 h hn
  go_enter Try.func27, Try.ntmps27
  go_wp2_with (go_at_call 52; refine (wrong_any _ _ b N H.out.2.2 w.heap.size _ [n] (fun j y hj => by
    match j, hj with
    | 0, hj => simp at hj; subst hj; exact H.out.1.cell 0
    | j + 1, hj => simp at hj) (by simp)).mono ?_; rintro e w' ⟨rfl, rfl⟩)
  first | (refine bodyPost_ret (results_tmp3 rfl _ _ _) rfl ?_) | go_ret2
  exact ⟨rfl, H.out.2.1⟩

set_option maxHeartbeats 400000 in
set_option maxRecDepth 20000 in
theorem push_no (w : World) (F : Nat → Prop) (b : Nat) (N : List GNode) (n p q : Int) (h : StkAt w F b N) (hn : ¬ (0 ≤ n ∧ n < (N.length : Int)) ∨ ¬ (0 ≤ p ∧ p < (N.length : Int))) :
    Calls Try.prog 26 #[.pointer (some ⟨b, 0, none⟩), .int .i64 n, .agg #[.int .i64 p, .int .i64 q]] w (Same w (.tuple #[.slice none 0 0, .bool false, .int .i64 4])) := by
  have u2 := ((Upd.refl (fun _ => False) w).alloc (.cells #[.int .i64 p, .int .i64 q] 48)).alloc (.cells #[.int .i64 n, .int .i64 p] 3)
  have kL := Blk.new (w.alloc (.cells #[.int .i64 p, .int .i64 q] 48)) 3 #[.int .i64 n, .int .i64 p]
  have h2 := h.upd u2 (fun _ _ => id)
  have hB : Below w.heap.size w ((w.alloc (.cells #[.int .i64 p, .int .i64 q] 48)).alloc (.cells #[.int .i64 n, .int .i64 p] 3)) := ((Below.refl _ _).alloc (Nat.le_refl _) _).alloc (by simp) _
  simp only [World.size_alloc] at kL
  have hw : wrongOf N.length [n, p] = 4 := by
    rcases hn with hn | hn
    · exact wrongOf_bad (k := 0) rfl hn
    · exact wrongOf_bad (k := 1) rfl hn
  have hcl : ∀ j (y : Int), [n, p][j]? = some y → ((w.alloc (.cells #[.int .i64 p, .int .i64 q] 48)).alloc (.cells #[.int .i64 n, .int .i64 p] 3)).cell? ⟨w.heap.size + 1, j, none⟩ = some (.int .i64 y) := by
    intro j y hj
    rw [kL.cell j]
    match j, hj with
    | 0, hj => simpa using hj
    | 1, hj => simpa using hj
    | j + 2, hj => simp at hj
  have H : Hid _ := Lib.hid (And.intro h2 (And.intro hcl hB))
  clear u2 kL h2 hcl h hB hn
  go_enter Try.func26, Try.ntmps26
  go_wp2_with (go_at_call 52; refine (wrong_any _ _ b N H.out.1 (w.heap.size + 1) _ [n, p] H.out.2.1 (by simp)).mono ?_; rintro e w' ⟨rfl, rfl⟩)
  refine bodyPost_ret (results_tmp3 rfl _ _ _) rfl ?_
  exact ⟨rfl, H.out.2.2⟩

set_option maxHeartbeats 400000 in
set_option maxRecDepth 20000 in
theorem push_old (w : World) (F : Nat → Prop) (b : Nat) (N : List GNode) (i : Nat) (x : GNode) (p q : Int) (h : StkAt w F b N) (hi : N[i]? = some x) (hp0 : 0 ≤ p) (hp1 : p < N.length) (hold : (p, q) ∈ x.frames) :
    Calls Try.prog 26 #[.pointer (some ⟨b, 0, none⟩), .int .i64 i, .agg #[.int .i64 p, .int .i64 q]] w (Same w (.tuple #[.slice none 0 0, .bool false, .int .i64 0])) := by
  have hlt := (List.getElem?_eq_some_iff.1 hi).1
  have u2 := ((Upd.refl (fun _ => False) w).alloc (.cells #[.int .i64 p, .int .i64 q] 48)).alloc (.cells #[.int .i64 (i : Int), .int .i64 p] 3)
  have kL := Blk.new (w.alloc (.cells #[.int .i64 p, .int .i64 q] 48)) 3 #[.int .i64 (i : Int), .int .i64 p]
  have h2 := h.upd u2 (fun _ _ => id)
  have hB : Below w.heap.size w (((w.alloc (.cells #[.int .i64 p, .int .i64 q] 48)).alloc (.cells #[.int .i64 (i : Int), .int .i64 p] 3)).alloc (.cells #[.int .i64 (i : Int), .int .i64 p, .int .i64 q] 119)) :=
    (((Below.refl _ _).alloc (Nat.le_refl _) _).alloc (by simp) _).alloc (by simp; omega) _
  have u3 := u2.alloc (.cells #[.int .i64 (i : Int), .int .i64 p, .int .i64 q] 119)
  have kK := Blk.new ((w.alloc (.cells #[.int .i64 p, .int .i64 q] 48)).alloc (.cells #[.int .i64 (i : Int), .int .i64 p] 3)) 119 #[.int .i64 (i : Int), .int .i64 p, .int .i64 q]
  simp only [World.size_alloc] at kL kK
  have hw : wrongOf N.length [(i : Int), p] = 0 := wrongOf_good (by simp; omega)
  have hcl : ∀ j (y : Int), [(i : Int), p][j]? = some y → ((w.alloc (.cells #[.int .i64 p, .int .i64 q] 48)).alloc (.cells #[.int .i64 (i : Int), .int .i64 p] 3)).cell? ⟨w.heap.size + 1, j, none⟩ = some (.int .i64 y) := by
    intro j y hj
    rw [kL.cell j]
    match j, hj with
    | 0, hj => simpa using hj
    | 1, hj => simpa using hj
    | j + 2, hj => simp at hj
  have H : Hid _ := Lib.hid (And.intro h (And.intro h2 (And.intro hcl (And.intro u3 (And.intro kK (And.intro hB hold))))))
  clear u2 kL h2 u3 kK hcl hold h hp0 hp1 hB
  go_enter Try.func26, Try.ntmps26
  go_wp2_with (go_at_call 52; refine (wrong_any _ _ b N H.out.2.1 (w.heap.size + 1) _ [(i : Int), p] H.out.2.2.1 (by simp)).mono ?_; rintro e w' ⟨rfl, rfl⟩)
  obtain ⟨h0, h2, hcl, u3, kK, hB, hold⟩ := H.out
  generalize ((w.alloc (.cells #[.int .i64 p, .int .i64 q] 48)).alloc (.cells #[.int .i64 (i : Int), .int .i64 p] 3)).alloc (.cells #[.int .i64 (i : Int), .int .i64 p, .int .i64 q] 119) = w3 at *
  obtain ⟨O, D, hs, rfl⟩ := h0
  have c1 : w3.cell? ⟨b, 1, none⟩ = some (.map (some D.r2)) := (hs.blk.upd u3 id).cell 1
  have e0 : w3.cell? ⟨w.heap.size + 1 + 1, 0, none⟩ = some (.int .i64 (i : Int)) := kK.cell 0
  have e1 : w3.cell? ⟨w.heap.size + 1 + 1, 1, none⟩ = some (.int .i64 p) := kK.cell 1
  have e2 : w3.cell? ⟨w.heap.size + 1 + 1, 2, none⟩ = some (.int .i64 q) := kK.cell 2
  have hl : ∀ n, Sem.run Try.prog (Instr.lookup 105 (.map (some D.r2)) (.agg #[.int .i64 (i : Int), .int .i64 p, .int .i64 q]) false) (w3.drewN n) = .ok (.int .i64 1) (w3.drewN n) := fun n =>
    ((hs.map2.upd u3 id).drewN n).look_hit law3 Try.underlying105 (key := key3 i p q) ((hs.e2 _).2 ⟨i, (p, q), x, hi, hold, rfl⟩) false
  have H2 := Lib.hid hB
  clear hs u3 kK hi hcl h2 hold H hB
  go_quiet (fail)
  go_wp2
  refine bodyPost_ret (results_tmp3 rfl _ _ _) rfl ?_
  exact ⟨rfl, below_drewN H2.out _⟩

set_option maxHeartbeats 400000 in
set_option maxRecDepth 20000 in
theorem pop_old (w : World) (F : Nat → Prop) (b : Nat) (N : List GNode) (i : Nat) (x : GNode) (p : Int) (h : StkAt w F b N) (hi : N[i]? = some x) (hold : p ∈ x.pops) :
    Calls Try.prog 27 #[.pointer (some ⟨b, 0, none⟩), .int .i64 i, .int .i64 p] w (Same w (.tuple #[.slice none 0 0, .bool false, .int .i64 0])) := by
  have hlt := (List.getElem?_eq_some_iff.1 hi).1
  have u2 := (Upd.refl (fun _ => False) w).alloc (.cells #[.int .i64 (i : Int)] 3)
  have kL := Blk.new w 3 #[.int .i64 (i : Int)]
  have h2 := h.upd u2 (fun _ _ => id)
  have hB : Below w.heap.size w ((w.alloc (.cells #[.int .i64 (i : Int)] 3)).alloc (.cells #[.int .i64 (i : Int), .int .i64 p] 27)) :=
    ((Below.refl _ _).alloc (Nat.le_refl _) _).alloc (by simp) _
  have u3 := u2.alloc (.cells #[.int .i64 (i : Int), .int .i64 p] 27)
  have kK := Blk.new (w.alloc (.cells #[.int .i64 (i : Int)] 3)) 27 #[.int .i64 (i : Int), .int .i64 p]
  simp only [World.size_alloc] at kK
  have hw : wrongOf N.length [(i : Int)] = 0 := wrongOf_good (by simp; omega)
  have hcl : ∀ j (y : Int), [(i : Int)][j]? = some y → (w.alloc (.cells #[.int .i64 (i : Int)] 3)).cell? ⟨w.heap.size, j, none⟩ = some (.int .i64 y) := by
    intro j y hj
    rw [kL.cell j]
    match j, hj with
    | 0, hj => simpa using hj
    | j + 1, hj => simp at hj
  have H : Hid _ := Lib.hid (And.intro h (And.intro h2 (And.intro hcl (And.intro u3 (And.intro kK (And.intro hB hold))))))
  clear u2 kL h2 u3 kK hcl hold h hB
  go_enter Try.func27, Try.ntmps27
  go_wp2_with (go_at_call 52; refine (wrong_any _ _ b N H.out.2.1 w.heap.size _ [(i : Int)] H.out.2.2.1 (by simp)).mono ?_; rintro e w' ⟨rfl, rfl⟩)
  obtain ⟨h0, h2, hcl, u3, kK, hB, hold⟩ := H.out
  generalize (w.alloc (.cells #[.int .i64 (i : Int)] 3)).alloc (.cells #[.int .i64 (i : Int), .int .i64 p] 27) = w3 at *
  obtain ⟨O, D, hs, rfl⟩ := h0
  have c1 : w3.cell? ⟨b, 2, none⟩ = some (.map (some D.r3)) := (hs.blk.upd u3 id).cell 2
  have e0 : w3.cell? ⟨w.heap.size + 1, 0, none⟩ = some (.int .i64 (i : Int)) := kK.cell 0
  have e1 : w3.cell? ⟨w.heap.size + 1, 1, none⟩ = some (.int .i64 p) := kK.cell 1
  have hl : ∀ n, Sem.run Try.prog (Instr.lookup 104 (.map (some D.r3)) (.agg #[.int .i64 (i : Int), .int .i64 p]) false) (w3.drewN n) = .ok (.int .i64 1) (w3.drewN n) := fun n =>
    ((hs.map3.upd u3 id).drewN n).look_hit law2 Try.underlying104 (key := key2 i p) ((hs.e3 _).2 ⟨i, p, x, hi, hold, rfl⟩) false
  have H2 := Lib.hid hB
  clear hs u3 kK hi hcl h2 hold H hB
  go_quiet (fail)
  go_wp2
  refine bodyPost_ret (results_tmp3 rfl _ _ _) rfl ?_
  exact ⟨rfl, below_drewN H2.out _⟩
end Go.Proofs.Ytbppbgdmoihooaa
