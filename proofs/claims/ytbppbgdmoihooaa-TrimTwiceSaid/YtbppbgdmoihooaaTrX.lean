/- Forests: cut to spots: the plain law (no program in sight); lists of bools in memory. -/
import Derived.Test.YtbppbgdmoihooaaTrV
namespace Go.Proofs.Ytbppbgdmoihooaa

def bools (b : List Bool) : Array Value := (b.map Value.bool).toArray
theorem bools_get {b : List Bool} {i : Nat} {x : Bool} (h : b[i]? = some x) : (bools b)[i]? = some (.bool x) := by simp [bools, h]
theorem bools_set (b : List Bool) (i : Nat) (x : Bool) : (bools b).setIfInBounds i (.bool x) = bools (b.set i x) := by simp [bools, List.map_set]
theorem made_bools (n : Nat) : madeCells #[Value.bool false] n = bools (List.replicate n false) := by
  apply Array.ext
  · simp [madeCells, bools]
  · intro i h1 h2
    simp [madeCells, bools, Nat.mod_one]
theorem info_bool : (Try.prog.info? 4).map (fun i => (i.zero, i.size, i.bytes)) = some (some (.bool false), 1, 1) := by kernel_rfl
theorem mk_bools (w : World) (n : Nat) (hn : n ≤ 140737488355328) : (Instr.makeSlice 84 (.int .i64 (n : Int)) (.int .i64 (n : Int))).run Try.prog w = .ok (.slice (some ⟨w.heap.size, 0, none⟩) n n) (w.alloc (.cells (bools (List.replicate n false)) 4)) := by
  obtain ⟨i0, hi0, hz0, hz1, hz2⟩ := info_parts info_bool
  have hr := run_make (P := Try.prog) w 84 4 i0 _ Try.underlying84 hi0 hz0 .i64 .i64 n n (by omega) (Int.le_refl _) (by rw [hz2]; omega) (by omega)
  rw [hz1] at hr
  simp only [Int.toNat_natCast, Nat.mul_one] at hr
  rw [← made_bools]
  exact hr

def atB (I : List Bool) (x : Int) : Bool := I[x.toNat]?.getD false
theorem atB_get {I : List Bool} {i : Nat} (h : i < I.length) : I[i]? = some (atB I (i : Int)) := by unfold atB; simp [List.getElem?_eq_getElem h]
theorem atB_set {I : List Bool} {i : Nat} {b : Bool} (hi : i < I.length) (j : Int) : atB (I.set i b) j = if j.toNat = i then b else atB I j := by
  unfold atB
  rw [List.getElem?_set]
  by_cases e : i = j.toNat
  · subst e; simp [hi]
  · rw [if_neg e, if_neg (fun h => e h.symm)]
theorem ext_atB {I J : List Bool} (hl : I.length = J.length) (h : ∀ s : Nat, s < I.length → atB I s = atB J s) : I = J := by
  apply List.ext_getElem?
  intro i
  by_cases hi : i < I.length
  · rw [atB_get hi, atB_get (hl ▸ hi), h i hi]
  · rw [List.getElem?_eq_none (by omega), List.getElem?_eq_none (by omega)]

/-- Which spots end. -/
def endsB (T : List Int) : List Bool := T.map fun x => decide (0 < x)
theorem endsB_len (T : List Int) : (endsB T).length = T.length := by simp [endsB]
theorem endsB_at {T : List Int} {i : Nat} (h : i < T.length) : atB (endsB T) i = decide (0 < at0 T i) := by
  unfold atB endsB at0
  simp [List.getElem?_eq_getElem h]

/-- How many spots stay, of the first k. -/
def cnt (I : List Bool) : Nat → Nat
  | 0 => 0
  | k + 1 => if atB I k then cnt I k + 1 else cnt I k
def num (I : List Bool) (x : Int) : Int := if x < 0 then -1 else (cnt I x.toNat : Int)
def stay (I : List Bool) (x : Int) : Bool := decide (x < 0) || atB I x
def keep (I : List Bool) (p : Pk) : Bool := atB I p.spot && (stay I p.left && stay I p.right)
def moved (I : List Bool) (p : Pk) : Pk := ⟨cnt I p.spot.toNat, p.prod, p.mid, num I p.left, num I p.right⟩
def spotsTo (S : List Fct) (I : List Bool) : Nat → List Fct
  | 0 => []
  | k + 1 => if atB I k then spotsTo S I k ++ S[k]?.toList else spotsTo S I k
def packsTo (P : List Pk) (I : List Bool) : Nat → List Pk
  | 0 => []
  | k + 1 => match P[k]? with
    | some p => if keep I p then packsTo P I k ++ [moved I p] else packsTo P I k
    | none => packsTo P I k
theorem spotsTo_len (S : List Fct) (I : List Bool) : ∀ k, k ≤ S.length → (spotsTo S I k).length = cnt I k
  | 0, _ => rfl
  | k + 1, h => by
    unfold spotsTo cnt
    split
    · rw [List.length_append, spotsTo_len S I k (by omega), List.getElem?_eq_getElem (by omega)]
      rfl
    · exact spotsTo_len S I k (by omega)
theorem cnt_le (I : List Bool) : ∀ k, cnt I k ≤ k
  | 0 => Nat.le_refl _
  | k + 1 => by unfold cnt; have := cnt_le I k; split <;> omega
theorem packsTo_len (P : List Pk) (I : List Bool) : ∀ k, (packsTo P I k).length ≤ k
  | 0 => Nat.le_refl _
  | k + 1 => by
    unfold packsTo
    have := packsTo_len P I k
    split
    · split
      · simp; omega
      · omega
    · omega
theorem spotsTo_hit {S : List Fct} {I : List Bool} {k : Nat} {f : Fct} (hf : S[k]? = some f) (h : atB I k = true) : spotsTo S I (k + 1) = spotsTo S I k ++ [f] := by
  rw [spotsTo, if_pos h, hf]; rfl
theorem spotsTo_miss {S : List Fct} {I : List Bool} {k : Nat} (h : atB I k = false) : spotsTo S I (k + 1) = spotsTo S I k := by
  rw [spotsTo, if_neg (by simp [h])]
theorem packsTo_hit {P : List Pk} {I : List Bool} {k : Nat} {p : Pk} (hp : P[k]? = some p) (h : keep I p = true) : packsTo P I (k + 1) = packsTo P I k ++ [moved I p] := by
  rw [packsTo, hp]; simp [h]
theorem packsTo_miss {P : List Pk} {I : List Bool} {k : Nat} {p : Pk} (hp : P[k]? = some p) (h : keep I p = false) : packsTo P I (k + 1) = packsTo P I k := by
  rw [packsTo, hp]; simp [h]
/-- The forest cut to spots. -/
def cutS (S : List Fct) (I : List Bool) : List Fct := spotsTo S I S.length
def cutP (P : List Pk) (I : List Bool) : List Pk := packsTo P I P.length

/-- The places of the spots that stay, as a map's entries. -/
def kvTo (I : List Bool) : Nat → List (Value × Value)
  | 0 => [(.int .i64 (-1), .int .i64 (-1))]
  | k + 1 => if atB I k then kvTo I k ++ [(.int .i64 (k : Int), .int .i64 (cnt I k : Int))] else kvTo I k
theorem kvTo_key (I : List Bool) : ∀ k, ∀ q ∈ kvTo I k, q = (.int .i64 (-1), .int .i64 (-1)) ∨ ∃ i : Nat, i < k ∧ atB I i = true ∧ q = (.int .i64 (i : Int), .int .i64 (cnt I i : Int))
  | 0, q, h => by
    simp [kvTo] at h
    exact .inl h
  | k + 1, q, h => by
    unfold kvTo at h
    split at h
    · rename_i hb
      rcases List.mem_append.1 h with h | h
      · rcases kvTo_key I k q h with h | ⟨i, hi, h1, h2⟩
        · exact .inl h
        · exact .inr ⟨i, by omega, h1, h2⟩
      · obtain rfl := List.mem_singleton.1 h
        exact .inr ⟨k, by omega, hb, rfl⟩
    · rcases kvTo_key I k q h with h | ⟨i, hi, h1, h2⟩
      · exact .inl h
      · exact .inr ⟨i, by omega, h1, h2⟩
theorem kvTo_first (I : List Bool) : ∀ k, ((.int .i64 (-1), .int .i64 (-1)) : Value × Value) ∈ kvTo I k
  | 0 => by simp [kvTo]
  | k + 1 => by
    unfold kvTo
    split
    · exact List.mem_append.2 (.inl (kvTo_first I k))
    · exact kvTo_first I k
theorem kvTo_mem (I : List Bool) : ∀ k (i : Nat), i < k → atB I i = true → ((.int .i64 (i : Int), .int .i64 (cnt I i : Int)) : Value × Value) ∈ kvTo I k
  | 0, i, h, _ => by omega
  | k + 1, i, h, hb => by
    unfold kvTo
    by_cases e : i = k
    · subst e
      rw [if_pos hb]
      exact List.mem_append.2 (.inr (by simp))
    · have := kvTo_mem I k i (by omega) hb
      split
      · exact List.mem_append.2 (.inl this)
      · exact this
theorem kvTo_new (I : List Bool) (k : Nat) : ∀ q ∈ kvTo I k, q.1 ≠ .int .i64 (k : Int) := by
  intro q hq e
  rcases kvTo_key I k q hq with rfl | ⟨i, hi, -, rfl⟩
  · injection e with _ e; omega
  · injection e with _ e; omega
theorem kvTo_hit {I : List Bool} {k : Nat} (h : atB I k = true) : kvTo I (k + 1) = kvTo I k ++ [(.int .i64 (k : Int), .int .i64 (cnt I k : Int))] := by rw [kvTo, if_pos h]
theorem kvTo_miss {I : List Bool} {k : Nat} (h : atB I k = false) : kvTo I (k + 1) = kvTo I k := by rw [kvTo, if_neg (by simp [h])]
/-- What a lookup of a place answers. -/
def lookN (I : List Bool) (x : Int) : Int := if stay I x then num I x else 0
theorem look_place {w : World} {r : Nat} {I : List Bool} (h : MapIs w Try.prog 3 r (kvTo I I.length)) {x : Int} (hw : Wf x) (hx : x = -1 ∨ 0 ≤ x) :
    (Instr.lookup 138 (.map (some r)) (.int .i64 x) true).run Try.prog w = .ok (.tuple #[.int .i64 (lookN I x), .bool (stay I x)]) w := by
  have hkey : ∃ l, keyOf Try.prog 3 (.int .i64 x) = some l := ⟨_, Maps.keyOf_int_mk Try.underlying3 hw⟩
  by_cases hs : stay I x = true
  · have hm : ((.int .i64 x, .int .i64 (num I x)) : Value × Value) ∈ kvTo I I.length := by
      rcases hx with rfl | hx
      · exact kvTo_first I _
      · have h1 : atB I x = true := by unfold stay at hs; simpa [show ¬ x < 0 by omega] using hs
        have hlt : x.toNat < I.length := by
          rcases Nat.lt_or_ge x.toNat I.length with h | h
          · exact h
          · unfold atB at h1; rw [List.getElem?_eq_none h] at h1; cases h1
        have := kvTo_mem I I.length x.toNat hlt (by rw [Int.toNat_of_nonneg hx]; exact h1)
        rw [Int.toNat_of_nonneg hx] at this
        unfold num
        rw [if_neg (by omega)]
        exact this
    have := h.look_hit int_law Try.underlying138 hm true
    rw [this]
    simp [lookN, hs]
  · have hs' : stay I x = false := by simpa using hs
    have h0 : 0 ≤ x := by
      rcases hx with rfl | hx
      · simp [stay] at hs'
      · exact hx
    have := h.look_miss int_law Try.underlying138 hkey (fun q hq e => by
      rcases kvTo_key I _ q hq with rfl | ⟨i, hi, h1, rfl⟩
      · injection e with _ e; omega
      · injection e with _ e
        rw [← e] at hs'
        unfold stay at hs'
        rw [h1] at hs'
        simp at hs') (zero_intT _) true
    rw [this]
    simp [lookN, hs']

/-! What is reached. -/
inductive Rch (P : List Pk) (X : Int → Prop) : Int → Prop
  | base (s : Int) (h : X s) : Rch P X s
  | left (p : Pk) (hp : p ∈ P) (hl : ¬ p.left < 0) (h : Rch P X p.spot) : Rch P X p.left
  | right (p : Pk) (hp : p ∈ P) (hl : ¬ p.left < 0) (h : Rch P X p.spot) : Rch P X p.right
/-- The list of what is reached. -/
structure RchB (P : List Pk) (X : Int → Prop) (n : Nat) (I : List Bool) : Prop where
  len : I.length = n
  is : ∀ s : Nat, s < n → (atB I s = true ↔ Rch P X s)
theorem RchB.uniq {P : List Pk} {X : Int → Prop} {n : Nat} {I J : List Bool} (h : RchB P X n I) (k : RchB P X n J) : I = J := by
  refine ext_atB (by rw [h.len, k.len]) (fun s hs => ?_)
  have h1 := h.is s (by rw [← h.len]; exact hs)
  have h2 := k.is s (by rw [← h.len]; exact hs)
  have := h1.trans h2.symm
  cases ha : atB I s <;> cases hb : atB J s <;> simp_all
/-- What holds the start, is closed and holds nothing else. -/
theorem RchB.of {P : List Pk} {X : Int → Prop} {n : Nat} {I : List Bool} (hl : I.length = n) (_ : ∀ p ∈ P, PkIn n p) (h0 : ∀ s, X s → 0 ≤ s ∧ s < (n : Int) ∧ atB I s = true)
    (hc : ∀ p ∈ P, ¬ p.left < 0 → atB I p.spot = true → atB I p.left = true ∧ atB I p.right = true) (hs : ∀ s : Nat, s < n → atB I s = true → Rch P X s) : RchB P X n I := by
  refine ⟨hl, fun s hn => ⟨hs s hn, fun h => ?_⟩⟩
  have key : ∀ x, Rch P X x → atB I x = true := by
    intro x hx
    induction hx with
    | base x h => exact (h0 x h).2.2
    | left p hp hl _ ih => exact (hc p hp hl ih).1
    | right p hp hl _ ih => exact (hc p hp hl ih).2
  exact key s h
end Go.Proofs.Ytbppbgdmoihooaa
