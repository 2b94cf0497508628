/- Forests: may a forest be (sppf.Check). -/
import Derived.Test.YtbppbgdmoihooaaTrD
import Derived.Test.YtbppbgdmoihooaaOrdG
namespace Go.Proofs.Ytbppbgdmoihooaa
open Go.RowKit

def Fct.lt (f h : Fct) : Bool := lt3 f.nt f.fr f.to h.nt h.fr h.to
def Pk.lt (f h : Pk) : Bool := lt3 f.spot f.prod f.mid h.spot h.prod h.mid
theorem fct_lt_iff (f h : Fct) : decide (ord3 f.nt f.fr f.to h.nt h.fr h.to < 0) = f.lt h := ord3_lt _ _ _ _ _ _
theorem pk_lt_iff (f h : Pk) : decide (ord3 f.spot f.prod f.mid h.spot h.prod h.mid < 0) = f.lt h := ord3_lt _ _ _ _ _ _

/-- The first k spots rise. -/
def RiseS (S : List Fct) (k : Nat) : Prop := ∀ i f g, i + 1 < k → S[i]? = some f → S[i + 1]? = some g → f.lt g = true
/-- The first k packs go together and rise. -/
def RiseP (S : List Fct) (P : List Pk) (k : Nat) : Prop := (∀ i p, i < k → P[i]? = some p → p.goes S = true) ∧ ∀ i p q, i + 1 < k → P[i]? = some p → P[i + 1]? = some q → p.lt q = true
/-- A forest that may be. -/
structure OkFor (S : List Fct) (P : List Pk) : Prop where
  s : RiseS S S.length
  p : RiseP S P P.length
  all : ∀ s : Nat, s < S.length → ∃ p ∈ P, p.spot = s

theorem RiseS.succ {S : List Fct} {k : Nat} : RiseS S (k + 1) ↔ RiseS S k ∧ (∀ f g, 0 < k → S[k - 1]? = some f → S[k]? = some g → f.lt g = true) := by
  constructor
  · intro h
    refine ⟨fun i f g hi => h i f g (by omega), fun f g hk hf hg => ?_⟩
    have := h (k - 1) f g (by omega) hf
    rw [show k - 1 + 1 = k by omega] at this
    exact this hg
  · rintro ⟨h1, h2⟩ i f g hi hf hg
    by_cases e : i + 1 < k
    · exact h1 i f g e hf hg
    · obtain rfl : k = i + 1 := by omega
      exact h2 f g (by omega) (by simpa using hf) hg
theorem RiseP.succ {S : List Fct} {P : List Pk} {k : Nat} : RiseP S P (k + 1) ↔ RiseP S P k ∧ (∀ p, P[k]? = some p → p.goes S = true) ∧ (∀ p q, 0 < k → P[k - 1]? = some p → P[k]? = some q → p.lt q = true) := by
  constructor
  · intro h
    refine ⟨⟨fun i f hi => h.1 i f (by omega), fun i f g hi => h.2 i f g (by omega)⟩, fun p hp => h.1 k p (by omega) hp, fun f g hk hf hg => ?_⟩
    have := h.2 (k - 1) f g (by omega) hf
    rw [show k - 1 + 1 = k by omega] at this
    exact this hg
  · rintro ⟨⟨h1, h2⟩, h3, h4⟩
    refine ⟨fun i p hi hp => ?_, fun i f g hi hf hg => ?_⟩
    · by_cases e : i < k
      · exact h1 i p e hp
      · obtain rfl : k = i := by omega
        exact h3 p hp
    · by_cases e : i + 1 < k
      · exact h2 i f g e hf hg
      · obtain rfl : k = i + 1 := by omega
        exact h4 f g (by omega) (by simpa using hf) hg

theorem int_law : Maps.Keyed Try.prog 3 := Maps.int_keyed Try.underlying3
theorem zero_intT (w : World) : (zeroValue 3).run Try.prog w = .ok (.int .i64 0) w := by kernel_rfl

theorem nodup_sub_len {l : List Int} : ∀ {m : List Int}, l.Nodup → (∀ a ∈ l, a ∈ m) → l.length ≤ m.length := by
  induction l with
  | nil => intro m _ _; simp
  | cons a l ih =>
    intro m hn hs
    have ha := hs a (by simp)
    have h1 := ih (m := m.erase a) (List.nodup_cons.1 hn).2 (fun b hb => (List.mem_erase_of_ne (fun e => (List.nodup_cons.1 hn).1 (by subst e; exact hb))).2 (hs b (by simp [hb])))
    rw [List.length_erase_of_mem ha] at h1
    have : 0 < m.length := List.length_pos_of_mem ha
    simp
    omega

theorem tk_snoc {α : Type} {l : List α} {k : Nat} {x : α} (h : l[k]? = some x) : l.take (k + 1) = l.take k ++ [x] := by
  obtain ⟨hk, rfl⟩ := List.getElem?_eq_some_iff.1 h
  exact List.take_succ_eq_append_getElem hk
/-- The spots that have a pack among the first, told apart in a map. -/
structure Told (w : World) (r : Nat) (P : List Pk) (k : Nat) (ks : List Int) (kv : List (Value × Value)) : Prop where
  m : MapIs w Try.prog 3 r kv
  e : kv.map Prod.fst = ks.map (Value.int .i64)
  v : ∀ q ∈ kv, ∃ z : Int, q.2 = .int .i64 z ∧ 0 ≤ z ∧ z ≤ (k : Int)
  h : ∀ z, z ∈ ks ↔ ∃ p ∈ P.take k, p.spot = z
theorem Told.nodup {w : World} {r : Nat} {P : List Pk} {k : Nat} {ks : List Int} {kv : List (Value × Value)} (h : Told w r P k ks kv) : ks.Nodup := by
  have := h.m.nodup
  rw [h.e] at this
  rw [List.nodup_iff_pairwise_ne, List.pairwise_map] at this
  exact List.nodup_iff_pairwise_ne.2 (List.Pairwise.imp (fun h e => h (by rw [e])) this)
theorem Told.all {w : World} {r : Nat} {S : List Fct} {P : List Pk} {ks : List Int} {kv : List (Value × Value)} (h : Told w r P P.length ks kv) (hr : RiseP S P P.length) :
    ks.length = S.length ↔ ∀ s : Nat, s < S.length → ∃ p ∈ P, p.spot = s := by
  have hin : ∀ z ∈ ks, z ∈ (List.range S.length).map (fun s : Nat => (s : Int)) := by
    intro z hz
    obtain ⟨p, hp, rfl⟩ := (h.h z).1 hz
    rw [List.take_length] at hp
    obtain ⟨i, hi⟩ := List.mem_iff_getElem?.1 hp
    have hg := hr.1 i p (List.getElem?_eq_some_iff.1 hi).1 hi
    have hs : inB S.length p.spot = true := by
      unfold Pk.goes at hg
      split at hg
      · rename_i hh; exact hh.1
      · cases hg
    obtain ⟨j, e, hj⟩ := inB_get hs
    rw [e]
    exact List.mem_map.2 ⟨j, by simpa using hj, rfl⟩
  have h1 := nodup_sub_len h.nodup hin
  rw [List.length_map, List.length_range] at h1
  constructor
  · intro hl s hs
    by_cases hk : (s : Int) ∈ ks
    · obtain ⟨p, hp, e⟩ := (h.h _).1 hk
      rw [List.take_length] at hp
      exact ⟨p, hp, e⟩
    · exfalso
      have hc := nodup_sub_len (l := (s : Int) :: ks) (m := (List.range S.length).map (fun s : Nat => (s : Int))) (List.nodup_cons.2 ⟨hk, h.nodup⟩) (by
        intro a ha
        rcases List.mem_cons.1 ha with rfl | ha
        · exact List.mem_map.2 ⟨s, by simpa using hs, rfl⟩
        · exact hin a ha)
      simp at hc
      omega
  · intro hall
    have hnr : ((List.range S.length).map (fun s : Nat => (s : Int))).Nodup := by
      rw [List.nodup_iff_pairwise_ne, List.pairwise_map]
      exact List.Pairwise.imp (fun h e => h (Int.ofNat.inj e)) (List.nodup_iff_pairwise_ne.1 List.nodup_range)
    have h2 := nodup_sub_len hnr (m := ks) (by
      intro a ha
      obtain ⟨s, hs, rfl⟩ := List.mem_map.1 ha
      obtain ⟨p, hp, e⟩ := hall s (by simpa using hs)
      exact (h.h _).2 ⟨p, by rw [List.take_length]; exact hp, e⟩)
    rw [List.length_map, List.length_range] at h2
    omega

/-- One pack more is counted. -/
theorem Told.step {w : World} {r : Nat} {P : List Pk} {k : Nat} {ks : List Int} {kv : List (Value × Value)} (h : Told w r P k ks kv) {p : Pk} (hp : P[k]? = some p) (hw : Wf p.spot) :
    ∃ z w' ks' kv', (Instr.lookup 138 (.map (some r)) (.int .i64 p.spot) false).run Try.prog w = .ok (.int .i64 z) w ∧ 0 ≤ z ∧ z ≤ (k : Int) ∧
      (Instr.mapUpdate 138 (.map (some r)) (.int .i64 p.spot) (.int .i64 (z + 1))).run Try.prog w = .ok () w' ∧ Told w' r P (k + 1) ks' kv' ∧ w.grownBy w' (some r) ∧ w'.heap.size = w.heap.size := by
  have hkey : ∃ l, keyOf Try.prog 3 (.int .i64 p.spot) = some l := ⟨_, Maps.keyOf_int_mk Try.underlying3 hw⟩
  have hmem : ∀ z, (∃ q ∈ P.take (k + 1), q.spot = z) ↔ (∃ q ∈ P.take k, q.spot = z) ∨ p.spot = z := by
    intro z
    rw [tk_snoc hp]
    constructor
    · rintro ⟨q, hq, e⟩
      rcases List.mem_append.1 hq with hq | hq
      · exact .inl ⟨q, hq, e⟩
      · obtain rfl := List.mem_singleton.1 hq
        exact .inr e
    · rintro (⟨q, hq, e⟩ | e)
      · exact ⟨q, List.mem_append.2 (.inl hq), e⟩
      · exact ⟨p, List.mem_append.2 (.inr (by simp)), e⟩
  by_cases hm : p.spot ∈ ks
  · have hin : Value.int .i64 p.spot ∈ kv.map Prod.fst := by rw [h.e]; exact List.mem_map.2 ⟨_, hm, rfl⟩
    obtain ⟨⟨k1, v1⟩, hq, e⟩ := List.mem_map.1 hin
    dsimp only at e
    subst e
    obtain ⟨z, hv, h0, h1⟩ := h.v _ hq
    dsimp only at hv
    subst hv
    obtain ⟨w', j, hrun, hj, hM, hg, hs⟩ := h.m.put_hit int_law Try.underlying138 (.int .i64 (z + 1)) hq
    refine ⟨z, w', ks, _, ?_, h0, h1, hrun, ⟨hM, ?_, ?_, ?_⟩, hg, hs⟩
    · exact h.m.look_hit int_law Try.underlying138 hq false
    · rw [← h.e]
      apply List.ext_getElem?
      intro i
      rw [List.map_set]
      rw [List.getElem?_set]
      split
      · rename_i e; subst e
        split
        · simp [hj]
        · rename_i hlt
          rw [List.length_map] at hlt
          rw [List.getElem?_map, List.getElem?_eq_none (by omega)]; rfl
      · rfl
    · intro q hq'
      rcases List.mem_or_eq_of_mem_set hq' with hq' | rfl
      · obtain ⟨z', e, a, b⟩ := h.v q hq'
        exact ⟨z', e, a, by omega⟩
      · exact ⟨z + 1, rfl, by omega, by omega⟩
    · intro z'
      rw [hmem, ← h.h]
      constructor
      · exact .inl
      · rintro (h' | rfl)
        · exact h'
        · exact hm
  · have hno : ∀ q ∈ kv, q.1 ≠ .int .i64 p.spot := by
      intro q hq e
      have : q.1 ∈ kv.map Prod.fst := List.mem_map.2 ⟨q, hq, rfl⟩
      rw [h.e, e] at this
      obtain ⟨z, hz, e'⟩ := List.mem_map.1 this
      injection e' with _ e'
      exact hm (e' ▸ hz)
    obtain ⟨w', hrun, hM, hg, hs⟩ := h.m.put_miss int_law Try.underlying138 (.int .i64 ((0 : Int) + 1)) hkey hno
    refine ⟨0, w', ks ++ [p.spot], _, h.m.look_miss int_law Try.underlying138 hkey hno (zero_intT _) false, Int.le_refl _, by omega, hrun, ⟨hM, ?_, ?_, ?_⟩, hg, hs⟩
    · simp [h.e]
    · intro q hq'
      rcases List.mem_append.1 hq' with hq' | hq'
      · obtain ⟨z', e, a, b⟩ := h.v q hq'
        exact ⟨z', e, a, by omega⟩
      · obtain rfl := List.mem_singleton.1 hq'
        exact ⟨0 + 1, rfl, by omega, by omega⟩
    · intro z'
      rw [hmem, ← h.h]
      simp only [List.mem_append, List.mem_singleton]
      constructor
      · rintro (h' | h')
        · exact .inl h'
        · exact .inr h'.symm
      · rintro (h' | h')
        · exact .inl h'
        · exact .inr h'.symm
end Go.Proofs.Ytbppbgdmoihooaa
