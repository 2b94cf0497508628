/- Edges: Parse: the plain law of what it tells. -/
import Derived.Test.YthmkgnifcbnkpaaGreatRdB
import Derived.Test.YthmkgnifcbnkpaaGreatGrA
namespace Go.Proofs.YthmkgnifcbnkpaaGreat
open Go.RowKit

/-- What Parse tells: the graph, the place, the error. -/
structure PO where
  N : List Txt
  E : List Ed
  pl : Nat
  err : Int
def msOf (s : Txt) : List Mk := (scan 0 s.data.toList).1
def enOf (s : Txt) : Nat := (scan 0 s.data.toList).2
def parseO (s : Txt) : PO :=
  if 2048 < s.size then ⟨[], [], 0, 3⟩ else
  match readI (msOf s) (enOf s) 0 [] [] with
  | .bad p => ⟨[], [], p, 172⟩
  | .good N E => if enOf s < s.size then ⟨[], [], enOf s, 172⟩ else if ofI N E = 0 then ⟨gN N E, gE E, 0, 0⟩ else ⟨[], [], 0, ofI N E⟩
def ParseP (w : World) (s : Txt) (e : Ending) (w' : World) : Prop :=
  ∃ A c B d, e = .returned (.tuple #[twoV A (parseO s).N.length c B (parseO s).E.length d, .int .i64 (parseO s).pl, .int .i64 (parseO s).err]) ∧
    w'.ownsRow w.heap.size 9 1 (.slice A (parseO s).N.length c) (parseO s).N.length (txtCells (parseO s).N) ∧ w'.ownsRow w.heap.size 39 3 (.slice B (parseO s).E.length d) (parseO s).E.length (edCells (parseO s).E) ∧ Below w.heap.size w w'
theorem ParseP.bad {w w' : World} {s : Txt} (h : (parseO s).N = []) (k : (parseO s).E = []) (hb : Below w.heap.size w w') {p : Nat} {z : Int} (hp : (parseO s).pl = p) (hz : (parseO s).err = z) : ParseP w s (.returned (.tuple #[.agg #[.slice none 0 0, .slice none 0 0], .int .i64 p, .int .i64 z])) w' := by
  refine ⟨none, 0, none, 0, ?_, ?_, ?_, hb⟩
  · rw [h, k, hp, hz]
    rfl
  · rw [h]
    exact World.ownsRow_nil _ _ _ _
  · rw [k]
    exact World.ownsRow_nil _ _ _ _
theorem enOf_le (s : Txt) : enOf s ≤ s.size := by
  have := (scan_ok _ 0 s.data.toList (Nat.le_refl _)).2.1
  rwa [Nat.zero_add, size_data] at this
theorem msOf_len (s : Txt) : (msOf s).length ≤ s.size := by
  have := scan_len _ 0 s.data.toList (Nat.le_refl _)
  rwa [size_data] at this
theorem msOf_ok (s : Txt) : ∀ m ∈ msOf s, MkOk s.size m := fun m hm => by
  have := (scan_ok _ 0 s.data.toList (Nat.le_refl _)).1 m hm
  rwa [Nat.zero_add, size_data] at this
theorem toTxt_size (l : List UInt8) : (toTxt l).size = l.length := by rw [← size_data]; simp [toTxt]

/-- All that is told is no longer than the text. -/
structure Fine (S : Nat) (N : List Txt) (E : List Ed) : Prop where
  n : ∀ t ∈ N, t.size ≤ S
  e : ∀ x ∈ E, x.fr.size ≤ S ∧ x.lb.size ≤ S ∧ x.to.size ≤ S
theorem here_le {L : List Mk} {e S : Nat} (h : ∀ m ∈ L, m.tx.length ≤ S) (i : Nat) : (hereM L e i).txt.size ≤ S := by
  unfold hereM
  cases hi : L[i]? with
  | none => simp [Mk.txt, toTxt_size]
  | some m =>
    have := h m (List.mem_of_getElem? hi)
    simpa [Mk.txt, toTxt_size] using this
theorem readI_fine {L : List Mk} {e S : Nat} (h : ∀ m ∈ L, m.tx.length ≤ S) : ∀ (n i : Nat) (N : List Txt) (E : List Ed), L.length - i ≤ n → N.length ≤ i → E.length ≤ i → i ≤ L.length → Fine S N E → ∀ {N' : List Txt} {E' : List Ed}, readI L e i N E = .good N' E' → Fine S N' E' ∧ N'.length ≤ L.length ∧ E'.length ≤ L.length
  | n, i, N, E, hn, h1, h2, hi, hf, N', E', hr => by
    rw [readI] at hr
    split at hr
    · injection hr with a b
      subst a
      subst b
      exact ⟨hf, by omega, by omega⟩
    split at hr
    · cases hr
    split at hr
    · rename_i hlt _ h5
      cases n with
      | zero => omega
      | succ n =>
        have hj : i + 1 < L.length := by
          rcases Nat.lt_or_ge (i + 1) L.length with h6 | h6
          · exact h6
          · rw [hereM, List.getElem?_eq_none h6] at h5
            cases h5
        refine readI_fine h n (i + 2) _ E (by omega) (by simp; omega) (by omega) (by omega) ⟨fun t ht => ?_, hf.e⟩ hr
        rcases List.mem_append.1 ht with ht | ht
        · exact hf.n t ht
        · rw [List.mem_singleton] at ht
          subst ht
          exact here_le h i
    split at hr
    · cases hr
    split at hr
    · cases hr
    split at hr
    · cases hr
    · rename_i hlt _ _ _ _ h5
      cases n with
      | zero => omega
      | succ n =>
        have hj : i + 3 < L.length := by
          rcases Nat.lt_or_ge (i + 3) L.length with h6 | h6
          · exact h6
          · rw [hereM, List.getElem?_eq_none h6] at h5
            exact (h5 (by simp)).elim
        refine readI_fine h n (i + 4) N _ (by omega) (by omega) (by simp; omega) (by omega) ⟨hf.n, fun x hx => ?_⟩ hr
        rcases List.mem_append.1 hx with hx | hx
        · exact hf.e x hx
        · rw [List.mem_singleton] at hx
          subst hx
          exact ⟨here_le h _, here_le h _, here_le h _⟩
theorem read_fine {s : Txt} {e : Nat} {N' : List Txt} {E' : List Ed} (hr : readI (msOf s) e 0 [] [] = .good N' E') : Fine s.size N' E' ∧ N'.length ≤ s.size ∧ E'.length ≤ s.size := by
  have h := readI_fine (S := s.size) (fun m hm => by have := (msOf_ok s m hm).fit; omega) _ 0 [] [] (Nat.le_refl _) (Nat.le_refl _) (Nat.le_refl _) (Nat.zero_le _) ⟨by simp, by simp⟩ hr
  have := msOf_len s
  exact ⟨h.1, by omega, by omega⟩
/-- What Of answers, in one form. -/
def ofN (N : List Txt) (E : List Ed) : List Txt := if ofI N E = 0 then gN N E else []
def ofE (N : List Txt) (E : List Ed) : List Ed := if ofI N E = 0 then gE E else []
def OfQ (w : World) (N : List Txt) (E : List Ed) (e : Ending) (w' : World) : Prop :=
  ∃ A c B d, e = .returned (.tuple #[twoV A (ofN N E).length c B (ofE N E).length d, .int .i64 (ofI N E)]) ∧ w'.ownsRow w.heap.size 9 1 (.slice A (ofN N E).length c) (ofN N E).length (txtCells (ofN N E)) ∧ w'.ownsRow w.heap.size 39 3 (.slice B (ofE N E).length d) (ofE N E).length (edCells (ofE N E)) ∧ Below w.heap.size w w'
theorem OfQ.nil {w w' : World} {N : List Txt} {E : List Ed} {z : Int} (h : ofI N E = z) (hz : z ≠ 0) (hb : Below w.heap.size w w') : OfQ w N E (.returned (.tuple #[twoV none 0 0 none 0 0, .int .i64 z])) w' := by
  subst h
  unfold OfQ ofN ofE
  rw [if_neg hz, if_neg hz]
  exact ⟨none, 0, none, 0, rfl, World.ownsRow_nil _ _ _ _, World.ownsRow_nil _ _ _ _, hb⟩
theorem OfP.q {w w' : World} {N : List Txt} {E : List Ed} {e : Ending} (h : OfP w N E e w') : OfQ w N E e w' := by
  rcases h with ⟨hn, rfl, hb⟩ | ⟨hn, ⟨hc, A, c, B, d, rfl, o1, o2, hb⟩ | ⟨hc, rfl, hb⟩⟩
  · exact OfQ.nil (by rw [ofI, if_pos hn]) (by decide) hb
  · have h0 : ofI N E = 0 := by rw [ofI, if_neg (by rw [hn]; simp), hc]
    unfold OfQ ofN ofE
    rw [if_pos h0, if_pos h0, h0]
    exact ⟨A, c, B, d, rfl, o1, o2, hb⟩
  · exact OfQ.nil (by rw [ofI, if_neg (by rw [hn]; simp)]) hc hb
theorem of_any (w : World) (A : Option Addr) (c : Nat) (B : Option Addr) (d : Nat) (N : List Txt) (E : List Ed) (h : ForG w A c B d N E) (hb : (N.length + E.length * 2) * 16 ≤ 140737488355328) :
    Calls Tryz.prog 14 #[.slice A N.length c, .slice B E.length d] w (OfQ w N E) := (eof_any w A c B d N E h hb).mono fun _ _ h => h.q
theorem fit_fine {S : Nat} {N : List Txt} {E : List Ed} (h : Fine S N E) (hS : S ≤ 3000) (h1 : N.length ≤ S) (h2 : E.length ≤ S) : FitG N E :=
  ⟨by omega, by omega, fun t ht => by have := h.n t ht; unfold TxtOk; omega, fun x hx => by have := h.e x hx; unfold EdOk TxtOk; omega⟩
end Go.Proofs.YthmkgnifcbnkpaaGreat
