/- Edges: cut to what this seat wants; Edges: cut to what this seat wants; Edges: cut to what this seat wants. -/
import Derived.Test.YtnmkieiehjajlaaGreatDoorZ15
import Derived.Test.YtnmkieiehjajlaaGreatDoorZ19
set_option linter.unusedVariables false
set_option linter.unusedSimpArgs false
namespace Go.Proofs.YtnmkieiehjajlaaGreatDoor
open Go.RowKit

/-- What Of answers, in one form. -/
def ofN (N : List Txt) (E : List Ed) : List Txt := if ofI N E = 0 then gN N E else []
def ofE (N : List Txt) (E : List Ed) : List Ed := if ofI N E = 0 then gE E else []
def OfQ (w : World) (N : List Txt) (E : List Ed) (e : Ending) (w' : World) : Prop :=
  ∃ A c B d, e = .returned (.tuple #[twoV A (ofN N E).length c B (ofE N E).length d, .int .i64 (ofI N E)]) ∧ w'.ownsRow w.heap.size 9 1 (.slice A (ofN N E).length c) (ofN N E).length (txtCells (ofN N E)) ∧ w'.ownsRow w.heap.size 52 3 (.slice B (ofE N E).length d) (ofE N E).length (edCells (ofE N E)) ∧ Below w.heap.size w w'
theorem OfQ.nil {w w' : World} {N : List Txt} {E : List Ed} {z : Int} (h : ofI N E = z) (hz : z ≠ 0) (hb : Below w.heap.size w w') : OfQ w N E (.returned (.tuple #[twoV none 0 0 none 0 0, .int .i64 z])) w' := by
  subst h
  unfold OfQ ofN ofE
  rw [if_neg hz, if_neg hz]
  exact ⟨none, 0, none, 0, rfl, World.ownsRow_nil _ _ _ _, World.ownsRow_nil _ _ _ _, hb⟩
theorem OfP.q {w w' : World} {N : List Txt} {E : List Ed} {e : Ending} (h : OfP w N E e w') : OfQ w N E e w' := by
  rcases h with ⟨hn, rfl, hb⟩ | ⟨hn, ⟨hc, A, c, B, d, rfl, o1, o2, hb⟩ | ⟨hc, rfl, hb⟩⟩
  · exact OfQ.nil (by rw [ofI, if_pos hn]) (by decide) hb
  · have h0 : ofI N E = 0 := by rw [ofI, if_neg (by rw [hn]; simp), hc]
    unfold OfQ ofN ofE
    rw [if_pos h0, if_pos h0, h0]
    exact ⟨A, c, B, d, rfl, o1, o2, hb⟩
  · exact OfQ.nil (by rw [ofI, if_neg (by rw [hn]; simp)]) hc hb
theorem of_any (w : World) (A : Option Addr) (c : Nat) (B : Option Addr) (d : Nat) (N : List Txt) (E : List Ed) (h : ForG w A c B d N E) (hb : (N.length + E.length * 2) * 16 ≤ 140737488355328) :
    Calls Tryz.prog 80 #[.slice A N.length c, .slice B E.length d] w (OfQ w N E) := (eof_any w A c B d N E h hb).mono fun _ _ h => h.q
end Go.Proofs.YtnmkieiehjajlaaGreatDoor
namespace Go.Proofs.YtnmkieiehjajlaaGreatDoor
open Go.RowKit

theorem own_le {w : World} {base e size n c : Nat} {A : Option Addr} {xs : List Value} (h : w.ownsRow base e size (.slice A n c) n xs) : n ≤ c := by
  obtain ⟨A', c', hv, hc, -⟩ := own_form h
  injection hv with _ _ e
  omega
end Go.Proofs.YtnmkieiehjajlaaGreatDoor
namespace Go.Proofs.YtnmkieiehjajlaaGreatDoor
open Go.RowKit

theorem check_caps {N : List Txt} {E : List Ed} (h : checkI N E = 0) : formB N E = true ∧ namedB N E = true ∧ capsI N E = 0 := by
  unfold checkI at h
  split at h
  · cases h
  split at h
  · cases h
  · rename_i h1 h2
    exact ⟨by simpa using h1, by simpa using h2, h⟩
theorem caps_le {N : List Txt} {E : List Ed} (h : capsI N E = 0) : N.length ≤ 32 ∧ (setOf ltT (lbs E)).length ≤ 16 ∧ E.length ≤ 256 ∧ (textL N E).length ≤ 2048 := by
  unfold capsI at h
  split at h
  · cases h
  split at h
  · cases h
  split at h
  · cases h
  split at h
  · cases h
  · omega
def tB : Txt := ⟨#[98]⟩
def tC : Txt := ⟨#[99]⟩
def tX : Txt := ⟨#[120]⟩
def tA : Txt := ⟨#[97]⟩
theorem setOf_eq {α : Type} [DecidableEq α] {lt : α → α → Bool} (hs : Sto lt) {L M : List α} (hu : upB lt M = true) (hm : ∀ x, x ∈ M ↔ x ∈ L) : setOf lt L = M :=
  (SetOf.is hs ⟨rises_of_up hs hu, hm⟩).symm
end Go.Proofs.YtnmkieiehjajlaaGreatDoor
