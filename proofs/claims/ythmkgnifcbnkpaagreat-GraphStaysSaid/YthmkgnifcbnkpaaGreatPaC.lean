/- Edges: reading by steps that are counted; some answers that the document fixes (the plain law). -/
import Derived.Test.YthmkgnifcbnkpaaGreatPaA
namespace Go.Proofs.YthmkgnifcbnkpaaGreat
open Go.RowKit

def scanF : Nat → Nat → List UInt8 → List Mk × Nat
  | 0, p, _ => ([], p)
  | n + 1, p, l => if (nextL p l).kind = 0 then ([], (nextL p l).pl) else
      (nextL p l :: (scanF n ((nextL p l).pl + (nextL p l).tx.length) (l.drop ((nextL p l).pl + (nextL p l).tx.length - p))).1, (scanF n ((nextL p l).pl + (nextL p l).tx.length) (l.drop ((nextL p l).pl + (nextL p l).tx.length - p))).2)
theorem scan_F : ∀ (n p : Nat) (l : List UInt8), l.length < n → scan p l = scanF n p l
  | 0, _, _, h => by omega
  | n + 1, p, l, h => by
    unfold scanF
    by_cases hk : (nextL p l).kind = 0
    · rw [scan_zero hk, if_pos hk]
    · have hf := nextL_fit p l
      rw [scan_more hk, if_neg hk, scan_F n _ _ (by rw [List.length_drop]; omega)]
def readF : Nat → List Mk → Nat → Nat → List Txt → List Ed → Rd
  | 0, _, _, _, _, _ => .bad 0
  | n + 1, L, e, i, N, E =>
  if L.length ≤ i then .good N E
  else if wordK (hereM L e i) = false then .bad (hereM L e i).pl
  else if (hereM L e (i + 1)).kind = 5 then readF n L e (i + 2) (N ++ [(hereM L e i).txt]) E
  else if (hereM L e (i + 1)).kind ≠ 2 then .bad (hereM L e (i + 1)).pl
  else if wordK (hereM L e (i + 2)) = false then .bad (hereM L e (i + 2)).pl
  else if (hereM L e (i + 3)).kind ≠ 5 then .bad (hereM L e (i + 3)).pl
  else readF n L e (i + 4) N (E ++ [⟨(hereM L e i).txt, (hereM L e (i + 1)).txt, (hereM L e (i + 2)).txt⟩])
theorem read_F : ∀ (n : Nat) (L : List Mk) (e i : Nat) (N : List Txt) (E : List Ed), L.length - i < n → readI L e i N E = readF n L e i N E
  | 0, _, _, _, _, _, h => by omega
  | n + 1, L, e, i, N, E, h => by
    unfold readF
    rw [readI]
    by_cases hl : L.length ≤ i
    · rw [dif_pos hl, if_pos hl]
    · rw [dif_neg hl, if_neg hl, read_F n L e (i + 2) _ _ (by omega), read_F n L e (i + 4) _ _ (by omega)]
theorem check_caps {N : List Txt} {E : List Ed} (h : checkI N E = 0) : formB N E = true ∧ namedB N E = true ∧ capsI N E = 0 := by
  unfold checkI at h
  split at h
  · cases h
  split at h
  · cases h
  · rename_i h1 h2
    exact ⟨by simpa using h1, by simpa using h2, h⟩
theorem caps_le {N : List Txt} {E : List Ed} (h : capsI N E = 0) : N.length ≤ 32 ∧ (setOf ltT (lbs E)).length ≤ 16 ∧ E.length ≤ 256 ∧ (textL N E).length ≤ 2048 := by
  unfold capsI at h
  split at h
  · cases h
  split at h
  · cases h
  split at h
  · cases h
  split at h
  · cases h
  · omega
def aw1 : Txt := ⟨#[98, 32, 97, 32, 99, 59, 32, 120, 59, 32, 99, 32, 97, 32, 98, 59, 120, 32, 59]⟩
def aw2 : Txt := ⟨#[97, 32, 98, 32, 61, 32, 99, 59]⟩
def aw3 : Txt := ⟨#[120, 32, 59, 10, 98, 32, 97, 32, 99, 32, 59, 10, 99, 32, 97, 32, 98, 32, 59, 10]⟩
def tB : Txt := ⟨#[98]⟩
def tC : Txt := ⟨#[99]⟩
def tX : Txt := ⟨#[120]⟩
def tA : Txt := ⟨#[97]⟩
def awE : List Ed := [⟨tB, tA, tC⟩, ⟨tC, tA, tB⟩]
theorem scan_aw1 : scan 0 aw1.data.toList = scanF 30 0 aw1.data.toList := scan_F _ _ _ (by decide)
theorem scan_aw2 : scan 0 aw2.data.toList = scanF 30 0 aw2.data.toList := scan_F _ _ _ (by decide)
theorem en_aw1 : enOf aw1 = 19 := by unfold enOf; rw [scan_aw1]; decide +kernel
theorem ms_aw1 : msOf aw1 = (scanF 30 0 aw1.data.toList).1 := by unfold msOf; rw [scan_aw1]
theorem ms_aw2 : msOf aw2 = (scanF 30 0 aw2.data.toList).1 := by unfold msOf; rw [scan_aw2]
theorem read_aw1 : readI (msOf aw1) 19 0 [] [] = .good [tX, tX] awE := by
  rw [ms_aw1, read_F 30 _ _ _ _ _ (by decide +kernel)]
  rfl
theorem read_aw2 (e : Nat) : readI (msOf aw2) e 0 [] [] = .bad 4 := by
  rw [ms_aw2, read_F 30 _ _ _ _ _ (by decide +kernel)]
  rfl
theorem setOf_eq {α : Type} [DecidableEq α] {lt : α → α → Bool} (hs : Sto lt) {L M : List α} (hu : upB lt M = true) (hm : ∀ x, x ∈ M ↔ x ∈ L) : setOf lt L = M :=
  (SetOf.is hs ⟨rises_of_up hs hu, hm⟩).symm
theorem up_awN : upB ltT [tB, tC, tX] = true := by
  simp only [upB, ltT, txt_list]
  decide
theorem up_awE : upB ltE awE = true := by
  simp only [awE, upB, ltE, ltT, txt_list]
  decide
theorem up_awA : upB ltT [tA] = true := rfl
theorem gN_aw : gN [tX, tX] awE = [tB, tC, tX] := by
  refine setOf_eq stoT up_awN (fun x => ?_)
  simp only [allT, awE, endsL, List.flatMap_cons, List.flatMap_nil, List.mem_append, List.mem_cons, List.not_mem_nil, or_false]
  constructor
  · rintro (rfl | rfl | rfl) <;> simp
  · rintro ((rfl | rfl) | ((rfl | rfl) | (rfl | rfl))) <;> simp
theorem gE_aw : gE awE = awE := setOf_eq stoE up_awE (fun _ => Iff.rfl)
theorem lbs_aw : setOf ltT (lbs awE) = [tA] := by
  refine setOf_eq stoT up_awA (fun x => ?_)
  simp [lbs, awE]
theorem text_aw : textL [tB, tC, tX] awE = aw3.data.toList := by
  unfold textL loneL
  decide +kernel
theorem caps_aw : capsI [tB, tC, tX] awE = 0 := by
  unfold capsI
  rw [lbs_aw, text_aw]
  decide
theorem named_aw : namedB [tX, tX] awE = true := by decide +kernel
theorem named_aw2 : namedB [tB, tC, tX] awE = true := by decide +kernel
theorem ofI_aw : ofI [tX, tX] awE = 0 := by
  rw [ofI, if_neg (by rw [named_aw]; simp), gN_aw, gE_aw, caps_aw]
theorem parse_aw1 : parseO aw1 = ⟨[tB, tC, tX], awE, 0, 0⟩ := by
  rw [parseO, if_neg (by decide), en_aw1, read_aw1]
  show (if 19 < aw1.size then _ else if ofI [tX, tX] awE = 0 then _ else _) = _
  rw [if_neg (by decide), if_pos ofI_aw, gN_aw, gE_aw]
theorem parse_aw2 : parseO aw2 = ⟨[], [], 4, 172⟩ := by
  rw [parseO, if_neg (by decide), read_aw2]
theorem form_aw : formB [tB, tC, tX] awE = true := by
  rw [formB, up_awN, up_awE]
  decide +kernel
theorem check_aw : checkI [tB, tC, tX] awE = 0 := by
  rw [checkI, if_neg (by rw [form_aw]; simp), if_neg (by rw [named_aw2]; simp), caps_aw]
end Go.Proofs.YthmkgnifcbnkpaaGreat
