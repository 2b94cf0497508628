/- Edges: what Parse tells, as a graph where it lies. -/
import Derived.Test.YthmkgnifcbnkpaaGreatPaD
import Derived.Test.YthmkgnifcbnkpaaGreatPbB
namespace Go.Proofs.YthmkgnifcbnkpaaGreat
open Go.RowKit

theorem same_self (N : List Txt) (E : List Ed) : sameB N E N E = true := by simp [sameB]
theorem print_len {N : List Txt} {E : List Ed} (h : checkI N E = 0) : (printT N E).size ≤ 2048 := by
  rw [printT, if_pos h, ← size_data]
  simpa using (caps_le (check_caps h).2.2).2.2.2
theorem parse_fit (s : Txt) : FitG (parseO s).N (parseO s).E := by
  unfold parseO
  split
  · exact ⟨by simp, by simp, by simp, by simp⟩
  rename_i hs
  split
  · exact ⟨by simp, by simp, by simp, by simp⟩
  · rename_i N E hr
    split
    · exact ⟨by simp, by simp, by simp, by simp⟩
    split
    · rename_i h0
      have hc := caps_le (ofI_caps h0)
      have hn := Short.of (ofI_named h0)
      exact fit_made (M := gN N E) (F := gE E) hn rfl rfl (by omega) (by omega)
    · exact ⟨by simp, by simp, by simp, by simp⟩
/-- What Parse tells, as a graph where it lies. -/
theorem parse_for (s : Txt) (w : World) (hs : s.size ≤ 9223372036854775807) : Calls Tryz.prog 9 #[.string s] w fun e w' =>
    ∃ A c B d, e = .returned (.tuple #[twoV A (parseO s).N.length c B (parseO s).E.length d, .int .i64 (parseO s).pl, .int .i64 (parseO s).err]) ∧ ForG w' A c B d (parseO s).N (parseO s).E ∧ Below w.heap.size w w' := by
  refine (parse_any s w hs).mono ?_
  rintro e w' ⟨A, c, B, d, rfl, o1, o2, hb⟩
  exact ⟨A, c, B, d, rfl, ⟨RowR.of_own o1, RowR.of_own o2, own_le o1, own_le o2, parse_fit s⟩, hb⟩

/-- A printed graph that is read back. -/
theorem parse_back {M : List Txt} {F : List Ed} (h : checkI M F = 0) (w : World) : Calls Tryz.prog 9 #[.string (printT M F)] w fun e w' =>
    ∃ A c B d, e = .returned (.tuple #[twoV A M.length c B F.length d, .int .i64 0, .int .i64 0]) ∧ ForG w' A c B d M F ∧ Below w.heap.size w w' := by
  have h1 := parse_for (printT M F) w (by have := print_len h; omega)
  have h2 : parseO (printT M F) = ⟨M, F, 0, 0⟩ := by rw [printT, if_pos h, back_text h]
  rw [h2] at h1
  exact h1
end Go.Proofs.YthmkgnifcbnkpaaGreat
