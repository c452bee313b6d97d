/- A path that may be is UTF-8. -/
import Derived.Test.YtaojjjcaofhmcaaDoorPa
import Derived.Test.YtaojjjcaofhmcaaDoorPd
import Derived.Lib.ValidLaws
import Derived.Lib.TrimUEq
set_option linter.unusedVariables false
set_option linter.unusedSimpArgs false
namespace Go.Proofs.YtaojjjcaofhmcaaDoor
open Go.RowKit

theorem valid_at (s : ByteArray) (i : Nat) (h : i < s.size) (hr : rn s i ≠ 65533) : Lib.validD (s.data.toList.drop i) = Lib.validD (s.data.toList.drop (i + wid s i)) := by
  have hne : s.data.toList.drop i ≠ [] := by
    intro e
    have := congrArg List.length e
    rw [List.length_drop, ← Lib.size_eq] at this
    simp at this
    omega
  rw [Lib.validD_step _ hne, Lib.decodeL_drop, if_neg (fun e => hr e.1), List.drop_drop]
  rfl
theorem valid_end (s : ByteArray) (i : Nat) (h : s.size ≤ i) : Lib.validD (s.data.toList.drop i) = true := by
  rw [List.drop_eq_nil_of_le (by rw [← Lib.size_eq]; exact h)]
  rfl
theorem plain_rn {s : ByteArray} {i : Nat} (h : plainAt s i = true) : rn s i ≠ 65533 := by
  intro e
  unfold plainAt at h
  rw [e] at h
  exact absurd h (by decide)
theorem checkFrom_valid (s : ByteArray) : ∀ f pos, s.size ≤ pos + f → (checkFrom s f pos).1 = 0 → Lib.validD (s.data.toList.drop pos) = true
  | 0, pos, h, _ => valid_end s pos (by omega)
  | f + 1, pos, h, hc => by
    by_cases hp : pos < s.size
    · unfold checkFrom at hc
      rw [if_pos hp] at hc
      by_cases h47 : byteAt s pos = 47
      · rw [if_pos h47] at hc
        have hw := wid_ascii s pos (by omega)
        rw [valid_at s pos hp (by omega), hw.1]
        split at hc
        · simp at hc
        · split at hc
          · simp at hc
          · exact checkFrom_valid s f _ (by omega) hc
      · rw [if_neg h47] at hc
        split at hc
        · rename_i hpl
          rw [valid_at s pos hp (plain_rn hpl)]
          have := wid_pos s pos
          exact checkFrom_valid s f _ (by omega) hc
        · simp at hc
    · exact valid_end s pos (by omega)
theorem ok_validD {s : ByteArray} (h : okB s = true) : Lib.validD s.data.toList = true ∧ s.size ≤ 4096 := by
  obtain ⟨h1, h2, h3, h4⟩ := ok_parts ((okB_iff s).1 h)
  refine ⟨?_, h2⟩
  have e : s.data.toList = s.data.toList.drop 0 := rfl
  rw [e]
  rcases h4 with h4 | h4
  · rw [valid_at s 0 h1 (by rw [(wid_ascii s 0 (by omega)).2]; omega), (wid_ascii s 0 (by omega)).1]
    exact valid_end s _ (by omega)
  · exact checkFrom_valid s s.size 0 (by omega) h4.2
end Go.Proofs.YtaojjjcaofhmcaaDoor
