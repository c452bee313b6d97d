/- Kinds, characters, the first character that is not plain: the walks. -/
import Derived.Test.YtkhnchahoidbaaaDoorPa1
import Derived.LoopN
namespace Go.Proofs.YtkhnchahoidbaaaDoor
open Go.RowKit

theorem retk {a b : Int} (h : a = b) : Ending.returned (.int .i64 a) = .returned (.int .i64 b) := by rw [h]
theorem retp {a b c d : Int} (h : a = b) (h' : c = d) : Ending.returned (.tuple #[.int .i64 a, .int .i64 c]) = .returned (.tuple #[.int .i64 b, .int .i64 d]) := by rw [h, h']

set_option maxHeartbeats 1000000 in
theorem kind_any (r : Int) (w : World) : Calls Tryd.prog 108 #[.int .i32 r] w fun e w' => e = .returned (.int .i64 (kindOf r)) ∧ w = w' := by
  go_enter Tryd.func108, Tryd.ntmps108
  go_wp2
  all_goals
    go_ret
    exact ⟨retk (by unfold kindOf; repeat' split
                    all_goals first | omega | (rename_i h _ _ _; simp at h; omega) | (simp_all; done) | (simp_all; omega)), rfl⟩

set_option maxHeartbeats 1000000 in
theorem rkind_any (r : Int) (w : World) : Calls Tryd.prog 94 #[.int .i64 r] w fun e w' => e = .returned (.int .i64 (kindOf r)) ∧ w = w' := by
  go_enter Tryd.func94, Tryd.ntmps94
  go_wp2
  all_goals
    go_ret
    exact ⟨retk (by unfold kindOf; repeat' split
                    all_goals first | omega | (rename_i h _ _ _; simp at h; omega) | (simp_all; done) | (simp_all; omega)), rfl⟩

theorem rof_any (r : Int) (w : World) : Calls Tryd.prog 71 #[.int .i64 r] w fun e w' => e = .returned (.int .i64 (if r < 0 then 8 else kindOf r)) ∧ w = w' := by
  by_cases h : r < 0
  · rw [if_pos h]
    go_enter Tryd.func71, Tryd.ntmps71
    go_wp2
    go_ret
    exact ⟨rfl, rfl⟩
  · rw [if_neg h]
    go_enter Tryd.func71, Tryd.ntmps71
    go_wp2_with (go_at_call 94; refine (rkind_any r _).mono ?_; rintro e w' ⟨rfl, rfl⟩)
    go_ret
    exact ⟨rfl, rfl⟩
end Go.Proofs.YtkhnchahoidbaaaDoor
