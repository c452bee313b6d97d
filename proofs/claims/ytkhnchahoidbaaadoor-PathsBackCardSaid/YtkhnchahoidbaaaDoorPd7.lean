/- Valid, Prefix: the walks. -/
import Derived.Test.YtkhnchahoidbaaaDoorPa6
import Derived.Test.YtkhnchahoidbaaaDoorStill
namespace Go.Proofs.YtkhnchahoidbaaaDoor
open Go.RowKit

theorem size_append (a b : ByteArray) : (a ++ b).size = a.size + b.size := ByteArray.size_append

section
variable (s : ByteArray) (hs : s.size ≤ 140737488355327) (w : World) (m : Int) (hm : w.cell? ⟨0, 0, none⟩ = some (.int .i64 m)) (hG : 0 < w.heap.size)
include hs hm hG

theorem prefix_any : Calls Tryd.prog 36 #[.string s] w fun e w' => e = .returned (.tuple #[.int .i64 (checkOf (s ++ ⟨#[49]⟩)).1, .int .i64 (checkOf (s ++ ⟨#[49]⟩)).2]) ∧ Below w.heap.size w w' := by
  have hz : (s ++ ⟨#[49]⟩ : ByteArray).size ≤ 140737488355328 := by rw [size_append]; show s.size + 1 ≤ _; omega
  have hc := check_any (s ++ ⟨#[49]⟩) w m hm hG
  generalize checkOf (s ++ ⟨#[49]⟩) = cc at hc ⊢
  have HC := Lib.hid hc
  clear hc hm
  go_enter Tryd.func36, Tryd.ntmps36
  go_wp2_with (go_at_call 46; refine HC.out.mono ?_; rintro e w1 ⟨rfl, hb1⟩)
  go_ret2
  exact ⟨rfl, hb1⟩

omit hs in
theorem valid_any : Calls Tryd.prog 28 #[.string s] w fun e w' => e = .returned (.bool ((checkOf s).1 == 0)) ∧ Below w.heap.size w w' := by
  go_enter Tryd.func28, Tryd.ntmps28
  go_wp2_with (go_at_call 46; refine (check_any s _ m hm hG).mono ?_; rintro e w1 ⟨rfl, hb1⟩)
  go_ret
  exact ⟨rfl, hb1⟩
omit hm hG
theorem rprefix_any : Calls Tryd.prog 37 #[.string s] w fun e w' => e = .returned (.tuple #[.int .i64 (checkOf (s ++ ⟨#[49]⟩)).1, .int .i64 (checkOf (s ++ ⟨#[49]⟩)).2]) ∧ ∃ n, w' = w.drewN n := by
  have hz : (s ++ ⟨#[49]⟩ : ByteArray).size ≤ 140737488355328 := by rw [size_append]; show s.size + 1 ≤ _; omega
  have hc := rcheck_any (s ++ ⟨#[49]⟩) w
  generalize checkOf (s ++ ⟨#[49]⟩) = cc at hc ⊢
  have HC := Lib.hid hc
  clear hc
  go_enter Tryd.func37, Tryd.ntmps37
  go_wp2_with (go_at_call 50; refine HC.out.mono ?_; rintro e w1 ⟨rfl, n, rfl⟩)
  go_ret2
  exact ⟨rfl, n, rfl⟩
omit hs in
theorem rvalid_any : Calls Tryd.prog 31 #[.string s] w fun e w' => e = .returned (.bool ((checkOf s).1 == 0)) ∧ ∃ n, w' = w.drewN n := by
  go_enter Tryd.func31, Tryd.ntmps31
  go_wp2_with (go_at_call 50; refine (rcheck_any s _).mono ?_; rintro e w1 ⟨rfl, n, rfl⟩)
  go_ret
  exact ⟨rfl, n, rfl⟩
end

end Go.Proofs.YtkhnchahoidbaaaDoor
