/- The law ZxidSteps: the walk. -/
import Derived.Test.YtgbifmcdkigbgaaZx2
namespace Go.Proofs.Ytgbifmcdkigbgaa
open Go.RowKit

theorem step_in (z : Int) (h0 : 0 ≤ z) (h : ¬ z % 4294967296 = 4294967295) : zN1 z = z + 1 ∧ zN2 z = 0 ∧ zE (z + 1) = zE z ∧ zC (z + 1) = zC z + 1 := by
  have e1 : zE z = z / 4294967296 := by unfold zE; rw [if_neg (by omega)]
  have e2 : zC z = z % 4294967296 := by unfold zC; rw [if_neg (by omega)]
  have e3 : zE (z + 1) = (z + 1) / 4294967296 := by unfold zE; rw [if_neg (by omega)]
  have e4 : zC (z + 1) = (z + 1) % 4294967296 := by unfold zC; rw [if_neg (by omega)]
  rw [e1, e2, e3, e4]
  unfold zN1 zN2
  rw [if_neg (by omega), if_neg (by omega)]
  exact ⟨rfl, rfl, by omega, by omega⟩
theorem step_up (z : Int) (h0 : 0 ≤ z) (h : zE z < 2147483647) : z < zM1 (zE z + 1) 0 ∧ zM2 (zE z + 1) 0 = 0 ∧ zC (zM1 (zE z + 1) 0) = 0 ∧ zE (zM1 (zE z + 1) 0) = zE z + 1 ∧ zM1 (zE z + 1) 0 ≤ 9223372036854775807 := by
  have e1 : zE z = z / 4294967296 := by unfold zE; rw [if_neg (by omega)]
  have em : zM1 (zE z + 1) 0 = (z / 4294967296 + 1) * 4294967296 := by unfold zM1; rw [if_pos (by omega)]; omega
  have em2 : zM2 (zE z + 1) 0 = 0 := by unfold zM2; rw [if_pos (by omega)]
  rw [em, em2, e1]
  unfold zC zE
  rw [if_neg (by omega), if_neg (by omega)]
  exact ⟨by omega, rfl, by omega, by omega, by omega⟩

set_option maxHeartbeats 1000000 in
theorem zxidSteps_walk (z : Int) (wz : (Lit.int .i64 z).wf = true) (w : World) :
    Calls Try.prog 3 #[.int .i64 z] w fun r w' => r = .returned (.bool true) ∧ Below w.heap.size w w' := by
  obtain ⟨_, hz⟩ := bd64 wz
  clear wz
  by_cases h0 : z < 0
  · have e1 : zE z = -1 := by unfold zE; rw [if_pos h0]
    go_enter Try.func3, Try.ntmps3
    go_wp2_with (first
      | (go_at_call 13; refine (make_any _ _ _).mono ?_; rintro e w' ⟨rfl, rfl⟩)
      | (go_at_call 9; refine (next_any _ _ (by assumption)).mono ?_; rintro e w' ⟨rfl, rfl⟩)
      | (go_at_call 12; refine (begin_any _ _).mono ?_; rintro e w' ⟨rfl, rfl⟩)
      | (go_at_call 8; refine (epoch_any _ _ (by assumption)).mono ?_; rintro e w' ⟨rfl, rfl⟩)
      | (go_at_call 10; refine (counter_any _ _ (by assumption)).mono ?_; rintro e w' ⟨rfl, rfl⟩)
      | (go_at_call 7; refine (live_any _).mono ?_; rintro e w' ⟨rfl, hg⟩)
      | go_in)
    go_ret
    exact ⟨rfl, by assumption⟩
  have e1 : zE z = z / 4294967296 := by unfold zE; rw [if_neg h0]
  have e2 : zC z = z % 4294967296 := by unfold zC; rw [if_neg h0]
  have hEl := zE_bd z hz
  have hCl := zC_bd z
  by_cases hc : z % 4294967296 = 4294967295
  · have hC : (zC z == 4294967295) = true := by rw [e2, hc]; rfl
    have hn2 : zN2 z = 200 := by unfold zN2; rw [if_pos (Or.inr hc)]
    have h0' : 0 ≤ z := by omega
    by_cases ht : zE z < 2147483647
    · obtain ⟨u1, u2, u3, u4, u5⟩ := step_up z h0' ht
      clear e1 e2 h0 hc
      go_enter Try.func3, Try.ntmps3
      go_wp2_with (first
        | (go_at_call 13; refine (make_any _ _ _).mono ?_; rintro e w' ⟨rfl, rfl⟩)
        | (go_at_call 9; refine (next_any _ _ (by assumption)).mono ?_; rintro e w' ⟨rfl, rfl⟩)
        | (go_at_call 12; refine (begin_any _ _).mono ?_; rintro e w' ⟨rfl, rfl⟩)
        | (go_at_call 8; refine (epoch_any _ _ (by assumption)).mono ?_; rintro e w' ⟨rfl, rfl⟩)
        | (go_at_call 10; refine (counter_any _ _ (by assumption)).mono ?_; rintro e w' ⟨rfl, rfl⟩)
        | (go_at_call 7; refine (live_any _).mono ?_; rintro e w' ⟨rfl, hg⟩)
        | go_in)
      go_ret
      exact ⟨rfl, by assumption⟩
    · have ht' : zE z = 2147483647 := by omega
      have u2 : zM2 (2147483647 + 1) 0 = 200 := rfl
      clear e1 e2 h0 hc
      go_enter Try.func3, Try.ntmps3
      go_wp2_with (first
        | (go_at_call 13; refine (make_any _ _ _).mono ?_; rintro e w' ⟨rfl, rfl⟩)
        | (go_at_call 9; refine (next_any _ _ (by assumption)).mono ?_; rintro e w' ⟨rfl, rfl⟩)
        | (go_at_call 12; refine (begin_any _ _).mono ?_; rintro e w' ⟨rfl, rfl⟩)
        | (go_at_call 8; refine (epoch_any _ _ (by assumption)).mono ?_; rintro e w' ⟨rfl, rfl⟩)
        | (go_at_call 10; refine (counter_any _ _ (by assumption)).mono ?_; rintro e w' ⟨rfl, rfl⟩)
        | (go_at_call 7; refine (live_any _).mono ?_; rintro e w' ⟨rfl, hg⟩)
        | go_in)
      go_ret
      exact ⟨rfl, by assumption⟩
  · have hC : (zC z == 4294967295) = false := by rw [e2]; simpa using hc
    have h0' : 0 ≤ z := by omega
    obtain ⟨s1, s2, s3, s4⟩ := step_in z h0' hc
    by_cases ht : zE z < 2147483647
    · obtain ⟨u1, u2, u3, u4, u5⟩ := step_up z h0' ht
      have hz1 : z + 1 ≤ 9223372036854775807 := by omega
      clear e1 e2 h0 hc
      go_enter Try.func3, Try.ntmps3
      go_wp2_with (first
        | (go_at_call 13; refine (make_any _ _ _).mono ?_; rintro e w' ⟨rfl, rfl⟩)
        | (go_at_call 9; refine (next_any _ _ (by assumption)).mono ?_; rintro e w' ⟨rfl, rfl⟩)
        | (go_at_call 12; refine (begin_any _ _).mono ?_; rintro e w' ⟨rfl, rfl⟩)
        | (go_at_call 8; refine (epoch_any _ _ (by assumption)).mono ?_; rintro e w' ⟨rfl, rfl⟩)
        | (go_at_call 10; refine (counter_any _ _ (by assumption)).mono ?_; rintro e w' ⟨rfl, rfl⟩)
        | (go_at_call 7; refine (live_any _).mono ?_; rintro e w' ⟨rfl, hg⟩)
        | go_in)
      go_ret
      exact ⟨rfl, by assumption⟩
    · have ht' : zE z = 2147483647 := by omega
      have hz1 : z + 1 ≤ 9223372036854775807 := by omega
      have u2 : zM2 (2147483647 + 1) 0 = 200 := rfl
      clear e1 e2 h0 hc
      go_enter Try.func3, Try.ntmps3
      go_wp2_with (first
        | (go_at_call 13; refine (make_any _ _ _).mono ?_; rintro e w' ⟨rfl, rfl⟩)
        | (go_at_call 9; refine (next_any _ _ (by assumption)).mono ?_; rintro e w' ⟨rfl, rfl⟩)
        | (go_at_call 12; refine (begin_any _ _).mono ?_; rintro e w' ⟨rfl, rfl⟩)
        | (go_at_call 8; refine (epoch_any _ _ (by assumption)).mono ?_; rintro e w' ⟨rfl, rfl⟩)
        | (go_at_call 10; refine (counter_any _ _ (by assumption)).mono ?_; rintro e w' ⟨rfl, rfl⟩)
        | (go_at_call 7; refine (live_any _).mono ?_; rintro e w' ⟨rfl, hg⟩)
        | go_in)
      go_ret
      exact ⟨rfl, by assumption⟩
end Go.Proofs.Ytgbifmcdkigbgaa
