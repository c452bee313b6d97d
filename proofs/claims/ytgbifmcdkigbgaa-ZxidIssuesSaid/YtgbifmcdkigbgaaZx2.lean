/- The laws ZxidParts, ZxidOrder, ZxidSteps: the walks. -/
import Derived.Test.YtgbifmcdkigbgaaZx1
namespace Go.Proofs.Ytgbifmcdkigbgaa
open Go.RowKit

theorem bd64 {a : Int} (h : (Lit.int .i64 a).wf = true) : -9223372036854775808 ≤ a ∧ a ≤ 9223372036854775807 := by
  simpa [Lit.wf, IntKind.min, IntKind.max, IntKind.signed, IntKind.bits] using h

set_option maxHeartbeats 1000000 in
theorem zxidParts_walk (e : Int) (_ : (Lit.int .i64 e).wf = true) (c : Int) (_ : (Lit.int .i64 c).wf = true) (z : Int) (wz : (Lit.int .i64 z).wf = true) (w : World) :
    Calls Try.prog 4 #[.int .i64 e, .int .i64 c, .int .i64 z] w fun r w' => r = .returned (.bool true) ∧ Below w.heap.size w w' := by
  obtain ⟨_, hz⟩ := bd64 wz
  clear wz
  go_enter Try.func4, Try.ntmps4
  go_wp2_with (first
    | (go_at_call 13; refine (make_any _ _ _).mono ?_; rintro e w' ⟨rfl, rfl⟩)
    | (go_at_call 14; refine (rmake_any _ _ _).mono ?_; rintro e w' ⟨rfl, rfl⟩)
    | (go_at_call 9; refine (next_any _ _ hz).mono ?_; rintro e w' ⟨rfl, rfl⟩)
    | (go_at_call 15; refine (rnext_any _ _ hz).mono ?_; rintro e w' ⟨rfl, rfl⟩)
    | (go_at_call 12; refine (begin_any _ _).mono ?_; rintro e w' ⟨rfl, rfl⟩)
    | (go_at_call 8; refine (epoch_any _ _ hz).mono ?_; rintro e w' ⟨rfl, rfl⟩)
    | (go_at_call 16; refine (repoch_any _ _ hz).mono ?_; rintro e w' ⟨rfl, rfl⟩)
    | (go_at_call 10; refine (counter_any _ _ hz).mono ?_; rintro e w' ⟨rfl, rfl⟩)
    | (go_at_call 17; refine (rcounter_any _ _ hz).mono ?_; rintro e w' ⟨rfl, rfl⟩)
    | (go_at_call 7; refine (live_any _).mono ?_; rintro e w' ⟨rfl, hg⟩)
    | go_in)
  go_ret
  exact ⟨rfl, by assumption⟩

/-- the parts of a zxid make it -/
theorem parts_make (a : Int) (h0 : 0 ≤ a) (h1 : a ≤ 9223372036854775807) : zM1 (zE a) (zC a) = a ∧ zM2 (zE a) (zC a) = 0 := by
  have e1 : zE a = a / 4294967296 := by unfold zE; rw [if_neg (by omega)]
  have e2 : zC a = a % 4294967296 := by unfold zC; rw [if_neg (by omega)]
  rw [e1, e2]
  unfold zM1 zM2
  rw [if_pos (by omega), if_pos (by omega)]
  exact ⟨by omega, rfl⟩
/-- the order by parts -/
theorem parts_less (a b : Int) (h0 : 0 ≤ a) (h1 : 0 ≤ b) : (zE a < zE b ∨ zE a = zE b ∧ zC a < zC b) ↔ a < b := by
  unfold zE zC
  rw [if_neg (by omega), if_neg (by omega), if_neg (by omega), if_neg (by omega)]
  omega

set_option maxHeartbeats 1000000 in
theorem zxidOrder_walk (a : Int) (wa : (Lit.int .i64 a).wf = true) (b : Int) (wb : (Lit.int .i64 b).wf = true) (w : World) :
    Calls Try.prog 5 #[.int .i64 a, .int .i64 b] w fun r w' => r = .returned (.bool true) ∧ Below w.heap.size w w' := by
  obtain ⟨_, ha⟩ := bd64 wa
  obtain ⟨_, hb⟩ := bd64 wb
  clear wa wb
  have e1 : zE (-1) = -1 := rfl
  have e2 : zC (-1) = -1 := rfl
  have hz1 : (-1 : Int) ≤ 9223372036854775807 := by omega
  by_cases h0 : a < 0
  · go_enter Try.func5, Try.ntmps5
    go_wp2_with (first
      | (go_at_call 13; refine (make_any _ _ _).mono ?_; rintro e w' ⟨rfl, rfl⟩)
      | (go_at_call 14; refine (rmake_any _ _ _).mono ?_; rintro e w' ⟨rfl, rfl⟩)
      | (go_at_call 9; refine (next_any _ _ hz1).mono ?_; rintro e w' ⟨rfl, rfl⟩)
      | (go_at_call 15; refine (rnext_any _ _ hz1).mono ?_; rintro e w' ⟨rfl, rfl⟩)
      | (go_at_call 12; refine (begin_any _ _).mono ?_; rintro e w' ⟨rfl, rfl⟩)
      | (go_at_call 8; refine (epoch_any _ _ hz1).mono ?_; rintro e w' ⟨rfl, rfl⟩)
      | (go_at_call 16; refine (repoch_any _ _ hz1).mono ?_; rintro e w' ⟨rfl, rfl⟩)
      | (go_at_call 10; refine (counter_any _ _ hz1).mono ?_; rintro e w' ⟨rfl, rfl⟩)
      | (go_at_call 17; refine (rcounter_any _ _ hz1).mono ?_; rintro e w' ⟨rfl, rfl⟩)
      | (go_at_call 7; refine (live_any _).mono ?_; rintro e w' ⟨rfl, hg⟩)
      | go_in)
    go_ret
    exact ⟨rfl, by assumption⟩
  by_cases h1 : b < 0
  · go_enter Try.func5, Try.ntmps5
    go_wp2_with (first
      | (go_at_call 13; refine (make_any _ _ _).mono ?_; rintro e w' ⟨rfl, rfl⟩)
      | (go_at_call 14; refine (rmake_any _ _ _).mono ?_; rintro e w' ⟨rfl, rfl⟩)
      | (go_at_call 9; refine (next_any _ _ hz1).mono ?_; rintro e w' ⟨rfl, rfl⟩)
      | (go_at_call 15; refine (rnext_any _ _ hz1).mono ?_; rintro e w' ⟨rfl, rfl⟩)
      | (go_at_call 12; refine (begin_any _ _).mono ?_; rintro e w' ⟨rfl, rfl⟩)
      | (go_at_call 8; refine (epoch_any _ _ hz1).mono ?_; rintro e w' ⟨rfl, rfl⟩)
      | (go_at_call 16; refine (repoch_any _ _ hz1).mono ?_; rintro e w' ⟨rfl, rfl⟩)
      | (go_at_call 10; refine (counter_any _ _ hz1).mono ?_; rintro e w' ⟨rfl, rfl⟩)
      | (go_at_call 17; refine (rcounter_any _ _ hz1).mono ?_; rintro e w' ⟨rfl, rfl⟩)
      | (go_at_call 7; refine (live_any _).mono ?_; rintro e w' ⟨rfl, hg⟩)
      | go_in)
    go_ret
    exact ⟨rfl, by assumption⟩
  obtain ⟨hm1, hm2⟩ := parts_make a (by omega) ha
  have hl := parts_less a b (by omega) (by omega)
  clear e1 e2 hz1
  by_cases hlt : a < b
  · have hl' := hl.2 hlt
    by_cases hE : zE a < zE b
    · clear hl hl'
      go_enter Try.func5, Try.ntmps5
      go_wp2_with (first
        | (go_at_call 13; refine (make_any _ _ _).mono ?_; rintro e w' ⟨rfl, rfl⟩)
        | (go_at_call 14; refine (rmake_any _ _ _).mono ?_; rintro e w' ⟨rfl, rfl⟩)
        | (go_at_call 9; refine (next_any _ _ (by assumption)).mono ?_; rintro e w' ⟨rfl, rfl⟩)
        | (go_at_call 15; refine (rnext_any _ _ (by assumption)).mono ?_; rintro e w' ⟨rfl, rfl⟩)
        | (go_at_call 12; refine (begin_any _ _).mono ?_; rintro e w' ⟨rfl, rfl⟩)
        | (go_at_call 8; refine (epoch_any _ _ (by assumption)).mono ?_; rintro e w' ⟨rfl, rfl⟩)
        | (go_at_call 16; refine (repoch_any _ _ (by assumption)).mono ?_; rintro e w' ⟨rfl, rfl⟩)
        | (go_at_call 10; refine (counter_any _ _ (by assumption)).mono ?_; rintro e w' ⟨rfl, rfl⟩)
        | (go_at_call 17; refine (rcounter_any _ _ (by assumption)).mono ?_; rintro e w' ⟨rfl, rfl⟩)
        | (go_at_call 7; refine (live_any _).mono ?_; rintro e w' ⟨rfl, hg⟩)
        | go_in)
      go_ret
      exact ⟨rfl, by assumption⟩
    · obtain ⟨hEe, hCl⟩ : zE a = zE b ∧ zC a < zC b := by omega
      have hEb : (zE a == zE b) = true := by simp [hEe]
      clear hl hl' hEe
      go_enter Try.func5, Try.ntmps5
      go_wp2_with (first
        | (go_at_call 13; refine (make_any _ _ _).mono ?_; rintro e w' ⟨rfl, rfl⟩)
        | (go_at_call 14; refine (rmake_any _ _ _).mono ?_; rintro e w' ⟨rfl, rfl⟩)
        | (go_at_call 9; refine (next_any _ _ (by assumption)).mono ?_; rintro e w' ⟨rfl, rfl⟩)
        | (go_at_call 15; refine (rnext_any _ _ (by assumption)).mono ?_; rintro e w' ⟨rfl, rfl⟩)
        | (go_at_call 12; refine (begin_any _ _).mono ?_; rintro e w' ⟨rfl, rfl⟩)
        | (go_at_call 8; refine (epoch_any _ _ (by assumption)).mono ?_; rintro e w' ⟨rfl, rfl⟩)
        | (go_at_call 16; refine (repoch_any _ _ (by assumption)).mono ?_; rintro e w' ⟨rfl, rfl⟩)
        | (go_at_call 10; refine (counter_any _ _ (by assumption)).mono ?_; rintro e w' ⟨rfl, rfl⟩)
        | (go_at_call 17; refine (rcounter_any _ _ (by assumption)).mono ?_; rintro e w' ⟨rfl, rfl⟩)
        | (go_at_call 7; refine (live_any _).mono ?_; rintro e w' ⟨rfl, hg⟩)
        | go_in)
      go_ret
      exact ⟨rfl, by assumption⟩
  · have hl' : ¬ (zE a < zE b ∨ zE a = zE b ∧ zC a < zC b) := fun h => hlt (hl.1 h)
    by_cases hEe : zE a = zE b
    · have hEb : (zE a == zE b) = true := by simp [hEe]
      have hE : decide (zE a < zE b) = false := by simp; omega
      have hC : decide (zC a < zC b) = false := by simp; omega
      have hL : decide (a < b) = false := by simp; omega
      clear hl hl' hEe
      go_enter Try.func5, Try.ntmps5
      go_wp2_with (first
        | (go_at_call 13; refine (make_any _ _ _).mono ?_; rintro e w' ⟨rfl, rfl⟩)
        | (go_at_call 14; refine (rmake_any _ _ _).mono ?_; rintro e w' ⟨rfl, rfl⟩)
        | (go_at_call 9; refine (next_any _ _ (by assumption)).mono ?_; rintro e w' ⟨rfl, rfl⟩)
        | (go_at_call 15; refine (rnext_any _ _ (by assumption)).mono ?_; rintro e w' ⟨rfl, rfl⟩)
        | (go_at_call 12; refine (begin_any _ _).mono ?_; rintro e w' ⟨rfl, rfl⟩)
        | (go_at_call 8; refine (epoch_any _ _ (by assumption)).mono ?_; rintro e w' ⟨rfl, rfl⟩)
        | (go_at_call 16; refine (repoch_any _ _ (by assumption)).mono ?_; rintro e w' ⟨rfl, rfl⟩)
        | (go_at_call 10; refine (counter_any _ _ (by assumption)).mono ?_; rintro e w' ⟨rfl, rfl⟩)
        | (go_at_call 17; refine (rcounter_any _ _ (by assumption)).mono ?_; rintro e w' ⟨rfl, rfl⟩)
        | (go_at_call 7; refine (live_any _).mono ?_; rintro e w' ⟨rfl, hg⟩)
        | go_in)
      go_ret
      exact ⟨rfl, by assumption⟩
    · have hEb : (zE a == zE b) = false := by simp [hEe]
      have hE : decide (zE a < zE b) = false := by simp; omega
      have hL : decide (a < b) = false := by simp; omega
      clear hl hl' hEe
      go_enter Try.func5, Try.ntmps5
      go_wp2_with (first
        | (go_at_call 13; refine (make_any _ _ _).mono ?_; rintro e w' ⟨rfl, rfl⟩)
        | (go_at_call 14; refine (rmake_any _ _ _).mono ?_; rintro e w' ⟨rfl, rfl⟩)
        | (go_at_call 9; refine (next_any _ _ (by assumption)).mono ?_; rintro e w' ⟨rfl, rfl⟩)
        | (go_at_call 15; refine (rnext_any _ _ (by assumption)).mono ?_; rintro e w' ⟨rfl, rfl⟩)
        | (go_at_call 12; refine (begin_any _ _).mono ?_; rintro e w' ⟨rfl, rfl⟩)
        | (go_at_call 8; refine (epoch_any _ _ (by assumption)).mono ?_; rintro e w' ⟨rfl, rfl⟩)
        | (go_at_call 16; refine (repoch_any _ _ (by assumption)).mono ?_; rintro e w' ⟨rfl, rfl⟩)
        | (go_at_call 10; refine (counter_any _ _ (by assumption)).mono ?_; rintro e w' ⟨rfl, rfl⟩)
        | (go_at_call 17; refine (rcounter_any _ _ (by assumption)).mono ?_; rintro e w' ⟨rfl, rfl⟩)
        | (go_at_call 7; refine (live_any _).mono ?_; rintro e w' ⟨rfl, hg⟩)
        | go_in)
      go_ret
      exact ⟨rfl, by assumption⟩
end Go.Proofs.Ytgbifmcdkigbgaa
