/- The issuer's methods by contracts: the issuer's one cell holds the last zxid. -/
import Derived.Test.YtgbifmcdkigbgaaZx2
import Derived.Test.YtgbifmcdkigbgaaOpen
namespace Go.Proofs.Ytgbifmcdkigbgaa
open Go.RowKit

def zU1 (z x : Int) : Int := if x < 0 then 0 else zM1 (max (zE z) (zE x) + 1) 0
def zU2 (z x : Int) : Int := if x < 0 then 200 else zM2 (max (zE z) (zE x) + 1) 0

set_option maxHeartbeats 400000 in
theorem new_ok (z : Int) (h : 0 ≤ z) (w : World) :
    Calls Try.prog 18 #[.int .i64 z] w fun r w' => r = .returned (.tuple #[.pointer (some ⟨w.heap.size, 0, none⟩), .int .i64 0]) ∧ w.alloc (.cells #[.int .i64 z] 47) = w' := by
  go_enter Try.func18, Try.ntmps18
  go_wp2
  go_ret2
  exact ⟨rfl, rfl⟩
set_option maxHeartbeats 400000 in
theorem new_no (z : Int) (h : z < 0) (w : World) :
    Calls Try.prog 18 #[.int .i64 z] w fun r w' => r = .returned (.tuple #[.pointer none, .int .i64 200]) ∧ w = w' := by
  go_enter Try.func18, Try.ntmps18
  go_wp2
  go_ret2
  exact ⟨rfl, rfl⟩

set_option maxHeartbeats 400000 in
theorem take_nil (w : World) :
    Calls Try.prog 19 #[.pointer none] w fun r w' => r = .returned (.tuple #[.int .i64 0, .int .i64 2]) ∧ w = w' := by
  go_enter Try.func19, Try.ntmps19
  go_wp2
  go_ret2
  exact ⟨rfl, rfl⟩
set_option maxHeartbeats 400000 in
theorem last_nil (w : World) :
    Calls Try.prog 22 #[.pointer none] w fun r w' => r = .returned (.int .i64 0) ∧ w = w' := by
  go_enter Try.func22, Try.ntmps22
  go_wp2
  go_ret
  exact ⟨rfl, rfl⟩
set_option maxHeartbeats 400000 in
theorem left_nil (w : World) :
    Calls Try.prog 23 #[.pointer none] w fun r w' => r = .returned (.int .i64 0) ∧ w = w' := by
  go_enter Try.func23, Try.ntmps23
  go_wp2
  go_ret
  exact ⟨rfl, rfl⟩
set_option maxHeartbeats 400000 in
theorem up_nil (x : Int) (w : World) :
    Calls Try.prog 20 #[.pointer none, .int .i64 x] w fun r w' => r = .returned (.int .i64 2) ∧ w = w' := by
  go_enter Try.func20, Try.ntmps20
  go_wp2
  go_ret
  exact ⟨rfl, rfl⟩

section
variable (b off : Nat) (z : Int) (hz : z ≤ 9223372036854775807) (w : World) (hc : w.cell? ⟨b, off, none⟩ = some (.int .i64 z))
include hz hc
omit hz in
set_option maxHeartbeats 400000 in
theorem last_any : Calls Try.prog 22 #[.pointer (some ⟨b, off, none⟩)] w fun r w' => r = .returned (.int .i64 z) ∧ w = w' := by
  go_enter Try.func22, Try.ntmps22
  go_wp2
  go_ret
  exact ⟨rfl, rfl⟩
set_option maxHeartbeats 400000 in
theorem left_any : Calls Try.prog 23 #[.pointer (some ⟨b, off, none⟩)] w fun r w' => r = .returned (.int .i64 (4294967295 - zC z)) ∧ w = w' := by
  have h := zC_bd z
  go_enter Try.func23, Try.ntmps23
  go_wp2_with (go_at_call 10; refine (counter_any _ _ hz).mono ?_; rintro e w' ⟨rfl, rfl⟩)
  go_ret
  exact ⟨rfl, rfl⟩
variable (hf : w.frozen? ⟨b, off, none⟩ = false)
include hf
set_option maxHeartbeats 400000 in
theorem take_ok (h : (zN2 z == 0) = true) : Calls Try.prog 19 #[.pointer (some ⟨b, off, none⟩)] w fun r w' => r = .returned (.tuple #[.int .i64 (zN1 z), .int .i64 (zN2 z)]) ∧ w.setCell ⟨b, off, none⟩ (.int .i64 (zN1 z)) = w' := by
  go_enter Try.func19, Try.ntmps19
  go_wp2_with (go_at_call 9; refine (next_any _ _ hz).mono ?_; rintro e w' ⟨rfl, rfl⟩)
  go_ret2
  exact ⟨rfl, rfl⟩
omit hf in
set_option maxHeartbeats 400000 in
theorem take_no (h : (zN2 z == 0) = false) : Calls Try.prog 19 #[.pointer (some ⟨b, off, none⟩)] w fun r w' => r = .returned (.tuple #[.int .i64 (zN1 z), .int .i64 (zN2 z)]) ∧ w = w' := by
  go_enter Try.func19, Try.ntmps19
  go_wp2_with (go_at_call 9; refine (next_any _ _ hz).mono ?_; rintro e w' ⟨rfl, rfl⟩)
  go_ret2
  exact ⟨rfl, rfl⟩
end

theorem zU1_bd (z x : Int) : 0 ≤ zU1 z x ∧ zU1 z x ≤ 9223372036854775807 := by
  unfold zU1 zM1
  split
  · omega
  · split <;> omega

theorem zU_lt (z x : Int) (h0 : 0 ≤ x) (h : zE z < zE x) : zU1 z x = zM1 (zE x + 1) 0 ∧ zU2 z x = zM2 (zE x + 1) 0 := by
  have e : max (zE z) (zE x) = zE x := by omega
  unfold zU1 zU2
  rw [if_neg (by omega), if_neg (by omega), e]
  exact ⟨rfl, rfl⟩
theorem zU_ge (z x : Int) (h0 : 0 ≤ x) (h : ¬ zE z < zE x) : zU1 z x = zM1 (zE z + 1) 0 ∧ zU2 z x = zM2 (zE z + 1) 0 := by
  have e : max (zE z) (zE x) = zE z := by omega
  unfold zU1 zU2
  rw [if_neg (by omega), if_neg (by omega), e]
  exact ⟨rfl, rfl⟩
theorem zU_neg (z x : Int) (h0 : x < 0) : zU1 z x = 0 ∧ zU2 z x = 200 := by
  unfold zU1 zU2
  rw [if_pos h0, if_pos h0]
  exact ⟨rfl, rfl⟩

section
variable (b off : Nat) (z x : Int) (hz : z ≤ 9223372036854775807) (hx : x ≤ 9223372036854775807) (w : World) (hc : w.cell? ⟨b, off, none⟩ = some (.int .i64 z)) (hf : w.frozen? ⟨b, off, none⟩ = false)
include hz hx hc hf
set_option maxHeartbeats 400000 in
theorem up_ok (h : (zU2 z x == 0) = true) : Calls Try.prog 20 #[.pointer (some ⟨b, off, none⟩), .int .i64 x] w fun r w' => r = .returned (.int .i64 (zU2 z x)) ∧ w.setCell ⟨b, off, none⟩ (.int .i64 (zU1 z x)) = w' := by
  have h0 : 0 ≤ x := by
    by_cases hx0 : x < 0
    · simp [zU2, hx0] at h
    · omega
  have b1 := zE_bd z hz
  have b2 := zE_bd x hx
  by_cases hlt : zE z < zE x
  · obtain ⟨e1, e2⟩ := zU_lt z x h0 hlt
    rw [e1, e2]
    rw [e2] at h
    clear e1 e2
    go_enter Try.func20, Try.ntmps20
    go_wp2_with (first
      | (go_at_call 8; refine (epoch_any _ _ (by assumption)).mono ?_; rintro e w' ⟨rfl, rfl⟩)
      | (go_at_call 12; refine (begin_any _ _).mono ?_; rintro e w' ⟨rfl, rfl⟩))
    go_ret
    exact ⟨rfl, rfl⟩
  · obtain ⟨e1, e2⟩ := zU_ge z x h0 hlt
    rw [e1, e2]
    rw [e2] at h
    clear e1 e2
    go_enter Try.func20, Try.ntmps20
    go_wp2_with (first
      | (go_at_call 8; refine (epoch_any _ _ (by assumption)).mono ?_; rintro e w' ⟨rfl, rfl⟩)
      | (go_at_call 12; refine (begin_any _ _).mono ?_; rintro e w' ⟨rfl, rfl⟩))
    go_ret
    exact ⟨rfl, rfl⟩
omit hf in
set_option maxHeartbeats 400000 in
theorem up_no (h : (zU2 z x == 0) = false) : Calls Try.prog 20 #[.pointer (some ⟨b, off, none⟩), .int .i64 x] w fun r w' => r = .returned (.int .i64 (zU2 z x)) ∧ w = w' := by
  have b1 := zE_bd z hz
  have b2 := zE_bd x hx
  by_cases h0 : x < 0
  · obtain ⟨e1, e2⟩ := zU_neg z x h0
    rw [e2]
    clear e1 e2 h
    go_enter Try.func20, Try.ntmps20
    go_wp2
    go_ret
    exact ⟨rfl, rfl⟩
  by_cases hlt : zE z < zE x
  · obtain ⟨e1, e2⟩ := zU_lt z x (by omega) hlt
    rw [e2]
    rw [e2] at h
    clear e1 e2
    go_enter Try.func20, Try.ntmps20
    go_wp2_with (first
      | (go_at_call 8; refine (epoch_any _ _ (by assumption)).mono ?_; rintro e w' ⟨rfl, rfl⟩)
      | (go_at_call 12; refine (begin_any _ _).mono ?_; rintro e w' ⟨rfl, rfl⟩))
    go_ret
    exact ⟨rfl, rfl⟩
  · obtain ⟨e1, e2⟩ := zU_ge z x (by omega) hlt
    rw [e2]
    rw [e2] at h
    clear e1 e2
    go_enter Try.func20, Try.ntmps20
    go_wp2_with (first
      | (go_at_call 8; refine (epoch_any _ _ (by assumption)).mono ?_; rintro e w' ⟨rfl, rfl⟩)
      | (go_at_call 12; refine (begin_any _ _).mono ?_; rintro e w' ⟨rfl, rfl⟩))
    go_ret
    exact ⟨rfl, rfl⟩
omit hc hf in
set_option maxHeartbeats 400000 in
theorem rup_any : Calls Try.prog 21 #[.int .i64 z, .int .i64 x] w fun r w' => r = .returned (.tuple #[.int .i64 (zU1 z x), .int .i64 (zU2 z x)]) ∧ w = w' := by
  have b1 := zE_bd z hz
  have b2 := zE_bd x hx
  by_cases h0 : x < 0
  · obtain ⟨e1, e2⟩ := zU_neg z x h0
    rw [e1, e2]
    clear e1 e2
    go_enter Try.func21, Try.ntmps21
    go_wp2
    go_ret2
    exact ⟨rfl, rfl⟩
  by_cases hlt : zE z < zE x
  · obtain ⟨e1, e2⟩ := zU_lt z x (by omega) hlt
    rw [e1, e2]
    clear e1 e2
    go_enter Try.func21, Try.ntmps21
    go_wp2_with (first
      | (go_at_call 16; refine (repoch_any _ _ (by assumption)).mono ?_; rintro e w' ⟨rfl, rfl⟩)
      | (go_at_call 14; refine (rmake_any _ _ _).mono ?_; rintro e w' ⟨rfl, rfl⟩))
    go_ret2
    exact ⟨rfl, rfl⟩
  · obtain ⟨e1, e2⟩ := zU_ge z x (by omega) hlt
    rw [e1, e2]
    clear e1 e2
    go_enter Try.func21, Try.ntmps21
    go_wp2_with (first
      | (go_at_call 16; refine (repoch_any _ _ (by assumption)).mono ?_; rintro e w' ⟨rfl, rfl⟩)
      | (go_at_call 14; refine (rmake_any _ _ _).mono ?_; rintro e w' ⟨rfl, rfl⟩))
    go_ret2
    exact ⟨rfl, rfl⟩
end
end Go.Proofs.Ytgbifmcdkigbgaa
