/- The functions of package zxid and of the reference arborref20 by contracts: what each returns; none but the issuer's changes the world. -/
import Derived.Test.YtgbifmcdkigbgaaDoorRows
import Derived.Handy
set_option linter.unusedVariables false
set_option linter.unusedSimpArgs false
namespace Go.Proofs.YtgbifmcdkigbgaaDoor
open Go.RowKit

/-! ### the plain functions -/
def zM1 (e c : Int) : Int := if 0 ≤ e ∧ e ≤ 2147483647 ∧ 0 ≤ c ∧ c ≤ 4294967295 then e * 4294967296 + c else 0
def zM2 (e c : Int) : Int := if 0 ≤ e ∧ e ≤ 2147483647 ∧ 0 ≤ c ∧ c ≤ 4294967295 then 0 else 200
def zE (z : Int) : Int := if z < 0 then -1 else z / 4294967296
def zC (z : Int) : Int := if z < 0 then -1 else z % 4294967296
def zN1 (z : Int) : Int := if z < 0 ∨ z % 4294967296 = 4294967295 then 0 else z + 1
def zN2 (z : Int) : Int := if z < 0 ∨ z % 4294967296 = 4294967295 then 200 else 0

theorem zE_bd (z : Int) (h : z ≤ 9223372036854775807) : -1 ≤ zE z ∧ zE z ≤ 2147483647 := by unfold zE; split <;> omega
theorem zC_bd (z : Int) : -1 ≤ zC z ∧ zC z ≤ 4294967295 := by unfold zC; split <;> omega
theorem ret2 {k l : IntKind} {a b c d : Int} (h : a = b) (h' : c = d) : Ending.returned (.tuple #[.int k a, .int l c]) = .returned (.tuple #[.int k b, .int l d]) := by rw [h, h']
theorem ret1 {k : IntKind} {a b : Int} (h : a = b) : Ending.returned (.int k a) = .returned (.int k b) := by rw [h]
theorem or32 (e c : Int) (h1 : 0 ≤ e) (h2 : e ≤ 2147483647) (h3 : 0 ≤ c) (h4 : c ≤ 4294967295) : bits .or .i64 (e * 4294967296) c = e * 4294967296 + c :=
  bits_join .i64 63 (by decide) (fun n a b => by rw [IntKind.wrap_i64]; omega) 32 _ _ (by omega) (by omega) (by omega) h3 (by omega) (by omega)
theorem and32 (z : Int) (h1 : 0 ≤ z) (h2 : z ≤ 9223372036854775807) : bits .and .i64 z 4294967295 = z % 4294967296 := 
  bits_mask .i64 63 (by decide) (fun n a b => by rw [IntKind.wrap_i64]; omega) 32 (by decide) _ h1 (by omega)

/-! ### the walks -/
set_option maxHeartbeats 400000 in
theorem make_any (e c : Int) (w : World) :
    Calls Tryd.prog 14 #[.int .i64 e, .int .i64 c] w fun r w' => r = .returned (.tuple #[.int .i64 (zM1 e c), .int .i64 (zM2 e c)]) ∧ w = w' := by
  by_cases h : 0 ≤ e ∧ e ≤ 2147483647 ∧ 0 ≤ c ∧ c ≤ 4294967295
  · obtain ⟨h1, h2, h3, h4⟩ := h
    go_enter Tryd.func14, Tryd.ntmps14
    go_wp2
    go_ret2
    exact ⟨ret2 (by simp [zM1, *, or32]) (by simp [zM2, *]), rfl⟩
  · have h' : e < 0 ∨ 2147483647 < e ∨ c < 0 ∨ 4294967295 < c := by omega
    rcases h' with h' | h' | h' | h' <;> (go_enter Tryd.func14, Tryd.ntmps14; go_wp2 <;> (go_ret2; exact ⟨ret2 (by rw [zM1, if_neg h]) (by rw [zM2, if_neg h]), rfl⟩))

set_option maxHeartbeats 400000 in
theorem epoch_any (z : Int) (w : World) (hz : z ≤ 9223372036854775807) :
    Calls Tryd.prog 24 #[.int .i64 z] w fun r w' => r = .returned (.int .i64 (zE z)) ∧ w = w' := by
  by_cases h : z < 0
  all_goals
    go_enter Tryd.func24, Tryd.ntmps24
    go_wp2
    go_ret
    exact ⟨ret1 (by unfold zE; split <;> omega), rfl⟩

set_option maxHeartbeats 400000 in
theorem counter_any (z : Int) (w : World) (hz : z ≤ 9223372036854775807) :
    Calls Tryd.prog 36 #[.int .i64 z] w fun r w' => r = .returned (.int .i64 (zC z)) ∧ w = w' := by
  by_cases h : z < 0
  all_goals
    go_enter Tryd.func36, Tryd.ntmps36
    go_wp2
    go_ret
    exact ⟨ret1 (by unfold zC; split <;> first | omega | exact and32 z (by omega) hz), rfl⟩

set_option maxHeartbeats 400000 in
theorem next_any (z : Int) (w : World) (hz : z ≤ 9223372036854775807) :
    Calls Tryd.prog 22 #[.int .i64 z] w fun r w' => r = .returned (.tuple #[.int .i64 (zN1 z), .int .i64 (zN2 z)]) ∧ w = w' := by
  by_cases h : z < 0
  · go_enter Tryd.func22, Tryd.ntmps22
    go_wp2_with (go_at_call 36; refine (counter_any _ _ hz).mono ?_; rintro e w' ⟨rfl, rfl⟩)
    go_ret2
    exact ⟨ret2 (by unfold zN1; split <;> omega) (by unfold zN2; split <;> omega), rfl⟩
  · have hc : zC z = z % 4294967296 := by simp [zC, h]
    by_cases h' : z % 4294967296 = 4294967295
    · have hb : (zC z == 4294967295) = true := by simp [hc, h']
      clear hc
      go_enter Tryd.func22, Tryd.ntmps22
      go_wp2_with (go_at_call 36; refine (counter_any _ _ hz).mono ?_; rintro e w' ⟨rfl, rfl⟩)
      go_ret2
      exact ⟨ret2 (by unfold zN1; split <;> omega) (by unfold zN2; split <;> omega), rfl⟩
    · have hb : (zC z == 4294967295) = false := by simp [hc, h']
      have h2 : z < 9223372036854775807 := by omega
      clear hc
      go_enter Tryd.func22, Tryd.ntmps22
      go_wp2_with (go_at_call 36; refine (counter_any _ _ hz).mono ?_; rintro e w' ⟨rfl, rfl⟩)
      go_ret2
      exact ⟨ret2 (by unfold zN1; split <;> omega) (by unfold zN2; split <;> omega), rfl⟩

set_option maxHeartbeats 400000 in
theorem begin_any (e : Int) (w : World) :
    Calls Tryd.prog 23 #[.int .i64 e] w fun r w' => r = .returned (.tuple #[.int .i64 (zM1 e 0), .int .i64 (zM2 e 0)]) ∧ w = w' := by
  go_enter Tryd.func23, Tryd.ntmps23
  go_wp2_with (go_at_call 14; refine (make_any _ _ _).mono ?_; rintro e w' ⟨rfl, rfl⟩)
  go_ret2
  exact ⟨rfl, rfl⟩

set_option maxHeartbeats 1000000 in
theorem live_any (w : World) :
    Calls Tryd.prog 9 #[] w fun r w' => r = .returned (.bool true) ∧ Below w.heap.size w w' := by
  have e1 : bits .or .i64 4294967296 2 = 4294967298 := by decide
  have e2 : bits .or .i64 8589934592 0 = 8589934592 := by decide
  have e3 : bits .and .i64 8589934591 4294967295 = 4294967295 := by decide
  have e4 : bits .and .i64 8589934590 4294967295 = 4294967294 := by decide
  have e5 : bits .and .i64 8589934592 4294967295 = 0 := by decide
  go_enter Tryd.func9, Tryd.ntmps9
  go_wp2
  go_ret
  exact ⟨rfl, by go_grown⟩
end Go.Proofs.YtgbifmcdkigbgaaDoor
