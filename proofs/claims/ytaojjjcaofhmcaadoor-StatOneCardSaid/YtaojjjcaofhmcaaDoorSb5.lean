/- StatRecords: the document's text of a Stat: the walk. (printed by gen_b5.py) -/
import Derived.Test.YtaojjjcaofhmcaaDoorSb4
import Derived.Lib.QuietBelow
set_option linter.unusedVariables false
set_option linter.unusedSimpArgs false
namespace Go.Proofs.YtaojjjcaofhmcaaDoor
open Go.RowKit Go.Sort

set_option maxRecDepth 100000 in
theorem refHex_any (x : Int) (B : Nat) (w : World) (hE : EnvN B w) (hB : B ≤ w.heap.size) :
    Calls Tryd.prog 42 #[.int .i64 x] w fun e w' => e = .returned (.string ⟨(hexS (u64N x)).toArray⟩) ∧ Below w.heap.size w w' := by
  have hrd := hex_any (u64N x) (u64N_lt x) B w hE hB
  rw [u64N_nat] at hrd
  have HR := Lib.hid hrd
  clear hrd
  go_enter Tryd.func42, Tryd.ntmps42
  go_wp2_with (go_at_call 38; refine HR.out.mono ?_; rintro e w2 ⟨rfl, hb⟩; have HB := Lib.hid hb; clear hb)
  go_ret
  exact ⟨rfl, HB.out⟩

set_option maxRecDepth 100000 in
theorem refDec_any (x : Int) (h0 : -9223372036854775808 ≤ x) (h1 : x ≤ 9223372036854775807) (B : Nat) (w : World) (hE : EnvN B w) :
    Calls Tryd.prog 43 #[.int .i64 x] w fun e w' => e = .returned (.string ⟨(Lib.itoa x).toArray⟩) ∧ Below w.heap.size w w' := by
  have HR := Lib.hid (dec_any x h0 h1 B w hE)
  go_enter Tryd.func43, Tryd.ntmps43
  go_wp2_with (go_at_call 40; refine HR.out.mono ?_; rintro e w2 ⟨rfl, hb⟩; have HB := Lib.hid hb; clear hb)
  go_ret
  exact ⟨rfl, HB.out⟩

/-- a number's digits, as a string -/
theorem hex_str (x : Int) : ∃ q : ByteArray, q = ⟨(hexS (u64N x)).toArray⟩ ∧ q.size ≤ 21 ∧ q.data.toList = hexS (u64N x) := ⟨_, rfl, by have := hexS_len (u64N x) (u64N_lt x); simp [ByteArray.size]; omega, rfl⟩
theorem dec_str (x : Int) (h0 : -9223372036854775808 ≤ x) (h1 : x ≤ 9223372036854775807) : ∃ q : ByteArray, q = ⟨(Lib.itoa x).toArray⟩ ∧ q.size ≤ 21 ∧ q.data.toList = Lib.itoa x := ⟨_, rfl, by have := Lib.itoa_length_le x h0 h1; simp [ByteArray.size]; omega, rfl⟩
theorem ba_ext {a b : ByteArray} (h : a.data.toList = b.data.toList) : a = b := by
  cases a; cases b; simpa using h

set_option maxRecDepth 100000 in
set_option maxHeartbeats 4000000 in
theorem refText_any5 (a0 a1 a2 a3 a4 a5 a6 a7 a8 a9 a10 : Int) (r0 : -9223372036854775808 ≤ a0 ∧ a0 ≤ 9223372036854775807) (r1 : -9223372036854775808 ≤ a1 ∧ a1 ≤ 9223372036854775807) (r2 : -9223372036854775808 ≤ a2 ∧ a2 ≤ 9223372036854775807) (r3 : -9223372036854775808 ≤ a3 ∧ a3 ≤ 9223372036854775807) (r4 : -2147483648 ≤ a4 ∧ a4 ≤ 2147483647) (r5 : -2147483648 ≤ a5 ∧ a5 ≤ 2147483647) (r6 : -2147483648 ≤ a6 ∧ a6 ≤ 2147483647) (r7 : -9223372036854775808 ≤ a7 ∧ a7 ≤ 9223372036854775807) (r8 : -2147483648 ≤ a8 ∧ a8 ≤ 2147483647) (r9 : -2147483648 ≤ a9 ∧ a9 ≤ 2147483647) (r10 : -9223372036854775808 ≤ a10 ∧ a10 ≤ 9223372036854775807) (w : World) (hE : EnvN w.heap.size w) :
    Calls Tryd.prog 13 #[.agg #[.int .i64 a0, .int .i64 a1, .int .i64 a2, .int .i64 a3, .int .i32 a4, .int .i32 a5, .int .i32 a6, .int .i64 a7, .int .i32 a8, .int .i32 a9, .int .i64 a10]] w fun e w' => e = .returned (.string ⟨(textB a0 a1 a2 a3 a4 a5 a6 a7 a8 a9 a10).toArray⟩) ∧ Below w.heap.size w w' := by
  obtain ⟨w1, hw1⟩ : ∃ w1, w.alloc (.cells #[.int .i64 a0, .int .i64 a1, .int .i64 a2, .int .i64 a3, .int .i32 a4, .int .i32 a5, .int .i32 a6, .int .i64 a7, .int .i32 a8, .int .i32 a9, .int .i64 a10] 23) = w1 := ⟨_, rfl⟩
  have HS : Hid (Blk w1 w.heap.size 23 #[.int .i64 a0, .int .i64 a1, .int .i64 a2, .int .i64 a3, .int .i32 a4, .int .i32 a5, .int .i32 a6, .int .i64 a7, .int .i32 a8, .int .i32 a9, .int .i64 a10]) := by unfold Hid; rw [← hw1]; exact Blk.new _ _ _
  have HB1 : Hid (Below w.heap.size w w1) := by unfold Hid; rw [← hw1]; exact (Below.refl _ _).alloc (Nat.le_refl _) _
  have HZ1 : Hid (w.heap.size < w1.heap.size) := by unfold Hid; rw [← hw1]; simp
  have HE1 : Hid (EnvN w.heap.size w1) := hE.below HB1.out (Nat.le_refl _)
  clear hE
  obtain ⟨q0, hq0, hs0, hl0⟩ := hex_str a0
  have HQ0 := Lib.hid hl0
  have HG0 := Lib.hid hq0
  clear hl0 hq0
  obtain ⟨q1, hq1, hs1, hl1⟩ := hex_str a1
  have HQ1 := Lib.hid hl1
  have HG1 := Lib.hid hq1
  clear hl1 hq1
  obtain ⟨q2, hq2, hs2, hl2⟩ := dec_str a2 (by omega) (by omega)
  have HQ2 := Lib.hid hl2
  have HG2 := Lib.hid hq2
  clear hl2 hq2
  obtain ⟨q3, hq3, hs3, hl3⟩ := dec_str a3 (by omega) (by omega)
  have HQ3 := Lib.hid hl3
  have HG3 := Lib.hid hq3
  clear hl3 hq3
  obtain ⟨q4, hq4, hs4, hl4⟩ := dec_str a4 (by omega) (by omega)
  have HQ4 := Lib.hid hl4
  have HG4 := Lib.hid hq4
  clear hl4 hq4
  obtain ⟨q5, hq5, hs5, hl5⟩ := dec_str a5 (by omega) (by omega)
  have HQ5 := Lib.hid hl5
  have HG5 := Lib.hid hq5
  clear hl5 hq5
  obtain ⟨q6, hq6, hs6, hl6⟩ := dec_str a6 (by omega) (by omega)
  have HQ6 := Lib.hid hl6
  have HG6 := Lib.hid hq6
  clear hl6 hq6
  obtain ⟨q7, hq7, hs7, hl7⟩ := hex_str a7
  have HQ7 := Lib.hid hl7
  have HG7 := Lib.hid hq7
  clear hl7 hq7
  obtain ⟨q8, hq8, hs8, hl8⟩ := dec_str a8 (by omega) (by omega)
  have HQ8 := Lib.hid hl8
  have HG8 := Lib.hid hq8
  clear hl8 hq8
  obtain ⟨q9, hq9, hs9, hl9⟩ := dec_str a9 (by omega) (by omega)
  have HQ9 := Lib.hid hl9
  have HG9 := Lib.hid hq9
  clear hl9 hq9
  obtain ⟨q10, hq10, hs10, hl10⟩ := hex_str a10
  have HQ10 := Lib.hid hl10
  have HG10 := Lib.hid hq10
  clear hl10 hq10
  have u4 : IntKind.i64.wrap a4 = a4 := by rw [IntKind.wrap_i64]; omega
  have v4 : wrap64 a4 = a4 := by unfold wrap64; omega
  have u5 : IntKind.i64.wrap a5 = a5 := by rw [IntKind.wrap_i64]; omega
  have v5 : wrap64 a5 = a5 := by unfold wrap64; omega
  have u6 : IntKind.i64.wrap a6 = a6 := by rw [IntKind.wrap_i64]; omega
  have v6 : wrap64 a6 = a6 := by unfold wrap64; omega
  have u8 : IntKind.i64.wrap a8 = a8 := by rw [IntKind.wrap_i64]; omega
  have v8 : wrap64 a8 = a8 := by unfold wrap64; omega
  have u9 : IntKind.i64.wrap a9 = a9 := by rw [IntKind.wrap_i64]; omega
  have v9 : wrap64 a9 = a9 := by unfold wrap64; omega
  have mixed : Tryd.prog.follows .mixedOrders = true := by kernel_rfl
  -- region 1
  have HY1 := HZ1
  have c0 := cell_regrown (lit_cell (HS.out) 0 rfl)
  have e0 : ∀ d os, Calls Tryd.prog 42 #[.int .i64 a0] (grow (redrawn w1 d) os) fun e w'' => e = .returned (.string q0) ∧ ∃ p : Regrown, w'' = grow (redrawn w1 p.d) p.os := fun d os => by rw [HG0.out]; exact Calls.regrown_of (refHex_any a0 w.heap.size _ (HE1.out.below (below_regrown w1 d os) (Nat.le_of_lt HY1.out)) (Nat.le_trans (Nat.le_of_lt HY1.out) (below_regrown w1 d os).size))
  have c2 := cell_regrown (lit_cell (HS.out) 2 rfl)
  have e2 : ∀ d os, Calls Tryd.prog 43 #[.int .i64 a2] (grow (redrawn w1 d) os) fun e w'' => e = .returned (.string q2) ∧ ∃ p : Regrown, w'' = grow (redrawn w1 p.d) p.os := fun d os => by rw [HG2.out]; exact Calls.regrown_of (refDec_any a2 (by omega) (by omega) w.heap.size _ (HE1.out.below (below_regrown w1 d os) (Nat.le_of_lt HY1.out)))
  have c1 := cell_regrown (lit_cell (HS.out) 1 rfl)
  have e1 : ∀ d os, Calls Tryd.prog 42 #[.int .i64 a1] (grow (redrawn w1 d) os) fun e w'' => e = .returned (.string q1) ∧ ∃ p : Regrown, w'' = grow (redrawn w1 p.d) p.os := fun d os => by rw [HG1.out]; exact Calls.regrown_of (refHex_any a1 w.heap.size _ (HE1.out.below (below_regrown w1 d os) (Nat.le_of_lt HY1.out)) (Nat.le_trans (Nat.le_of_lt HY1.out) (below_regrown w1 d os).size))
  have c3 := cell_regrown (lit_cell (HS.out) 3 rfl)
  have e3 : ∀ d os, Calls Tryd.prog 43 #[.int .i64 a3] (grow (redrawn w1 d) os) fun e w'' => e = .returned (.string q3) ∧ ∃ p : Regrown, w'' = grow (redrawn w1 p.d) p.os := fun d os => by rw [HG3.out]; exact Calls.regrown_of (refDec_any a3 (by omega) (by omega) w.heap.size _ (HE1.out.below (below_regrown w1 d os) (Nat.le_of_lt HY1.out)))
  have c10 := cell_regrown (lit_cell (HS.out) 10 rfl)
  have e10 : ∀ d os, Calls Tryd.prog 42 #[.int .i64 a10] (grow (redrawn w1 d) os) fun e w'' => e = .returned (.string q10) ∧ ∃ p : Regrown, w'' = grow (redrawn w1 p.d) p.os := fun d os => by rw [HG10.out]; exact Calls.regrown_of (refHex_any a10 w.heap.size _ (HE1.out.below (below_regrown w1 d os) (Nat.le_of_lt HY1.out)) (Nat.le_trans (Nat.le_of_lt HY1.out) (below_regrown w1 d os).size))
  have n1_1 : ¬ 9223372036854775807 < 10 + q0.size := by omega
  have n1_2 : ¬ 9223372036854775807 < 10 + q0.size + 9 := by omega
  have n1_3 : ¬ 9223372036854775807 < 10 + q0.size + 9 + q2.size := by omega
  have n1_4 : ¬ 9223372036854775807 < 10 + q0.size + 9 + q2.size + 11 := by omega
  have n1_5 : ¬ 9223372036854775807 < 10 + q0.size + 9 + q2.size + 11 + q1.size := by omega
  have n1_6 : ¬ 9223372036854775807 < 10 + q0.size + 9 + q2.size + 11 + q1.size + 9 := by omega
  have n1_7 : ¬ 9223372036854775807 < 10 + q0.size + 9 + q2.size + 11 + q1.size + 9 + q3.size := by omega
  have n1_8 : ¬ 9223372036854775807 < 10 + q0.size + 9 + q2.size + 11 + q1.size + 9 + q3.size + 11 := by omega
  have n1_9 : ¬ 9223372036854775807 < 10 + q0.size + 9 + q2.size + 11 + q1.size + 9 + q3.size + 11 + q10.size := by omega
  have n1_10 : ¬ 9223372036854775807 < 10 + q0.size + 9 + q2.size + 11 + q1.size + 9 + q3.size + 11 + q10.size + 1 := by omega
  go_enter Tryd.func13, Tryd.ntmps13
  go_wp2
  refine wp_region_quiet_below (by assumption) (by kernel_rfl) ?_
  repeat (quiet_step (first | exact e0 _ _ | exact e2 _ _ | exact e1 _ _ | exact e3 _ _ | exact e10 _ _))
  refine wpQuiet_nil ?_
  intro _ hw'
  obtain ⟨⟨dq, osq⟩, hw''⟩ := hw'
  have hbr : Below w1.heap.size w1 (grow (redrawn w1 dq) osq) := below_regrown w1 dq osq
  rw [← hw''] at hbr
  clear hw'' c0 e0 c2 e2 c1 e1 c3 e3 c10 e10 n1_1 n1_2 n1_3 n1_4 n1_5 n1_6 n1_7 n1_8 n1_9 n1_10
  rename World => w2
  obtain ⟨R1, hR1⟩ : ∃ R : ByteArray, R = (⟨#[99, 90, 120, 105, 100, 32, 61, 32, 48, 120]⟩ : ByteArray) ++ q0 ++ (⟨#[10, 99, 116, 105, 109, 101, 32, 61, 32]⟩ : ByteArray) ++ q2 ++ (⟨#[10, 109, 90, 120, 105, 100, 32, 61, 32, 48, 120]⟩ : ByteArray) ++ q1 ++ (⟨#[10, 109, 116, 105, 109, 101, 32, 61, 32]⟩ : ByteArray) ++ q3 ++ (⟨#[10, 112, 90, 120, 105, 100, 32, 61, 32, 48, 120]⟩ : ByteArray) ++ q10 ++ (⟨#[10]⟩ : ByteArray) := ⟨_, rfl⟩
  have hz1 : R1.size ≤ 300 := by rw [hR1]; simp only [ByteArray.size_append]; show 10 + q0.size + 9 + q2.size + 11 + q1.size + 9 + q3.size + 11 + q10.size + 1 ≤ _; omega
  have HC1 := Lib.hid hbr
  have HY2 : Hid (w.heap.size < w2.heap.size) := Nat.lt_of_lt_of_le HY1.out hbr.size
  have HE2 : Hid (EnvN w.heap.size w2) := HE1.out.below hbr (Nat.le_of_lt HY1.out)
  try rw [← hR1]
  have HR1 := Lib.hid hR1
  clear hbr hR1
  -- region 2
  have c5 := cell_regrown (lit_cell (HS.out.below HC1.out HZ1.out) 5 rfl)
  have e5 : ∀ d os, Calls Tryd.prog 43 #[.int .i64 a5] (grow (redrawn w2 d) os) fun e w'' => e = .returned (.string q5) ∧ ∃ p : Regrown, w'' = grow (redrawn w2 p.d) p.os := fun d os => by rw [HG5.out]; exact Calls.regrown_of (refDec_any a5 (by omega) (by omega) w.heap.size _ (HE2.out.below (below_regrown w2 d os) (Nat.le_of_lt HY2.out)))
  have c4 := cell_regrown (lit_cell (HS.out.below HC1.out HZ1.out) 4 rfl)
  have e4 : ∀ d os, Calls Tryd.prog 43 #[.int .i64 a4] (grow (redrawn w2 d) os) fun e w'' => e = .returned (.string q4) ∧ ∃ p : Regrown, w'' = grow (redrawn w2 p.d) p.os := fun d os => by rw [HG4.out]; exact Calls.regrown_of (refDec_any a4 (by omega) (by omega) w.heap.size _ (HE2.out.below (below_regrown w2 d os) (Nat.le_of_lt HY2.out)))
  have c6 := cell_regrown (lit_cell (HS.out.below HC1.out HZ1.out) 6 rfl)
  have e6 : ∀ d os, Calls Tryd.prog 43 #[.int .i64 a6] (grow (redrawn w2 d) os) fun e w'' => e = .returned (.string q6) ∧ ∃ p : Regrown, w'' = grow (redrawn w2 p.d) p.os := fun d os => by rw [HG6.out]; exact Calls.regrown_of (refDec_any a6 (by omega) (by omega) w.heap.size _ (HE2.out.below (below_regrown w2 d os) (Nat.le_of_lt HY2.out)))
  have n2_1 : ¬ 9223372036854775807 < R1.size + 11 := by omega
  have n2_2 : ¬ 9223372036854775807 < R1.size + 11 + q5.size := by omega
  have n2_3 : ¬ 9223372036854775807 < R1.size + 11 + q5.size + 15 := by omega
  have n2_4 : ¬ 9223372036854775807 < R1.size + 11 + q5.size + 15 + q4.size := by omega
  have n2_5 : ¬ 9223372036854775807 < R1.size + 11 + q5.size + 15 + q4.size + 14 := by omega
  have n2_6 : ¬ 9223372036854775807 < R1.size + 11 + q5.size + 15 + q4.size + 14 + q6.size := by omega
  have n2_7 : ¬ 9223372036854775807 < R1.size + 11 + q5.size + 15 + q4.size + 14 + q6.size + 1 := by omega
  go_wp2
  refine wp_region_quiet_below (by assumption) (by kernel_rfl) ?_
  repeat (quiet_step (first | exact e5 _ _ | exact e4 _ _ | exact e6 _ _))
  refine wpQuiet_nil ?_
  intro _ hw'
  obtain ⟨⟨dq, osq⟩, hw''⟩ := hw'
  have hbr : Below w2.heap.size w2 (grow (redrawn w2 dq) osq) := below_regrown w2 dq osq
  rw [← hw''] at hbr
  clear hw'' c5 e5 c4 e4 c6 e6 n2_1 n2_2 n2_3 n2_4 n2_5 n2_6 n2_7
  rename World => w3
  obtain ⟨R2, hR2⟩ : ∃ R : ByteArray, R = R1 ++ (⟨#[99, 118, 101, 114, 115, 105, 111, 110, 32, 61, 32]⟩ : ByteArray) ++ q5 ++ (⟨#[10, 100, 97, 116, 97, 86, 101, 114, 115, 105, 111, 110, 32, 61, 32]⟩ : ByteArray) ++ q4 ++ (⟨#[10, 97, 99, 108, 86, 101, 114, 115, 105, 111, 110, 32, 61, 32]⟩ : ByteArray) ++ q6 ++ (⟨#[10]⟩ : ByteArray) := ⟨_, rfl⟩
  have hz2 : R2.size ≤ 600 := by rw [hR2]; simp only [ByteArray.size_append]; show R1.size + 11 + q5.size + 15 + q4.size + 14 + q6.size + 1 ≤ _; omega
  have HC2 : Hid (Below w1.heap.size w1 w3) := HC1.out.trans (hbr.mono HC1.out.size)
  have HY3 : Hid (w.heap.size < w3.heap.size) := Nat.lt_of_lt_of_le HY2.out hbr.size
  have HE3 : Hid (EnvN w.heap.size w3) := HE2.out.below hbr (Nat.le_of_lt HY2.out)
  try rw [← hR2]
  have HR2 := Lib.hid hR2
  clear hbr hR2
  -- region 3
  have c7 := cell_regrown (lit_cell (HS.out.below HC2.out HZ1.out) 7 rfl)
  have e7 : ∀ d os, Calls Tryd.prog 42 #[.int .i64 a7] (grow (redrawn w3 d) os) fun e w'' => e = .returned (.string q7) ∧ ∃ p : Regrown, w'' = grow (redrawn w3 p.d) p.os := fun d os => by rw [HG7.out]; exact Calls.regrown_of (refHex_any a7 w.heap.size _ (HE3.out.below (below_regrown w3 d os) (Nat.le_of_lt HY3.out)) (Nat.le_trans (Nat.le_of_lt HY3.out) (below_regrown w3 d os).size))
  have c8 := cell_regrown (lit_cell (HS.out.below HC2.out HZ1.out) 8 rfl)
  have e8 : ∀ d os, Calls Tryd.prog 43 #[.int .i64 a8] (grow (redrawn w3 d) os) fun e w'' => e = .returned (.string q8) ∧ ∃ p : Regrown, w'' = grow (redrawn w3 p.d) p.os := fun d os => by rw [HG8.out]; exact Calls.regrown_of (refDec_any a8 (by omega) (by omega) w.heap.size _ (HE3.out.below (below_regrown w3 d os) (Nat.le_of_lt HY3.out)))
  have c9 := cell_regrown (lit_cell (HS.out.below HC2.out HZ1.out) 9 rfl)
  have e9 : ∀ d os, Calls Tryd.prog 43 #[.int .i64 a9] (grow (redrawn w3 d) os) fun e w'' => e = .returned (.string q9) ∧ ∃ p : Regrown, w'' = grow (redrawn w3 p.d) p.os := fun d os => by rw [HG9.out]; exact Calls.regrown_of (refDec_any a9 (by omega) (by omega) w.heap.size _ (HE3.out.below (below_regrown w3 d os) (Nat.le_of_lt HY3.out)))
  have n3_1 : ¬ 9223372036854775807 < R2.size + 19 := by omega
  have n3_2 : ¬ 9223372036854775807 < R2.size + 19 + q7.size := by omega
  have n3_3 : ¬ 9223372036854775807 < R2.size + 19 + q7.size + 14 := by omega
  have n3_4 : ¬ 9223372036854775807 < R2.size + 19 + q7.size + 14 + q8.size := by omega
  have n3_5 : ¬ 9223372036854775807 < R2.size + 19 + q7.size + 14 + q8.size + 15 := by omega
  have n3_6 : ¬ 9223372036854775807 < R2.size + 19 + q7.size + 14 + q8.size + 15 + q9.size := by omega
  have n3_7 : ¬ 9223372036854775807 < R2.size + 19 + q7.size + 14 + q8.size + 15 + q9.size + 1 := by omega
  go_wp2
  refine wp_region_quiet_below (by assumption) (by kernel_rfl) ?_
  repeat (quiet_step (first | exact e7 _ _ | exact e8 _ _ | exact e9 _ _))
  refine wpQuiet_nil ?_
  intro _ hw'
  obtain ⟨⟨dq, osq⟩, hw''⟩ := hw'
  have hbr : Below w3.heap.size w3 (grow (redrawn w3 dq) osq) := below_regrown w3 dq osq
  rw [← hw''] at hbr
  clear hw'' c7 e7 c8 e8 c9 e9 n3_1 n3_2 n3_3 n3_4 n3_5 n3_6 n3_7
  rename World => w4
  obtain ⟨R3, hR3⟩ : ∃ R : ByteArray, R = R2 ++ (⟨#[101, 112, 104, 101, 109, 101, 114, 97, 108, 79, 119, 110, 101, 114, 32, 61, 32, 48, 120]⟩ : ByteArray) ++ q7 ++ (⟨#[10, 100, 97, 116, 97, 76, 101, 110, 103, 116, 104, 32, 61, 32]⟩ : ByteArray) ++ q8 ++ (⟨#[10, 110, 117, 109, 67, 104, 105, 108, 100, 114, 101, 110, 32, 61, 32]⟩ : ByteArray) ++ q9 ++ (⟨#[10]⟩ : ByteArray) := ⟨_, rfl⟩
  have hz3 : R3.size ≤ 900 := by rw [hR3]; simp only [ByteArray.size_append]; show R2.size + 19 + q7.size + 14 + q8.size + 15 + q9.size + 1 ≤ _; omega
  have HC3 : Hid (Below w1.heap.size w1 w4) := HC2.out.trans (hbr.mono HC2.out.size)
  have HY4 : Hid (w.heap.size < w4.heap.size) := Nat.lt_of_lt_of_le HY3.out hbr.size
  have HE4 : Hid (EnvN w.heap.size w4) := HE3.out.below hbr (Nat.le_of_lt HY3.out)
  try rw [← hR3]
  have HR3 := Lib.hid hR3
  clear hbr hR3
  have hfin : R3 = ⟨(textB a0 a1 a2 a3 a4 a5 a6 a7 a8 a9 a10).toArray⟩ := by
    apply ba_ext
    rw [HR3.out, HR2.out, HR1.out]
    simp only [ByteArray.data_append, Array.toList_append, HQ0.out, HQ1.out, HQ2.out, HQ3.out, HQ4.out, HQ5.out, HQ6.out, HQ7.out, HQ8.out, HQ9.out, HQ10.out]
    simp [textB, hexL, decL]
  have HFI := Lib.hid hfin
  clear hfin
  go_wp2
  go_ret
  exact ⟨by show Ending.returned (.string R3) = _; rw [HFI.out], HB1.out.trans (HC3.out.mono (Nat.le_of_lt HZ1.out))⟩
end Go.Proofs.YtaojjjcaofhmcaaDoor
