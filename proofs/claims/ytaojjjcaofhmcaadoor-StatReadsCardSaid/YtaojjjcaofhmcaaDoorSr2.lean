/- StatRecords: the document's record of a Stat: the walk. -/
import Derived.Test.YtaojjjcaofhmcaaDoorSr1
set_option linter.unusedVariables false
set_option linter.unusedSimpArgs false
namespace Go.Proofs.YtaojjjcaofhmcaaDoor
open Go.RowKit

set_option maxRecDepth 100000 in
set_option maxHeartbeats 2000000 in
theorem refRecord_any (a0 a1 a2 a3 a4 a5 a6 a7 a8 a9 a10 : Int) (w : World) :
    Calls Tryd.prog 11 #[.agg #[.int .i64 a0, .int .i64 a1, .int .i64 a2, .int .i64 a3, .int .i32 a4, .int .i32 a5, .int .i32 a6, .int .i64 a7, .int .i32 a8, .int .i32 a9, .int .i64 a10]] w fun e w' =>
      ∃ A c, e = .returned (.slice A 68 c) ∧ w'.ownsRow w.heap.size 5 1 (.slice A 68 c) 68 (bcells (recB a0 a1 a2 a3 a4 a5 a6 a7 a8 a9 a10)) ∧ Below w.heap.size w w' := by
  obtain ⟨w1, hw1⟩ : ∃ w1, w.alloc (.cells #[.int .i64 a0, .int .i64 a1, .int .i64 a2, .int .i64 a3, .int .i32 a4, .int .i32 a5, .int .i32 a6, .int .i64 a7, .int .i32 a8, .int .i32 a9, .int .i64 a10] 23) = w1 := ⟨_, rfl⟩
  have HS : Hid (Blk w1 w.heap.size 23 #[.int .i64 a0, .int .i64 a1, .int .i64 a2, .int .i64 a3, .int .i32 a4, .int .i32 a5, .int .i32 a6, .int .i64 a7, .int .i32 a8, .int .i32 a9, .int .i64 a10]) := by unfold Hid; rw [← hw1]; exact Blk.new _ _ _
  have hz1 : w1.heap.size = w.heap.size + 1 := by rw [← hw1]; simp
  have HB1 : Hid (Below w.heap.size w w1) := by unfold Hid; rw [← hw1]; exact (Below.refl _ _).alloc (Nat.le_refl _) _
  obtain ⟨xs, hxs⟩ : ∃ xs : List Int, xs = [a0, a1, a2, a3] := ⟨_, rfl⟩
  obtain ⟨ys, hys⟩ : ∃ ys : List Int, ys = [a4, a5, a6] := ⟨_, rfl⟩
  have c0 := lit_cell HS.out 0 rfl
  have c1 := lit_cell HS.out 1 rfl
  have c2 := lit_cell HS.out 2 rfl
  have c3 := lit_cell HS.out 3 rfl
  have HB12 : Hid (∀ o, Below w.heap.size w (w1.alloc o)) := fun o => HB1.out.alloc HB1.out.size _
  have HX := Lib.hid hxs
  have HY := Lib.hid hys
  clear hxs hys
  go_enter Tryd.func11, Tryd.ntmps11
  go_wp2
  go_loopw [3, 5] (fun u i wr => ∃ (j : Nat), j ≤ 4 ∧ i = .int .i64 j ∧ Rb wr w.heap.size u (bAll bLong (xs.take j)) ∧ Below w.heap.size w wr ∧ Keeps w1 wr ∧ Blk wr (w.heap.size + 1) 75 (xs.map fun z => Value.int .i64 z).toArray) (fun _ i _ => 4 - (intOf i).toNat)
  case atStart => exact ⟨0, Nat.zero_le _, rfl, Rb.nil _ _, HB12.out _, (Keeps.refl _).alloc _, by rw [HX.out]; exact Blk.new' hz1.symm⟩
  case round =>
    obtain ⟨j, hj, rfl, hR, hB, hK, hL⟩ := hrel
    have hz := hB.size
    have hxl : xs.length = 4 := by rw [HX.out]; rfl
    clear c0 c1 c2 c3
    by_cases hlt : j < 4
    · have hc := lit_cell hL j (lits .i64 xs j (by omega))
      have HR := Lib.hid hR
      have HB := Lib.hid hB
      have HK := Lib.hid hK
      have HL := Lib.hid hL
      have HE := Lib.hid (bAll_snoc bLong xs j (by omega))
      have HLN : Hid ((bAll bLong (xs.take j)).length + 8 ≤ 140737488355328) := by
        unfold Hid; rw [bLongs_le, List.length_take]; omega
      clear hR hB hK hL
      go_wp2_with (go_at_call 35; refine (refPut8 w.heap.size u3 _ xs[j] wr HR.out (by omega) HLN.out).mono ?_; rintro e w2 ⟨v3, rfl, hr, hb, hk⟩; have HR2 := Lib.hid hr; have HL2 := Lib.hid (hk _ _ _ (by decide) HL.out); have HB2 := Lib.hid (HB.out.trans hb); have HK2 := Lib.hid (HK.out.trans hk); clear hr hb hk)
      go_roundw
      case rel => exact ⟨j + 1, by omega, by go_num, by rw [HE.out]; exact HR2.out, HB2.out, HK2.out, HL2.out⟩
      case measure => simp [intOf]; omega
    · have hj4 : j = 4 := by omega
      subst hj4
      rw [show ((4 : Nat) : Int) = 4 from rfl]
      have HR : Hid (Rb wr w.heap.size u3 (bAll bLong xs)) := by
        unfold Hid; rw [List.take_of_length_le (by omega)] at hR; exact hR
      have HB := Lib.hid hB
      have HK := Lib.hid hK
      clear hR hL hlt hj hB hK
      rename World => wa
      have hS := HK.out _ _ _ (by decide) HS.out
      have c4 := lit_cell hS 4 rfl
      have c5 := lit_cell hS 5 rfl
      have c6 := lit_cell hS 6 rfl
      clear hS
      go_wp2
      have HB23 : Hid (∀ o, Below wa.heap.size wa (wa.alloc o)) := fun o => (Below.refl _ _).alloc (Nat.le_refl _) _
      clear c4 c5 c6
      go_loopw [3, 7] (fun u i wr => ∃ (j : Nat), j ≤ 3 ∧ i = .int .i64 j ∧ Rb wr w.heap.size u (bAll bLong xs ++ bAll bInt (ys.take j)) ∧ Below w.heap.size w wr ∧ Keeps w1 wr ∧ Blk wr wa.heap.size 78 (ys.map fun z => Value.int .i32 z).toArray) (fun _ i _ => 3 - (intOf i).toNat)
      case atStart => exact ⟨0, Nat.zero_le _, rfl, by simpa [bAll] using HR.out.later (HB23.out _), HB.out.trans ((HB23.out _).mono (by omega)), HK.out.alloc _, by rw [HY.out]; exact Blk.new' rfl⟩
      case round =>
        obtain ⟨j, hj, rfl, hR, hB, hK, hL⟩ := hrel
        have hz := hB.size
        have hyl : ys.length = 3 := by rw [HY.out]; rfl
        by_cases hlt : j < 3
        · have hc := lit_cell hL j (lits .i32 ys j (by omega))
          have HR := Lib.hid hR
          have HB := Lib.hid hB
          have HK := Lib.hid hK
          have HL := Lib.hid hL
          have HE := Lib.hid (bAll_snoc bInt ys j (by omega))
          have HLN : Hid ((bAll bLong xs ++ bAll bInt (ys.take j)).length + 8 ≤ 140737488355328) := by
            unfold Hid; rw [List.length_append, bLongs_le, bInts_le, List.length_take]; omega
          clear hR hB hK hL
          go_wp2_with (go_at_call 35; refine (refPut4 w.heap.size u3 _ (ys[j] % 4294967296) ys[j] wr (by omega) (by omega) (by omega) HR.out (by omega) HLN.out).mono ?_; rintro e w2 ⟨v3, rfl, hr, hb, hk⟩; have HR2 := Lib.hid hr; have HL2 := Lib.hid (hk _ _ _ (by decide) HL.out); have HB2 := Lib.hid (HB.out.trans hb); have HK2 := Lib.hid (HK.out.trans hk); clear hr hb hk)
          go_roundw
          case rel => exact ⟨j + 1, by omega, by go_num, by rw [HE.out, ← List.append_assoc]; exact HR2.out, HB2.out, HK2.out, HL2.out⟩
          case measure => simp [intOf]; omega
        · have hj3 : j = 3 := by omega
          subst hj3
          rw [show ((3 : Nat) : Int) = 3 from rfl]
          have HR : Hid (Rb wr w.heap.size u3 (bAll bLong xs ++ bAll bInt ys)) := by
            unfold Hid; rw [List.take_of_length_le (by omega)] at hR; exact hR
          have HB := Lib.hid hB
          have HK := Lib.hid hK
          have HLX : Hid ((bAll bLong xs).length = 32) := by unfold Hid; rw [bLongs_le]; omega
          have HLY : Hid ((bAll bInt ys).length = 12) := by unfold Hid; rw [bInts_le]; omega
          clear hR hL hlt hj hB hK
          have c7 := lit_cell (HK.out _ _ _ (by decide) HS.out) 7 rfl
          go_wp2_with (go_at_call 35; refine (refPut8 w.heap.size u3 _ a7 wr HR.out (by omega) (by simp only [List.length_append, HLX.out, HLY.out]; omega)).mono ?_; rintro e w5 ⟨v5, rfl, hr, hb, hk⟩; have hz5 := hb.size; have H5 := Lib.hid hr; have HB5 := Lib.hid (HB.out.trans hb); have HK5 := Lib.hid (HK.out.trans hk); clear hr hb hk; have c8 := lit_cell (HK5.out _ _ _ (by decide) HS.out) 8 rfl; refine Hid.out ?_)
          clear c7
          refine Lib.hid ?_
          go_wp2_with (go_at_call 35; refine (refPut4 w.heap.size v5 _ (a8 % 4294967296) a8 w5 (by omega) (by omega) (by omega) H5.out (by omega) (by simp only [List.length_append, HLX.out, HLY.out, bLong_len]; omega)).mono ?_; rintro e w6 ⟨v6, rfl, hr, hb, hk⟩; have hz6 := hb.size; have H6 := Lib.hid hr; have HB6 := Lib.hid (HB5.out.trans hb); have HK6 := Lib.hid (HK5.out.trans hk); clear hr hb hk; have c9 := lit_cell (HK6.out _ _ _ (by decide) HS.out) 9 rfl; refine Hid.out ?_)
          clear c8
          refine Lib.hid ?_
          go_wp2_with (go_at_call 35; refine (refPut4 w.heap.size v6 _ (a9 % 4294967296) a9 w6 (by omega) (by omega) (by omega) H6.out (by omega) (by simp only [List.length_append, HLX.out, HLY.out, bLong_len, bInt_len]; omega)).mono ?_; rintro e w7 ⟨v7, rfl, hr, hb, hk⟩; have hz7 := hb.size; have H7 := Lib.hid hr; have HB7 := Lib.hid (HB6.out.trans hb); have HK7 := Lib.hid (HK6.out.trans hk); clear hr hb hk; have c10 := lit_cell (HK7.out _ _ _ (by decide) HS.out) 10 rfl; refine Hid.out ?_)
          clear c9
          refine Lib.hid ?_
          go_wp2_with (go_at_call 35; refine (refPut8 w.heap.size v7 _ a10 w7 H7.out (by omega) (by simp only [List.length_append, HLX.out, HLY.out, bLong_len, bInt_len]; omega)).mono ?_; rintro e w8 ⟨v8, rfl, hr, hb, hk⟩; have H8 := Lib.hid hr; have HB8 := Lib.hid (HB7.out.trans hb); clear hr hb hk)
          go_ret
          have hR : Rb w8 w.heap.size v8 (recB a0 a1 a2 a3 a4 a5 a6 a7 a8 a9 a10) := by
            unfold recB; rw [← HX.out, ← HY.out]; exact H8.out
          unfold Rb at hR
          rw [recB_len] at hR
          obtain ⟨A, c, rfl⟩ := slice_form hR
          exact ⟨A, c, rfl, hR, HB8.out⟩
end Go.Proofs.YtaojjjcaofhmcaaDoor
