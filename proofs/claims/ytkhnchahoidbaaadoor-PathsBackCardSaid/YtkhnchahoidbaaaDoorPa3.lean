/- A character by the reference: the walk. -/
import Derived.Test.YtkhnchahoidbaaaDoorPa2
namespace Go.Proofs.YtkhnchahoidbaaaDoor
open Go.RowKit

theorem char_end {s : ByteArray} {i : Nat} {a b : Int} (h : a = charR s i ∧ b = wid s i) (w : World) : Ending.returned (.tuple #[.int .i64 a, .int .i64 b]) = .returned (.tuple #[.int .i64 (charR s i), .int .i64 (wid s i)]) ∧ w = w := ⟨by rw [h.1, h.2], rfl⟩
theorem charR_br {s : ByteArray} {i : Nat} (h : Utf8.decode s i = (65533, 1)) : charR s i = -1 ∧ (wid s i : Int) = 1 := by
  unfold charR wid
  rw [h]
  exact ⟨rfl, rfl⟩
theorem charR_ok {s : ByteArray} {i v n : Nat} (h : Utf8.decode s i = (v, n)) (hn : n ≠ 1 ∨ v ≠ 65533) : charR s i = v ∧ (wid s i : Int) = n := by
  unfold charR wid rn
  rw [h, if_neg (by simp; omega)]
  exact ⟨rfl, rfl⟩

set_option maxRecDepth 100000 in
set_option maxHeartbeats 4000000 in
theorem char_any (s : ByteArray) (i : Nat) (hi : i < s.size) (hs : s.size ≤ 140737488355328) (w : World) :
    Calls Tryd.prog 70 #[.string s, .int .i64 i] w fun e w' => e = .returned (.tuple #[.int .i64 (charR s i), .int .i64 (wid s i)]) ∧ w = w' := by
  have hb0 := fun k W => run_byte (P := Tryd.prog) W 9 s k i Tryd.underlying9 hi
  have b0 := byteAt_lt s i
  have HD := Lib.hid (decode_of s i)
  by_cases c0 : byteAt s i < 128
  · go_enter Tryd.func70, Tryd.ntmps70
    go_wp2
    all_goals
      go_ret2
      refine char_end ?_ _
      have hD := HD.out
      generalize hE : Utf8.decode s i = D at hD
      repeat' split at hD
      all_goals first
        | (exfalso; omega)
        | (subst hD; rw [(charR_br hE).1, (charR_br hE).2]; constructor <;> omega)
        | (subst hD; rw [(charR_ok hE (by omega)).1, (charR_ok hE (by omega)).2]; constructor <;> omega)
  by_cases c1 : byteAt s i < 192
  · go_enter Tryd.func70, Tryd.ntmps70
    go_wp2
    all_goals
      go_ret2
      refine char_end ?_ _
      have hD := HD.out
      generalize hE : Utf8.decode s i = D at hD
      repeat' split at hD
      all_goals first
        | (exfalso; omega)
        | (subst hD; rw [(charR_br hE).1, (charR_br hE).2]; constructor <;> omega)
        | (subst hD; rw [(charR_ok hE (by omega)).1, (charR_ok hE (by omega)).2]; constructor <;> omega)
  by_cases c2 : byteAt s i < 224
  · by_cases h1 : i + 1 < s.size
    · have hb1 := fun k W => run_byte_at (P := Tryd.prog) W 9 s k (↑i + 1) (i + 1) Tryd.underlying9 (by omega) h1
      have b1 := byteAt_lt s (i + 1)
      go_enter Tryd.func70, Tryd.ntmps70
      go_wp2
      refine wp_loop_rounds 2 ?_
      all_goals try (rw [rounds_succ]; go_wp2)
      all_goals try (rw [rounds_succ]; go_wp2)
      all_goals
        go_ret2
        refine char_end ?_ _
        have hD := HD.out
        generalize hE : Utf8.decode s i = D at hD
        repeat' split at hD
        all_goals first
          | (exfalso; omega)
          | (subst hD; rw [(charR_br hE).1, (charR_br hE).2]; constructor <;> omega)
          | (subst hD; rw [(charR_ok hE (by omega)).1, (charR_ok hE (by omega)).2]; constructor <;> omega)
    · go_enter Tryd.func70, Tryd.ntmps70
      go_wp2
      refine wp_loop_rounds 2 ?_
      all_goals try (rw [rounds_succ]; go_wp2)
      all_goals try (rw [rounds_succ]; go_wp2)
      all_goals
        go_ret2
        refine char_end ?_ _
        have hD := HD.out
        generalize hE : Utf8.decode s i = D at hD
        repeat' split at hD
        all_goals first
          | (exfalso; omega)
          | (subst hD; rw [(charR_br hE).1, (charR_br hE).2]; constructor <;> omega)
          | (subst hD; rw [(charR_ok hE (by omega)).1, (charR_ok hE (by omega)).2]; constructor <;> omega)
  by_cases c3 : byteAt s i < 240
  · by_cases h1 : i + 1 < s.size
    · have hb1 := fun k W => run_byte_at (P := Tryd.prog) W 9 s k (↑i + 1) (i + 1) Tryd.underlying9 (by omega) h1
      have b1 := byteAt_lt s (i + 1)
      by_cases h2 : i + 2 < s.size
      · have hb2 := fun k W => run_byte_at (P := Tryd.prog) W 9 s k (↑i + 2) (i + 2) Tryd.underlying9 (by omega) h2
        have b2 := byteAt_lt s (i + 2)
        go_enter Tryd.func70, Tryd.ntmps70
        go_wp2
        refine wp_loop_rounds 3 ?_
        all_goals try (rw [rounds_succ]; go_wp2)
        all_goals try (rw [rounds_succ]; go_wp2)
        all_goals try (rw [rounds_succ]; go_wp2)
        all_goals
          go_ret2
          refine char_end ?_ _
          have hD := HD.out
          generalize hE : Utf8.decode s i = D at hD
          repeat' split at hD
          all_goals first
            | (exfalso; omega)
            | (subst hD; rw [(charR_br hE).1, (charR_br hE).2]; constructor <;> omega)
            | (subst hD; rw [(charR_ok hE (by omega)).1, (charR_ok hE (by omega)).2]; constructor <;> omega)
      · go_enter Tryd.func70, Tryd.ntmps70
        go_wp2
        refine wp_loop_rounds 3 ?_
        all_goals try (rw [rounds_succ]; go_wp2)
        all_goals try (rw [rounds_succ]; go_wp2)
        all_goals try (rw [rounds_succ]; go_wp2)
        all_goals
          go_ret2
          refine char_end ?_ _
          have hD := HD.out
          generalize hE : Utf8.decode s i = D at hD
          repeat' split at hD
          all_goals first
            | (exfalso; omega)
            | (subst hD; rw [(charR_br hE).1, (charR_br hE).2]; constructor <;> omega)
            | (subst hD; rw [(charR_ok hE (by omega)).1, (charR_ok hE (by omega)).2]; constructor <;> omega)
    · go_enter Tryd.func70, Tryd.ntmps70
      go_wp2
      refine wp_loop_rounds 3 ?_
      all_goals try (rw [rounds_succ]; go_wp2)
      all_goals try (rw [rounds_succ]; go_wp2)
      all_goals try (rw [rounds_succ]; go_wp2)
      all_goals
        go_ret2
        refine char_end ?_ _
        have hD := HD.out
        generalize hE : Utf8.decode s i = D at hD
        repeat' split at hD
        all_goals first
          | (exfalso; omega)
          | (subst hD; rw [(charR_br hE).1, (charR_br hE).2]; constructor <;> omega)
          | (subst hD; rw [(charR_ok hE (by omega)).1, (charR_ok hE (by omega)).2]; constructor <;> omega)
  by_cases c4 : byteAt s i < 248
  · by_cases h1 : i + 1 < s.size
    · have hb1 := fun k W => run_byte_at (P := Tryd.prog) W 9 s k (↑i + 1) (i + 1) Tryd.underlying9 (by omega) h1
      have b1 := byteAt_lt s (i + 1)
      by_cases h2 : i + 2 < s.size
      · have hb2 := fun k W => run_byte_at (P := Tryd.prog) W 9 s k (↑i + 2) (i + 2) Tryd.underlying9 (by omega) h2
        have b2 := byteAt_lt s (i + 2)
        by_cases h3 : i + 3 < s.size
        · have hb3 := fun k W => run_byte_at (P := Tryd.prog) W 9 s k (↑i + 3) (i + 3) Tryd.underlying9 (by omega) h3
          have b3 := byteAt_lt s (i + 3)
          go_enter Tryd.func70, Tryd.ntmps70
          go_wp2
          refine wp_loop_rounds 4 ?_
          all_goals try (rw [rounds_succ]; go_wp2)
          all_goals try (rw [rounds_succ]; go_wp2)
          all_goals try (rw [rounds_succ]; go_wp2)
          all_goals try (rw [rounds_succ]; go_wp2)
          all_goals
            go_ret2
            refine char_end ?_ _
            have hD := HD.out
            generalize hE : Utf8.decode s i = D at hD
            repeat' split at hD
            all_goals first
              | (exfalso; omega)
              | (subst hD; rw [(charR_br hE).1, (charR_br hE).2]; constructor <;> omega)
              | (subst hD; rw [(charR_ok hE (by omega)).1, (charR_ok hE (by omega)).2]; constructor <;> omega)
        · go_enter Tryd.func70, Tryd.ntmps70
          go_wp2
          refine wp_loop_rounds 4 ?_
          all_goals try (rw [rounds_succ]; go_wp2)
          all_goals try (rw [rounds_succ]; go_wp2)
          all_goals try (rw [rounds_succ]; go_wp2)
          all_goals try (rw [rounds_succ]; go_wp2)
          all_goals
            go_ret2
            refine char_end ?_ _
            have hD := HD.out
            generalize hE : Utf8.decode s i = D at hD
            repeat' split at hD
            all_goals first
              | (exfalso; omega)
              | (subst hD; rw [(charR_br hE).1, (charR_br hE).2]; constructor <;> omega)
              | (subst hD; rw [(charR_ok hE (by omega)).1, (charR_ok hE (by omega)).2]; constructor <;> omega)
      · go_enter Tryd.func70, Tryd.ntmps70
        go_wp2
        refine wp_loop_rounds 4 ?_
        all_goals try (rw [rounds_succ]; go_wp2)
        all_goals try (rw [rounds_succ]; go_wp2)
        all_goals try (rw [rounds_succ]; go_wp2)
        all_goals try (rw [rounds_succ]; go_wp2)
        all_goals
          go_ret2
          refine char_end ?_ _
          have hD := HD.out
          generalize hE : Utf8.decode s i = D at hD
          repeat' split at hD
          all_goals first
            | (exfalso; omega)
            | (subst hD; rw [(charR_br hE).1, (charR_br hE).2]; constructor <;> omega)
            | (subst hD; rw [(charR_ok hE (by omega)).1, (charR_ok hE (by omega)).2]; constructor <;> omega)
    · go_enter Tryd.func70, Tryd.ntmps70
      go_wp2
      refine wp_loop_rounds 4 ?_
      all_goals try (rw [rounds_succ]; go_wp2)
      all_goals try (rw [rounds_succ]; go_wp2)
      all_goals try (rw [rounds_succ]; go_wp2)
      all_goals try (rw [rounds_succ]; go_wp2)
      all_goals
        go_ret2
        refine char_end ?_ _
        have hD := HD.out
        generalize hE : Utf8.decode s i = D at hD
        repeat' split at hD
        all_goals first
          | (exfalso; omega)
          | (subst hD; rw [(charR_br hE).1, (charR_br hE).2]; constructor <;> omega)
          | (subst hD; rw [(charR_ok hE (by omega)).1, (charR_ok hE (by omega)).2]; constructor <;> omega)
  go_enter Tryd.func70, Tryd.ntmps70
  go_wp2
  all_goals
    go_ret2
    refine char_end ?_ _
    have hD := HD.out
    generalize hE : Utf8.decode s i = D at hD
    repeat' split at hD
    all_goals first
      | (exfalso; omega)
      | (subst hD; rw [(charR_br hE).1, (charR_br hE).2]; constructor <;> omega)
      | (subst hD; rw [(charR_ok hE (by omega)).1, (charR_ok hE (by omega)).2]; constructor <;> omega)
end Go.Proofs.YtkhnchahoidbaaaDoor
