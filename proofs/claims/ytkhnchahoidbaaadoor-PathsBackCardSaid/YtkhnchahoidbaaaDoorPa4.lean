/- The kind of a character of a range; the first that is not plain: the walks. -/
import Derived.Test.YtkhnchahoidbaaaDoorPa2
namespace Go.Proofs.YtkhnchahoidbaaaDoor
open Go.RowKit

theorem retb {a b : Bool} (h : a = b) : Ending.returned (.bool a) = .returned (.bool b) := by rw [h]

set_option maxRecDepth 100000 in
set_option maxHeartbeats 1000000 in
theorem hasPrefix_any (s p : ByteArray) (w : World) :
    Calls Tryd.prog 45 #[.string s, .string p] w fun e w' => e = .returned (.bool (Lib.hasPrefix s.data.toList p.data.toList)) ∧ w = w' := by
  have hr := Lib.hid (Lib.hasPrefix_raw s p)
  go_enter Tryd.func45, Tryd.ntmps45
  go_wp2
  all_goals
    go_ret
    refine ⟨retb ?_, rfl⟩
    rw [← hr.out]
    simp [*]

set_option maxRecDepth 100000 in
set_option maxHeartbeats 1000000 in
theorem of_any (s : ByteArray) (i : Nat) (r : Int) (hi : i ≤ s.size) (_ : s.size ≤ 140737488355328) (w : World) :
    Calls Tryd.prog 87 #[.string s, .int .i64 i, .int .i32 r] w fun e w' => (∃ k, e = .returned (.int .i64 k) ∧ (k = 1 ↔ kindOf r = 1)) ∧ ∃ n, w' = w.drewN n := by
  by_cases hr : r = 65533
  · subst hr
    go_enter Tryd.func87, Tryd.ntmps87
    go_wp2_with (first
      | (go_at_call 45; refine (hasPrefix_any _ _ _).mono ?_; rintro e w' ⟨rfl, rfl⟩)
      | (go_at_call 108; refine (kind_any _ _).mono ?_; rintro e w' ⟨rfl, rfl⟩))
    all_goals
      go_ret
      exact ⟨⟨_, rfl, by decide⟩, 0, rfl⟩
  · go_enter Tryd.func87, Tryd.ntmps87
    go_wp2_with (go_at_call 108; refine (kind_any r _).mono ?_; rintro e w' ⟨rfl, rfl⟩)
    go_ret
    exact ⟨⟨_, rfl, Iff.rfl⟩, 0, rfl⟩

theorem iterPos_of {w : World} {k : Nat} {s : ByteArray} {p : Nat} (h : w.heap[k]? = some (.stringIter s p)) : w.iterPos k = p := by simp [World.iterPos, h]

/-- the first that is not plain, from a place on, is the same with whatever fuel is enough -/
theorem firstBad_step (s : ByteArray) (f pos : Nat) (h : pos < s.size) (hp : plainAt s pos = true) : firstBad s (f + 1) pos = firstBad s f (pos + wid s pos) := by rw [firstBad, if_pos h, if_pos hp]

set_option maxRecDepth 100000 in
set_option maxHeartbeats 2000000 in
theorem first_any (s : ByteArray) (w : World) (hs : s.size ≤ 140737488355328) :
    Calls Tryd.prog 64 #[.string s] w fun e w' => (∃ k, e = .returned (.tuple #[.int .i64 (firstBad s s.size 0), .int .i64 k])) ∧ Below w.heap.size w w' := by
  go_enter Tryd.func64, Tryd.ntmps64
  go_wp2
  go_loopw [] (fun wr => ∃ (pos fuel : Nat), wr.heap[w.heap.size]? = some (.stringIter s pos) ∧ Below w.heap.size w wr ∧ Hid (firstBad s fuel pos = firstBad s s.size 0) ∧ s.size ≤ pos + fuel ∧ pos ≤ s.size) (fun wr => s.size - wr.iterPos w.heap.size)
  case atStart => exact ⟨0, s.size, World.iter_heap w s 0, (Below.refl _ _).alloc (Nat.le_refl _) _, rfl, by omega, by omega⟩
  case round =>
    obtain ⟨pos, fuel, hit, hbw, HS, hb, hle⟩ := hrel
    have hpos0 := iterPos_of hit
    by_cases hp : pos < s.size
    · have hnx : ∀ ty, (Instr.next (.pointer (some ⟨w.heap.size, 0, none⟩)) true ty).run Tryd.prog wr = _ := fun ty => Lib.run_next_any_at wr w.heap.size s pos ty hit hp
      have hwd := wid_pos s pos
      have hwl := wid_le s pos hp
      obtain ⟨fuel, rfl⟩ : ∃ f', fuel = f' + 1 := ⟨fuel - 1, by omega⟩
      have hit2 := Lib.iterAt_heap wr w.heap.size s pos (pos + (Utf8.decode s pos).2) hit
      have hbw2 := Lib.below_iterAt hbw (k := w.heap.size) (Nat.le_refl _) s (pos + (Utf8.decode s pos).2)
      obtain ⟨W1, hW1⟩ : ∃ W1, W1 = wr.iterAt w.heap.size s (pos + (Utf8.decode s pos).2) := ⟨_, rfl⟩
      rw [← hW1] at hnx hit2 hbw2
      clear hW1
      change ∀ ty, (Instr.next (.pointer (some ⟨w.heap.size, 0, none⟩)) true ty).run Tryd.prog wr = .ok (.tuple #[.bool true, .int .i64 pos, .int .i32 (rn s pos : Int)]) W1 at hnx
      change W1.heap[w.heap.size]? = some (.stringIter s (pos + wid s pos)) at hit2
      clear hit hbw
      go_wp2_with (go_at_call 87; refine (of_any s pos (rn s pos) hle hs _).mono ?_; rintro e w' ⟨⟨k, rfl, hk⟩, n, rfl⟩)
      all_goals first
        | (go_roundw
           case rel =>
             have hpl : plainAt s pos = true := by
               unfold plainAt
               rw [hk.1 (by simpa using ‹(k != 1) = false›)]
               rfl
             exact ⟨pos + wid s pos, fuel, hit2, below_drewN' hbw2 n, (by show _ = _; rw [← HS.out, firstBad_step s fuel pos hp hpl]), by omega, by omega⟩
           case measure =>
             have hq : (W1.drewN n).iterPos w.heap.size = (pos + wid s pos) := iterPos_of hit2
             rw [hq, hpos0]
             omega)
        | (go_ret2
           have hpl : plainAt s pos = false := by
             unfold plainAt
             rw [beq_eq_false_iff_ne]
             intro h
             have := hk.2 h
             simp_all
           have e : firstBad s s.size 0 = pos := by rw [← HS.out, firstBad, if_pos hp, hpl]; rfl
           exact ⟨⟨k, by rw [e]; rfl⟩, below_drewN' hbw2 n⟩)
    · have hnx : ∀ ty, (Instr.next (.pointer (some ⟨w.heap.size, 0, none⟩)) true ty).run Tryd.prog wr = _ := fun ty => Lib.run_next_end_at wr w.heap.size s pos ty hit hp
      have e : firstBad s s.size 0 = -1 := by
        rw [← HS.out]
        cases fuel with
        | zero => rfl
        | succ f => rw [firstBad, if_neg hp]
      go_wp2
      go_ret2
      exact ⟨⟨1, by rw [e]; rfl⟩, hbw⟩

end Go.Proofs.YtkhnchahoidbaaaDoor
