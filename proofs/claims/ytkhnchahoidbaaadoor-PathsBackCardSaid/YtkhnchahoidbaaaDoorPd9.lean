/- Valid; the reference's last slash and parent: the walks. -/
import Derived.Test.YtkhnchahoidbaaaDoorPd7
import Derived.Test.YtkhnchahoidbaaaDoorPa8
namespace Go.Proofs.YtkhnchahoidbaaaDoor
open Go.RowKit

def okB (s : ByteArray) : Bool := (checkOf s).1 == 0
theorem okB_iff (s : ByteArray) : okB s = true ↔ okS s := by unfold okB okS; simp
theorem valid_ok (s : ByteArray) (w : World) (m : Int) (hm : w.cell? ⟨0, 0, none⟩ = some (.int .i64 m)) (hG : 0 < w.heap.size) :
    Calls Tryd.prog 28 #[.string s] w fun e w' => e = .returned (.bool (okB s)) ∧ Below w.heap.size w w' := valid_any s w m hm hG
theorem rvalid_ok (s : ByteArray) (w : World) : Calls Tryd.prog 31 #[.string s] w fun e w' => e = .returned (.bool (okB s)) ∧ ∃ n, w' = w.drewN n := rvalid_any s w

theorem ok_one {a : ByteArray} (h : okS a) (h1 : (a.toList == [47]) = false) : 2 ≤ a.size := by
  obtain ⟨x, _, y, _⟩ := ok_parts h
  rw [toList_one] at h1
  have h1 := of_decide_eq_false h1
  have : a.size ≠ 1 := fun hh => h1 ⟨hh, y⟩
  omega

set_option maxRecDepth 100000 in
set_option maxHeartbeats 1000000 in
theorem rlast_any (s : ByteArray) (h0 : byteAt s 0 = 47) (hp : 0 < s.size) (hs : s.size ≤ 140737488355328) (w : World) :
    Calls Tryd.prog 34 #[.string s] w fun e w' => e = .returned (.int .i64 (lastS s)) ∧ w = w' := by
  go_enter Tryd.func34, Tryd.ntmps34
  go_wp2
  go_loopw [3] (fun v wr => ∃ k : Nat, v = .int .i64 k ∧ k < s.size ∧ Hid (lastFrom s (k + 1) = lastS s) ∧ wr = w) (fun v _ => (intOf v).toNat)
  case atStart => exact ⟨s.size - 1, by simp; omega, by omega, by show _ = _; rw [show s.size - 1 + 1 = s.size by omega]; rfl, rfl⟩
  case round =>
    obtain ⟨k, rfl, hk, HL, rfl⟩ := hrel
    have hx := fun kd W => run_byte (P := Tryd.prog) W 9 s kd k Tryd.underlying9 hk
    have hbl := byteAt_lt s k
    by_cases hb : byteAt s k = 47
    · have e : lastS s = k := by rw [← HL.out, lastFrom, if_pos hb]
      clear HL
      go_wp2
      go_ret
      exact ⟨(by first | rfl | (rw [e]; rfl)), rfl⟩
    · have hk0 : k ≠ 0 := fun h => hb (by rw [h]; exact h0)
      have HL2 : Hid (lastFrom s (k - 1 + 1) = lastS s) := by
        show _ = _
        rw [← HL.out, lastFrom.eq_def s (k + 1)]
        simp only [hb, if_false]
        rw [show k - 1 + 1 = k by omega]
      clear HL
      go_wp2
      go_roundw
      case rel => exact ⟨k - 1, by simp; omega, by omega, HL2, by trivial⟩
      case measure => simp [intOf]; omega

theorem root_false {s : ByteArray} (h : s.size ≠ 1) : (s.toList == [47]) = false := by
  rw [toList_one]
  exact decide_eq_false (fun hh => h hh.1)

set_option maxRecDepth 100000 in
set_option maxHeartbeats 1000000 in
theorem rparent_any (s : ByteArray) (h : okB s = true) (hr : (s.toList == [47]) = false) (w : World) :
    Calls Tryd.prog 13 #[.string s] w fun e w' => e = .returned (.tuple #[.string (parentS s), .int .i64 0]) ∧ ∃ n, w' = w.drewN n := by
  obtain ⟨x, y, z, _⟩ := ok_parts ((okB_iff s).1 h)
  have HK := Lib.hid h
  have hlt := (lastFrom_spec s z s.size x).1
  change lastS s < s.size at hlt
  clear h
  by_cases h0 : lastS s = 0
  · have e : parentS s = ⟨#[47]⟩ := by unfold parentS; rw [if_pos h0]
    rw [e]
    have HL : ∀ W, Calls Tryd.prog 34 #[.string s] W fun e w' => e = .returned (.int .i64 0) ∧ W = w' := fun W => by
      have := rlast_any s z x (by omega) W
      rw [h0] at this
      exact this
    have HLL := Lib.hid HL
    clear HL e h0 hlt
    go_enter Tryd.func13, Tryd.ntmps13
    go_wp2_with (first
      | (go_at_call 31; refine (rvalid_ok s _).mono ?_; rintro e w1 ⟨rfl, n0, rfl⟩; rw [HK.out])
      | (go_at_call 34; refine (HLL.out _).mono ?_; rintro e w2 ⟨rfl, rfl⟩))
    go_ret2
    exact ⟨rfl, n0, rfl⟩
  · have e : parentS s = s.extract 0 (lastS s) := by unfold parentS; rw [if_neg h0]
    rw [e]
    clear e
    go_enter Tryd.func13, Tryd.ntmps13
    go_wp2_with (first
      | (go_at_call 31; refine (rvalid_ok s _).mono ?_; rintro e w1 ⟨rfl, n0, rfl⟩; rw [HK.out])
      | (go_at_call 34; refine (rlast_any s z x (by omega) _).mono ?_; rintro e w2 ⟨rfl, rfl⟩))
    go_ret2
    exact ⟨rfl, n0, rfl⟩
end Go.Proofs.YtkhnchahoidbaaaDoor
