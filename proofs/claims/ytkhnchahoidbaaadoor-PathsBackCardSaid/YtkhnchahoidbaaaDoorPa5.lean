/- The first fault of a text by the reference: the walk. -/
import Derived.Test.YtkhnchahoidbaaaDoorPa3
namespace Go.Proofs.YtkhnchahoidbaaaDoor
open Go.RowKit

theorem take_takeWhile : ∀ (n : Nat) (m : List UInt8), n ≤ m.length → (∀ j, j < n → m[j]? ≠ some 47) → (n = m.length ∨ m[n]? = some 47) → m.take n = m.takeWhile (· != 47)
  | 0, m, _, _, hs => by
    cases m with
    | nil => rfl
    | cons b m =>
      rcases hs with hs | hs
      · simp at hs
      · simp at hs; subst hs; rfl
  | n + 1, [], h, _, _ => by simp at h
  | n + 1, b :: m, h, ha, hs => by
    have hb : b ≠ 47 := fun e => ha 0 (by omega) (by rw [e]; rfl)
    have := take_takeWhile n m (by simpa using h) (fun j hj => by have := ha (j + 1) (by omega); simpa using this) (by simpa using hs)
    simp [hb, this]
theorem part_extract (s : ByteArray) (i k : Nat) (h1 : i ≤ k) (h2 : k ≤ s.size) (ha : ∀ j, i ≤ j → j < k → byteAt s j ≠ 47) (hs : k = s.size ∨ byteAt s k = 47) : s.extract i k = ⟨(partL s i).toArray⟩ := by
  rw [Lib.extract_eq]
  unfold partL
  have hl : s.data.toList.length = s.size := (Lib.size_eq s).symm
  have hb : ∀ j, i + j < s.size → (s.data.toList.drop i)[j]? = some (UInt8.ofNat (byteAt s (i + j))) := fun j hj => by
    rw [List.getElem?_drop]
    exact byteAt_list s (i + j) hj
  have h47 : ∀ j, UInt8.ofNat (byteAt s j) = 47 → byteAt s j = 47 := fun j h => by
    have := congrArg UInt8.toNat h
    rw [UInt8.toNat_ofNat'] at this
    have hlt := byteAt_lt s j
    have e : (47 : UInt8).toNat = 47 := rfl
    rw [e] at this
    omega
  rw [take_takeWhile (k - i) (s.data.toList.drop i) (by rw [List.length_drop]; omega) (fun j hj h => by
    rw [hb j (by omega)] at h
    exact ha (i + j) (by omega) (by omega) (h47 _ (Option.some.inj h)))
    (by
      rcases hs with hs | hs
      · left; rw [List.length_drop]; omega
      · by_cases hk : k = s.size
        · left; rw [List.length_drop]; omega
        · right
          rw [hb (k - i) (by omega), show i + (k - i) = k by omega, hs]
          rfl)]

set_option maxRecDepth 100000 in
set_option maxHeartbeats 1000000 in
theorem part_any (s : ByteArray) (i : Nat) (hi : i ≤ s.size) (hs : s.size ≤ 140737488355328) (w : World) :
    Calls Tryd.prog 32 #[.string s, .int .i64 i] w fun e w' => e = .returned (.string ⟨(partL s i).toArray⟩) ∧ w = w' := by
  go_enter Tryd.func32, Tryd.ntmps32
  go_wp2
  go_loopw [5] (fun v wr => ∃ k : Nat, v = .int .i64 k ∧ i ≤ k ∧ k ≤ s.size ∧ (∀ j, i ≤ j → j < k → byteAt s j ≠ 47) ∧ wr = w) (fun v _ => s.size - (intOf v).toNat)
  case atStart => exact ⟨i, rfl, Nat.le_refl _, hi, fun j h1 h2 => absurd h1 (by omega), rfl⟩
  case round =>
    obtain ⟨k, rfl, h1, h2, ha, rfl⟩ := hrel
    by_cases hk : k < s.size
    · have hb0 := fun kd W => run_byte (P := Tryd.prog) W 9 s kd k Tryd.underlying9 hk
      have hbl := byteAt_lt s k
      by_cases hb : byteAt s k = 47
      · have he := part_extract s i k h1 h2 ha (.inr hb)
        go_wp2
        go_ret
        exact ⟨rfl, rfl⟩
      · go_wp2
        go_roundw
        case rel => exact ⟨k + 1, by simp, by omega, by omega, fun j hj1 hj2 => by
          rcases Nat.lt_or_ge j k with h | h
          · exact ha j hj1 h
          · rw [show j = k by omega]; exact hb, trivial⟩
        case measure => simp [intOf]; omega
    · have he := part_extract s i k h1 h2 ha (.inl (by omega))
      go_wp2
      go_ret
      exact ⟨rfl, rfl⟩

theorem part_at (s : ByteArray) (j : Int) (i : Nat) (hj : j = i) (hi : i ≤ s.size) (hs : s.size ≤ 140737488355328) (w : World) :
    Calls Tryd.prog 32 #[.string s, .int .i64 j] w fun e w' => e = .returned (.string ⟨(partL s i).toArray⟩) ∧ w = w' := by
  subst hj
  exact part_any s i hi hs w
/-- the reference's kind of a character -/
def ofR (s : ByteArray) (i : Nat) : Int := if charR s i < 0 then 8 else kindOf (charR s i)
theorem rof_at (s : ByteArray) (i : Nat) (w : World) : Calls Tryd.prog 71 #[.int .i64 (charR s i)] w fun e w' => e = .returned (.int .i64 (ofR s i)) ∧ w = w' := rof_any (charR s i) w
theorem ofR_plain (s : ByteArray) (i : Nat) : (ofR s i != 1) = !plainAt s i := by
  rw [Bool.eq_iff_iff]
  have := charR_plain s i
  unfold ofR
  simp only [bne_iff_ne, ne_eq, Bool.not_eq_true', this]
  simp

theorem toList_nil (s : ByteArray) : (s.toList == []) = decide (s.size = 0) := by
  rw [Lib.toList_data, Lib.size_eq]
  cases s.data.toList <;> simp
theorem toList_one (s : ByteArray) (b : UInt8) : (s.toList == [b]) = decide (s.size = 1 ∧ byteAt s 0 = b.toNat) := by
  rw [Lib.toList_data]
  by_cases h : s.size = 1
  · have h0 := byteAt_list s 0 (by omega)
    have hl : s.data.toList.length = 1 := by rw [← Lib.size_eq]; exact h
    have hb := byteAt_lt s 0
    obtain ⟨x, hx⟩ : ∃ x, s.data.toList = [x] := by
      match s.data.toList, hl with
      | [x], _ => exact ⟨x, rfl⟩
    rw [hx] at h0 ⊢
    simp only [List.getElem?_cons_zero, Option.some.injEq] at h0
    subst h0
    rw [Bool.eq_iff_iff]
    simp only [beq_iff_eq, List.cons.injEq, and_true, decide_eq_true_eq, h, true_and]
    constructor
    · rintro rfl
      rw [UInt8.toNat_ofNat']; omega
    · intro h
      rw [h]; simp
  · have hl : s.data.toList.length ≠ 1 := by rw [← Lib.size_eq]; exact h
    rw [Bool.eq_iff_iff]
    simp only [beq_iff_eq, decide_eq_true_eq, h, false_and, iff_false]
    intro e
    rw [e] at hl
    exact hl rfl

theorem retc {s : ByteArray} {a b : Int} (h : checkOf s = (a, b)) : Ending.returned (.tuple #[.int .i64 a, .int .i64 b]) = .returned (.tuple #[.int .i64 (checkOf s).1, .int .i64 (checkOf s).2]) := by rw [h]

set_option maxRecDepth 100000 in
set_option maxHeartbeats 2000000 in
theorem rcheck_any (s : ByteArray) (w : World) :
    Calls Tryd.prog 50 #[.string s] w fun e w' => e = .returned (.tuple #[.int .i64 (checkOf s).1, .int .i64 (checkOf s).2]) ∧ ∃ n, w' = w.drewN n := by
  have q0 := toList_nil s
  have q1 := toList_one s 47
  by_cases h0 : s.size = 0
  · have e : checkOf s = (1, 0) := by unfold checkOf; rw [if_pos h0]
    rw [h0] at q0
    go_enter Tryd.func50, Tryd.ntmps50
    go_wp2
    go_ret2
    exact ⟨(by first | rfl | exact retc e), 0, rfl⟩
  have q0' : (s.toList == []) = false := by rw [q0]; exact decide_eq_false h0
  by_cases h1 : 4096 < s.size
  · have e : checkOf s = (2, 4096) := by unfold checkOf; rw [if_neg h0, if_pos h1]
    go_enter Tryd.func50, Tryd.ntmps50
    go_wp2
    go_ret2
    exact ⟨(by first | rfl | exact retc e), 0, rfl⟩
  have hs : s.size ≤ 140737488355328 := by omega
  have hb0 := fun kd W => run_byte_at (P := Tryd.prog) W 9 s kd 0 0 Tryd.underlying9 rfl (by omega)
  have hbl := byteAt_lt s 0
  by_cases h2 : byteAt s 0 = 47
  · by_cases h3 : s.size = 1
    · have e : checkOf s = (0, -1) := by unfold checkOf; rw [if_neg h0, if_neg h1, if_neg (by omega), if_pos h3]
      have q1' : (s.toList == [47]) = true := by rw [q1]; exact decide_eq_true ⟨h3, h2⟩
      clear q1
      go_enter Tryd.func50, Tryd.ntmps50
      go_wp2
      go_ret2
      exact ⟨(by first | rfl | exact retc e), 0, rfl⟩
    · have q1' : (s.toList == [47]) = false := by rw [q1]; exact decide_eq_false (fun h => h3 h.1)
      clear q1
      have hbe := fun kd W => run_byte_at (P := Tryd.prog) W 9 s kd (↑s.size - 1) (s.size - 1) Tryd.underlying9 (by omega) (by omega)
      by_cases h4 : byteAt s (s.size - 1) = 47
      · have e : checkOf s = (4, (s.size : Int) - 1) := by unfold checkOf; rw [if_neg h0, if_neg h1, if_neg (by omega), if_neg h3, if_pos h4]
        go_enter Tryd.func50, Tryd.ntmps50
        go_wp2
        go_ret2
        exact ⟨(by first | rfl | exact retc e), 0, rfl⟩
      · have e : checkOf s = checkFrom s s.size 0 := by unfold checkOf; rw [if_neg h0, if_neg h1, if_neg (by omega), if_neg h3, if_neg h4]
        have HE := Lib.hid e
        have h4i : ((byteAt s (s.size - 1) : Int) == 47) = false := by rw [beq_eq_false_iff_ne]; omega
        clear e
        go_enter Tryd.func50, Tryd.ntmps50
        go_wp2
        go_loopw [4] (fun v wr => ∃ (pos fuel n : Nat), v = .int .i64 pos ∧ pos ≤ s.size ∧ s.size ≤ pos + fuel ∧ Hid (checkFrom s fuel pos = checkFrom s s.size 0) ∧ wr = w.drewN n) (fun v _ => s.size - (intOf v).toNat)
        case atStart => exact ⟨0, s.size, 0, rfl, by omega, by omega, rfl, rfl⟩
        case round =>
          obtain ⟨pos, fuel, n, rfl, hp, hf, HS, rfl⟩ := hrel
          by_cases hlt : pos < s.size
          · obtain ⟨fuel, rfl⟩ : ∃ f', fuel = f' + 1 := ⟨fuel - 1, by omega⟩
            have hx0 := fun kd W => run_byte (P := Tryd.prog) W 9 s kd pos Tryd.underlying9 hlt
            have hx1 := fun (h : 0 < pos) kd W => run_byte_at (P := Tryd.prog) W 9 s kd (↑pos - 1) (pos - 1) Tryd.underlying9 (by omega) (by omega)
            have hw0 := wid_pos s pos
            have hw1 := wid_le s pos hlt
            by_cases hb : byteAt s pos = 47
            · have hpl := slash_plain s pos hb
              have hw : wid s pos = 1 := (wid_ascii s pos (by omega)).1
              by_cases hv : 0 < pos ∧ byteAt s (pos - 1) = 47
              · obtain ⟨hz, hv⟩ := hv
                have hx1 := hx1 hz
                have ee : checkOf s = (5, (pos : Int)) := by rw [HE.out, ← HS.out, checkFrom, if_pos hlt, if_pos hb, if_pos ⟨hz, hv⟩]
                clear HE HS
                go_wp2_with (first
                | (go_at_call 32; refine (part_at s _ (pos + 1) (by omega) (by omega) hs _).mono ?_; rintro e w' ⟨rfl, rfl⟩)
                | (go_at_call 70; refine (char_any s pos hlt hs _).mono ?_; rintro e w' ⟨rfl, rfl⟩)
                | (go_at_call 71; refine (rof_at s pos _).mono ?_; rintro e w' ⟨rfl, rfl⟩))
                go_ret2
                exact ⟨(by first | rfl | exact retc ee), n, rfl⟩
              · rcases Bool.eq_false_or_eq_true (partL s (pos + 1) == [46]) with p1 | p1
                · have hd : dotsL (partL s (pos + 1)) = true := by unfold dotsL; rw [p1]; rfl
                  by_cases hz : ¬ 0 < pos
                  · skip
                    have ee : checkOf s = (6, (pos : Int) + 1) := by rw [HE.out, ← HS.out, checkFrom, if_pos hlt, if_pos hb, if_neg hv, if_pos hd]
                    clear HE HS
                    go_wp2_with (first
                | (go_at_call 32; refine (part_at s _ (pos + 1) (by omega) (by omega) hs _).mono ?_; rintro e w' ⟨rfl, rfl⟩)
                | (go_at_call 70; refine (char_any s pos hlt hs _).mono ?_; rintro e w' ⟨rfl, rfl⟩)
                | (go_at_call 71; refine (rof_at s pos _).mono ?_; rintro e w' ⟨rfl, rfl⟩))
                    go_ret2
                    exact ⟨(by first | rfl | exact retc ee), n, rfl⟩
                  · have hz : 0 < pos := by omega
                    have hx1 := hx1 hz
                    have hv : ¬ byteAt s (pos - 1) = 47 := fun h => hv ⟨hz, h⟩
                    have ee : checkOf s = (6, (pos : Int) + 1) := by rw [HE.out, ← HS.out, checkFrom, if_pos hlt, if_pos hb, if_neg (fun h => hv h.2), if_pos hd]
                    clear HE HS
                    go_wp2_with (first
                | (go_at_call 32; refine (part_at s _ (pos + 1) (by omega) (by omega) hs _).mono ?_; rintro e w' ⟨rfl, rfl⟩)
                | (go_at_call 70; refine (char_any s pos hlt hs _).mono ?_; rintro e w' ⟨rfl, rfl⟩)
                | (go_at_call 71; refine (rof_at s pos _).mono ?_; rintro e w' ⟨rfl, rfl⟩))
                    go_ret2
                    exact ⟨(by first | rfl | exact retc ee), n, rfl⟩
                · rcases Bool.eq_false_or_eq_true (partL s (pos + 1) == [46, 46]) with p2 | p2
                  · have hd : dotsL (partL s (pos + 1)) = true := by unfold dotsL; rw [p1, p2]; rfl
                    by_cases hz : ¬ 0 < pos
                    · skip
                      have ee : checkOf s = (6, (pos : Int) + 1) := by rw [HE.out, ← HS.out, checkFrom, if_pos hlt, if_pos hb, if_neg hv, if_pos hd]
                      clear HE HS
                      go_wp2_with (first
                | (go_at_call 32; refine (part_at s _ (pos + 1) (by omega) (by omega) hs _).mono ?_; rintro e w' ⟨rfl, rfl⟩)
                | (go_at_call 70; refine (char_any s pos hlt hs _).mono ?_; rintro e w' ⟨rfl, rfl⟩)
                | (go_at_call 71; refine (rof_at s pos _).mono ?_; rintro e w' ⟨rfl, rfl⟩))
                      go_ret2
                      exact ⟨(by first | rfl | exact retc ee), n, rfl⟩
                    · have hz : 0 < pos := by omega
                      have hx1 := hx1 hz
                      have hv : ¬ byteAt s (pos - 1) = 47 := fun h => hv ⟨hz, h⟩
                      have ee : checkOf s = (6, (pos : Int) + 1) := by rw [HE.out, ← HS.out, checkFrom, if_pos hlt, if_pos hb, if_neg (fun h => hv h.2), if_pos hd]
                      clear HE HS
                      go_wp2_with (first
                | (go_at_call 32; refine (part_at s _ (pos + 1) (by omega) (by omega) hs _).mono ?_; rintro e w' ⟨rfl, rfl⟩)
                | (go_at_call 70; refine (char_any s pos hlt hs _).mono ?_; rintro e w' ⟨rfl, rfl⟩)
                | (go_at_call 71; refine (rof_at s pos _).mono ?_; rintro e w' ⟨rfl, rfl⟩))
                      go_ret2
                      exact ⟨(by first | rfl | exact retc ee), n, rfl⟩
                  · have hd : ¬ dotsL (partL s (pos + 1)) = true := by unfold dotsL; rw [p1, p2]; decide
                    by_cases hz : ¬ 0 < pos
                    · skip
                      have HS2 : Hid (checkFrom s fuel (pos + wid s pos) = checkFrom s s.size 0) := by show _ = _; rw [← HS.out, checkFrom, if_pos hlt, if_pos hb, if_neg hv, if_neg hd, hw]
                      have hk : (ofR s pos != 1) = false := by rw [ofR_plain, hpl]; rfl
                      clear HS
                      go_wp2_with (first
                | (go_at_call 32; refine (part_at s _ (pos + 1) (by omega) (by omega) hs _).mono ?_; rintro e w' ⟨rfl, rfl⟩)
                | (go_at_call 70; refine (char_any s pos hlt hs _).mono ?_; rintro e w' ⟨rfl, rfl⟩)
                | (go_at_call 71; refine (rof_at s pos _).mono ?_; rintro e w' ⟨rfl, rfl⟩))
                      go_roundw
                      case rel => exact ⟨pos + wid s pos, fuel, n, (by first | (simp; done) | (simp; omega)), by omega, by omega, HS2, rfl⟩
                      case measure => simp [intOf]; omega
                    · have hz : 0 < pos := by omega
                      have hx1 := hx1 hz
                      have hv : ¬ byteAt s (pos - 1) = 47 := fun h => hv ⟨hz, h⟩
                      have HS2 : Hid (checkFrom s fuel (pos + wid s pos) = checkFrom s s.size 0) := by show _ = _; rw [← HS.out, checkFrom, if_pos hlt, if_pos hb, if_neg (fun h => hv h.2), if_neg hd, hw]
                      have hk : (ofR s pos != 1) = false := by rw [ofR_plain, hpl]; rfl
                      clear HS
                      go_wp2_with (first
                | (go_at_call 32; refine (part_at s _ (pos + 1) (by omega) (by omega) hs _).mono ?_; rintro e w' ⟨rfl, rfl⟩)
                | (go_at_call 70; refine (char_any s pos hlt hs _).mono ?_; rintro e w' ⟨rfl, rfl⟩)
                | (go_at_call 71; refine (rof_at s pos _).mono ?_; rintro e w' ⟨rfl, rfl⟩))
                      go_roundw
                      case rel => exact ⟨pos + wid s pos, fuel, n, (by first | (simp; done) | (simp; omega)), by omega, by omega, HS2, rfl⟩
                      case measure => simp [intOf]; omega
            · rcases Bool.eq_false_or_eq_true (plainAt s pos) with hpl | hpl
              · have HS2 : Hid (checkFrom s fuel (pos + wid s pos) = checkFrom s s.size 0) := by show _ = _; rw [← HS.out, checkFrom, if_pos hlt, if_neg hb, if_pos hpl]
                have hk : (ofR s pos != 1) = false := by rw [ofR_plain, hpl]; rfl
                clear HS
                go_wp2_with (first
                | (go_at_call 32; refine (part_at s _ (pos + 1) (by omega) (by omega) hs _).mono ?_; rintro e w' ⟨rfl, rfl⟩)
                | (go_at_call 70; refine (char_any s pos hlt hs _).mono ?_; rintro e w' ⟨rfl, rfl⟩)
                | (go_at_call 71; refine (rof_at s pos _).mono ?_; rintro e w' ⟨rfl, rfl⟩))
                go_roundw
                case rel => exact ⟨pos + wid s pos, fuel, n, (by first | (simp; done) | (simp; omega)), by omega, by omega, HS2, rfl⟩
                case measure => simp [intOf]; omega
              · have hk : (ofR s pos != 1) = true := by rw [ofR_plain, hpl]; rfl
                have ee : checkOf s = (7, (pos : Int)) := by rw [HE.out, ← HS.out, checkFrom, if_pos hlt, if_neg hb, if_neg (by simp [hpl])]
                clear HE HS
                go_wp2_with (first
                | (go_at_call 32; refine (part_at s _ (pos + 1) (by omega) (by omega) hs _).mono ?_; rintro e w' ⟨rfl, rfl⟩)
                | (go_at_call 70; refine (char_any s pos hlt hs _).mono ?_; rintro e w' ⟨rfl, rfl⟩)
                | (go_at_call 71; refine (rof_at s pos _).mono ?_; rintro e w' ⟨rfl, rfl⟩))
                go_ret2
                exact ⟨(by first | rfl | exact retc ee), n, rfl⟩
          · have ee : checkOf s = (0, -1) := by
              rw [HE.out, ← HS.out]
              cases fuel with
              | zero => rfl
              | succ f => rw [checkFrom, if_neg hlt]
            clear HE
            go_wp2
            go_ret2
            exact ⟨(by first | rfl | exact retc ee), n, rfl⟩
  · have e : checkOf s = (3, 0) := by unfold checkOf; rw [if_neg h0, if_neg h1, if_pos h2]
    go_enter Tryd.func50, Tryd.ntmps50
    go_wp2
    go_ret2
    exact ⟨(by first | rfl | exact retc e), 0, rfl⟩
end Go.Proofs.YtkhnchahoidbaaaDoor
