/- Digits: what a text of digits spells; by the reference, by the program, by the library. -/
import Derived.Test.YtkhnchahoidbaaaDoorPd17
import Derived.Lib.ParseIntB
import Derived.Shelf.GgClosure.StringsIndexFuncTop
namespace Go.Proofs.YtkhnchahoidbaaaDoor
open Go.RowKit

def dgt (b : Nat) : Bool := decide (48 ≤ b ∧ b ≤ 57)
/-- what the first k bytes spell; are all digits? -/
def valN (s : ByteArray) (o : Nat) : Nat → Nat
  | 0 => 0
  | k + 1 => valN s o k * 10 + (byteAt s (o + k) - 48)
def digN (s : ByteArray) (o : Nat) : Nat → Bool
  | 0 => true
  | k + 1 => digN s o k && dgt (byteAt s (o + k))
theorem digN_iff (s : ByteArray) (o k : Nat) : digN s o k = true ↔ ∀ j, j < k → 48 ≤ byteAt s (o + j) ∧ byteAt s (o + j) ≤ 57 := by
  induction k with
  | zero => simp [digN]
  | succ k ih =>
    rw [digN, Bool.and_eq_true, ih]
    unfold dgt
    rw [decide_eq_true_eq]
    constructor
    · rintro ⟨h1, h2⟩ j hj
      rcases Nat.eq_or_lt_of_le (Nat.le_of_lt_succ hj) with rfl | h
      · exact h2
      · exact h1 j h
    · exact fun h => ⟨fun j hj => h j (by omega), h k (by omega)⟩
theorem valN_lt (s : ByteArray) (o k : Nat) (h : digN s o k = true) : valN s o k < 10 ^ k := by
  induction k with
  | zero => simp [valN]
  | succ k ih =>
    rw [digN, Bool.and_eq_true] at h
    have := ih h.1
    have h2 : 48 ≤ byteAt s (o + k) ∧ byteAt s (o + k) ≤ 57 := of_decide_eq_true h.2
    rw [valN, Nat.pow_succ]
    omega
def digB (s : ByteArray) : Bool := digN s 0 s.size
def valB (s : ByteArray) : Nat := valN s 0 s.size
def digV (s : ByteArray) : Int := if digB s = true then (valB s : Int) else -1

theorem dig_false (s : ByteArray) (k : Nat) (hk : k < s.size) (h : ¬ (48 ≤ byteAt s k ∧ byteAt s k ≤ 57)) : digB s = false := by
  rw [Bool.eq_false_iff]
  intro hd
  have := (digN_iff s 0 s.size).1 hd k hk
  rw [Nat.zero_add] at this
  exact h this

set_option maxRecDepth 100000 in
set_option maxHeartbeats 1000000 in
theorem digits_any (s : ByteArray) (hs : s.size ≤ 18) (w : World) :
    Calls Tryd.prog 43 #[.string s] w fun e w' => e = .returned (.int .i64 (digV s)) ∧ w = w' := by
  have HV : Hid (digV s = if digB s = true then (valB s : Int) else -1) := rfl
  generalize digV s = dv at HV ⊢
  go_enter Tryd.func43, Tryd.ntmps43
  go_wp2
  go_loopw [3, 4] (fun u v wr => ∃ k : Nat, u = .int .i64 (valN s 0 k) ∧ v = .int .i64 k ∧ k ≤ s.size ∧ digN s 0 k = true ∧ wr = w) (fun _ v _ => s.size - (intOf v).toNat)
  case atStart => exact ⟨0, rfl, rfl, by omega, rfl, rfl⟩
  case round =>
    obtain ⟨k, rfl, rfl, hk, hd, rfl⟩ := hrel
    have hv := valN_lt s 0 k hd
    have hp : 10 ^ k ≤ 10 ^ 18 := Nat.pow_le_pow_right (by decide) (by omega)
    by_cases hlt : k < s.size
    · have hx := fun kd W => run_byte (P := Tryd.prog) W 9 s kd k Tryd.underlying9 hlt
      have hbl := byteAt_lt s k
      by_cases h1 : 48 ≤ byteAt s k
      · by_cases h2 : byteAt s k ≤ 57
        · have hv2 : valN s 0 (k + 1) = valN s 0 k * 10 + (byteAt s k - 48) := by rw [valN, Nat.zero_add]
          have hd2 : digN s 0 (k + 1) = true := by
            rw [digN, hd, Nat.zero_add]
            exact decide_eq_true ⟨h1, h2⟩
          have hp2 : 10 ^ k ≤ 10 ^ 17 := Nat.pow_le_pow_right (by decide) (by omega)
          have hsub : ((byteAt s k : Int) - 48) = ((byteAt s k - 48 : Nat) : Int) := by omega
          clear hd HV
          generalize valN s 0 k = vk at hv hv2
          generalize byteAt s k = bk at *
          go_wp2
          go_roundw
          case rel => exact ⟨k + 1, by rw [hv2]; simp only [wrap64, Value.int.injEq, true_and]; omega, by simp, by omega, hd2, by trivial⟩
          case measure => simp [intOf]; omega
        · have e : dv = -1 := by rw [HV.out, dig_false s k hlt (by omega)]; rfl
          clear HV hd
          go_wp2
          go_ret
          exact ⟨by first | rfl | (rw [e]; rfl), rfl⟩
      · have e : dv = -1 := by rw [HV.out, dig_false s k hlt (by omega)]; rfl
        clear HV hd
        go_wp2
        go_ret
        exact ⟨by first | rfl | (rw [e]; rfl), rfl⟩
    · have hks : k = s.size := by omega
      have e : dv = valN s 0 k := by
        rw [HV.out]
        unfold digB valB
        rw [← hks, if_pos hd]
      clear HV hd
      go_wp2
      go_ret
      exact ⟨by first | rfl | (rw [e]; rfl), rfl⟩

/-! ### the closure -/
def badRune (x : Nat) : Bool := decide (x < 48 ∨ 57 < x)
theorem idx_digits (s : ByteArray) : ∀ f pos, s.size ≤ pos + f → ((Lib.idxFuncFrom badRune true s f pos = -1) ↔ ∀ j, pos ≤ j → j < s.size → 48 ≤ byteAt s j ∧ byteAt s j ≤ 57) := by
  intro f
  induction f with
  | zero => intro pos h; exact ⟨fun _ j h1 h2 => by omega, fun _ => rfl⟩
  | succ f ih =>
    intro pos h
    rw [Lib.idxFuncFrom]
    by_cases hp : pos < s.size
    · rw [if_pos hp]
      have hw := wid_pos s pos
      by_cases hb : 48 ≤ byteAt s pos ∧ byteAt s pos ≤ 57
      · obtain ⟨h1, h2⟩ := wid_ascii s pos (by omega)
        change (Utf8.decode s pos).2 = 1 at h1
        change (Utf8.decode s pos).1 = byteAt s pos at h2
        have hn : ¬ badRune (byteAt s pos) = true := by
          unfold badRune
          rw [decide_eq_true_eq]
          omega
        rw [h1, h2, if_neg hn, ih (pos + 1) (by omega)]
        constructor
        · intro hj j h3 h4
          rcases Nat.eq_or_lt_of_le h3 with rfl | h5
          · exact hb
          · exact hj j (by omega) h4
        · exact fun hj j h3 h4 => hj j (by omega) h4
      · have hy : badRune (Utf8.decode s pos).1 = true := by
          unfold badRune
          rw [decide_eq_true_eq]
          rcases Nat.lt_or_ge (rn s pos) 128 with h5 | h5
          · have := (rn_ascii s pos h5).2
            change (Utf8.decode s pos).1 < 48 ∨ _
            have h6 : (Utf8.decode s pos).1 = rn s pos := rfl
            omega
          · have h6 : (Utf8.decode s pos).1 = rn s pos := rfl
            omega
        rw [if_pos hy]
        constructor
        · intro h'; omega
        · intro hj; exact absurd (hj pos (Nat.le_refl _) hp) hb
    · rw [if_neg hp]
      exact ⟨fun _ j h1 h2 => by omega, fun _ => rfl⟩
theorem idx_dig (s : ByteArray) : (!decide (0 ≤ Lib.idxFunc badRune true s)) = digB s := by
  have h := idx_digits s s.size 0 (by omega)
  have hr := Lib.idxFuncFrom_range badRune true s s.size 0
  unfold Lib.idxFunc
  rw [Bool.eq_iff_iff]
  simp only [Bool.not_eq_true', decide_eq_false_iff_not]
  unfold digB
  rw [digN_iff]
  simp only [Nat.zero_add]
  constructor
  · intro h0 j hj
    refine h.1 ?_ j (Nat.zero_le _) hj
    rcases hr with hr | hr
    · exact hr
    · omega
  · intro hj h0
    have := h.2 (fun j _ hj' => hj j hj')
    omega

set_option maxRecDepth 100000 in
theorem pred_any (w : World) : PredAtRunes Tryd.prog 61 #[] badRune w := by
  intro W x hx _
  unfold FnGives
  show Calls Tryd.prog 61 #[.int .i32 x] W _
  by_cases h1 : x < 48
  · have e : badRune x = true := decide_eq_true (.inl h1)
    rw [e]
    go_enter Tryd.func61, Tryd.ntmps61
    go_wp2
    go_ret
    exact ⟨retb (by first | (simp; done) | (simp; omega) | (simp_all; done) | (simp_all; omega)), 0, rfl⟩
  · by_cases h2 : 57 < x
    · have e : badRune x = true := decide_eq_true (.inr h2)
      rw [e]
      go_enter Tryd.func61, Tryd.ntmps61
      go_wp2
      go_ret
      exact ⟨retb (by first | (simp; done) | (simp; omega) | (simp_all; done) | (simp_all; omega)), 0, rfl⟩
    · have e : badRune x = false := decide_eq_false (by omega)
      rw [e]
      go_enter Tryd.func61, Tryd.ntmps61
      go_wp2
      go_ret
      exact ⟨retb (by first | (simp; done) | (simp; omega) | (simp_all; done) | (simp_all; omega)), 0, rfl⟩

theorem decimal_any (s : ByteArray) (w : World) : Calls Tryd.prog 42 #[.string s] w fun e w' => e = .returned (.bool (digB s)) ∧ Below w.heap.size w w' := by
  have HC : Hid (∀ W, Calls Tryd.prog 60 #[.string s, .func (.func 61) #[] #[]] W fun e w' => e = .returned (.bool (!digB s)) ∧ Below W.heap.size W w') := fun W => by
    have := Tryd.strings_ContainsFunc_runes 61 #[] (fun args w => by simp [callFunc, Tryd.func61]; rfl) badRune s W (pred_any W)
    have e := idx_dig s
    rw [← e, Bool.not_not]
    exact this
  generalize digB s = db at HC ⊢
  go_enter Tryd.func42, Tryd.ntmps42
  go_wp2_with (go_at_call 60; refine (HC.out _).mono ?_; rintro e w1 ⟨rfl, hb1⟩)
  go_ret
  exact ⟨by simp, hb1⟩
end Go.Proofs.YtkhnchahoidbaaaDoor
