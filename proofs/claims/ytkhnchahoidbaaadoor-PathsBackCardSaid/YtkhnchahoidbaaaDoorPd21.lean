/- What the library's ParseInt makes of ten bytes. -/
import Derived.Test.YtkhnchahoidbaaaDoorPd20
import Derived.Shelf.Strconv.ParseIntPublic10
namespace Go.Proofs.YtkhnchahoidbaaaDoor
open Go.RowKit

theorem drop_byte (a : ByteArray) (k : Nat) (h : k < a.size) : a.data.toList.drop k = UInt8.ofNat (byteAt a k) :: a.data.toList.drop (k + 1) := by
  have hl : k < a.data.toList.length := by rw [← Lib.size_eq]; exact h
  rw [List.drop_eq_getElem_cons hl]
  have := byteAt_list a k h
  rw [List.getElem?_eq_getElem hl] at this
  rw [Option.some.inj this]
theorem drop_end (a : ByteArray) (k : Nat) (h : a.size ≤ k) : a.data.toList.drop k = [] := List.drop_eq_nil_of_le (by rw [← Lib.size_eq]; exact h)
theorem valN_mono (s : ByteArray) (o j n : Nat) (h : j ≤ n) : valN s o j ≤ valN s o n := by
  induction n with
  | zero => rw [show j = 0 by omega]; exact Nat.le_refl _
  | succ n ih =>
    rcases Nat.eq_or_lt_of_le h with rfl | h'
    · exact Nat.le_refl _
    · have := ih (by omega)
      rw [valN]
      omega
theorem parseM (s : ByteArray) (o n M : Nat) (hn : o + n = s.size) (hd : digN s o n = true) (hM : M < 1844674407370955162) : ∀ i j, i + j = n → valN s o j ≤ M →
    Lib.parseUintM M (valN s o j) (s.data.toList.drop (o + j)) = if valN s o n ≤ M then .ok (valN s o n) else .range := by
  intro i
  induction i with
  | zero =>
    intro j hj hv
    have : j = n := by omega
    subst this
    rw [drop_end s (o + j) (by omega), Lib.parseUintM, if_pos hv]
  | succ i ih =>
    intro j hj hv
    have hb := (digN_iff s o n).1 hd j (by omega)
    have hlt := byteAt_lt s (o + j)
    rw [drop_byte s (o + j) (by omega), Lib.parseUintM]
    have ht : (UInt8.ofNat (byteAt s (o + j))).toNat = byteAt s (o + j) := by rw [UInt8.toNat_ofNat']; omega
    rw [ht, if_pos hb, if_neg (by omega)]
    have hstep : valN s o (j + 1) = valN s o j * 10 + (byteAt s (o + j) - 48) := rfl
    have hmono := valN_mono s o (j + 1) n (by omega)
    rw [← hstep]
    by_cases h : M < valN s o (j + 1)
    · rw [if_pos h, if_neg (by omega)]
    · rw [if_neg h, show o + j + 1 = o + (j + 1) by omega]
      exact ih (j + 1) (by omega) (by omega)
theorem parseU (s : ByteArray) (o n : Nat) (h1 : 1 ≤ n) (hn : o + n = s.size) (hd : digN s o n = true) :
    Lib.parseUintB 32 (s.data.toList.drop o) = if valN s o n ≤ 4294967295 then .ok (valN s o n) else .range := by
  unfold Lib.parseUintB
  rw [if_neg (by rw [drop_byte s o (by omega)]; simp)]
  exact parseM s o n 4294967295 hn hd (by decide) n 0 (by omega) (Nat.zero_le _)
theorem list_head (s : ByteArray) (h : 0 < s.size) : s.data.toList = UInt8.ofNat (byteAt s 0) :: s.data.toList.drop 1 := by
  have := drop_byte s 0 h
  rwa [List.drop_zero] at this
theorem parse_dig (t : ByteArray) (hz : t.size = 10) (hd : digB t = true) : Lib.parseIntB 32 t.data.toList = if valB t ≤ 2147483647 then .ok (valB t : Int) else .range := by
  have hb := (digN_iff t 0 t.size).1 hd 0 (by omega)
  have hlt := byteAt_lt t 0
  have hU := parseU t 0 10 (by decide) (by omega) (by unfold digB at hd; rwa [hz] at hd)
  have hv : valN t 0 10 = valB t := by unfold valB; rw [hz]
  rw [hv, List.drop_zero] at hU
  have ht : (UInt8.ofNat (byteAt t 0)).toNat = byteAt t 0 := by rw [UInt8.toNat_ofNat']; omega
  rw [Nat.zero_add] at hb
  have hl := list_head t (by omega)
  have hnn : ¬ (byteAt t 0 = 43 ∨ byteAt t 0 = 45) := by omega
  have hn5 : ¬ (byteAt t 0 = 45) := by omega
  rw [hl] at hU ⊢
  simp only [Lib.parseIntB, ht, if_neg hnn, hU]
  by_cases h1 : valB t ≤ 4294967295
  · rw [if_pos h1]
    simp only [hn5, not_false_eq_true, true_and, false_and, if_false]
    by_cases h2 : valB t ≤ 2147483647
    · rw [if_neg (by omega), if_pos h2]
    · rw [if_pos (by omega), if_neg h2]
  · rw [if_neg h1, if_neg (by omega)]
theorem parse_neg (t : ByteArray) (hz : t.size = 10) (h0 : byteAt t 0 = 45) (hd : digN t 1 9 = true) : Lib.parseIntB 32 t.data.toList = .ok (-(valN t 1 9 : Int)) := by
  have hU := parseU t 1 9 (by decide) (by omega) hd
  have hv := valN_lt t 1 9 hd
  rw [if_pos (by omega)] at hU
  have ht : (UInt8.ofNat (byteAt t 0)).toNat = 45 := by rw [UInt8.toNat_ofNat', h0]
  have hl := list_head t (by omega)
  rw [hl]
  simp only [Lib.parseIntB, ht, hU]
  simp only [or_true, if_true, hU, not_true_eq_false, false_and, if_false, true_and]
  rw [if_neg (by omega)]
end Go.Proofs.YtkhnchahoidbaaaDoor
