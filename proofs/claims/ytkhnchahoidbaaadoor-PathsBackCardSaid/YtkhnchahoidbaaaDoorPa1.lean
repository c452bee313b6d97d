/- Plain laws: characters of a text and its first fault, by bytes. -/
import Derived.Test.YtkhnchahoidbaaaDoorWords
import Derived.Lib.Strings
import Derived.Lib.IndexMore
import Derived.Lib.OthersKept
namespace Go.Proofs.YtkhnchahoidbaaaDoor
open Go.RowKit

/-- a byte of a text as a number -/
def byteAt (s : ByteArray) (i : Nat) : Nat := (s.get! i).toNat
theorem byteAt_lt (s : ByteArray) (i : Nat) : byteAt s i < 256 := (s.get! i).toNat_lt
theorem byteAt_get (s : ByteArray) (i : Nat) (h : i < s.size) : (s[i]'h).toNat = byteAt s i := by
  unfold byteAt
  congr 1
  show s.data[i]'h = s.data[i]!
  rw [getElem!_pos s.data i h]
theorem byteAt_list (s : ByteArray) (i : Nat) (h : i < s.size) : s.data.toList[i]? = some (UInt8.ofNat (byteAt s i)) := by
  have h' : i < s.data.toList.length := by rw [← Lib.size_eq]; exact h
  rw [List.getElem?_eq_getElem h', ← byteAt_get s i h]
  simp
  rfl
theorem run_byte {P : Program} (w : World) (t : TypeId) (s : ByteArray) (k : IntKind) (i : Nat) (h : P.underlying t = some .string) (hi : i < s.size) :
    (Instr.index t (.string s) (.int k (i : Int))).run P w = .ok (.int .u8 (byteAt s i : Int)) w := by
  rw [run_index_string w t s k i h, dif_pos ⟨by omega, by omega⟩]
  have : (s[(i : Int).toNat]'(by omega)).toNat = byteAt s i := byteAt_get s i hi
  rw [this]

theorem run_byte_at {P : Program} (w : World) (t : TypeId) (s : ByteArray) (k : IntKind) (j : Int) (i : Nat) (h : P.underlying t = some .string) (hj : j = i) (hi : i < s.size) :
    (Instr.index t (.string s) (.int k j)).run P w = .ok (.int .u8 (byteAt s i : Int)) w := by
  subst hj
  exact run_byte w t s k i h hi

/-- a character's kind -/
def kindOf (r : Int) : Int :=
  if r < 0 ∨ 1114111 < r then 0 else if r = 0 then 2 else if r ≤ 31 ∨ (127 ≤ r ∧ r ≤ 159) then 3 else if 55296 ≤ r ∧ r ≤ 57343 then 4
  else if 57344 ≤ r ∧ r ≤ 63743 then 5 else if 65520 ≤ r ∧ r ≤ 65535 then 6 else if 65536 ≤ r then 7 else 1

/-- a character at a place: its number, its width -/
def rn (s : ByteArray) (i : Nat) : Nat := (Utf8.decode s i).1
def wid (s : ByteArray) (i : Nat) : Nat := (Utf8.decode s i).2
def plainAt (s : ByteArray) (i : Nat) : Bool := kindOf (rn s i) == 1

theorem decode_of (s : ByteArray) (i : Nat) : Utf8.decode s i =
    if byteAt s i < 128 then (byteAt s i, 1)
    else if (192 ≤ byteAt s i ∧ byteAt s i < 224) ∧ (i + 1 < s.size ∧ 128 ≤ byteAt s (i + 1) ∧ byteAt s (i + 1) < 192) then
      (if 128 ≤ (byteAt s i - 192) * 64 + (byteAt s (i + 1) - 128) then ((byteAt s i - 192) * 64 + (byteAt s (i + 1) - 128), 2) else (65533, 1))
    else if (224 ≤ byteAt s i ∧ byteAt s i < 240) ∧ (i + 1 < s.size ∧ 128 ≤ byteAt s (i + 1) ∧ byteAt s (i + 1) < 192) ∧ (i + 2 < s.size ∧ 128 ≤ byteAt s (i + 2) ∧ byteAt s (i + 2) < 192) then
      (if 2048 ≤ (byteAt s i - 224) * 4096 + (byteAt s (i + 1) - 128) * 64 + (byteAt s (i + 2) - 128) ∧ ¬ (55296 ≤ (byteAt s i - 224) * 4096 + (byteAt s (i + 1) - 128) * 64 + (byteAt s (i + 2) - 128) ∧ (byteAt s i - 224) * 4096 + (byteAt s (i + 1) - 128) * 64 + (byteAt s (i + 2) - 128) ≤ 57343)
        then ((byteAt s i - 224) * 4096 + (byteAt s (i + 1) - 128) * 64 + (byteAt s (i + 2) - 128), 3) else (65533, 1))
    else if (240 ≤ byteAt s i ∧ byteAt s i < 248) ∧ (i + 1 < s.size ∧ 128 ≤ byteAt s (i + 1) ∧ byteAt s (i + 1) < 192) ∧ (i + 2 < s.size ∧ 128 ≤ byteAt s (i + 2) ∧ byteAt s (i + 2) < 192) ∧ (i + 3 < s.size ∧ 128 ≤ byteAt s (i + 3) ∧ byteAt s (i + 3) < 192) then
      (if 65536 ≤ (byteAt s i - 240) * 262144 + (byteAt s (i + 1) - 128) * 4096 + (byteAt s (i + 2) - 128) * 64 + (byteAt s (i + 3) - 128) ∧ (byteAt s i - 240) * 262144 + (byteAt s (i + 1) - 128) * 4096 + (byteAt s (i + 2) - 128) * 64 + (byteAt s (i + 3) - 128) ≤ 1114111
        then ((byteAt s i - 240) * 262144 + (byteAt s (i + 1) - 128) * 4096 + (byteAt s (i + 2) - 128) * 64 + (byteAt s (i + 3) - 128), 4) else (65533, 1))
    else (65533, 1) := by
  have b0 := byteAt_lt s i
  have c : ∀ k, (decide (i + k < s.size) && (byteAt s (i + k) / 64 == 2)) = decide (i + k < s.size ∧ 128 ≤ byteAt s (i + k) ∧ byteAt s (i + k) < 192) := by
    intro k
    rw [Bool.eq_iff_iff]
    simp only [Bool.and_eq_true, decide_eq_true_eq, beq_iff_eq]
    omega
  have h1 : ∀ k, (s.get! k).toNat = byteAt s k := fun _ => rfl
  simp only [Utf8.decode, Utf8.runeError, Nat.add_zero, h1, c]
  by_cases g0 : byteAt s i < 128
  · simp [g0]
  rw [if_neg g0, if_neg g0]
  have e2 : (byteAt s i / 32 == 6) = decide (192 ≤ byteAt s i ∧ byteAt s i < 224) := by
    rw [Bool.eq_iff_iff]; simp only [decide_eq_true_eq, beq_iff_eq]; omega
  have e3 : (byteAt s i / 16 == 14) = decide (224 ≤ byteAt s i ∧ byteAt s i < 240) := by
    rw [Bool.eq_iff_iff]; simp only [decide_eq_true_eq, beq_iff_eq]; omega
  have e4 : (byteAt s i / 8 == 30) = decide (240 ≤ byteAt s i ∧ byteAt s i < 248) := by
    rw [Bool.eq_iff_iff]; simp only [decide_eq_true_eq, beq_iff_eq]; omega
  simp only [e2, e3, e4, Bool.and_eq_true, decide_eq_true_eq, and_assoc]
  split
  · rename_i h
    rw [show byteAt s i % 32 = byteAt s i - 192 by omega, show byteAt s (i + 1) % 64 = byteAt s (i + 1) - 128 by omega]
  · split
    · rename_i h
      rw [show byteAt s i % 16 = byteAt s i - 224 by omega, show byteAt s (i + 1) % 64 = byteAt s (i + 1) - 128 by omega, show byteAt s (i + 2) % 64 = byteAt s (i + 2) - 128 by omega]
      simp only [Utf8.valid, Bool.or_eq_true, Bool.and_eq_true, decide_eq_true_eq]
      congr 1
      apply propext
      omega
    · split
      · rename_i h
        rw [show byteAt s i % 8 = byteAt s i - 240 by omega, show byteAt s (i + 1) % 64 = byteAt s (i + 1) - 128 by omega, show byteAt s (i + 2) % 64 = byteAt s (i + 2) - 128 by omega, show byteAt s (i + 3) % 64 = byteAt s (i + 3) - 128 by omega]
        simp only [Utf8.valid, Bool.or_eq_true, Bool.and_eq_true, decide_eq_true_eq]
        congr 1
        apply propext
        omega
      · rfl

theorem wid_pos (s : ByteArray) (i : Nat) : 0 < wid s i := by
  unfold wid
  rw [decode_of]
  repeat' split
  all_goals (simp only []; omega)
theorem wid_le (s : ByteArray) (i : Nat) (h : i < s.size) : i + wid s i ≤ s.size := by
  unfold wid
  rw [decode_of]
  repeat' split
  all_goals (simp only []; omega)
theorem rn_le (s : ByteArray) (i : Nat) : rn s i ≤ 1114111 := by
  unfold rn
  rw [decode_of]
  have b0 := byteAt_lt s i
  repeat' split
  all_goals (simp only []; omega)
theorem wid_ascii (s : ByteArray) (i : Nat) (h : byteAt s i < 128) : wid s i = 1 ∧ rn s i = byteAt s i := by
  unfold wid rn
  rw [decode_of, if_pos h]
  exact ⟨rfl, rfl⟩
theorem rn_ascii (s : ByteArray) (i : Nat) (h : rn s i < 128) : wid s i = 1 ∧ byteAt s i = rn s i := by
  by_cases h0 : byteAt s i < 128
  · exact ⟨(wid_ascii s i h0).1, (wid_ascii s i h0).2.symm⟩
  · exfalso
    unfold rn at h
    rw [decode_of, if_neg h0] at h
    revert h
    repeat' split
    all_goals (simp only []; omega)
/-- what stands within a character is no byte of ASCII -/
theorem wid_in (s : ByteArray) (i j : Nat) (h1 : i < j) (h2 : j < i + wid s i) : 128 ≤ byteAt s j := by
  unfold wid at h2
  rw [decode_of] at h2
  revert h2
  repeat' split
  all_goals
    simp only []
    intro h2
    first
      | omega
      | (obtain rfl | rfl | rfl : j = i + 1 ∨ j = i + 2 ∨ j = i + 3 := by omega
         all_goals omega)

/-- the reference's character: a broken one is -1 -/
def charR (s : ByteArray) (i : Nat) : Int := if Utf8.decode s i = (65533, 1) then -1 else rn s i
theorem charR_plain (s : ByteArray) (i : Nat) : ((if charR s i < 0 then (8 : Int) else kindOf (charR s i)) = 1) ↔ plainAt s i = true := by
  unfold charR plainAt
  by_cases h : Utf8.decode s i = (65533, 1)
  · rw [if_pos h]
    have : rn s i = 65533 := by unfold rn; rw [h]
    rw [this]
    decide
  · rw [if_neg h, if_neg (by omega)]
    simp

/-- from a place on: the first character that is not plain; -1: none -/
def firstBad (s : ByteArray) : Nat → Nat → Int
  | 0, _ => -1
  | f + 1, pos => if pos < s.size then if plainAt s pos = true then firstBad s f (pos + wid s pos) else pos else -1

/-- the part that begins at a place -/
def partL (s : ByteArray) (i : Nat) : List UInt8 := (s.data.toList.drop i).takeWhile (· != 47)
def dotsL (l : List UInt8) : Bool := l == [46] || l == [46, 46]

/-- from a place on: the first fault, its place -/
def checkFrom (s : ByteArray) : Nat → Nat → Int × Int
  | 0, _ => (0, -1)
  | f + 1, pos =>
    if pos < s.size then
      if byteAt s pos = 47 then
        if 0 < pos ∧ byteAt s (pos - 1) = 47 then (5, pos)
        else if dotsL (partL s (pos + 1)) = true then (6, pos + 1)
        else checkFrom s f (pos + 1)
      else if plainAt s pos = true then checkFrom s f (pos + wid s pos) else (7, pos)
    else (0, -1)

def checkOf (s : ByteArray) : Int × Int :=
  if s.size = 0 then (1, 0) else if 4096 < s.size then (2, 4096) else if byteAt s 0 ≠ 47 then (3, 0) else if s.size = 1 then (0, -1)
  else if byteAt s (s.size - 1) = 47 then (4, (s.size : Int) - 1) else checkFrom s s.size 0

theorem slash_plain (s : ByteArray) (i : Nat) (h : byteAt s i = 47) : plainAt s i = true := by
  unfold plainAt
  rw [(wid_ascii s i (by omega)).2, h]
  decide

/-- more fuel than bytes are left changes nothing -/
theorem firstBad_fuel (s : ByteArray) (f : Nat) : ∀ pos, s.size ≤ pos + f → firstBad s f pos = firstBad s (f + 1) pos := by
  induction f with
  | zero =>
    intro pos h
    simp only [firstBad]
    rw [if_neg (by omega)]
  | succ f ih =>
    intro pos h
    have hw := wid_pos s pos
    rw [firstBad, firstBad]
    split
    · split
      · exact ih _ (by omega)
      · rfl
    · rfl
theorem firstBad_ge (s : ByteArray) (f : Nat) : ∀ pos, firstBad s f pos = -1 ∨ (pos : Int) ≤ firstBad s f pos := by
  induction f with
  | zero => exact fun pos => .inl rfl
  | succ f ih =>
    intro pos
    rw [firstBad]
    split
    · split
      · rcases ih (pos + wid s pos) with h | h
        · exact .inl h
        · exact .inr (by omega)
      · exact .inr (Int.le_refl _)
    · exact .inl rfl
theorem cut_slash (l : List UInt8) : (Lib.cut l [47]).1 = l.takeWhile (· != 47) := by
  have key : (Lib.index l [47] = -1 ∧ l.takeWhile (· != 47) = l) ∨ (∃ k : Nat, Lib.index l [47] = k ∧ l.take k = l.takeWhile (· != 47)) := by
    induction l with
    | nil => exact .inl ⟨rfl, rfl⟩
    | cons b l ih =>
      by_cases hb : b = 47
      · subst hb
        exact .inr ⟨0, by simp [Lib.index, List.isPrefixOf], by simp⟩
      · have h1 : List.isPrefixOf [47] (b :: l) = false := by simp [List.isPrefixOf, Ne.symm hb]
        rcases ih with ⟨h, h'⟩ | ⟨k, h, h'⟩
        · refine .inl ⟨by simp [Lib.index, h1, h], by simp [hb, h']⟩
        · refine .inr ⟨k + 1, ?_, by simp [hb, h']⟩
          have : ¬ ((k : Int) = -1) := by omega
          simp [Lib.index, h1, h, this]
  unfold Lib.cut
  rcases key with ⟨h, h'⟩ | ⟨k, h, h'⟩
  · rw [h]; simp [h']
  · rw [h, if_pos (by omega)]
    simpa using h'
end Go.Proofs.YtkhnchahoidbaaaDoor
