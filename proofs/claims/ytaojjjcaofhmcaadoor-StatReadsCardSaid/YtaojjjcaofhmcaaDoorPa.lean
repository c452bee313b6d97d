/- Plain laws: characters of a text and its first fault, by bytes. -/
import Derived.Test.YtaojjjcaofhmcaaDoorBase
import Derived.Lib.Strings
import Derived.Lib.IndexMore
import Derived.Lib.OthersKept
import Derived.LoopN
import Derived.Test.YtaojjjcaofhmcaaDoorShelf
import Derived.WalkMore
set_option linter.unusedVariables false
set_option linter.unusedSimpArgs false
namespace Go.Proofs.YtaojjjcaofhmcaaDoor
open Go.RowKit

/-- a byte of a text as a number -/
def byteAt (s : ByteArray) (i : Nat) : Nat := (s.get! i).toNat
theorem byteAt_lt (s : ByteArray) (i : Nat) : byteAt s i < 256 := (s.get! i).toNat_lt
theorem byteAt_get (s : ByteArray) (i : Nat) (h : i < s.size) : (s[i]'h).toNat = byteAt s i := by
  unfold byteAt
  congr 1
  show s.data[i]'h = s.data[i]!
  rw [getElem!_pos s.data i h]
theorem byteAt_list (s : ByteArray) (i : Nat) (h : i < s.size) : s.data.toList[i]? = some (UInt8.ofNat (byteAt s i)) := by
  have h' : i < s.data.toList.length := by rw [← Lib.size_eq]; exact h
  rw [List.getElem?_eq_getElem h', ← byteAt_get s i h]
  simp
  rfl
theorem run_byte {P : Program} (w : World) (t : TypeId) (s : ByteArray) (k : IntKind) (i : Nat) (h : P.underlying t = some .string) (hi : i < s.size) :
    (Instr.index t (.string s) (.int k (i : Int))).run P w = .ok (.int .u8 (byteAt s i : Int)) w := by
  rw [run_index_string w t s k i h, dif_pos ⟨by omega, by omega⟩]
  have : (s[(i : Int).toNat]'(by omega)).toNat = byteAt s i := byteAt_get s i hi
  rw [this]

theorem run_byte_at {P : Program} (w : World) (t : TypeId) (s : ByteArray) (k : IntKind) (j : Int) (i : Nat) (h : P.underlying t = some .string) (hj : j = i) (hi : i < s.size) :
    (Instr.index t (.string s) (.int k j)).run P w = .ok (.int .u8 (byteAt s i : Int)) w := by
  subst hj
  exact run_byte w t s k i h hi

/-- a character's kind -/
def kindOf (r : Int) : Int :=
  if r < 0 ∨ 1114111 < r then 0 else if r = 0 then 2 else if r ≤ 31 ∨ (127 ≤ r ∧ r ≤ 159) then 3 else if 55296 ≤ r ∧ r ≤ 57343 then 4
  else if 57344 ≤ r ∧ r ≤ 63743 then 5 else if 65520 ≤ r ∧ r ≤ 65535 then 6 else if 65536 ≤ r then 7 else 1

/-- a character at a place: its number, its width -/
def rn (s : ByteArray) (i : Nat) : Nat := (Utf8.decode s i).1
def wid (s : ByteArray) (i : Nat) : Nat := (Utf8.decode s i).2
def plainAt (s : ByteArray) (i : Nat) : Bool := kindOf (rn s i) == 1

theorem decode_of (s : ByteArray) (i : Nat) : Utf8.decode s i =
    if byteAt s i < 128 then (byteAt s i, 1)
    else if (192 ≤ byteAt s i ∧ byteAt s i < 224) ∧ (i + 1 < s.size ∧ 128 ≤ byteAt s (i + 1) ∧ byteAt s (i + 1) < 192) then
      (if 128 ≤ (byteAt s i - 192) * 64 + (byteAt s (i + 1) - 128) then ((byteAt s i - 192) * 64 + (byteAt s (i + 1) - 128), 2) else (65533, 1))
    else if (224 ≤ byteAt s i ∧ byteAt s i < 240) ∧ (i + 1 < s.size ∧ 128 ≤ byteAt s (i + 1) ∧ byteAt s (i + 1) < 192) ∧ (i + 2 < s.size ∧ 128 ≤ byteAt s (i + 2) ∧ byteAt s (i + 2) < 192) then
      (if 2048 ≤ (byteAt s i - 224) * 4096 + (byteAt s (i + 1) - 128) * 64 + (byteAt s (i + 2) - 128) ∧ ¬ (55296 ≤ (byteAt s i - 224) * 4096 + (byteAt s (i + 1) - 128) * 64 + (byteAt s (i + 2) - 128) ∧ (byteAt s i - 224) * 4096 + (byteAt s (i + 1) - 128) * 64 + (byteAt s (i + 2) - 128) ≤ 57343)
        then ((byteAt s i - 224) * 4096 + (byteAt s (i + 1) - 128) * 64 + (byteAt s (i + 2) - 128), 3) else (65533, 1))
    else if (240 ≤ byteAt s i ∧ byteAt s i < 248) ∧ (i + 1 < s.size ∧ 128 ≤ byteAt s (i + 1) ∧ byteAt s (i + 1) < 192) ∧ (i + 2 < s.size ∧ 128 ≤ byteAt s (i + 2) ∧ byteAt s (i + 2) < 192) ∧ (i + 3 < s.size ∧ 128 ≤ byteAt s (i + 3) ∧ byteAt s (i + 3) < 192) then
      (if 65536 ≤ (byteAt s i - 240) * 262144 + (byteAt s (i + 1) - 128) * 4096 + (byteAt s (i + 2) - 128) * 64 + (byteAt s (i + 3) - 128) ∧ (byteAt s i - 240) * 262144 + (byteAt s (i + 1) - 128) * 4096 + (byteAt s (i + 2) - 128) * 64 + (byteAt s (i + 3) - 128) ≤ 1114111
        then ((byteAt s i - 240) * 262144 + (byteAt s (i + 1) - 128) * 4096 + (byteAt s (i + 2) - 128) * 64 + (byteAt s (i + 3) - 128), 4) else (65533, 1))
    else (65533, 1) := by
  have b0 := byteAt_lt s i
  have c : ∀ k, (decide (i + k < s.size) && (byteAt s (i + k) / 64 == 2)) = decide (i + k < s.size ∧ 128 ≤ byteAt s (i + k) ∧ byteAt s (i + k) < 192) := by
    intro k
    rw [Bool.eq_iff_iff]
    simp only [Bool.and_eq_true, decide_eq_true_eq, beq_iff_eq]
    omega
  have h1 : ∀ k, (s.get! k).toNat = byteAt s k := fun _ => rfl
  simp only [Utf8.decode, Utf8.runeError, Nat.add_zero, h1, c]
  by_cases g0 : byteAt s i < 128
  · simp [g0]
  rw [if_neg g0, if_neg g0]
  have e2 : (byteAt s i / 32 == 6) = decide (192 ≤ byteAt s i ∧ byteAt s i < 224) := by
    rw [Bool.eq_iff_iff]; simp only [decide_eq_true_eq, beq_iff_eq]; omega
  have e3 : (byteAt s i / 16 == 14) = decide (224 ≤ byteAt s i ∧ byteAt s i < 240) := by
    rw [Bool.eq_iff_iff]; simp only [decide_eq_true_eq, beq_iff_eq]; omega
  have e4 : (byteAt s i / 8 == 30) = decide (240 ≤ byteAt s i ∧ byteAt s i < 248) := by
    rw [Bool.eq_iff_iff]; simp only [decide_eq_true_eq, beq_iff_eq]; omega
  simp only [e2, e3, e4, Bool.and_eq_true, decide_eq_true_eq, and_assoc]
  split
  · rename_i h
    rw [show byteAt s i % 32 = byteAt s i - 192 by omega, show byteAt s (i + 1) % 64 = byteAt s (i + 1) - 128 by omega]
  · split
    · rename_i h
      rw [show byteAt s i % 16 = byteAt s i - 224 by omega, show byteAt s (i + 1) % 64 = byteAt s (i + 1) - 128 by omega, show byteAt s (i + 2) % 64 = byteAt s (i + 2) - 128 by omega]
      simp only [Utf8.valid, Bool.or_eq_true, Bool.and_eq_true, decide_eq_true_eq]
      congr 1
      apply propext
      omega
    · split
      · rename_i h
        rw [show byteAt s i % 8 = byteAt s i - 240 by omega, show byteAt s (i + 1) % 64 = byteAt s (i + 1) - 128 by omega, show byteAt s (i + 2) % 64 = byteAt s (i + 2) - 128 by omega, show byteAt s (i + 3) % 64 = byteAt s (i + 3) - 128 by omega]
        simp only [Utf8.valid, Bool.or_eq_true, Bool.and_eq_true, decide_eq_true_eq]
        congr 1
        apply propext
        omega
      · rfl

theorem wid_pos (s : ByteArray) (i : Nat) : 0 < wid s i := by
  unfold wid
  rw [decode_of]
  repeat' split
  all_goals (simp only []; omega)
theorem wid_le (s : ByteArray) (i : Nat) (h : i < s.size) : i + wid s i ≤ s.size := by
  unfold wid
  rw [decode_of]
  repeat' split
  all_goals (simp only []; omega)
theorem rn_le (s : ByteArray) (i : Nat) : rn s i ≤ 1114111 := by
  unfold rn
  rw [decode_of]
  have b0 := byteAt_lt s i
  repeat' split
  all_goals (simp only []; omega)
theorem wid_ascii (s : ByteArray) (i : Nat) (h : byteAt s i < 128) : wid s i = 1 ∧ rn s i = byteAt s i := by
  unfold wid rn
  rw [decode_of, if_pos h]
  exact ⟨rfl, rfl⟩
theorem rn_ascii (s : ByteArray) (i : Nat) (h : rn s i < 128) : wid s i = 1 ∧ byteAt s i = rn s i := by
  by_cases h0 : byteAt s i < 128
  · exact ⟨(wid_ascii s i h0).1, (wid_ascii s i h0).2.symm⟩
  · exfalso
    unfold rn at h
    rw [decode_of, if_neg h0] at h
    revert h
    repeat' split
    all_goals (simp only []; omega)
/-- what stands within a character is no byte of ASCII -/
theorem wid_in (s : ByteArray) (i j : Nat) (h1 : i < j) (h2 : j < i + wid s i) : 128 ≤ byteAt s j := by
  unfold wid at h2
  rw [decode_of] at h2
  revert h2
  repeat' split
  all_goals
    simp only []
    intro h2
    first
      | omega
      | (obtain rfl | rfl | rfl : j = i + 1 ∨ j = i + 2 ∨ j = i + 3 := by omega
         all_goals omega)

/-- the reference's character: a broken one is -1 -/
def charR (s : ByteArray) (i : Nat) : Int := if Utf8.decode s i = (65533, 1) then -1 else rn s i
theorem charR_plain (s : ByteArray) (i : Nat) : ((if charR s i < 0 then (8 : Int) else kindOf (charR s i)) = 1) ↔ plainAt s i = true := by
  unfold charR plainAt
  by_cases h : Utf8.decode s i = (65533, 1)
  · rw [if_pos h]
    have : rn s i = 65533 := by unfold rn; rw [h]
    rw [this]
    decide
  · rw [if_neg h, if_neg (by omega)]
    simp

/-- from a place on: the first character that is not plain; -1: none -/
def firstBad (s : ByteArray) : Nat → Nat → Int
  | 0, _ => -1
  | f + 1, pos => if pos < s.size then if plainAt s pos = true then firstBad s f (pos + wid s pos) else pos else -1

/-- the part that begins at a place -/
def partL (s : ByteArray) (i : Nat) : List UInt8 := (s.data.toList.drop i).takeWhile (· != 47)
def dotsL (l : List UInt8) : Bool := l == [46] || l == [46, 46]

/-- from a place on: the first fault, its place -/
def checkFrom (s : ByteArray) : Nat → Nat → Int × Int
  | 0, _ => (0, -1)
  | f + 1, pos =>
    if pos < s.size then
      if byteAt s pos = 47 then
        if 0 < pos ∧ byteAt s (pos - 1) = 47 then (5, pos)
        else if dotsL (partL s (pos + 1)) = true then (6, pos + 1)
        else checkFrom s f (pos + 1)
      else if plainAt s pos = true then checkFrom s f (pos + wid s pos) else (7, pos)
    else (0, -1)

def checkOf (s : ByteArray) : Int × Int :=
  if s.size = 0 then (1, 0) else if 4096 < s.size then (2, 4096) else if byteAt s 0 ≠ 47 then (3, 0) else if s.size = 1 then (0, -1)
  else if byteAt s (s.size - 1) = 47 then (4, (s.size : Int) - 1) else checkFrom s s.size 0

theorem slash_plain (s : ByteArray) (i : Nat) (h : byteAt s i = 47) : plainAt s i = true := by
  unfold plainAt
  rw [(wid_ascii s i (by omega)).2, h]
  decide

/-- more fuel than bytes are left changes nothing -/
theorem firstBad_fuel (s : ByteArray) (f : Nat) : ∀ pos, s.size ≤ pos + f → firstBad s f pos = firstBad s (f + 1) pos := by
  induction f with
  | zero =>
    intro pos h
    simp only [firstBad]
    rw [if_neg (by omega)]
  | succ f ih =>
    intro pos h
    have hw := wid_pos s pos
    rw [firstBad, firstBad]
    split
    · split
      · exact ih _ (by omega)
      · rfl
    · rfl
theorem firstBad_ge (s : ByteArray) (f : Nat) : ∀ pos, firstBad s f pos = -1 ∨ (pos : Int) ≤ firstBad s f pos := by
  induction f with
  | zero => exact fun pos => .inl rfl
  | succ f ih =>
    intro pos
    rw [firstBad]
    split
    · split
      · rcases ih (pos + wid s pos) with h | h
        · exact .inl h
        · exact .inr (by omega)
      · exact .inr (Int.le_refl _)
    · exact .inl rfl
theorem cut_slash (l : List UInt8) : (Lib.cut l [47]).1 = l.takeWhile (· != 47) := by
  have key : (Lib.index l [47] = -1 ∧ l.takeWhile (· != 47) = l) ∨ (∃ k : Nat, Lib.index l [47] = k ∧ l.take k = l.takeWhile (· != 47)) := by
    induction l with
    | nil => exact .inl ⟨rfl, rfl⟩
    | cons b l ih =>
      by_cases hb : b = 47
      · subst hb
        exact .inr ⟨0, by simp [Lib.index, List.isPrefixOf], by simp⟩
      · have h1 : List.isPrefixOf [47] (b :: l) = false := by simp [List.isPrefixOf, Ne.symm hb]
        rcases ih with ⟨h, h'⟩ | ⟨k, h, h'⟩
        · refine .inl ⟨by simp [Lib.index, h1, h], by simp [hb, h']⟩
        · refine .inr ⟨k + 1, ?_, by simp [hb, h']⟩
          have : ¬ ((k : Int) = -1) := by omega
          simp [Lib.index, h1, h, this]
  unfold Lib.cut
  rcases key with ⟨h, h'⟩ | ⟨k, h, h'⟩
  · rw [h]; simp [h']
  · rw [h, if_pos (by omega)]
    simpa using h'
end Go.Proofs.YtaojjjcaofhmcaaDoor
/- Kinds, characters, the first character that is not plain: the walks. -/
namespace Go.Proofs.YtaojjjcaofhmcaaDoor
open Go.RowKit

theorem retk {a b : Int} (h : a = b) : Ending.returned (.int .i64 a) = .returned (.int .i64 b) := by rw [h]
theorem retp {a b c d : Int} (h : a = b) (h' : c = d) : Ending.returned (.tuple #[.int .i64 a, .int .i64 c]) = .returned (.tuple #[.int .i64 b, .int .i64 d]) := by rw [h, h']

set_option maxHeartbeats 1000000 in
theorem kind_any (r : Int) (w : World) : Calls Tryd.prog 134 #[.int .i32 r] w fun e w' => e = .returned (.int .i64 (kindOf r)) ∧ w = w' := by
  go_enter Tryd.func134, Tryd.ntmps134
  go_wp2
  all_goals
    go_ret
    exact ⟨retk (by unfold kindOf; repeat' split
                    all_goals first | omega | (rename_i h _ _ _; simp at h; omega) | (simp_all; done) | (simp_all; omega)), rfl⟩

set_option maxHeartbeats 1000000 in
theorem rkind_any (r : Int) (w : World) : Calls Tryd.prog 130 #[.int .i64 r] w fun e w' => e = .returned (.int .i64 (kindOf r)) ∧ w = w' := by
  go_enter Tryd.func130, Tryd.ntmps130
  go_wp2
  all_goals
    go_ret
    exact ⟨retk (by unfold kindOf; repeat' split
                    all_goals first | omega | (rename_i h _ _ _; simp at h; omega) | (simp_all; done) | (simp_all; omega)), rfl⟩

theorem rof_any (r : Int) (w : World) : Calls Tryd.prog 116 #[.int .i64 r] w fun e w' => e = .returned (.int .i64 (if r < 0 then 8 else kindOf r)) ∧ w = w' := by
  by_cases h : r < 0
  · rw [if_pos h]
    go_enter Tryd.func116, Tryd.ntmps116
    go_wp2
    go_ret
    exact ⟨rfl, rfl⟩
  · rw [if_neg h]
    go_enter Tryd.func116, Tryd.ntmps116
    go_wp2_with (go_at_call 130; refine (rkind_any r _).mono ?_; rintro e w' ⟨rfl, rfl⟩)
    go_ret
    exact ⟨rfl, rfl⟩
end Go.Proofs.YtaojjjcaofhmcaaDoor
/- The kind of a character of a range; the first that is not plain: the walks. -/
namespace Go.Proofs.YtaojjjcaofhmcaaDoor
open Go.RowKit

theorem retb {a b : Bool} (h : a = b) : Ending.returned (.bool a) = .returned (.bool b) := by rw [h]

set_option maxRecDepth 100000 in
set_option maxHeartbeats 1000000 in
theorem hasPrefix_any (s p : ByteArray) (w : World) :
    Calls Tryd.prog 133 #[.string s, .string p] w fun e w' => e = .returned (.bool (Lib.hasPrefix s.data.toList p.data.toList)) ∧ w = w' := by
  have hr := Lib.hid (Lib.hasPrefix_raw s p)
  go_enter Tryd.func133, Tryd.ntmps133
  go_wp2
  all_goals
    go_ret
    refine ⟨retb ?_, rfl⟩
    rw [← hr.out]
    simp [*]

set_option maxRecDepth 100000 in
set_option maxHeartbeats 1000000 in
theorem of_any (s : ByteArray) (i : Nat) (r : Int) (hi : i ≤ s.size) (_ : s.size ≤ 140737488355328) (w : World) :
    Calls Tryd.prog 128 #[.string s, .int .i64 i, .int .i32 r] w fun e w' => (∃ k, e = .returned (.int .i64 k) ∧ (k = 1 ↔ kindOf r = 1)) ∧ ∃ n, w' = w.drewN n := by
  by_cases hr : r = 65533
  · subst hr
    go_enter Tryd.func128, Tryd.ntmps128
    go_wp2_with (first
      | (go_at_call 133; refine (hasPrefix_any _ _ _).mono ?_; rintro e w' ⟨rfl, rfl⟩)
      | (go_at_call 134; refine (kind_any _ _).mono ?_; rintro e w' ⟨rfl, rfl⟩))
    all_goals
      go_ret
      exact ⟨⟨_, rfl, by decide⟩, 0, rfl⟩
  · go_enter Tryd.func128, Tryd.ntmps128
    go_wp2_with (go_at_call 134; refine (kind_any r _).mono ?_; rintro e w' ⟨rfl, rfl⟩)
    go_ret
    exact ⟨⟨_, rfl, Iff.rfl⟩, 0, rfl⟩

theorem iterPos_of {w : World} {k : Nat} {s : ByteArray} {p : Nat} (h : w.heap[k]? = some (.stringIter s p)) : w.iterPos k = p := by simp [World.iterPos, h]

/-- the first that is not plain, from a place on, is the same with whatever fuel is enough -/
theorem firstBad_step (s : ByteArray) (f pos : Nat) (h : pos < s.size) (hp : plainAt s pos = true) : firstBad s (f + 1) pos = firstBad s f (pos + wid s pos) := by rw [firstBad, if_pos h, if_pos hp]

set_option maxRecDepth 100000 in
set_option maxHeartbeats 2000000 in
theorem first_any (s : ByteArray) (w : World) (hs : s.size ≤ 140737488355328) :
    Calls Tryd.prog 112 #[.string s] w fun e w' => (∃ k, e = .returned (.tuple #[.int .i64 (firstBad s s.size 0), .int .i64 k])) ∧ Below w.heap.size w w' := by
  go_enter Tryd.func112, Tryd.ntmps112
  go_wp2
  go_loopw [] (fun wr => ∃ (pos fuel : Nat), wr.heap[w.heap.size]? = some (.stringIter s pos) ∧ Below w.heap.size w wr ∧ Hid (firstBad s fuel pos = firstBad s s.size 0) ∧ s.size ≤ pos + fuel ∧ pos ≤ s.size) (fun wr => s.size - wr.iterPos w.heap.size)
  case atStart => exact ⟨0, s.size, World.iter_heap w s 0, (Below.refl _ _).alloc (Nat.le_refl _) _, rfl, by omega, by omega⟩
  case round =>
    obtain ⟨pos, fuel, hit, hbw, HS, hb, hle⟩ := hrel
    have hpos0 := iterPos_of hit
    by_cases hp : pos < s.size
    · have hnx : ∀ ty, (Instr.next (.pointer (some ⟨w.heap.size, 0, none⟩)) true ty).run Tryd.prog wr = _ := fun ty => Lib.run_next_any_at wr w.heap.size s pos ty hit hp
      have hwd := wid_pos s pos
      have hwl := wid_le s pos hp
      obtain ⟨fuel, rfl⟩ : ∃ f', fuel = f' + 1 := ⟨fuel - 1, by omega⟩
      have hit2 := Lib.iterAt_heap wr w.heap.size s pos (pos + (Utf8.decode s pos).2) hit
      have hbw2 := Lib.below_iterAt hbw (k := w.heap.size) (Nat.le_refl _) s (pos + (Utf8.decode s pos).2)
      obtain ⟨W1, hW1⟩ : ∃ W1, W1 = wr.iterAt w.heap.size s (pos + (Utf8.decode s pos).2) := ⟨_, rfl⟩
      rw [← hW1] at hnx hit2 hbw2
      clear hW1
      change ∀ ty, (Instr.next (.pointer (some ⟨w.heap.size, 0, none⟩)) true ty).run Tryd.prog wr = .ok (.tuple #[.bool true, .int .i64 pos, .int .i32 (rn s pos : Int)]) W1 at hnx
      change W1.heap[w.heap.size]? = some (.stringIter s (pos + wid s pos)) at hit2
      clear hit hbw
      go_wp2_with (go_at_call 128; refine (of_any s pos (rn s pos) hle hs _).mono ?_; rintro e w' ⟨⟨k, rfl, hk⟩, n, rfl⟩)
      all_goals first
        | (go_roundw
           case rel =>
             have hpl : plainAt s pos = true := by
               unfold plainAt
               rw [hk.1 (by simpa using ‹(k != 1) = false›)]
               rfl
             exact ⟨pos + wid s pos, fuel, hit2, below_drewN' hbw2 n, (by show _ = _; rw [← HS.out, firstBad_step s fuel pos hp hpl]), by omega, by omega⟩
           case measure =>
             have hq : (W1.drewN n).iterPos w.heap.size = (pos + wid s pos) := iterPos_of hit2
             rw [hq, hpos0]
             omega)
        | (go_ret2
           have hpl : plainAt s pos = false := by
             unfold plainAt
             rw [beq_eq_false_iff_ne]
             intro h
             have := hk.2 h
             simp_all
           have e : firstBad s s.size 0 = pos := by rw [← HS.out, firstBad, if_pos hp, hpl]; rfl
           exact ⟨⟨k, by rw [e]; rfl⟩, below_drewN' hbw2 n⟩)
    · have hnx : ∀ ty, (Instr.next (.pointer (some ⟨w.heap.size, 0, none⟩)) true ty).run Tryd.prog wr = _ := fun ty => Lib.run_next_end_at wr w.heap.size s pos ty hit hp
      have e : firstBad s s.size 0 = -1 := by
        rw [← HS.out]
        cases fuel with
        | zero => rfl
        | succ f => rw [firstBad, if_neg hp]
      go_wp2
      go_ret2
      exact ⟨⟨1, by rw [e]; rfl⟩, hbw⟩

end Go.Proofs.YtaojjjcaofhmcaaDoor
/- A character by the reference: the walk. -/
namespace Go.Proofs.YtaojjjcaofhmcaaDoor
open Go.RowKit

theorem char_end {s : ByteArray} {i : Nat} {a b : Int} (h : a = charR s i ∧ b = wid s i) (w : World) : Ending.returned (.tuple #[.int .i64 a, .int .i64 b]) = .returned (.tuple #[.int .i64 (charR s i), .int .i64 (wid s i)]) ∧ w = w := ⟨by rw [h.1, h.2], rfl⟩
theorem charR_br {s : ByteArray} {i : Nat} (h : Utf8.decode s i = (65533, 1)) : charR s i = -1 ∧ (wid s i : Int) = 1 := by
  unfold charR wid
  rw [h]
  exact ⟨rfl, rfl⟩
theorem charR_ok {s : ByteArray} {i v n : Nat} (h : Utf8.decode s i = (v, n)) (hn : n ≠ 1 ∨ v ≠ 65533) : charR s i = v ∧ (wid s i : Int) = n := by
  unfold charR wid rn
  rw [h, if_neg (by simp; omega)]
  exact ⟨rfl, rfl⟩

set_option maxRecDepth 100000 in
set_option maxHeartbeats 4000000 in
theorem char_any (s : ByteArray) (i : Nat) (hi : i < s.size) (hs : s.size ≤ 140737488355328) (w : World) :
    Calls Tryd.prog 115 #[.string s, .int .i64 i] w fun e w' => e = .returned (.tuple #[.int .i64 (charR s i), .int .i64 (wid s i)]) ∧ w = w' := by
  have hb0 := fun k W => run_byte (P := Tryd.prog) W 9 s k i Tryd.underlying9 hi
  have b0 := byteAt_lt s i
  have HD := Lib.hid (decode_of s i)
  by_cases c0 : byteAt s i < 128
  · go_enter Tryd.func115, Tryd.ntmps115
    go_wp2
    all_goals
      go_ret2
      refine char_end ?_ _
      have hD := HD.out
      generalize hE : Utf8.decode s i = D at hD
      repeat' split at hD
      all_goals first
        | (exfalso; omega)
        | (subst hD; rw [(charR_br hE).1, (charR_br hE).2]; constructor <;> omega)
        | (subst hD; rw [(charR_ok hE (by omega)).1, (charR_ok hE (by omega)).2]; constructor <;> omega)
  by_cases c1 : byteAt s i < 192
  · go_enter Tryd.func115, Tryd.ntmps115
    go_wp2
    all_goals
      go_ret2
      refine char_end ?_ _
      have hD := HD.out
      generalize hE : Utf8.decode s i = D at hD
      repeat' split at hD
      all_goals first
        | (exfalso; omega)
        | (subst hD; rw [(charR_br hE).1, (charR_br hE).2]; constructor <;> omega)
        | (subst hD; rw [(charR_ok hE (by omega)).1, (charR_ok hE (by omega)).2]; constructor <;> omega)
  by_cases c2 : byteAt s i < 224
  · by_cases h1 : i + 1 < s.size
    · have hb1 := fun k W => run_byte_at (P := Tryd.prog) W 9 s k (↑i + 1) (i + 1) Tryd.underlying9 (by omega) h1
      have b1 := byteAt_lt s (i + 1)
      go_enter Tryd.func115, Tryd.ntmps115
      go_wp2
      refine wp_loop_rounds 2 ?_
      all_goals try (rw [rounds_succ]; go_wp2)
      all_goals try (rw [rounds_succ]; go_wp2)
      all_goals
        go_ret2
        refine char_end ?_ _
        have hD := HD.out
        generalize hE : Utf8.decode s i = D at hD
        repeat' split at hD
        all_goals first
          | (exfalso; omega)
          | (subst hD; rw [(charR_br hE).1, (charR_br hE).2]; constructor <;> omega)
          | (subst hD; rw [(charR_ok hE (by omega)).1, (charR_ok hE (by omega)).2]; constructor <;> omega)
    · go_enter Tryd.func115, Tryd.ntmps115
      go_wp2
      refine wp_loop_rounds 2 ?_
      all_goals try (rw [rounds_succ]; go_wp2)
      all_goals try (rw [rounds_succ]; go_wp2)
      all_goals
        go_ret2
        refine char_end ?_ _
        have hD := HD.out
        generalize hE : Utf8.decode s i = D at hD
        repeat' split at hD
        all_goals first
          | (exfalso; omega)
          | (subst hD; rw [(charR_br hE).1, (charR_br hE).2]; constructor <;> omega)
          | (subst hD; rw [(charR_ok hE (by omega)).1, (charR_ok hE (by omega)).2]; constructor <;> omega)
  by_cases c3 : byteAt s i < 240
  · by_cases h1 : i + 1 < s.size
    · have hb1 := fun k W => run_byte_at (P := Tryd.prog) W 9 s k (↑i + 1) (i + 1) Tryd.underlying9 (by omega) h1
      have b1 := byteAt_lt s (i + 1)
      by_cases h2 : i + 2 < s.size
      · have hb2 := fun k W => run_byte_at (P := Tryd.prog) W 9 s k (↑i + 2) (i + 2) Tryd.underlying9 (by omega) h2
        have b2 := byteAt_lt s (i + 2)
        go_enter Tryd.func115, Tryd.ntmps115
        go_wp2
        refine wp_loop_rounds 3 ?_
        all_goals try (rw [rounds_succ]; go_wp2)
        all_goals try (rw [rounds_succ]; go_wp2)
        all_goals try (rw [rounds_succ]; go_wp2)
        all_goals
          go_ret2
          refine char_end ?_ _
          have hD := HD.out
          generalize hE : Utf8.decode s i = D at hD
          repeat' split at hD
          all_goals first
            | (exfalso; omega)
            | (subst hD; rw [(charR_br hE).1, (charR_br hE).2]; constructor <;> omega)
            | (subst hD; rw [(charR_ok hE (by omega)).1, (charR_ok hE (by omega)).2]; constructor <;> omega)
      · go_enter Tryd.func115, Tryd.ntmps115
        go_wp2
        refine wp_loop_rounds 3 ?_
        all_goals try (rw [rounds_succ]; go_wp2)
        all_goals try (rw [rounds_succ]; go_wp2)
        all_goals try (rw [rounds_succ]; go_wp2)
        all_goals
          go_ret2
          refine char_end ?_ _
          have hD := HD.out
          generalize hE : Utf8.decode s i = D at hD
          repeat' split at hD
          all_goals first
            | (exfalso; omega)
            | (subst hD; rw [(charR_br hE).1, (charR_br hE).2]; constructor <;> omega)
            | (subst hD; rw [(charR_ok hE (by omega)).1, (charR_ok hE (by omega)).2]; constructor <;> omega)
    · go_enter Tryd.func115, Tryd.ntmps115
      go_wp2
      refine wp_loop_rounds 3 ?_
      all_goals try (rw [rounds_succ]; go_wp2)
      all_goals try (rw [rounds_succ]; go_wp2)
      all_goals try (rw [rounds_succ]; go_wp2)
      all_goals
        go_ret2
        refine char_end ?_ _
        have hD := HD.out
        generalize hE : Utf8.decode s i = D at hD
        repeat' split at hD
        all_goals first
          | (exfalso; omega)
          | (subst hD; rw [(charR_br hE).1, (charR_br hE).2]; constructor <;> omega)
          | (subst hD; rw [(charR_ok hE (by omega)).1, (charR_ok hE (by omega)).2]; constructor <;> omega)
  by_cases c4 : byteAt s i < 248
  · by_cases h1 : i + 1 < s.size
    · have hb1 := fun k W => run_byte_at (P := Tryd.prog) W 9 s k (↑i + 1) (i + 1) Tryd.underlying9 (by omega) h1
      have b1 := byteAt_lt s (i + 1)
      by_cases h2 : i + 2 < s.size
      · have hb2 := fun k W => run_byte_at (P := Tryd.prog) W 9 s k (↑i + 2) (i + 2) Tryd.underlying9 (by omega) h2
        have b2 := byteAt_lt s (i + 2)
        by_cases h3 : i + 3 < s.size
        · have hb3 := fun k W => run_byte_at (P := Tryd.prog) W 9 s k (↑i + 3) (i + 3) Tryd.underlying9 (by omega) h3
          have b3 := byteAt_lt s (i + 3)
          go_enter Tryd.func115, Tryd.ntmps115
          go_wp2
          refine wp_loop_rounds 4 ?_
          all_goals try (rw [rounds_succ]; go_wp2)
          all_goals try (rw [rounds_succ]; go_wp2)
          all_goals try (rw [rounds_succ]; go_wp2)
          all_goals try (rw [rounds_succ]; go_wp2)
          all_goals
            go_ret2
            refine char_end ?_ _
            have hD := HD.out
            generalize hE : Utf8.decode s i = D at hD
            repeat' split at hD
            all_goals first
              | (exfalso; omega)
              | (subst hD; rw [(charR_br hE).1, (charR_br hE).2]; constructor <;> omega)
              | (subst hD; rw [(charR_ok hE (by omega)).1, (charR_ok hE (by omega)).2]; constructor <;> omega)
        · go_enter Tryd.func115, Tryd.ntmps115
          go_wp2
          refine wp_loop_rounds 4 ?_
          all_goals try (rw [rounds_succ]; go_wp2)
          all_goals try (rw [rounds_succ]; go_wp2)
          all_goals try (rw [rounds_succ]; go_wp2)
          all_goals try (rw [rounds_succ]; go_wp2)
          all_goals
            go_ret2
            refine char_end ?_ _
            have hD := HD.out
            generalize hE : Utf8.decode s i = D at hD
            repeat' split at hD
            all_goals first
              | (exfalso; omega)
              | (subst hD; rw [(charR_br hE).1, (charR_br hE).2]; constructor <;> omega)
              | (subst hD; rw [(charR_ok hE (by omega)).1, (charR_ok hE (by omega)).2]; constructor <;> omega)
      · go_enter Tryd.func115, Tryd.ntmps115
        go_wp2
        refine wp_loop_rounds 4 ?_
        all_goals try (rw [rounds_succ]; go_wp2)
        all_goals try (rw [rounds_succ]; go_wp2)
        all_goals try (rw [rounds_succ]; go_wp2)
        all_goals try (rw [rounds_succ]; go_wp2)
        all_goals
          go_ret2
          refine char_end ?_ _
          have hD := HD.out
          generalize hE : Utf8.decode s i = D at hD
          repeat' split at hD
          all_goals first
            | (exfalso; omega)
            | (subst hD; rw [(charR_br hE).1, (charR_br hE).2]; constructor <;> omega)
            | (subst hD; rw [(charR_ok hE (by omega)).1, (charR_ok hE (by omega)).2]; constructor <;> omega)
    · go_enter Tryd.func115, Tryd.ntmps115
      go_wp2
      refine wp_loop_rounds 4 ?_
      all_goals try (rw [rounds_succ]; go_wp2)
      all_goals try (rw [rounds_succ]; go_wp2)
      all_goals try (rw [rounds_succ]; go_wp2)
      all_goals try (rw [rounds_succ]; go_wp2)
      all_goals
        go_ret2
        refine char_end ?_ _
        have hD := HD.out
        generalize hE : Utf8.decode s i = D at hD
        repeat' split at hD
        all_goals first
          | (exfalso; omega)
          | (subst hD; rw [(charR_br hE).1, (charR_br hE).2]; constructor <;> omega)
          | (subst hD; rw [(charR_ok hE (by omega)).1, (charR_ok hE (by omega)).2]; constructor <;> omega)
  go_enter Tryd.func115, Tryd.ntmps115
  go_wp2
  all_goals
    go_ret2
    refine char_end ?_ _
    have hD := HD.out
    generalize hE : Utf8.decode s i = D at hD
    repeat' split at hD
    all_goals first
      | (exfalso; omega)
      | (subst hD; rw [(charR_br hE).1, (charR_br hE).2]; constructor <;> omega)
      | (subst hD; rw [(charR_ok hE (by omega)).1, (charR_ok hE (by omega)).2]; constructor <;> omega)
end Go.Proofs.YtaojjjcaofhmcaaDoor
/- The first fault of a text by the reference: the walk. -/
namespace Go.Proofs.YtaojjjcaofhmcaaDoor
open Go.RowKit

theorem take_takeWhile : ∀ (n : Nat) (m : List UInt8), n ≤ m.length → (∀ j, j < n → m[j]? ≠ some 47) → (n = m.length ∨ m[n]? = some 47) → m.take n = m.takeWhile (· != 47)
  | 0, m, _, _, hs => by
    cases m with
    | nil => rfl
    | cons b m =>
      rcases hs with hs | hs
      · simp at hs
      · simp at hs; subst hs; rfl
  | n + 1, [], h, _, _ => by simp at h
  | n + 1, b :: m, h, ha, hs => by
    have hb : b ≠ 47 := fun e => ha 0 (by omega) (by rw [e]; rfl)
    have := take_takeWhile n m (by simpa using h) (fun j hj => by have := ha (j + 1) (by omega); simpa using this) (by simpa using hs)
    simp [hb, this]
theorem part_extract (s : ByteArray) (i k : Nat) (h1 : i ≤ k) (h2 : k ≤ s.size) (ha : ∀ j, i ≤ j → j < k → byteAt s j ≠ 47) (hs : k = s.size ∨ byteAt s k = 47) : s.extract i k = ⟨(partL s i).toArray⟩ := by
  rw [Lib.extract_eq]
  unfold partL
  have hl : s.data.toList.length = s.size := (Lib.size_eq s).symm
  have hb : ∀ j, i + j < s.size → (s.data.toList.drop i)[j]? = some (UInt8.ofNat (byteAt s (i + j))) := fun j hj => by
    rw [List.getElem?_drop]
    exact byteAt_list s (i + j) hj
  have h47 : ∀ j, UInt8.ofNat (byteAt s j) = 47 → byteAt s j = 47 := fun j h => by
    have := congrArg UInt8.toNat h
    rw [UInt8.toNat_ofNat'] at this
    have hlt := byteAt_lt s j
    have e : (47 : UInt8).toNat = 47 := rfl
    rw [e] at this
    omega
  rw [take_takeWhile (k - i) (s.data.toList.drop i) (by rw [List.length_drop]; omega) (fun j hj h => by
    rw [hb j (by omega)] at h
    exact ha (i + j) (by omega) (by omega) (h47 _ (Option.some.inj h)))
    (by
      rcases hs with hs | hs
      · left; rw [List.length_drop]; omega
      · by_cases hk : k = s.size
        · left; rw [List.length_drop]; omega
        · right
          rw [hb (k - i) (by omega), show i + (k - i) = k by omega, hs]
          rfl)]

set_option maxRecDepth 100000 in
set_option maxHeartbeats 1000000 in
theorem part_any (s : ByteArray) (i : Nat) (hi : i ≤ s.size) (hs : s.size ≤ 140737488355328) (w : World) :
    Calls Tryd.prog 114 #[.string s, .int .i64 i] w fun e w' => e = .returned (.string ⟨(partL s i).toArray⟩) ∧ w = w' := by
  go_enter Tryd.func114, Tryd.ntmps114
  go_wp2
  go_loopw [5] (fun v wr => ∃ k : Nat, v = .int .i64 k ∧ i ≤ k ∧ k ≤ s.size ∧ (∀ j, i ≤ j → j < k → byteAt s j ≠ 47) ∧ wr = w) (fun v _ => s.size - (intOf v).toNat)
  case atStart => exact ⟨i, rfl, Nat.le_refl _, hi, fun j h1 h2 => absurd h1 (by omega), rfl⟩
  case round =>
    obtain ⟨k, rfl, h1, h2, ha, rfl⟩ := hrel
    by_cases hk : k < s.size
    · have hb0 := fun kd W => run_byte (P := Tryd.prog) W 9 s kd k Tryd.underlying9 hk
      have hbl := byteAt_lt s k
      by_cases hb : byteAt s k = 47
      · have he := part_extract s i k h1 h2 ha (.inr hb)
        go_wp2
        go_ret
        exact ⟨rfl, rfl⟩
      · go_wp2
        go_roundw
        case rel => exact ⟨k + 1, by simp, by omega, by omega, fun j hj1 hj2 => by
          rcases Nat.lt_or_ge j k with h | h
          · exact ha j hj1 h
          · rw [show j = k by omega]; exact hb, trivial⟩
        case measure => simp [intOf]; omega
    · have he := part_extract s i k h1 h2 ha (.inl (by omega))
      go_wp2
      go_ret
      exact ⟨rfl, rfl⟩

theorem part_at (s : ByteArray) (j : Int) (i : Nat) (hj : j = i) (hi : i ≤ s.size) (hs : s.size ≤ 140737488355328) (w : World) :
    Calls Tryd.prog 114 #[.string s, .int .i64 j] w fun e w' => e = .returned (.string ⟨(partL s i).toArray⟩) ∧ w = w' := by
  subst hj
  exact part_any s i hi hs w
/-- the reference's kind of a character -/
def ofR (s : ByteArray) (i : Nat) : Int := if charR s i < 0 then 8 else kindOf (charR s i)
theorem rof_at (s : ByteArray) (i : Nat) (w : World) : Calls Tryd.prog 116 #[.int .i64 (charR s i)] w fun e w' => e = .returned (.int .i64 (ofR s i)) ∧ w = w' := rof_any (charR s i) w
theorem ofR_plain (s : ByteArray) (i : Nat) : (ofR s i != 1) = !plainAt s i := by
  rw [Bool.eq_iff_iff]
  have := charR_plain s i
  unfold ofR
  simp only [bne_iff_ne, ne_eq, Bool.not_eq_true', this]
  simp

theorem toList_nil (s : ByteArray) : (s.toList == []) = decide (s.size = 0) := by
  rw [Lib.toList_data, Lib.size_eq]
  cases s.data.toList <;> simp
theorem toList_one (s : ByteArray) (b : UInt8) : (s.toList == [b]) = decide (s.size = 1 ∧ byteAt s 0 = b.toNat) := by
  rw [Lib.toList_data]
  by_cases h : s.size = 1
  · have h0 := byteAt_list s 0 (by omega)
    have hl : s.data.toList.length = 1 := by rw [← Lib.size_eq]; exact h
    have hb := byteAt_lt s 0
    obtain ⟨x, hx⟩ : ∃ x, s.data.toList = [x] := by
      match s.data.toList, hl with
      | [x], _ => exact ⟨x, rfl⟩
    rw [hx] at h0 ⊢
    simp only [List.getElem?_cons_zero, Option.some.injEq] at h0
    subst h0
    rw [Bool.eq_iff_iff]
    simp only [beq_iff_eq, List.cons.injEq, and_true, decide_eq_true_eq, h, true_and]
    constructor
    · rintro rfl
      rw [UInt8.toNat_ofNat']; omega
    · intro h
      rw [h]; simp
  · have hl : s.data.toList.length ≠ 1 := by rw [← Lib.size_eq]; exact h
    rw [Bool.eq_iff_iff]
    simp only [beq_iff_eq, decide_eq_true_eq, h, false_and, iff_false]
    intro e
    rw [e] at hl
    exact hl rfl

theorem retc {s : ByteArray} {a b : Int} (h : checkOf s = (a, b)) : Ending.returned (.tuple #[.int .i64 a, .int .i64 b]) = .returned (.tuple #[.int .i64 (checkOf s).1, .int .i64 (checkOf s).2]) := by rw [h]

set_option maxRecDepth 100000 in
set_option maxHeartbeats 2000000 in
theorem rcheck_any (s : ByteArray) (w : World) :
    Calls Tryd.prog 94 #[.string s] w fun e w' => e = .returned (.tuple #[.int .i64 (checkOf s).1, .int .i64 (checkOf s).2]) ∧ ∃ n, w' = w.drewN n := by
  have q0 := toList_nil s
  have q1 := toList_one s 47
  by_cases h0 : s.size = 0
  · have e : checkOf s = (1, 0) := by unfold checkOf; rw [if_pos h0]
    rw [h0] at q0
    go_enter Tryd.func94, Tryd.ntmps94
    go_wp2
    go_ret2
    exact ⟨(by first | rfl | exact retc e), 0, rfl⟩
  have q0' : (s.toList == []) = false := by rw [q0]; exact decide_eq_false h0
  by_cases h1 : 4096 < s.size
  · have e : checkOf s = (2, 4096) := by unfold checkOf; rw [if_neg h0, if_pos h1]
    go_enter Tryd.func94, Tryd.ntmps94
    go_wp2
    go_ret2
    exact ⟨(by first | rfl | exact retc e), 0, rfl⟩
  have hs : s.size ≤ 140737488355328 := by omega
  have hb0 := fun kd W => run_byte_at (P := Tryd.prog) W 9 s kd 0 0 Tryd.underlying9 rfl (by omega)
  have hbl := byteAt_lt s 0
  by_cases h2 : byteAt s 0 = 47
  · by_cases h3 : s.size = 1
    · have e : checkOf s = (0, -1) := by unfold checkOf; rw [if_neg h0, if_neg h1, if_neg (by omega), if_pos h3]
      have q1' : (s.toList == [47]) = true := by rw [q1]; exact decide_eq_true ⟨h3, h2⟩
      clear q1
      go_enter Tryd.func94, Tryd.ntmps94
      go_wp2
      go_ret2
      exact ⟨(by first | rfl | exact retc e), 0, rfl⟩
    · have q1' : (s.toList == [47]) = false := by rw [q1]; exact decide_eq_false (fun h => h3 h.1)
      clear q1
      have hbe := fun kd W => run_byte_at (P := Tryd.prog) W 9 s kd (↑s.size - 1) (s.size - 1) Tryd.underlying9 (by omega) (by omega)
      by_cases h4 : byteAt s (s.size - 1) = 47
      · have e : checkOf s = (4, (s.size : Int) - 1) := by unfold checkOf; rw [if_neg h0, if_neg h1, if_neg (by omega), if_neg h3, if_pos h4]
        go_enter Tryd.func94, Tryd.ntmps94
        go_wp2
        go_ret2
        exact ⟨(by first | rfl | exact retc e), 0, rfl⟩
      · have e : checkOf s = checkFrom s s.size 0 := by unfold checkOf; rw [if_neg h0, if_neg h1, if_neg (by omega), if_neg h3, if_neg h4]
        have HE := Lib.hid e
        have h4i : ((byteAt s (s.size - 1) : Int) == 47) = false := by rw [beq_eq_false_iff_ne]; omega
        clear e
        go_enter Tryd.func94, Tryd.ntmps94
        go_wp2
        go_loopw [4] (fun v wr => ∃ (pos fuel n : Nat), v = .int .i64 pos ∧ pos ≤ s.size ∧ s.size ≤ pos + fuel ∧ Hid (checkFrom s fuel pos = checkFrom s s.size 0) ∧ wr = w.drewN n) (fun v _ => s.size - (intOf v).toNat)
        case atStart => exact ⟨0, s.size, 0, rfl, by omega, by omega, rfl, rfl⟩
        case round =>
          obtain ⟨pos, fuel, n, rfl, hp, hf, HS, rfl⟩ := hrel
          by_cases hlt : pos < s.size
          · obtain ⟨fuel, rfl⟩ : ∃ f', fuel = f' + 1 := ⟨fuel - 1, by omega⟩
            have hx0 := fun kd W => run_byte (P := Tryd.prog) W 9 s kd pos Tryd.underlying9 hlt
            have hx1 := fun (h : 0 < pos) kd W => run_byte_at (P := Tryd.prog) W 9 s kd (↑pos - 1) (pos - 1) Tryd.underlying9 (by omega) (by omega)
            have hw0 := wid_pos s pos
            have hw1 := wid_le s pos hlt
            by_cases hb : byteAt s pos = 47
            · have hpl := slash_plain s pos hb
              have hw : wid s pos = 1 := (wid_ascii s pos (by omega)).1
              by_cases hv : 0 < pos ∧ byteAt s (pos - 1) = 47
              · obtain ⟨hz, hv⟩ := hv
                have hx1 := hx1 hz
                have ee : checkOf s = (5, (pos : Int)) := by rw [HE.out, ← HS.out, checkFrom, if_pos hlt, if_pos hb, if_pos ⟨hz, hv⟩]
                clear HE HS
                go_wp2_with (first
                | (go_at_call 114; refine (part_at s _ (pos + 1) (by omega) (by omega) hs _).mono ?_; rintro e w' ⟨rfl, rfl⟩)
                | (go_at_call 115; refine (char_any s pos hlt hs _).mono ?_; rintro e w' ⟨rfl, rfl⟩)
                | (go_at_call 116; refine (rof_at s pos _).mono ?_; rintro e w' ⟨rfl, rfl⟩))
                go_ret2
                exact ⟨(by first | rfl | exact retc ee), n, rfl⟩
              · rcases Bool.eq_false_or_eq_true (partL s (pos + 1) == [46]) with p1 | p1
                · have hd : dotsL (partL s (pos + 1)) = true := by unfold dotsL; rw [p1]; rfl
                  by_cases hz : ¬ 0 < pos
                  · skip
                    have ee : checkOf s = (6, (pos : Int) + 1) := by rw [HE.out, ← HS.out, checkFrom, if_pos hlt, if_pos hb, if_neg hv, if_pos hd]
                    clear HE HS
                    go_wp2_with (first
                | (go_at_call 114; refine (part_at s _ (pos + 1) (by omega) (by omega) hs _).mono ?_; rintro e w' ⟨rfl, rfl⟩)
                | (go_at_call 115; refine (char_any s pos hlt hs _).mono ?_; rintro e w' ⟨rfl, rfl⟩)
                | (go_at_call 116; refine (rof_at s pos _).mono ?_; rintro e w' ⟨rfl, rfl⟩))
                    go_ret2
                    exact ⟨(by first | rfl | exact retc ee), n, rfl⟩
                  · have hz : 0 < pos := by omega
                    have hx1 := hx1 hz
                    have hv : ¬ byteAt s (pos - 1) = 47 := fun h => hv ⟨hz, h⟩
                    have ee : checkOf s = (6, (pos : Int) + 1) := by rw [HE.out, ← HS.out, checkFrom, if_pos hlt, if_pos hb, if_neg (fun h => hv h.2), if_pos hd]
                    clear HE HS
                    go_wp2_with (first
                | (go_at_call 114; refine (part_at s _ (pos + 1) (by omega) (by omega) hs _).mono ?_; rintro e w' ⟨rfl, rfl⟩)
                | (go_at_call 115; refine (char_any s pos hlt hs _).mono ?_; rintro e w' ⟨rfl, rfl⟩)
                | (go_at_call 116; refine (rof_at s pos _).mono ?_; rintro e w' ⟨rfl, rfl⟩))
                    go_ret2
                    exact ⟨(by first | rfl | exact retc ee), n, rfl⟩
                · rcases Bool.eq_false_or_eq_true (partL s (pos + 1) == [46, 46]) with p2 | p2
                  · have hd : dotsL (partL s (pos + 1)) = true := by unfold dotsL; rw [p1, p2]; rfl
                    by_cases hz : ¬ 0 < pos
                    · skip
                      have ee : checkOf s = (6, (pos : Int) + 1) := by rw [HE.out, ← HS.out, checkFrom, if_pos hlt, if_pos hb, if_neg hv, if_pos hd]
                      clear HE HS
                      go_wp2_with (first
                | (go_at_call 114; refine (part_at s _ (pos + 1) (by omega) (by omega) hs _).mono ?_; rintro e w' ⟨rfl, rfl⟩)
                | (go_at_call 115; refine (char_any s pos hlt hs _).mono ?_; rintro e w' ⟨rfl, rfl⟩)
                | (go_at_call 116; refine (rof_at s pos _).mono ?_; rintro e w' ⟨rfl, rfl⟩))
                      go_ret2
                      exact ⟨(by first | rfl | exact retc ee), n, rfl⟩
                    · have hz : 0 < pos := by omega
                      have hx1 := hx1 hz
                      have hv : ¬ byteAt s (pos - 1) = 47 := fun h => hv ⟨hz, h⟩
                      have ee : checkOf s = (6, (pos : Int) + 1) := by rw [HE.out, ← HS.out, checkFrom, if_pos hlt, if_pos hb, if_neg (fun h => hv h.2), if_pos hd]
                      clear HE HS
                      go_wp2_with (first
                | (go_at_call 114; refine (part_at s _ (pos + 1) (by omega) (by omega) hs _).mono ?_; rintro e w' ⟨rfl, rfl⟩)
                | (go_at_call 115; refine (char_any s pos hlt hs _).mono ?_; rintro e w' ⟨rfl, rfl⟩)
                | (go_at_call 116; refine (rof_at s pos _).mono ?_; rintro e w' ⟨rfl, rfl⟩))
                      go_ret2
                      exact ⟨(by first | rfl | exact retc ee), n, rfl⟩
                  · have hd : ¬ dotsL (partL s (pos + 1)) = true := by unfold dotsL; rw [p1, p2]; decide
                    by_cases hz : ¬ 0 < pos
                    · skip
                      have HS2 : Hid (checkFrom s fuel (pos + wid s pos) = checkFrom s s.size 0) := by show _ = _; rw [← HS.out, checkFrom, if_pos hlt, if_pos hb, if_neg hv, if_neg hd, hw]
                      have hk : (ofR s pos != 1) = false := by rw [ofR_plain, hpl]; rfl
                      clear HS
                      go_wp2_with (first
                | (go_at_call 114; refine (part_at s _ (pos + 1) (by omega) (by omega) hs _).mono ?_; rintro e w' ⟨rfl, rfl⟩)
                | (go_at_call 115; refine (char_any s pos hlt hs _).mono ?_; rintro e w' ⟨rfl, rfl⟩)
                | (go_at_call 116; refine (rof_at s pos _).mono ?_; rintro e w' ⟨rfl, rfl⟩))
                      go_roundw
                      case rel => exact ⟨pos + wid s pos, fuel, n, (by first | (simp; done) | (simp; omega)), by omega, by omega, HS2, rfl⟩
                      case measure => simp [intOf]; omega
                    · have hz : 0 < pos := by omega
                      have hx1 := hx1 hz
                      have hv : ¬ byteAt s (pos - 1) = 47 := fun h => hv ⟨hz, h⟩
                      have HS2 : Hid (checkFrom s fuel (pos + wid s pos) = checkFrom s s.size 0) := by show _ = _; rw [← HS.out, checkFrom, if_pos hlt, if_pos hb, if_neg (fun h => hv h.2), if_neg hd, hw]
                      have hk : (ofR s pos != 1) = false := by rw [ofR_plain, hpl]; rfl
                      clear HS
                      go_wp2_with (first
                | (go_at_call 114; refine (part_at s _ (pos + 1) (by omega) (by omega) hs _).mono ?_; rintro e w' ⟨rfl, rfl⟩)
                | (go_at_call 115; refine (char_any s pos hlt hs _).mono ?_; rintro e w' ⟨rfl, rfl⟩)
                | (go_at_call 116; refine (rof_at s pos _).mono ?_; rintro e w' ⟨rfl, rfl⟩))
                      go_roundw
                      case rel => exact ⟨pos + wid s pos, fuel, n, (by first | (simp; done) | (simp; omega)), by omega, by omega, HS2, rfl⟩
                      case measure => simp [intOf]; omega
            · rcases Bool.eq_false_or_eq_true (plainAt s pos) with hpl | hpl
              · have HS2 : Hid (checkFrom s fuel (pos + wid s pos) = checkFrom s s.size 0) := by show _ = _; rw [← HS.out, checkFrom, if_pos hlt, if_neg hb, if_pos hpl]
                have hk : (ofR s pos != 1) = false := by rw [ofR_plain, hpl]; rfl
                clear HS
                go_wp2_with (first
                | (go_at_call 114; refine (part_at s _ (pos + 1) (by omega) (by omega) hs _).mono ?_; rintro e w' ⟨rfl, rfl⟩)
                | (go_at_call 115; refine (char_any s pos hlt hs _).mono ?_; rintro e w' ⟨rfl, rfl⟩)
                | (go_at_call 116; refine (rof_at s pos _).mono ?_; rintro e w' ⟨rfl, rfl⟩))
                go_roundw
                case rel => exact ⟨pos + wid s pos, fuel, n, (by first | (simp; done) | (simp; omega)), by omega, by omega, HS2, rfl⟩
                case measure => simp [intOf]; omega
              · have hk : (ofR s pos != 1) = true := by rw [ofR_plain, hpl]; rfl
                have ee : checkOf s = (7, (pos : Int)) := by rw [HE.out, ← HS.out, checkFrom, if_pos hlt, if_neg hb, if_neg (by simp [hpl])]
                clear HE HS
                go_wp2_with (first
                | (go_at_call 114; refine (part_at s _ (pos + 1) (by omega) (by omega) hs _).mono ?_; rintro e w' ⟨rfl, rfl⟩)
                | (go_at_call 115; refine (char_any s pos hlt hs _).mono ?_; rintro e w' ⟨rfl, rfl⟩)
                | (go_at_call 116; refine (rof_at s pos _).mono ?_; rintro e w' ⟨rfl, rfl⟩))
                go_ret2
                exact ⟨(by first | rfl | exact retc ee), n, rfl⟩
          · have ee : checkOf s = (0, -1) := by
              rw [HE.out, ← HS.out]
              cases fuel with
              | zero => rfl
              | succ f => rw [checkFrom, if_neg hlt]
            clear HE
            go_wp2
            go_ret2
            exact ⟨(by first | rfl | exact retc ee), n, rfl⟩
  · have e : checkOf s = (3, 0) := by unfold checkOf; rw [if_neg h0, if_neg h1, if_pos h2]
    go_enter Tryd.func94, Tryd.ntmps94
    go_wp2
    go_ret2
    exact ⟨(by first | rfl | exact retc e), 0, rfl⟩
end Go.Proofs.YtaojjjcaofhmcaaDoor
/- The first fault of a text by the program: the walk. -/
namespace Go.Proofs.YtaojjjcaofhmcaaDoor
open Go.RowKit

theorem cut_at (s : ByteArray) (i : Nat) (m : Int) (w : World) (hs : s.size < 4294967281) (hm : w.cell? ⟨5, 0, none⟩ = some (.int .i64 m)) :
    Calls Tryd.prog 113 #[.string (s.extract i s.size), .string ⟨#[47]⟩] w fun e w' => (∃ x b, e = .returned (.tuple #[.string ⟨(partL s i).toArray⟩, .string x, .bool b])) ∧ ∃ n, w' = w.drewN n := by
  refine (Tryd.strings_Cut (s.extract i s.size) ⟨#[47]⟩ m w (by simp only [ByteArray.size_extract]; omega) hm).mono ?_
  rintro e w' ⟨rfl, n, rfl⟩
  have e : (Lib.cut (s.extract i s.size).data.toList (⟨#[47]⟩ : ByteArray).data.toList).1 = partL s i := by
    rw [show (⟨#[47]⟩ : ByteArray).data.toList = [47] from rfl, cut_slash, Lib.extract_data, List.take_of_length_le (by rw [List.length_drop, ← Lib.size_eq]; exact Nat.le_refl _)]
    rfl
  rw [e]
  exact ⟨⟨_, _, rfl⟩, n, rfl⟩

/-- what a slash behind a place means -/
theorem behind (s : ByteArray) (pos bg : Nat) (hbg : bg ≤ pos) (hb : byteAt s pos ≠ 47) : bg = pos + wid s pos ↔ byteAt s (pos + wid s pos - 1) = 47 := by
  have hw := wid_pos s pos
  constructor
  · omega
  · intro h
    exfalso
    rcases Nat.eq_or_lt_of_le hw with h1 | h1
    · rw [← h1] at h
      exact hb h
    · have := wid_in s pos (pos + wid s pos - 1) (by omega) (by omega)
      omega

set_option maxRecDepth 100000 in
set_option maxHeartbeats 4000000 in
theorem check_any (s : ByteArray) (w : World) (m : Int) (hm : w.cell? ⟨5, 0, none⟩ = some (.int .i64 m)) (hG : 5 < w.heap.size) :
    Calls Tryd.prog 91 #[.string s] w fun e w' => e = .returned (.tuple #[.int .i64 (checkOf s).1, .int .i64 (checkOf s).2]) ∧ Below w.heap.size w w' := by
  have q0 := toList_nil s
  have q1 := toList_one s 47
  by_cases h0 : s.size = 0
  · have e : checkOf s = (1, 0) := by unfold checkOf; rw [if_pos h0]
    rw [h0] at q0
    go_enter Tryd.func91, Tryd.ntmps91
    go_wp2
    go_step3
    go_wp2
    rw [Exit.noGoto_ret]
    go_ret2
    exact ⟨(by first | rfl | exact retc e), Below.refl _ _⟩
  have q0' : (s.toList == []) = false := by rw [q0]; exact decide_eq_false h0
  by_cases h1 : 4096 < s.size
  · have e : checkOf s = (2, 4096) := by unfold checkOf; rw [if_neg h0, if_pos h1]
    go_enter Tryd.func91, Tryd.ntmps91
    go_wp2
    go_step3
    go_wp2
    rw [Exit.noGoto_ret]
    go_ret2
    exact ⟨(by first | rfl | exact retc e), Below.refl _ _⟩
  have hs : s.size ≤ 140737488355328 := by omega
  have hb0 := fun kd W => run_byte_at (P := Tryd.prog) W 9 s kd 0 0 Tryd.underlying9 rfl (by omega)
  have hbl := byteAt_lt s 0
  by_cases h2 : byteAt s 0 = 47
  · by_cases h3 : s.size = 1
    · have e : checkOf s = (0, -1) := by unfold checkOf; rw [if_neg h0, if_neg h1, if_neg (by omega), if_pos h3]
      have q1' : (s.toList == [47]) = true := by rw [q1]; exact decide_eq_true ⟨h3, h2⟩
      clear q1
      go_enter Tryd.func91, Tryd.ntmps91
      go_wp2
      go_step3
      go_wp2
      rw [Exit.noGoto_ret]
      go_ret2
      exact ⟨(by first | rfl | exact retc e), Below.refl _ _⟩
    · have q1' : (s.toList == [47]) = false := by rw [q1]; exact decide_eq_false (fun h => h3 h.1)
      clear q1
      have hbe := fun kd W => run_byte_at (P := Tryd.prog) W 9 s kd (↑s.size - 1) (s.size - 1) Tryd.underlying9 (by omega) (by omega)
      by_cases h4 : byteAt s (s.size - 1) = 47
      · have e : checkOf s = (4, (s.size : Int) - 1) := by unfold checkOf; rw [if_neg h0, if_neg h1, if_neg (by omega), if_neg h3, if_pos h4]
        go_enter Tryd.func91, Tryd.ntmps91
        go_wp2
        go_step3
        go_wp2
        rw [Exit.noGoto_ret]
        go_ret2
        exact ⟨(by first | rfl | exact retc e), Below.refl _ _⟩
      · have e : checkOf s = checkFrom s s.size 0 := by unfold checkOf; rw [if_neg h0, if_neg h1, if_neg (by omega), if_neg h3, if_neg h4]
        have HE := Lib.hid e
        have HM := Lib.hid hm
        have h4i : ((byteAt s (s.size - 1) : Int) == 47) = false := by rw [beq_eq_false_iff_ne]; omega
        clear e hm
        go_enter Tryd.func91, Tryd.ntmps91
        go_wp2
        go_step3
        go_wp2_with (go_at_call 112; refine (first_any s _ hs).mono ?_; rintro e w1 ⟨⟨k, rfl⟩, hb1⟩)
        go_step3
        go_wp2
        go_loopw [6] (fun v wr => ∃ (pos fuel bg : Nat), v = .int .i64 bg ∧ wr.heap[w1.heap.size]? = some (.stringIter s pos) ∧ Below w1.heap.size w1 wr ∧ pos ≤ s.size ∧ s.size ≤ pos + fuel ∧ bg ≤ pos ∧ Hid (checkFrom s fuel pos = checkFrom s s.size 0) ∧ Hid (firstBad s fuel pos = firstBad s s.size 0) ∧ Hid (0 < pos → (bg = pos ↔ byteAt s (pos - 1) = 47))) (fun _ wr => s.size - wr.iterPos w1.heap.size)
        case atStart => exact ⟨0, s.size, 0, rfl, World.iter_heap w1 s 0, (Below.refl _ _).alloc (Nat.le_refl _) _, by omega, by omega, by omega, rfl, rfl, fun h => absurd h (by omega)⟩
        case round =>
          obtain ⟨pos, fuel, bg, rfl, hit, hbw, hp, hf, hbg, HS, HF, HB⟩ := hrel
          have hpos0 := iterPos_of hit
          have hm1 : ∀ W, Below w1.heap.size w1 W → W.cell? ⟨5, 0, none⟩ = some (.int .i64 m) := fun W hB => by
            rw [hB.cell (p := ⟨5, 0, none⟩) (Nat.lt_of_lt_of_le hG hb1.size), hb1.cell (p := ⟨5, 0, none⟩) hG]
            exact HM.out
          have HM1 := Lib.hid hm1
          have hback : ∀ W, Below w1.heap.size w1 W → Below w.heap.size w W := fun W hB => hb1.trans (hB.mono hb1.size)
          clear hm1 HM
          by_cases hlt : pos < s.size
          · have hnx : ∀ ty, (Instr.next (.pointer (some ⟨w1.heap.size, 0, none⟩)) true ty).run Tryd.prog wr = _ := fun ty => Lib.run_next_any_at wr w1.heap.size s pos ty hit hlt
            have hwd := wid_pos s pos
            have hwl := wid_le s pos hlt
            obtain ⟨fuel, rfl⟩ : ∃ f', fuel = f' + 1 := ⟨fuel - 1, by omega⟩
            have hit2 := Lib.iterAt_heap wr w1.heap.size s pos (pos + (Utf8.decode s pos).2) hit
            have hbw2 := Lib.below_iterAt hbw (k := w1.heap.size) (Nat.le_refl _) s (pos + (Utf8.decode s pos).2)
            obtain ⟨W1, hW1⟩ : ∃ W1, W1 = wr.iterAt w1.heap.size s (pos + (Utf8.decode s pos).2) := ⟨_, rfl⟩
            rw [← hW1] at hnx hit2 hbw2
            clear hW1
            change ∀ ty, (Instr.next (.pointer (some ⟨w1.heap.size, 0, none⟩)) true ty).run Tryd.prog wr = .ok (.tuple #[.bool true, .int .i64 pos, .int .i32 (rn s pos : Int)]) W1 at hnx
            change W1.heap[w1.heap.size]? = some (.stringIter s (pos + wid s pos)) at hit2
            clear hit hbw
            rcases Bool.eq_false_or_eq_true (plainAt s pos) with hpl | hpl
            · have hF2 := HF.out
              rw [firstBad_step s fuel pos hlt hpl] at hF2
              have hq : ((pos : Int) == firstBad s s.size 0) = false := by
                rw [beq_eq_false_iff_ne, ← hF2]
                rcases firstBad_ge s fuel (pos + wid s pos) with h | h <;> omega
              have HF2 := Lib.hid hF2
              clear hF2 HF
              by_cases hb : byteAt s pos = 47
              · have hw : wid s pos = 1 := (wid_ascii s pos (by omega)).1
                have hrn : rn s pos = 47 := by rw [(wid_ascii s pos (by omega)).2, hb]
                have hr : ((rn s pos : Int) != 47) = false := by rw [hrn]; rfl
                by_cases hz : 0 < pos
                · by_cases hv : byteAt s (pos - 1) = 47
                  · have hg : ((bg : Int) == (pos : Int)) = true := by
                      rw [beq_iff_eq, (HB.out hz).2 hv]
                    have ee : checkOf s = (5, (pos : Int)) := by rw [HE.out, ← HS.out, checkFrom, if_pos hlt, if_pos hb, if_pos ⟨hz, hv⟩]
                    clear HE HS
                    go_wp2
                    rw [Exit.noGoto_ret]
                    go_ret2
                    exact ⟨(by first | rfl | exact retc ee), hback _ hbw2⟩
                  · have hg : ((bg : Int) == (pos : Int)) = false := by
                      rw [beq_eq_false_iff_ne]
                      intro h
                      exact hv ((HB.out hz).1 (by omega))
                    rcases Bool.eq_false_or_eq_true (partL s (pos + 1) == [46]) with p1 | p1
                    · have hd : dotsL (partL s (pos + 1)) = true := by unfold dotsL; rw [p1]; rfl
                      have ee : checkOf s = (6, (pos : Int) + 1) := by rw [HE.out, ← HS.out, checkFrom, if_pos hlt, if_pos hb, if_neg (fun h => hv h.2), if_pos hd]
                      clear HE HS
                      go_wp2_with (go_at_call 113; refine (cut_at s (pos + 1) m _ (by omega) (HM1.out _ (by first | exact hbw2 | exact below_drewN' hbw2 _ | go_grown))).mono ?_; rintro e w3 ⟨⟨x, b, rfl⟩, n, rfl⟩)
                      all_goals
                        rw [Exit.noGoto_ret]
                        go_ret2
                        exact ⟨(by first | rfl | exact retc ee), hback _ (by first | exact hbw2 | exact below_drewN' hbw2 _)⟩
                    · rcases Bool.eq_false_or_eq_true (partL s (pos + 1) == [46, 46]) with p2 | p2
                      · have hd : dotsL (partL s (pos + 1)) = true := by unfold dotsL; rw [p1, p2]; rfl
                        have ee : checkOf s = (6, (pos : Int) + 1) := by rw [HE.out, ← HS.out, checkFrom, if_pos hlt, if_pos hb, if_neg (fun h => hv h.2), if_pos hd]
                        clear HE HS
                        go_wp2_with (go_at_call 113; refine (cut_at s (pos + 1) m _ (by omega) (HM1.out _ (by first | exact hbw2 | exact below_drewN' hbw2 _ | go_grown))).mono ?_; rintro e w3 ⟨⟨x, b, rfl⟩, n, rfl⟩)
                        all_goals
                          rw [Exit.noGoto_ret]
                          go_ret2
                          exact ⟨(by first | rfl | exact retc ee), hback _ (by first | exact hbw2 | exact below_drewN' hbw2 _)⟩
                      · have hd : ¬ dotsL (partL s (pos + 1)) = true := by unfold dotsL; rw [p1, p2]; decide
                        have HS2 : Hid (checkFrom s fuel (pos + wid s pos) = checkFrom s s.size 0) := by show _ = _; rw [← HS.out, checkFrom, if_pos hlt, if_pos hb, if_neg (fun h => hv h.2), if_neg hd, hw]
                        clear HS HB
                        go_wp2_with (go_at_call 113; refine (cut_at s (pos + 1) m _ (by omega) (HM1.out _ (by first | exact hbw2 | exact below_drewN' hbw2 _ | go_grown))).mono ?_; rintro e w3 ⟨⟨x, b, rfl⟩, n, rfl⟩)
                        go_roundw
                        case rel => exact ⟨pos + wid s pos, fuel, pos + 1, by simp, hit2, below_drewN' hbw2 _, hwl, by omega, by omega, HS2, HF2, fun _ => by rw [hw]; simp [hb]⟩
                        case measure =>
                          have hq2 : (W1.drewN n).iterPos w1.heap.size = pos + wid s pos := iterPos_of hit2
                          rw [hq2, hpos0]
                          omega
                · skip
                  rcases Bool.eq_false_or_eq_true (partL s (pos + 1) == [46]) with p1 | p1
                  · have hd : dotsL (partL s (pos + 1)) = true := by unfold dotsL; rw [p1]; rfl
                    have ee : checkOf s = (6, (pos : Int) + 1) := by rw [HE.out, ← HS.out, checkFrom, if_pos hlt, if_pos hb, if_neg (fun h => hz h.1), if_pos hd]
                    clear HE HS
                    go_wp2_with (go_at_call 113; refine (cut_at s (pos + 1) m _ (by omega) (HM1.out _ (by first | exact hbw2 | exact below_drewN' hbw2 _ | go_grown))).mono ?_; rintro e w3 ⟨⟨x, b, rfl⟩, n, rfl⟩)
                    all_goals
                      rw [Exit.noGoto_ret]
                      go_ret2
                      exact ⟨(by first | rfl | exact retc ee), hback _ (by first | exact hbw2 | exact below_drewN' hbw2 _)⟩
                  · rcases Bool.eq_false_or_eq_true (partL s (pos + 1) == [46, 46]) with p2 | p2
                    · have hd : dotsL (partL s (pos + 1)) = true := by unfold dotsL; rw [p1, p2]; rfl
                      have ee : checkOf s = (6, (pos : Int) + 1) := by rw [HE.out, ← HS.out, checkFrom, if_pos hlt, if_pos hb, if_neg (fun h => hz h.1), if_pos hd]
                      clear HE HS
                      go_wp2_with (go_at_call 113; refine (cut_at s (pos + 1) m _ (by omega) (HM1.out _ (by first | exact hbw2 | exact below_drewN' hbw2 _ | go_grown))).mono ?_; rintro e w3 ⟨⟨x, b, rfl⟩, n, rfl⟩)
                      all_goals
                        rw [Exit.noGoto_ret]
                        go_ret2
                        exact ⟨(by first | rfl | exact retc ee), hback _ (by first | exact hbw2 | exact below_drewN' hbw2 _)⟩
                    · have hd : ¬ dotsL (partL s (pos + 1)) = true := by unfold dotsL; rw [p1, p2]; decide
                      have HS2 : Hid (checkFrom s fuel (pos + wid s pos) = checkFrom s s.size 0) := by show _ = _; rw [← HS.out, checkFrom, if_pos hlt, if_pos hb, if_neg (fun h => hz h.1), if_neg hd, hw]
                      clear HS HB
                      go_wp2_with (go_at_call 113; refine (cut_at s (pos + 1) m _ (by omega) (HM1.out _ (by first | exact hbw2 | exact below_drewN' hbw2 _ | go_grown))).mono ?_; rintro e w3 ⟨⟨x, b, rfl⟩, n, rfl⟩)
                      go_roundw
                      case rel => exact ⟨pos + wid s pos, fuel, pos + 1, by simp, hit2, below_drewN' hbw2 _, hwl, by omega, by omega, HS2, HF2, fun _ => by rw [hw]; simp [hb]⟩
                      case measure =>
                        have hq2 : (W1.drewN n).iterPos w1.heap.size = pos + wid s pos := iterPos_of hit2
                        rw [hq2, hpos0]
                        omega
              · have hr : ((rn s pos : Int) != 47) = true := by
                  rw [bne_iff_ne]
                  intro h
                  have := rn_ascii s pos (by omega)
                  omega
                have HS2 : Hid (checkFrom s fuel (pos + wid s pos) = checkFrom s s.size 0) := by show _ = _; rw [← HS.out, checkFrom, if_pos hlt, if_neg hb, if_pos hpl]
                have HB2 := Lib.hid (behind s pos bg hbg hb)
                clear HS HB
                go_wp2
                go_roundw
                case rel => exact ⟨pos + wid s pos, fuel, bg, rfl, hit2, hbw2, hwl, by omega, by omega, HS2, HF2, fun _ => HB2.out⟩
                case measure =>
                  rw [iterPos_of hit2, hpos0]
                  omega
            · have hb : ¬ byteAt s pos = 47 := fun h => by
                rw [slash_plain s pos h] at hpl
                cases hpl
              have hq : ((pos : Int) == firstBad s s.size 0) = true := by
                rw [← HF.out, firstBad, if_pos hlt, hpl]
                simp
              have ee : checkOf s = (7, (pos : Int)) := by rw [HE.out, ← HS.out, checkFrom, if_pos hlt, if_neg hb, if_neg (by simp [hpl])]
              clear HE HS
              go_wp2
              rw [Exit.noGoto_ret]
              go_ret2
              exact ⟨(by first | rfl | exact retc ee), hback _ hbw2⟩
          · have hnx : ∀ ty, (Instr.next (.pointer (some ⟨w1.heap.size, 0, none⟩)) true ty).run Tryd.prog wr = _ := fun ty => Lib.run_next_end_at wr w1.heap.size s pos ty hit hlt
            have ee : checkOf s = (0, -1) := by
              rw [HE.out, ← HS.out]
              cases fuel with
              | zero => rfl
              | succ f => rw [checkFrom, if_neg hlt]
            clear HE
            go_wp2
            rw [Exit.noGoto_ret]
            go_ret2
            exact ⟨(by first | rfl | exact retc ee), hback _ hbw⟩
  · have e : checkOf s = (3, 0) := by unfold checkOf; rw [if_neg h0, if_neg h1, if_pos h2]
    go_enter Tryd.func91, Tryd.ntmps91
    go_wp2
    go_step3
    go_wp2
    rw [Exit.noGoto_ret]
    go_ret2
    exact ⟨(by first | rfl | exact retc e), Below.refl _ _⟩
end Go.Proofs.YtaojjjcaofhmcaaDoor
