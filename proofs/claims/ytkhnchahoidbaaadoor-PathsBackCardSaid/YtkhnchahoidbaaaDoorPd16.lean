/- Suffixes: the walks. -/
import Derived.Test.YtkhnchahoidbaaaDoorPd9
import Derived.Test.YtkhnchahoidbaaaDoorShelf
import Derived.Lib.AppendIntMem
import Derived.Lib.ItoaLen
import Derived.Laws.Small
namespace Go.Proofs.YtkhnchahoidbaaaDoor
open Go.RowKit

/-- a number's numeral; zeros ahead of it -/
def nm (u : Nat) : ByteArray := ⟨(Lib.decDigits u).toArray⟩
theorem nm_size (u : Nat) : (nm u).size = Lib.nDigits u := by
  rw [Lib.size_eq, ← Lib.decDigits_length]
  rfl
theorem nDigits_10 (u : Nat) (h : u < 10000000000) : Lib.nDigits u ≤ 10 := by
  have key : ∀ (k u : Nat), u < 10 ^ (k + 1) → Lib.nDigits u ≤ k + 1 := by
    intro k
    induction k with
    | zero =>
      intro u h
      rw [Lib.nDigits_small (by simpa using h)]
      exact Nat.le_refl _
    | succ k ih =>
      intro u h
      by_cases h' : u < 10
      · rw [Lib.nDigits_small h']; omega
      · rw [Lib.nDigits_big h']
        have := ih (u / 10) (by rw [Nat.div_lt_iff_lt_mul (by decide)]; rw [Nat.pow_succ] at h; exact h)
        omega
  exact key 9 u h
def zerosB (k : Nat) : ByteArray := ⟨(List.replicate k 48).toArray⟩
theorem zerosB_size (k : Nat) : (zerosB k).size = k := by rw [Lib.size_eq]; simp [zerosB]
theorem zerosB_succ (k : Nat) (s : ByteArray) : (⟨#[48]⟩ : ByteArray) ++ (zerosB k ++ s) = zerosB (k + 1) ++ s := by
  rw [← Lib.mk_data (⟨#[48]⟩ ++ (zerosB k ++ s)), ← Lib.mk_data (zerosB (k + 1) ++ s)]
  congr 2
theorem zerosB_zero (s : ByteArray) : zerosB 0 ++ s = s := by
  rw [← Lib.mk_data (zerosB 0 ++ s)]
  conv => rhs; rw [← Lib.mk_data s]
  congr 2
def padB (wd : Nat) (s : ByteArray) : ByteArray := zerosB (wd - s.size) ++ s
def sufB (n : Int) : ByteArray := if n < 0 then ⟨#[45]⟩ ++ padB 9 (nm (-n).toNat) else padB 10 (nm n.toNat)
theorem repeat_zeros (k : Nat) : (⟨(Lib.repeatL (⟨#[48]⟩ : ByteArray).data.toList k).toArray⟩ : ByteArray) = zerosB k := by
  unfold zerosB
  congr 2
  have := Lib.repeatL_replicate 48 1 k
  rw [Nat.mul_one] at this
  exact this
theorem padB_size (wd : Nat) (s : ByteArray) (h : s.size ≤ wd) : (padB wd s).size = wd := by
  unfold padB
  rw [size_append, zerosB_size]
  omega

def strSz : Value → Nat
  | .string s => s.size
  | _ => 0

set_option maxRecDepth 100000 in
set_option maxHeartbeats 1000000 in
theorem zeros_any (s : ByteArray) (wd : Nat) (hw : wd ≤ 100) (w : World) :
    Calls Tryd.prog 40 #[.string s, .int .i64 wd] w fun e w' => e = .returned (.string (padB wd s)) ∧ w = w' := by
  go_enter Tryd.func40, Tryd.ntmps40
  go_wp2
  go_loopw [0] (fun v wr => ∃ k : Nat, v = .string (zerosB k ++ s) ∧ k ≤ wd - s.size ∧ wr = w) (fun v _ => wd - strSz v)
  case atStart => exact ⟨0, by rw [zerosB_zero], by omega, rfl⟩
  case round =>
    obtain ⟨k, rfl, hk, rfl⟩ := hrel
    have hz : (zerosB k ++ s).size = k + s.size := by rw [size_append, zerosB_size]
    by_cases hlt : k + s.size < wd
    · have hz2 := zerosB_succ k s
      have hc : ((k : Int) + (s.size : Int) < (wd : Int)) := by omega
      go_wp2
      go_roundw
      case rel => exact ⟨k + 1, rfl, by omega, by trivial⟩
      case measure =>
        show wd - (zerosB (k + 1) ++ s).size < wd - (zerosB k ++ s).size
        rw [size_append, zerosB_size, hz]
        omega
    · have e : padB wd s = zerosB k ++ s := by
        unfold padB
        rw [show wd - s.size = k by omega]
      have hc : ¬ ((k : Int) + (s.size : Int) < (wd : Int)) := by omega
      go_wp2
      go_ret
      exact ⟨by first | rfl | (rw [e]; rfl), rfl⟩

theorem suf_split (n : Int) (h0 : -2147483648 ≤ n) (h1 : n ≤ 2147483647) : (n < 0 → (nm (-n).toNat).size ≤ 10) ∧ (0 ≤ n → (nm n.toNat).size ≤ 10) :=
  ⟨fun _ => by rw [nm_size]; exact nDigits_10 _ (by omega), fun _ => by rw [nm_size]; exact nDigits_10 _ (by omega)⟩

section
variable (n : Int) (h0 : -2147483648 ≤ n) (h1 : n ≤ 2147483647) (w : World) (htab : Lib.TabBelow Tryd.prog w.heap.size w "internal/strconv.uint64pow10" .u64 Lib.pow10Tab)
include h0 h1 htab
omit h0 h1 in
theorem fmt_at (u : Nat) (j : Int) (hj : j = u) (hu : u < 10000000000) (W : World) (hB : Below w.heap.size w W) :
    Calls Tryd.prog 38 #[.int .i64 j, .int .i64 10] W fun e w' => e = .returned (.string (nm u)) ∧ Below w.heap.size w w' := by
  subst hj
  refine (Tryd.strconv_FormatInt_10 u (by omega) (by omega) W (htab W hB)).mono ?_
  rintro e w' ⟨rfl, k, os, rfl⟩
  rw [Lib.itoa_nonneg]
  exact ⟨rfl, hB.trans (Lib.below_grow _ W hB.size k os)⟩

set_option maxRecDepth 100000 in
set_option maxHeartbeats 1000000 in
theorem rsuffix_any : Calls Tryd.prog 22 #[.int .i32 n] w fun e w' => e = .returned (.string (sufB n)) ∧ Below w.heap.size w w' := by
  by_cases hn : n < 0
  · have e : sufB n = ⟨#[45]⟩ ++ padB 9 (nm (-n).toNat) := by unfold sufB; rw [if_pos hn]
    have hF := Lib.hid (fmt_at w htab (-n).toNat (-n) (by omega) (by omega))
    have hs := (suf_split n h0 h1).1 hn
    have hz : (padB 9 (nm (-n).toNat)).size ≤ 100 := by unfold padB; rw [size_append, zerosB_size]; omega
    rw [e]
    clear e htab
    go_enter Tryd.func22, Tryd.ntmps22
    go_wp2_with (first
      | (go_at_call 38; refine (hF.out _ (by first | exact Below.refl _ _ | exact below_drewN' (Below.refl _ _) _)).mono ?_; rintro e w1 ⟨rfl, hb1⟩)
      | (go_at_call 40; refine (zeros_any _ 9 (by decide) _).mono ?_; rintro e w2 ⟨rfl, rfl⟩))
    go_ret
    exact ⟨rfl, hb1⟩
  · have e : sufB n = padB 10 (nm n.toNat) := by unfold sufB; rw [if_neg hn]
    have hF := Lib.hid (fmt_at w htab n.toNat n (by omega) (by omega))
    rw [e]
    clear e htab
    go_enter Tryd.func22, Tryd.ntmps22
    go_wp2_with (first
      | (go_at_call 38; refine (hF.out _ (by first | exact Below.refl _ _ | exact below_drewN' (Below.refl _ _) _)).mono ?_; rintro e w1 ⟨rfl, hb1⟩)
      | (go_at_call 40; refine (zeros_any _ 10 (by decide) _).mono ?_; rintro e w2 ⟨rfl, rfl⟩))
    go_ret
    exact ⟨rfl, hb1⟩

set_option maxRecDepth 100000 in
set_option maxHeartbeats 1000000 in
theorem suffix_any : Calls Tryd.prog 21 #[.int .i32 n] w fun e w' => e = .returned (.string (sufB n)) ∧ Below w.heap.size w w' := by
  have HR : Hid (∀ (k : Nat) (j : Int) (W : World), j = k → k ≤ 100 → Calls Tryd.prog 39 #[.string ⟨#[48]⟩, .int .i64 j] W fun e w' => e = .returned (.string (zerosB k)) ∧ Below W.heap.size W w') := fun k j W hj hk => by
    subst hj
    have := Tryd.strings_Repeat ⟨#[48]⟩ k W (by omega) (by show 1 * k ≤ _; omega)
    rw [repeat_zeros] at this
    exact this
  by_cases hn : n < 0
  · have hs := (suf_split n h0 h1).1 hn
    have e : sufB n = ⟨#[45]⟩ ++ zerosB (9 - (nm (-n).toNat).size) ++ nm (-n).toNat := by unfold sufB padB; rw [if_pos hn, ByteArray.append_assoc]
    have hF := Lib.hid (fmt_at w htab (-n).toNat (-n) (by omega) (by omega))
    have hz := zerosB_size (9 - (nm (-n).toNat).size)
    rw [e]
    clear e htab
    generalize nm (-n).toNat = t at hF hs hz ⊢
    generalize hk : zerosB (9 - t.size) = zk at hz ⊢
    go_enter Tryd.func21, Tryd.ntmps21
    go_wp2_with (first
      | (go_at_call 38; refine (hF.out _ (by first | exact Below.refl _ _ | exact below_drewN' (Below.refl _ _) _)).mono ?_; rintro e w1 ⟨rfl, hb1⟩)
      | (go_at_call 39; refine (HR.out (9 - t.size) _ _ (by omega) (by omega)).mono ?_; rintro e w2 ⟨rfl, hb2⟩; rw [hk]))
    all_goals
      go_ret
      exact ⟨rfl, hb1.trans (hb2.mono hb1.size)⟩
  · have hs := (suf_split n h0 h1).2 (by omega)
    have e : sufB n = zerosB (10 - (nm n.toNat).size) ++ nm n.toNat := by unfold sufB padB; rw [if_neg hn]
    have hF := Lib.hid (fmt_at w htab n.toNat n (by omega) (by omega))
    have hz := zerosB_size (10 - (nm n.toNat).size)
    rw [e]
    clear e htab
    generalize nm n.toNat = t at hF hs hz ⊢
    generalize hk : zerosB (10 - t.size) = zk at hz ⊢
    go_enter Tryd.func21, Tryd.ntmps21
    go_wp2_with (first
      | (go_at_call 38; refine (hF.out _ (by first | exact Below.refl _ _ | exact below_drewN' (Below.refl _ _) _)).mono ?_; rintro e w1 ⟨rfl, hb1⟩)
      | (go_at_call 39; refine (HR.out (10 - t.size) _ _ (by omega) (by omega)).mono ?_; rintro e w2 ⟨rfl, hb2⟩; rw [hk]))
    all_goals
      go_ret
      exact ⟨rfl, hb1.trans (hb2.mono hb1.size)⟩
end
end Go.Proofs.YtkhnchahoidbaaaDoor
