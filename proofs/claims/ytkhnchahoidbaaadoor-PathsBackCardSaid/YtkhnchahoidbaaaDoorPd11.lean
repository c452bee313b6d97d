/- Lists of texts; Parts by the program and by the reference. -/
import Derived.Test.YtkhnchahoidbaaaDoorPd10
import Derived.Test.YtkhnchahoidbaaaDoorBytes
import Derived.Lib.Split
import Derived.Lib.SplitLaws
import Derived.Deep.QuietTactic
import Derived.BigQuiet
import Derived.Laws.Small
namespace Go.Proofs.YtkhnchahoidbaaaDoor
open Go.RowKit

def strs (L : List ByteArray) : List Value := L.map Value.string
theorem strs_length (L : List ByteArray) : (strs L).length = L.length := by simp [strs]
theorem strs_get (L : List ByteArray) (k : Nat) (h : k < L.length) : (strs L)[k]? = some (.string L[k]) := by simp [strs, h]
theorem strs_append (L M : List ByteArray) : strs (L ++ M) = strs L ++ strs M := by simp [strs]
theorem strs_one (L : List ByteArray) : ∀ u ∈ strs L, u.oneCell' = true := by
  intro u hu
  obtain ⟨b, _, rfl⟩ := List.mem_map.1 hu
  rfl

theorem reads_str {w : World} {B n : Nat} {A : Option Addr} {L : List ByteArray} (h : Reads w B 1 A n (strs L)) (k : Nat) (hk : k < n) :
    ∃ b off x, A = some ⟨b, off, none⟩ ∧ b < B ∧ L[k]? = some x ∧ w.cell? ⟨b, off + k, none⟩ = some (.string x) := by
  obtain ⟨b, off, e, hb, hc⟩ := h.plain (by omega) (by decide)
  have hl := h.1
  rw [strs_length, Nat.mul_one] at hl
  exact ⟨b, off, L[k]'(by omega), e, hb, List.getElem?_eq_getElem (by omega), hc k _ (strs_get L k (by omega))⟩

set_option maxRecDepth 100000 in
set_option maxHeartbeats 1000000 in
theorem words_true (A A' : Option Addr) (n c c' B B' : Nat) (L : List ByteArray) (w : World) (h : Reads w B 1 A n (strs L)) (h' : Reads w B' 1 A' n (strs L)) (hn : n ≤ 140737488355328) :
    Calls Tryd.prog 18 #[.slice A n c, .slice A' n c'] w fun e w' => e = .returned (.bool true) ∧ ∃ q, w' = w.drewN q := by
  have H := Lib.hid h
  have H' := Lib.hid h'
  clear h h'
  go_enter Tryd.func18, Tryd.ntmps18
  go_wp2
  go_loopw [5] (fun v wr => ∃ k q : Nat, v = .int .i64 k ∧ k ≤ n ∧ wr = w.drewN q) (fun v _ => n - (intOf v).toNat)
  case atStart => exact ⟨0, 0, rfl, by omega, rfl⟩
  case round =>
    obtain ⟨k, q, rfl, hk, rfl⟩ := hrel
    by_cases hlt : k < n
    · obtain ⟨b, off, x, rfl, _, hx, c1⟩ := reads_str H.out k hlt
      obtain ⟨b', off', x', rfl, _, hx', c2⟩ := reads_str H'.out k hlt
      obtain rfl : x = x' := Option.some.inj (hx.symm.trans hx')
      clear H H'
      have hne : (x.toList == x.toList) = true := by simp
      go_wp2
      go_quiet (fail)
      go_wp2
      go_roundw
      case rel => exact ⟨k + 1, q + nq, by simp, by omega, rfl⟩
      case measure => simp [intOf]; omega
    · go_wp2
      go_ret
      exact ⟨rfl, q, rfl⟩

/-! ### parts, plainly -/
theorem index_slash (l : List UInt8) : (Lib.index l [47] = -1 ∧ l.takeWhile (· != 47) = l) ∨ (∃ k : Nat, Lib.index l [47] = k ∧ l[k]? = some 47 ∧ l.take k = l.takeWhile (· != 47)) := by
  induction l with
  | nil => exact .inl ⟨rfl, rfl⟩
  | cons b l ih =>
    by_cases hb : b = 47
    · subst hb
      exact .inr ⟨0, by simp [Lib.index, List.isPrefixOf], rfl, by simp⟩
    · have h1 : List.isPrefixOf [47] (b :: l) = false := by simp [List.isPrefixOf, Ne.symm hb]
      rcases ih with ⟨h, h'⟩ | ⟨k, h, h2, h'⟩
      · refine .inl ⟨by simp [Lib.index, h1, h], by simp [hb, h']⟩
      · refine .inr ⟨k + 1, ?_, by simpa using h2, by simp [hb, h']⟩
        have : ¬ ((k : Int) = -1) := by omega
        simp [Lib.index, h1, h, this]

/-- the parts from a place on -/
def partsF (s : ByteArray) : Nat → Nat → List ByteArray
  | 0, _ => []
  | f + 1, i => if i < s.size then ⟨(partL s i).toArray⟩ :: partsF s f (i + (partL s i).length + 1) else []
theorem partsF_fuel (s : ByteArray) : ∀ f g i, s.size ≤ i + f → s.size ≤ i + g → partsF s f i = partsF s g i := by
  intro f
  induction f with
  | zero =>
    intro g i h _
    cases g with
    | zero => rfl
    | succ g => rw [partsF, partsF, if_neg (by omega)]
  | succ f ih =>
    intro g i h h'
    cases g with
    | zero => rw [partsF, partsF, if_neg (by omega)]
    | succ g =>
      rw [partsF, partsF]
      split
      · rw [ih g _ (by omega) (by omega)]
      · rfl

theorem tail_data (s : ByteArray) (i : Nat) : (s.extract i s.size).data.toList = s.data.toList.drop i := by
  rw [Lib.extract_data, List.take_of_length_le (by rw [List.length_drop, ← Lib.size_eq]; exact Nat.le_refl _)]

theorem split_parts (s : ByteArray) (hend : byteAt s (s.size - 1) ≠ 47) : ∀ f i, i < s.size → s.size ≤ i + f →
    Lib.splitB ⟨#[47]⟩ 0 (Lib.countB (s.extract i s.size) ⟨#[47]⟩) (s.extract i s.size) = partsF s f i := by
  intro f
  induction f with
  | zero => intro i h1 h2; omega
  | succ f ih =>
    intro i h1 h2
    rw [partsF, if_pos h1]
    have hz : (s.extract i s.size).size = s.size - i := by simp only [ByteArray.size_extract]; omega
    have hlen : s.data.toList.length = s.size := (Lib.size_eq s).symm
    have hd := tail_data s i
    rcases index_slash (s.extract i s.size).data.toList with ⟨h, ht⟩ | ⟨k, h, h47, ht⟩
    · have hB : Lib.indexB (s.extract i s.size) ⟨#[47]⟩ = -1 := h
      rw [Lib.splitB_miss _ _ _ _ hB]
      rw [hd] at ht
      have hp : partL s i = s.data.toList.drop i := ht
      have hl : (partL s i).length = s.size - i := by rw [hp, List.length_drop, hlen]
      rw [hl, show partsF s f (i + (s.size - i) + 1) = [] by
        cases f with
        | zero => rfl
        | succ f => rw [partsF, if_neg (by omega)]]
      rw [hp, ← hd, Lib.mk_data]
    · have hB : Lib.indexB (s.extract i s.size) ⟨#[47]⟩ = k := h
      rw [hd] at h47 ht
      have hkl : k < s.size - i := by
        have := (List.getElem?_eq_some_iff.1 h47).1
        rw [List.length_drop, hlen] at this
        exact this
      have hb : byteAt s (i + k) = 47 := by
        rw [List.getElem?_drop] at h47
        exact byteAt_of_list s (i + k) 47 h47
      have hk2 : i + k + 1 < s.size := by
        rcases Nat.eq_or_lt_of_le (show i + k + 1 ≤ s.size by omega) with h' | h'
        · exfalso
          apply hend
          rw [← h', Nat.add_sub_cancel]
          exact hb
        · exact h'
      have hp : partL s i = (s.data.toList.drop i).take k := ht.symm
      have hl : (partL s i).length = k := by rw [hp, List.length_take, List.length_drop, hlen]; omega
      have e1 : (s.extract i s.size).extract (k + 1) (s.extract i s.size).size = s.extract (i + k + 1) s.size := by
        rw [← Lib.mk_data ((s.extract i s.size).extract _ _), ← Lib.mk_data (s.extract (i + k + 1) s.size), tail_data, tail_data, tail_data, List.drop_drop, Nat.add_assoc]
      have e2 : (s.extract i s.size).extract 0 (k + 0) = ⟨(partL s i).toArray⟩ := by
        rw [Lib.extract_eq, hd, hp]
        rfl
      rw [Lib.countB_hit _ _ k (by decide) hB, Nat.add_comm 1, Lib.splitB_hit _ _ _ _ k hB]
      show (s.extract i s.size).extract 0 (k + 0) :: Lib.splitB ⟨#[47]⟩ 0 (Lib.countB ((s.extract i s.size).extract (k + 1) (s.extract i s.size).size) ⟨#[47]⟩) ((s.extract i s.size).extract (k + 1) (s.extract i s.size).size) = _
      rw [e1, e2, hl, ih (i + k + 1) hk2 (by omega)]
end Go.Proofs.YtkhnchahoidbaaaDoor
