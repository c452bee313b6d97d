/- Are two lists of permissions the same; are two nodes the same: by the reference. -/
import Derived.Test.YtaojjjcaofhmcaaBytes
import Derived.Test.YtaojjjcaofhmcaaSt4
import Derived.Deep.QuietTactic
import Derived.BigQuiet
namespace Go.Proofs.Ytaojjjcaofhmcaa
open Go.RowKit

/-- a permission's cells; those of a list -/
def aclCells (L : List (Int × ByteArray × ByteArray)) : List Value := L.flatMap fun a => [.int .i32 a.1, .string a.2.1, .string a.2.2]
theorem aclCells_cons (a : Int × ByteArray × ByteArray) (L : List (Int × ByteArray × ByteArray)) : aclCells (a :: L) = .int .i32 a.1 :: .string a.2.1 :: .string a.2.2 :: aclCells L := by simp [aclCells]
theorem aclCells_length (L : List (Int × ByteArray × ByteArray)) : (aclCells L).length = L.length * 3 := by
  induction L with
  | nil => rfl
  | cons a L ih => rw [aclCells_cons]; simp only [List.length_cons, ih]; omega
theorem aclCells_get (L : List (Int × ByteArray × ByteArray)) (k : Nat) (h : k < L.length) :
    (aclCells L)[k * 3]? = some (.int .i32 L[k].1) ∧ (aclCells L)[k * 3 + 1]? = some (.string L[k].2.1) ∧ (aclCells L)[k * 3 + 2]? = some (.string L[k].2.2) := by
  induction L generalizing k with
  | nil => simp at h
  | cons a L ih =>
    rw [aclCells_cons]
    cases k with
    | zero => simp
    | succ k =>
      have h' : k < L.length := by simpa using h
      have := ih k h'
      have e1 : (k + 1) * 3 = k * 3 + 1 + 1 + 1 := by omega
      rw [e1]
      simpa using this
theorem aclCells_one (L : List (Int × ByteArray × ByteArray)) : ∀ u ∈ aclCells L, u.oneCell' = true := by
  induction L with
  | nil => simp [aclCells]
  | cons a L ih =>
    rw [aclCells_cons]
    intro u hu
    rcases List.mem_cons.1 hu with rfl | hu
    · rfl
    rcases List.mem_cons.1 hu with rfl | hu
    · rfl
    rcases List.mem_cons.1 hu with rfl | hu
    · rfl
    · exact ih u hu

set_option maxRecDepth 100000 in
set_option maxHeartbeats 1000000 in
theorem acls_same (A C : Option Addr) (n c d : Nat) (L : List (Int × ByteArray × ByteArray)) (B : Nat) (w : World) (hn : n ≤ 9223372036854775807) (hBw : B ≤ w.heap.size) (ha : Reads w B 3 A n (aclCells L)) (hc : Reads w B 3 C n (aclCells L)) :
    Calls Try.prog 20 #[.slice A n c, .slice C n d] w fun e w' => e = .returned (.bool true) ∧ Below w.heap.size w w' := by
  have hl : L.length = n := by have := ha.1; rw [aclCells_length] at this; omega
  have HL := Lib.hid hl
  have HA := Lib.hid ha
  have HC := Lib.hid hc
  clear hl ha hc
  go_enter Try.func20, Try.ntmps20
  go_wp2
  go_loopw [5] (fun k' wr => ∃ k : Nat, k ≤ n ∧ k' = .int .i64 k ∧ Below w.heap.size w wr) (fun k' _ => n - (intOf k').toNat)
  case atStart => exact ⟨0, Nat.zero_le _, rfl, Below.refl _ _⟩
  case round =>
    obtain ⟨k, hk, rfl, hB⟩ := hrel
    by_cases hlt : k < n
    · obtain ⟨b, off, rfl, _, hx⟩ := (HA.out.below (hB.mono hBw)).plain (by omega) (by omega)
      obtain ⟨b', off', rfl, _, hy⟩ := (HC.out.below (hB.mono hBw)).plain (by omega) (by omega)
      obtain ⟨g0, g1, g2⟩ := aclCells_get L k (by rw [HL.out]; exact hlt)
      have x0 := hx _ _ g0
      have x1 := hx _ _ g1
      have x2 := hx _ _ g2
      have y0 := hy _ _ g0
      have y1 := hy _ _ g1
      have y2 := hy _ _ g2
      simp only [← Nat.add_assoc] at x1 x2 y1 y2
      clear hx hy g0 g1 g2
      generalize (L[k]'(by rw [HL.out]; exact hlt)).1 = q0 at x0 y0
      generalize (L[k]'(by rw [HL.out]; exact hlt)).2.1 = q1 at x1 y1
      generalize (L[k]'(by rw [HL.out]; exact hlt)).2.2 = q2 at x2 y2
      go_wp2
      go_quiet (fail)
      go_wp2
      go_ways
      go_roundw
      case rel => exact ⟨k + 1, by omega, by go_num, below_drewN' hB _⟩
      case measure => simp [intOf]; omega
    · go_wp2
      go_ret
      exact ⟨rfl, hB⟩
end Go.Proofs.Ytaojjjcaofhmcaa
