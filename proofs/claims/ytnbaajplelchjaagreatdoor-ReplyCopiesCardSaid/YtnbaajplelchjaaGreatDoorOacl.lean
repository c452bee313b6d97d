/- A list of permissions as cells (out of st/XSt6, for seats without stat). -/
import Derived.Test.YtnbaajplelchjaaGreatDoorBase
set_option linter.unusedVariables false
set_option linter.unusedSimpArgs false
namespace Go.Proofs.YtnbaajplelchjaaGreatDoor
open Go.RowKit

abbrev AclT := Int × ByteArray × ByteArray
/-- a permission's cells; those of a list -/
def aclCells (L : List (Int × ByteArray × ByteArray)) : List Value := L.flatMap fun a => [.int .i32 a.1, .string a.2.1, .string a.2.2]
theorem aclCells_cons (a : Int × ByteArray × ByteArray) (L : List (Int × ByteArray × ByteArray)) : aclCells (a :: L) = .int .i32 a.1 :: .string a.2.1 :: .string a.2.2 :: aclCells L := by simp [aclCells]
theorem aclCells_length (L : List (Int × ByteArray × ByteArray)) : (aclCells L).length = L.length * 3 := by
  induction L with
  | nil => rfl
  | cons a L ih => rw [aclCells_cons]; simp only [List.length_cons, ih]; omega
theorem aclCells_get (L : List (Int × ByteArray × ByteArray)) (k : Nat) (h : k < L.length) :
    (aclCells L)[k * 3]? = some (.int .i32 L[k].1) ∧ (aclCells L)[k * 3 + 1]? = some (.string L[k].2.1) ∧ (aclCells L)[k * 3 + 2]? = some (.string L[k].2.2) := by
  induction L generalizing k with
  | nil => simp at h
  | cons a L ih =>
    rw [aclCells_cons]
    cases k with
    | zero => simp
    | succ k =>
      have h' : k < L.length := by simpa using h
      have := ih k h'
      have e1 : (k + 1) * 3 = k * 3 + 1 + 1 + 1 := by omega
      rw [e1]
      simpa using this
end Go.Proofs.YtnbaajplelchjaaGreatDoor
