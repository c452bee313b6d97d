/- OpsCounts: the opener. -/
import Derived.Test.YtpjjnmdfgcfnmaaGreatDoorOu1
import Derived.Test.YtpjjnmdfgcfnmaaGreatDoorOpen2
set_option linter.unusedVariables false
set_option linter.unusedSimpArgs false
namespace Go.Proofs.YtpjjnmdfgcfnmaaGreatDoor
open Go.ChangeShapes Go.WideShapes Go.ChangeAt Go.RowKit

set_option maxRecDepth 100000 in
theorem opsCounts_walk {H : Type} (enc : TypeId × Value → H) (base : Nat) (W : World) (v0 : Value) (d0 : DataW H) (p0 : List MemPlace) (hv0 : Value.okWide Tryz.prog W .any base 29 v0) (h0 : DataW.Trod enc Tryz.prog W 0 (fun _ => true) true 29 v0 d0 p0)
    (hsz : (DataW.weightsEach Tryz.prog ([29] : List TypeId) ([d0] : List (DataW H))).all (· ≤ reachBytes) = true)
    (hk : Rows.uptoBulkAll ([d0] : List (DataW H)) ≤ 1048576) (hlaid : laidMetH Tryz.prog Rows.opsCountsUptoRow.laid W) :
    Calls Tryz.prog 4 #[v0] W fun e W' => e = .returned (.bool true) ∧ Below W.heap.size W W' := by
  obtain ⟨x, xs, rfl, hx, hb⟩ := op_argO hv0 (rdd_of 0 h0 hsz rfl rfl)
  have h1 := bulkAll_part (d := d0) (l := [d0]) (by simp)
  exact countsLaw_walk hx (env_laid hlaid (by kernel_rfl) (by simp [Rows.opsCountsUptoRow]) (by simp [Rows.opsCountsUptoRow])) (by omega)
end Go.Proofs.YtpjjnmdfgcfnmaaGreatDoor
