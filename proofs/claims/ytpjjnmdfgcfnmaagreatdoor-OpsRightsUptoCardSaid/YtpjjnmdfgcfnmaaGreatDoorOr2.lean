/- OpsRights: the opener. -/
import Derived.Test.YtpjjnmdfgcfnmaaGreatDoorOr1
import Derived.Test.YtpjjnmdfgcfnmaaGreatDoorOpen2
set_option linter.unusedVariables false
set_option linter.unusedSimpArgs false
namespace Go.Proofs.YtpjjnmdfgcfnmaaGreatDoor
open Go.ChangeShapes Go.WideShapes Go.ChangeAt Go.RowKit

set_option maxRecDepth 100000 in
theorem opsRights_walk {H : Type} (enc : TypeId × Value → H) (base : Nat) (W : World) (v0 : Value) (d0 : DataW H) (p0 : List MemPlace) (hv0 : Value.okWide Tryz.prog W .any base 29 v0) (h0 : DataW.Trod enc Tryz.prog W 0 (fun _ => true) true 29 v0 d0 p0)
    (a1 : Int) (w1 : (Lit.int .i32 a1).wf = true)
    (hsz : (DataW.weightsEach Tryz.prog ([29, 21] : List TypeId) ([d0, DataW.lit (.int .i32 a1)] : List (DataW H))).all (· ≤ reachBytes) = true)
    (hk : Rows.uptoBulkAll ([d0, DataW.lit (.int .i32 a1)] : List (DataW H)) ≤ 1048576) (hlaid : laidMetH Tryz.prog Rows.opsRightsUptoRow.laid W) :
    Calls Tryz.prog 3 #[v0, .int .i32 a1] W fun e W' => e = .returned (.bool true) ∧ Below W.heap.size W W' := by
  obtain ⟨x, xs, rfl, hx, hb⟩ := op_argO hv0 (rdd_of 0 h0 hsz rfl rfl)
  have h1 := bulkAll_part (d := d0) (l := [d0, DataW.lit (.int .i32 a1)]) (by simp)
  exact rightsLaw_walk a1 hx (env_laid hlaid (by kernel_rfl) (by simp [Rows.opsRightsUptoRow]) (by simp [Rows.opsRightsUptoRow])) (by omega)
end Go.Proofs.YtpjjnmdfgcfnmaaGreatDoor
