/- OpsFlat: the opener. -/
import Derived.Test.YtpjjnmdfgcfnmaaDoorOf2
import Derived.Test.YtpjjnmdfgcfnmaaDoorOpen2
set_option linter.unusedVariables false
set_option linter.unusedSimpArgs false
namespace Go.Proofs.YtpjjnmdfgcfnmaaDoor
open Go.ChangeShapes Go.WideShapes Go.ChangeAt Go.RowKit

set_option maxRecDepth 100000 in
theorem opsFlat_walk {H : Type} (enc : TypeId × Value → H) (base : Nat) (W : World) (v0 : Value) (d0 : DataW H) (p0 : List MemPlace) (hv0 : Value.okWide Tryd.prog W .any base 29 v0) (h0 : DataW.Trod enc Tryd.prog W 0 (fun _ => true) true 29 v0 d0 p0)
    (hsz : (DataW.weightsEach Tryd.prog ([29] : List TypeId) ([d0] : List (DataW H))).all (· ≤ reachBytes) = true)
    (hk : Rows.uptoBulkAll ([d0] : List (DataW H)) ≤ 1048576) (hlaid : laidMetH Tryd.prog Rows.opsFlatUptoRow.laid W) :
    Calls Tryd.prog 5 #[v0] W fun e W' => e = .returned (.bool true) ∧ Below W.heap.size W W' := by
  obtain ⟨x, xs, rfl, hx, hb⟩ := op_argO hv0 (rdd_of 0 h0 hsz rfl rfl)
  have h1 := bulkAll_part (d := d0) (l := [d0]) (by simp)
  exact flatLaw_walk hx (env_laid hlaid (by kernel_rfl) (by simp [Rows.opsFlatUptoRow]) (by simp [Rows.opsFlatUptoRow])) (by omega)
end Go.Proofs.YtpjjnmdfgcfnmaaDoor
