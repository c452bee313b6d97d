/- OpsSames: the opener. -/
import Derived.Test.YtpjjnmdfgcfnmaaGreatDoorOs1
import Derived.Test.YtpjjnmdfgcfnmaaGreatDoorOpen2
set_option linter.unusedVariables false
set_option linter.unusedSimpArgs false
namespace Go.Proofs.YtpjjnmdfgcfnmaaGreatDoor
open Go.ChangeShapes Go.WideShapes Go.ChangeAt Go.RowKit

set_option maxRecDepth 100000 in
theorem opsSames_walk {H : Type} (enc : TypeId × Value → H) (base : Nat) (W : World) (v0 : Value) (d0 : DataW H) (p0 : List MemPlace) (hv0 : Value.okWide Tryz.prog W .any base 29 v0) (h0 : DataW.Trod enc Tryz.prog W 0 (fun _ => true) true 29 v0 d0 p0)
    (v1 : Value) (d1 : DataW H) (p1 : List MemPlace) (hv1 : Value.okWide Tryz.prog W .any base 29 v1) (h1 : DataW.Trod enc Tryz.prog W 0 (fun _ => true) true 29 v1 d1 p1)
    (hsz : (DataW.weightsEach Tryz.prog ([29, 29] : List TypeId) ([d0, d1] : List (DataW H))).all (· ≤ reachBytes) = true)
    (hlaid : laidMetH Tryz.prog Rows.opsSamesRow.laid W) :
    Calls Tryz.prog 7 #[v0, v1] W fun e W' => e = .returned (.bool true) ∧ Below W.heap.size W W' := by
  obtain ⟨x, xs, rfl, hx, _⟩ := op_argO hv0 (rdd_of 0 h0 hsz rfl rfl)
  obtain ⟨y, ys, rfl, hy, _⟩ := op_argO hv1 (rdd_of 1 h1 hsz rfl rfl)
  exact samesLaw_walk hx hy (env_laid hlaid (by kernel_rfl) (by simp [Rows.opsSamesRow]) (by simp [Rows.opsSamesRow]))
end Go.Proofs.YtpjjnmdfgcfnmaaGreatDoor
