/- OpsOne: the opener. (printed by gen_open.py) -/
import Derived.Test.YtpjjnmdfgcfnmaaDoorOl4
import Derived.Test.YtpjjnmdfgcfnmaaDoorOpen3
set_option linter.unusedVariables false
set_option linter.unusedSimpArgs false
namespace Go.Proofs.YtpjjnmdfgcfnmaaDoor
open Go.ChangeShapes Go.WideShapes Go.ChangeAt Go.RowKit

set_option maxRecDepth 100000 in
theorem opsOne_walk {H : Type} (enc : TypeId × Value → H) (base : Nat) (W : World) (v0 : Value) (d0 : DataW H) (p0 : List MemPlace) (hv0 : Value.okWide Tryd.prog W .any base 31 v0) (h0 : DataW.Trod enc Tryd.prog W 0 (fun _ => true) true 31 v0 d0 p0)
    (v1 : Value) (d1 : DataW H) (p1 : List MemPlace) (hv1 : Value.okWide Tryd.prog W .any base 31 v1) (h1 : DataW.Trod enc Tryd.prog W 0 (fun _ => true) true 31 v1 d1 p1)
    (hsz : (DataW.weightsEach Tryd.prog ([31, 31] : List TypeId) ([d0, d1] : List (DataW H))).all (· ≤ reachBytes) = true)
    (hk : Rows.uptoBulkAll ([d0, d1] : List (DataW H)) ≤ 1048576) (hlaid : laidMetH Tryd.prog Rows.opsOneUptoRow.laid W) :
    Calls Tryd.prog 7 #[v0, v1] W fun e W' => e = .returned (.bool true) ∧ Below W.heap.size W W' := by
  obtain ⟨z, x, xs, rfl, hz, hx, hb⟩ := req_argO hv0 (rdd_of 0 h0 hsz rfl rfl)
  obtain ⟨z', y, ys, rfl, hz', hy, hb'⟩ := req_argO hv1 (rdd_of 1 h1 hsz rfl rfl)
  have e0 := bulkAll_part (d := d0) (l := [d0, d1]) (by simp)
  have e1 := bulkAll_part (d := d1) (l := [d0, d1]) (by simp)
  exact oneLaw_walk hz hz' hx hy (by omega) (by omega) (env_laid hlaid (by kernel_rfl) (by simp [Rows.opsOneUptoRow]) (by simp [Rows.opsOneUptoRow]))
end Go.Proofs.YtpjjnmdfgcfnmaaDoor
