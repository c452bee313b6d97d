/- OpsCuts: the opener. (printed by gen_open.py) -/
import Derived.Test.YtpjjnmdfgcfnmaaDoorOl3
import Derived.Test.YtpjjnmdfgcfnmaaDoorOpen3
set_option linter.unusedVariables false
set_option linter.unusedSimpArgs false
namespace Go.Proofs.YtpjjnmdfgcfnmaaDoor
open Go.ChangeShapes Go.WideShapes Go.ChangeAt Go.RowKit

set_option maxRecDepth 100000 in
theorem opsCuts_walk {H : Type} (enc : TypeId × Value → H) (base : Nat) (W : World) (v0 : Value) (d0 : DataW H) (p0 : List MemPlace) (hv0 : Value.okWide Tryd.prog W .any base 31 v0) (h0 : DataW.Trod enc Tryd.prog W 0 (fun _ => true) true 31 v0 d0 p0)
    (a1 : Int) (w1 : (Lit.int .i64 a1).wf = true) (a2 : Int) (w2 : (Lit.int .u8 a2).wf = true)
    (hsz : (DataW.weightsEach Tryd.prog ([31, 3, 5] : List TypeId) ([d0, DataW.lit (.int .i64 a1), DataW.lit (.int .u8 a2)] : List (DataW H))).all (· ≤ reachBytes) = true)
    (hk : Rows.uptoBulkAll ([d0, DataW.lit (.int .i64 a1), DataW.lit (.int .u8 a2)] : List (DataW H)) ≤ 1048576) (hlaid : laidMetH Tryd.prog Rows.opsCutsUptoRow.laid W) :
    Calls Tryd.prog 4 #[v0, .int .i64 a1, .int .u8 a2] W fun e W' => e = .returned (.bool true) ∧ Below W.heap.size W W' := by
  obtain ⟨z, x, xs, rfl, hz, hx, hb⟩ := req_argO hv0 (rdd_of 0 h0 hsz rfl rfl)
  have e0 := bulkAll_part (d := d0) (l := [d0, DataW.lit (.int .i64 a1), DataW.lit (.int .u8 a2)]) (by simp)
  exact cutsLaw_walk hz hx (by omega) a1 a2 w2 (env_laid hlaid (by kernel_rfl) (by simp [Rows.opsCutsUptoRow]) (by simp [Rows.opsCutsUptoRow]))
end Go.Proofs.YtpjjnmdfgcfnmaaDoor
