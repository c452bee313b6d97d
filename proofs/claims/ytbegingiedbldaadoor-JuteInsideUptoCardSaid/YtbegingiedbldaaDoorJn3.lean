/- JuteInside: the arguments as they were read; the walk at them. -/
import Derived.Test.YtbegingiedbldaaDoorJn2
import Derived.Test.YtbegingiedbldaaDoorJl3
namespace Go.Proofs.YtbegingiedbldaaDoor
open Go.ChangeShapes Go.WideShapes Go.ChangeAt Go.RowKit

set_option maxRecDepth 100000 in
theorem juteInside_walk {H : Type} (enc : TypeId × Value → H) (base : Nat) (W : World) (v0 : Value) (d0 : DataW H) (p0 : List MemPlace) (hv0 : Value.okWide Tryd.prog W .any base 22 v0) (h0 : DataW.Trod enc Tryd.prog W 0 (fun _ => true) true 22 v0 d0 p0)
    (v1 : Value) (d1 : DataW H) (p1 : List MemPlace) (hv1 : Value.okWide Tryd.prog W .any base 23 v1) (h1 : DataW.Trod enc Tryd.prog W 0 (fun _ => true) true 23 v1 d1 p1)
    (a : Int) (wa : (Lit.int .u8 a).wf = true)
    (hsz : (DataW.weightsEach Tryd.prog ([22, 23, 5] : List TypeId) ([d0, d1, DataW.lit (.int .u8 a)] : List (DataW H))).all (· ≤ reachBytes) = true)
    (hk : Rows.uptoBulkAll ([d0, d1, DataW.lit (.int .u8 a)] : List (DataW H)) ≤ 1048576) (hlaid : laidMetH Tryd.prog Rows.juteInsideUptoRow.laid W) :
    Calls Tryd.prog 5 #[v0, v1, .int .u8 a] W fun e W' => e = .returned (.bool true) ∧ Below W.heap.size W W' := by
  obtain ⟨A0, n0, c0, l, e0, z0, g0, l0, r0, b0⟩ := bytes_open (rdu_of 0 h0 hsz rfl rfl hk)
  obtain ⟨A1, n1, c1, S, e1, l1, _, r1, b1⟩ := script_open (rdu_of 1 h1 hsz rfl rfl hk)
  have hb := bounds_u8 wa
  rw [cells_slice Tryd.underlying22 hv0 e0, cells_slice Tryd.underlying23 hv1 e1]
  exact inside_any A0 A1 n0 c0 n1 c1 l S a W (env_of hlaid (by kernel_rfl) (by first | (exact List.mem_cons_self ..) | (exact List.mem_cons_of_mem _ (List.mem_cons_self ..)) | decide) (by first | (exact List.mem_cons_self ..) | (exact List.mem_cons_of_mem _ (List.mem_cons_self ..)) | decide)) (by omega) (by omega) r0 r1 g0 (fun h => (z0 h).2) (by omega) (by omega)
end Go.Proofs.YtbegingiedbldaaDoor
