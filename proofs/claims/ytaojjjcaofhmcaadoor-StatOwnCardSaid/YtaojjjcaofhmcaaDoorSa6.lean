/- StatOwn: the node as it was read; the walk at it. -/
import Derived.Test.YtaojjjcaofhmcaaDoorSa5
import Derived.Test.YtaojjjcaofhmcaaDoorSn9
set_option linter.unusedVariables false
set_option linter.unusedSimpArgs false
namespace Go.Proofs.YtaojjjcaofhmcaaDoor
open Go.ChangeShapes Go.WideShapes Go.ChangeAt Go.RowKit

set_option maxRecDepth 100000 in
theorem statOwn_walk {H : Type} (enc : TypeId × Value → H) (base : Nat) (W : World) (v0 : Value) (d0 : DataW H) (p0 : List MemPlace) (hv0 : Value.okWide Tryd.prog W .any base 32 v0) (h0 : DataW.Trod enc Tryd.prog W 0 (fun _ => true) true 32 v0 d0 p0)
    (hsz : (DataW.weightsEach Tryd.prog ([32] : List TypeId) ([d0] : List (DataW H))).all (· ≤ reachBytes) = true) (hsh : W.ShapedOpen Tryd.prog) (hlaid : laidMetH Tryd.prog Rows.statOwnRow.laid W) :
    Calls Tryd.prog 6 #[v0] W fun e w' => e = .returned (.bool true) ∧ Below W.heap.size W w' := by
  have hE : EnvS W := envS_of hlaid (by kernel_rfl) (by simp [Rows.statOwnRow]) (by simp [Rows.statOwnRow]) hsh
  obtain ⟨p, dA, dn, dc, aA, an, ac, l, L, o, cz, mz, pz, az, qz, ct, mt, ve, cr, av, qh, qc, qb, hcs, _, _, _, e2, e3, e4, e5, e6, e7, e8, _⟩ := node_open (rd_of 0 h0 hsz rfl rfl)
  rw [node_arg hv0 hcs]
  unfold reachBytes at e2 e3
  exact own_walk p o cz mz pz az qz ct mt ve cr av qh qc qb dA dn dc aA an ac l L W e7 e8 e4 e5 (by omega) (by omega) hE
end Go.Proofs.YtaojjjcaofhmcaaDoor
