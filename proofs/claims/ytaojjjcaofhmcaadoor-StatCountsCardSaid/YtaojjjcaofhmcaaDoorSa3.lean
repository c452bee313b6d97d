/- StatCounts: the node as it was read; the walk at it. -/
import Derived.Test.YtaojjjcaofhmcaaDoorSa2
import Derived.Test.YtaojjjcaofhmcaaDoorSn9
set_option linter.unusedVariables false
set_option linter.unusedSimpArgs false
namespace Go.Proofs.YtaojjjcaofhmcaaDoor
open Go.ChangeShapes Go.WideShapes Go.ChangeAt Go.RowKit

set_option maxRecDepth 100000 in
theorem statCounts_walk {H : Type} (enc : TypeId × Value → H) (base : Nat) (W : World) (v0 : Value) (d0 : DataW H) (p0 : List MemPlace) (hv0 : Value.okWide Tryd.prog W .any base 32 v0) (h0 : DataW.Trod enc Tryd.prog W 0 (fun _ => true) true 32 v0 d0 p0)
    (v : Int) (hv : (Lit.int .i32 v).wf = true) (k : Int) (hk : (Lit.int .i64 k).wf = true)
    (hsz : (DataW.weightsEach Tryd.prog ([32, 21, 3] : List TypeId) ([d0, DataW.lit (.int .i32 v), DataW.lit (.int .i64 k)] : List (DataW H))).all (· ≤ reachBytes) = true) (hsh : W.ShapedOpen Tryd.prog) (hlaid : laidMetH Tryd.prog Rows.statCountsRow.laid W) :
    Calls Tryd.prog 7 #[v0, .int .i32 v, .int .i64 k] W fun e w' => e = .returned (.bool true) ∧ Below W.heap.size W w' := by
  have hE : EnvS W := envS_of hlaid (by kernel_rfl) (by simp [Rows.statCountsRow]) (by simp [Rows.statCountsRow]) hsh
  obtain ⟨p, dA, dn, dc, aA, an, ac, l, L, o, cz, mz, pz, az, qz, ct, mt, ve, cr, av, qh, qc, qb, hcs, _, _, _, e2, e3, _, e5, e6, e7, e8, _⟩ := node_open (rd_of 0 h0 hsz rfl rfl)
  rw [node_arg hv0 hcs]
  have b1 := bounds_i32 hv
  have b2 := bounds_i64 hk
  by_cases h : v = -2
  · exact counts_two p o cz mz pz az qz ct mt ve cr av qh qc qb dA dn dc aA an ac v k W b1.1 b1.2 h b2.1 b2.2 hE
  · exact counts_one p o cz mz pz az qz ct mt ve cr av qh qc qb dA dn dc aA an ac v k W b1.1 b1.2 h b2.1 b2.2 hE
end Go.Proofs.YtaojjjcaofhmcaaDoor
