/- StatOne: the arguments as they were read; the law at them. (printed by gen_o4.py) -/
import Derived.Test.YtaojjjcaofhmcaaDoorSo3
set_option linter.unusedVariables false
set_option linter.unusedSimpArgs false
namespace Go.Proofs.YtaojjjcaofhmcaaDoor
open Go.ChangeShapes Go.WideShapes Go.ChangeAt Go.RowKit

theorem wr_i64 {z : Int} (h : (Lit.int .i64 z).wf = true) : wrap64 z = z := wrap64_of (bounds_i64 h)
theorem wr_i32 {z : Int} (h : (Lit.int .i32 z).wf = true) : wrap32 z = z := wrap32_of (bounds_i32 h)
set_option maxRecDepth 100000 in
theorem stat_arg {W : World} {base : Nat} {v : Value} (hv : Value.okWide Tryd.prog W .any base 23 v) {cs0 : List Value} (hcs : v.cells.toList = cs0) : v = .agg cs0.toArray := by
  obtain ⟨cs, rfl, _⟩ : ∃ cs, v = .agg cs ∧ True := by
    unfold Value.okWide at hv
    rw [Tryd.underlying23] at hv
    obtain ⟨cs, h, _⟩ := hv
    exact ⟨cs, h, trivial⟩
  have : cs = cs0.toArray := Array.ext' (by simpa [Value.cells] using hcs)
  rw [this]

set_option maxRecDepth 100000 in
theorem statOne_walk {H : Type} (enc : TypeId × Value → H) (base : Nat) (W : World) (v0 : Value) (d0 : DataW H) (p0 : List MemPlace) (hv0 : Value.okWide Tryd.prog W .any base 32 v0) (h0 : DataW.Trod enc Tryd.prog W 0 (fun _ => true) true 32 v0 d0 p0)
    (v1 : Value) (d1 : DataW H) (p1 : List MemPlace) (hv1 : Value.okWide Tryd.prog W .any base 32 v1) (h1 : DataW.Trod enc Tryd.prog W 0 (fun _ => true) true 32 v1 d1 p1)
    (v2 : Value) (d2 : DataW H) (p2 : List MemPlace) (hv2 : Value.okWide Tryd.prog W .any base 23 v2) (h2 : DataW.Trod enc Tryd.prog W 0 (fun _ => true) true 23 v2 d2 p2)
    (v3 : Value) (d3 : DataW H) (p3 : List MemPlace) (hv3 : Value.okWide Tryd.prog W .any base 23 v3) (h3 : DataW.Trod enc Tryd.prog W 0 (fun _ => true) true 23 v3 d3 p3)
    (hsz : (DataW.weightsEach Tryd.prog ([32, 32, 23, 23] : List TypeId) ([d0, d1, d2, d3] : List (DataW H))).all (· ≤ reachBytes) = true) (hsh : W.ShapedOpen Tryd.prog) (hlaid : laidMetH Tryd.prog Rows.statOneRow.laid W) :
    Calls Tryd.prog 9 #[v0, v1, v2, v3] W fun e w' => e = .returned (.bool true) ∧ Below W.heap.size W w' := by
  have hE : EnvS W := envS_of hlaid (by kernel_rfl) (by simp [Rows.statOneRow]) (by simp [Rows.statOneRow]) hsh
  have hEN : EnvN W.heap.size W := envN_of hlaid (by kernel_rfl) ⟨_, _, rfl⟩
  obtain ⟨p, dA, dn, dc, aA, an, ac, l, L, o, cz, mz, pz, az, qz, ct, mt, ve, cr, av, qh, qc, qb, hcs, _, _, _, e2, e3, e4, e5, e6, e7, e8, k0, k1, k2, k3, k4, k5, k6, k7, m0, m1, m2, k8, k9⟩ := node_open (rd_of 0 h0 hsz rfl rfl)
  obtain ⟨p', dA', dn', dc', aA', an', ac', l', L', o', cz', mz', pz', az', qz', ct', mt', ve', cr', av', qh', qc', qb', hcs', _, _, _, e2', e3', e4', e5', e6', e7', e8', k0', k1', k2', k3', k4', k5', k6', k7', m0', m1', m2', k8', k9'⟩ := node_open (rd_of 1 h1 hsz rfl rfl)
  obtain ⟨a0, a1, a2, a3, a4, a5, a6, a7, a8, a9, a10, hcs2, u0, u1, u2, u3, u4, u5, u6, u7, u8, u9, u10⟩ := stat_open (rd_of 2 h2 hsz rfl rfl)
  obtain ⟨b0, b1, b2, b3, b4, b5, b6, b7, b8, b9, b10, hcs3, w0, w1, w2, w3, w4, w5, w6, w7, w8, w9, w10⟩ := stat_open (rd_of 3 h3 hsz rfl rfl)
  rw [node_arg hv0 hcs, node_arg hv1 hcs', stat_arg hv2 hcs2, stat_arg hv3 hcs3]
  have hf : ∀ a ∈ L, aclFit a := fun a ha => by
    obtain ⟨_, h1, h2⟩ := e6 a ha
    unfold reachBytes at h1 h2
    exact ⟨by omega, by omega⟩
  have hf' : ∀ a ∈ L', aclFit a := fun a ha => by
    obtain ⟨_, h1, h2⟩ := e6' a ha
    unfold reachBytes at h1 h2
    exact ⟨by omega, by omega⟩
  unfold reachBytes at e2 e3 e2' e3'
  refine one_law p o cz mz pz az qz ct mt ve cr av qh qc qb dA dn dc aA an ac l L p' o' cz' mz' pz' az' qz' ct' mt' ve' cr' av' qh' qc' qb' dA' dn' dc' aA' an' ac' l' L' a0 a1 a2 a3 a4 a5 a6 a7 a8 a9 a10 b0 b1 b2 b3 b4 b5 b6 b7 b8 b9 b10 W (bounds_i64 u0) (bounds_i64 u1) (bounds_i64 u2) (bounds_i64 u3) (bounds_i32 u4) (bounds_i32 u5) (bounds_i32 u6) (bounds_i64 u7) (bounds_i32 u8) (bounds_i32 u9) (bounds_i64 u10) (bounds_i64 w0) (bounds_i64 w1) (bounds_i64 w2) (bounds_i64 w3) (bounds_i32 w4) (bounds_i32 w5) (bounds_i32 w6) (bounds_i64 w7) (bounds_i32 w8) (bounds_i32 w9) (bounds_i64 w10)
    e7 e8 e4 e5 (by omega) (by omega) hf (fun a ha => wr_i32 (e6 a ha).1) ?_ ?_ (wr_i64 k8) (wr_i64 k9)
    e7' e8' e4' e5' (by omega) (by omega) hf' (fun a ha => wr_i32 (e6' a ha).1) ?_ ?_ (wr_i64 k8') (wr_i64 k9') hE hEN
  all_goals
    intro z hz
    simp only [List.mem_cons, List.not_mem_nil, or_false] at hz
  · rcases hz with rfl | rfl | rfl | rfl | rfl | rfl | rfl | rfl
    all_goals (apply wr_i64; assumption)
  · rcases hz with rfl | rfl | rfl
    all_goals (apply wr_i32; assumption)
  · rcases hz with rfl | rfl | rfl | rfl | rfl | rfl | rfl | rfl
    all_goals (apply wr_i64; assumption)
  · rcases hz with rfl | rfl | rfl
    all_goals (apply wr_i32; assumption)
end Go.Proofs.YtaojjjcaofhmcaaDoor
