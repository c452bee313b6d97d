/- StatBack: the arguments as they were read; the law at them. -/
import Derived.Test.YtaojjjcaofhmcaaDoorSe3
set_option linter.unusedVariables false
set_option linter.unusedSimpArgs false
namespace Go.Proofs.YtaojjjcaofhmcaaDoor
open Go.ChangeShapes Go.WideShapes Go.ChangeAt Go.RowKit

theorem cells_slice {P : Program} {w : World} {r : Reach} {b : Nat} {t e : TypeId} {v : Value} {A : Option Addr} {n c : Nat} (ht : P.underlying t = some (.slice e)) (hv : Value.okWide P w r b t v) (h : v.cells.toList = [.slice A n c]) : v = .slice A n c := by
  obtain ⟨a, len, cap, rfl⟩ := okWide_slice ht hv
  simpa [Value.cells] using h
section
variable {H : Type} {enc : TypeId × Value → H} {w : World}
theorem stat_open {cs : List Value} (h : Rd enc Tryd.prog w 23 cs) : ∃ (a0 a1 a2 a3 a4 a5 a6 a7 a8 a9 a10 : Int), cs = [.int .i64 a0, .int .i64 a1, .int .i64 a2, .int .i64 a3, .int .i32 a4, .int .i32 a5, .int .i32 a6, .int .i64 a7, .int .i32 a8, .int .i32 a9, .int .i64 a10] ∧ (Lit.int .i64 a0).wf = true ∧ (Lit.int .i64 a1).wf = true ∧ (Lit.int .i64 a2).wf = true ∧ (Lit.int .i64 a3).wf = true ∧ (Lit.int .i32 a4).wf = true ∧ (Lit.int .i32 a5).wf = true ∧ (Lit.int .i32 a6).wf = true ∧ (Lit.int .i64 a7).wf = true ∧ (Lit.int .i32 a8).wf = true ∧ (Lit.int .i32 a9).wf = true ∧ (Lit.int .i64 a10).wf = true := by
  obtain ⟨hl, hf⟩ := h.struct Tryd.underlying23
  rw [show Tryd.prog.cellsOf 23 = 11 by kernel_rfl] at hl
  have kint64 : Tryd.prog.cellsOf 2 = 1 := by kernel_rfl
  have kint32 : Tryd.prog.cellsOf 21 = 1 := by kernel_rfl
  obtain ⟨c0, c1, c2, c3, c4, c5, c6, c7, c8, c9, c10, rfl⟩ : ∃ c0 c1 c2 c3 c4 c5 c6 c7 c8 c9 c10 : Value, cs = [c0, c1, c2, c3, c4, c5, c6, c7, c8, c9, c10] := by
    rcases cs with _ | ⟨c0, _ | ⟨c1, _ | ⟨c2, _ | ⟨c3, _ | ⟨c4, _ | ⟨c5, _ | ⟨c6, _ | ⟨c7, _ | ⟨c8, _ | ⟨c9, _ | ⟨c10, _ | ⟨c11, r⟩⟩⟩⟩⟩⟩⟩⟩⟩⟩⟩⟩
    all_goals first | exact ⟨_, _, _, _, _, _, _, _, _, _, _, rfl⟩ | (simp at hl)
  have h0 : Rd enc Tryd.prog w 2 (([c0, c1, c2, c3, c4, c5, c6, c7, c8, c9, c10].drop 0).take (Tryd.prog.cellsOf 2)) := hf 0 _ rfl
  rw [kint64] at h0
  have h1 : Rd enc Tryd.prog w 2 (([c0, c1, c2, c3, c4, c5, c6, c7, c8, c9, c10].drop 1).take (Tryd.prog.cellsOf 2)) := hf 1 _ rfl
  rw [kint64] at h1
  have h2 : Rd enc Tryd.prog w 2 (([c0, c1, c2, c3, c4, c5, c6, c7, c8, c9, c10].drop 2).take (Tryd.prog.cellsOf 2)) := hf 2 _ rfl
  rw [kint64] at h2
  have h3 : Rd enc Tryd.prog w 2 (([c0, c1, c2, c3, c4, c5, c6, c7, c8, c9, c10].drop 3).take (Tryd.prog.cellsOf 2)) := hf 3 _ rfl
  rw [kint64] at h3
  have h4 : Rd enc Tryd.prog w 21 (([c0, c1, c2, c3, c4, c5, c6, c7, c8, c9, c10].drop 4).take (Tryd.prog.cellsOf 21)) := hf 4 _ rfl
  rw [kint32] at h4
  have h5 : Rd enc Tryd.prog w 21 (([c0, c1, c2, c3, c4, c5, c6, c7, c8, c9, c10].drop 5).take (Tryd.prog.cellsOf 21)) := hf 5 _ rfl
  rw [kint32] at h5
  have h6 : Rd enc Tryd.prog w 21 (([c0, c1, c2, c3, c4, c5, c6, c7, c8, c9, c10].drop 6).take (Tryd.prog.cellsOf 21)) := hf 6 _ rfl
  rw [kint32] at h6
  have h7 : Rd enc Tryd.prog w 2 (([c0, c1, c2, c3, c4, c5, c6, c7, c8, c9, c10].drop 7).take (Tryd.prog.cellsOf 2)) := hf 7 _ rfl
  rw [kint64] at h7
  have h8 : Rd enc Tryd.prog w 21 (([c0, c1, c2, c3, c4, c5, c6, c7, c8, c9, c10].drop 8).take (Tryd.prog.cellsOf 21)) := hf 8 _ rfl
  rw [kint32] at h8
  have h9 : Rd enc Tryd.prog w 21 (([c0, c1, c2, c3, c4, c5, c6, c7, c8, c9, c10].drop 9).take (Tryd.prog.cellsOf 21)) := hf 9 _ rfl
  rw [kint32] at h9
  have h10 : Rd enc Tryd.prog w 2 (([c0, c1, c2, c3, c4, c5, c6, c7, c8, c9, c10].drop 10).take (Tryd.prog.cellsOf 2)) := hf 10 _ rfl
  rw [kint64] at h10
  obtain ⟨a0, e0, w0⟩ := h0.int Tryd.underlying2
  obtain ⟨a1, e1, w1⟩ := h1.int Tryd.underlying2
  obtain ⟨a2, e2, w2⟩ := h2.int Tryd.underlying2
  obtain ⟨a3, e3, w3⟩ := h3.int Tryd.underlying2
  obtain ⟨a4, e4, w4⟩ := h4.int Tryd.underlying21
  obtain ⟨a5, e5, w5⟩ := h5.int Tryd.underlying21
  obtain ⟨a6, e6, w6⟩ := h6.int Tryd.underlying21
  obtain ⟨a7, e7, w7⟩ := h7.int Tryd.underlying2
  obtain ⟨a8, e8, w8⟩ := h8.int Tryd.underlying21
  obtain ⟨a9, e9, w9⟩ := h9.int Tryd.underlying21
  obtain ⟨a10, e10, w10⟩ := h10.int Tryd.underlying2
  simp at e0 e1 e2 e3 e4 e5 e6 e7 e8 e9 e10
  subst e0 e1 e2 e3 e4 e5 e6 e7 e8 e9 e10
  exact ⟨a0, a1, a2, a3, a4, a5, a6, a7, a8, a9, a10, rfl, w0, w1, w2, w3, w4, w5, w6, w7, w8, w9, w10⟩
end
theorem wrap_i64 {z : Int} (h : (Lit.int .i64 z).wf = true) : wrap64 z = z := wrap64_of (bounds_i64 h)
theorem wrap_i32 {z : Int} (h : (Lit.int .i32 z).wf = true) : wrap32 z = z := wrap32_of (bounds_i32 h)

set_option maxRecDepth 100000 in
theorem statBack_walk {H : Type} (enc : TypeId × Value → H) (base : Nat) (W : World) (v0 : Value) (d0 : DataW H) (p0 : List MemPlace) (hv0 : Value.okWide Tryd.prog W .any base 32 v0) (h0 : DataW.Trod enc Tryd.prog W 0 (fun _ => true) true 32 v0 d0 p0)
    (v1 : Value) (d1 : DataW H) (p1 : List MemPlace) (hv1 : Value.okWide Tryd.prog W .any base 24 v1) (h1 : DataW.Trod enc Tryd.prog W 0 (fun _ => true) true 24 v1 d1 p1)
    (v2 : Value) (d2 : DataW H) (p2 : List MemPlace) (hv2 : Value.okWide Tryd.prog W .any base 23 v2) (h2 : DataW.Trod enc Tryd.prog W 0 (fun _ => true) true 23 v2 d2 p2)
    (hsz : (DataW.weightsEach Tryd.prog ([32, 24, 23] : List TypeId) ([d0, d1, d2] : List (DataW H))).all (· ≤ reachBytes) = true) (hsh : W.ShapedOpen Tryd.prog) (hlaid : laidMetH Tryd.prog Rows.statBackRow.laid W) :
    Calls Tryd.prog 8 #[v0, v1, v2] W fun e w' => e = .returned (.bool true) ∧ Below W.heap.size W w' := by
  have hE : EnvS W := envS_of hlaid (by kernel_rfl) (by simp [Rows.statBackRow]) (by simp [Rows.statBackRow]) hsh
  obtain ⟨p, dA, dn, dc, aA, an, ac, l, L, o, cz, mz, pz, az, qz, ct, mt, ve, cr, av, qh, qc, qb, hcs, _, _, _, e2, e3, e4, e5, e6, e7, e8, k0, k1, k2, k3, k4, k5, k6, k7, m0, m1, m2, k8, k9⟩ := node_open (rd_of 0 h0 hsz rfl rfl)
  obtain ⟨bA, bn, bc, lb, f1, f2, f3, f4, f5, f6⟩ := (rd_of 1 h1 hsz rfl rfl).bytes Tryd.underlying24 Tryd.underlying5 (by kernel_rfl) (by kernel_rfl)
  obtain ⟨a0, a1, a2, a3, a4, a5, a6, a7, a8, a9, a10, hcs2, w0, w1, w2, w3, w4, w5, w6, w7, w8, w9, w10⟩ := stat_open (rd_of 2 h2 hsz rfl rfl)
  obtain ⟨cs, rfl, _⟩ : ∃ cs, v2 = .agg cs ∧ True := by
    unfold Value.okWide at hv2
    rw [Tryd.underlying23] at hv2
    obtain ⟨cs, h, _⟩ := hv2
    exact ⟨cs, h, trivial⟩
  have hcs' : cs = #[.int .i64 a0, .int .i64 a1, .int .i64 a2, .int .i64 a3, .int .i32 a4, .int .i32 a5, .int .i32 a6, .int .i64 a7, .int .i32 a8, .int .i32 a9, .int .i64 a10] := Array.ext' (by simpa [Value.cells] using hcs2)
  subst hcs'
  rw [node_arg hv0 hcs, cells_slice Tryd.underlying24 hv1 f1]
  have hf : ∀ a ∈ L, aclFit a := fun a ha => by
    obtain ⟨_, h1, h2⟩ := e6 a ha
    unfold reachBytes at h1 h2
    exact ⟨by omega, by omega⟩
  unfold reachBytes at e2 e3 f4
  refine back_law p o cz mz pz az qz ct mt ve cr av qh qc qb dA dn dc aA an ac l L bA bn bc lb a0 a1 a2 a3 a4 a5 a6 a7 a8 a9 a10 W e7 e8 e4 e5 (by omega) (by omega) hf (fun a ha => wrap_i32 (e6 a ha).1) ?_ ?_ (wrap_i64 k8) (wrap_i64 k9) f6 f3 (by omega) (fun h => (f2 h).2) ?_ ?_ (wrap_i64 w7) (wrap_i32 w8) (wrap_i32 w9) (wrap_i64 w10) hE
  all_goals
    intro z hz
    simp only [List.mem_cons, List.not_mem_nil, or_false] at hz
  · rcases hz with rfl | rfl | rfl | rfl | rfl | rfl | rfl | rfl
    all_goals (apply wrap_i64; assumption)
  · rcases hz with rfl | rfl | rfl
    all_goals (apply wrap_i32; assumption)
  · rcases hz with rfl | rfl | rfl | rfl
    all_goals (apply wrap_i64; assumption)
  · rcases hz with rfl | rfl | rfl
    all_goals (apply wrap_i32; assumption)
end Go.Proofs.YtaojjjcaofhmcaaDoor
