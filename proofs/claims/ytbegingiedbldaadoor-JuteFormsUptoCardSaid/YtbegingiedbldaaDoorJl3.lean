/- JuteLonger: the arguments as they were read; the walk at them. -/
import Derived.Test.YtbegingiedbldaaDoorJl2
import Derived.Test.YtbegingiedbldaaDoorBulk
namespace Go.Proofs.YtbegingiedbldaaDoor
open Go.ChangeShapes Go.WideShapes Go.ChangeAt Go.RowKit

theorem cells_list4 {α : Type} (cs : List α) (h : cs.length = 4) : ∃ c0 c1 c2 c3, cs = [c0, c1, c2, c3] := by
  match cs, h with
  | [c0, c1, c2, c3], _ => exact ⟨_, _, _, _, rfl⟩
theorem cells_slice {P : Program} {w : World} {r : Reach} {b : Nat} {t e : TypeId} {v : Value} {A : Option Addr} {n c : Nat} (ht : P.underlying t = some (.slice e)) (hv : Value.okWide P w r b t v) (h : v.cells.toList = [.slice A n c]) : v = .slice A n c := by
  obtain ⟨a, len, cap, rfl⟩ := okWide_slice ht hv
  simpa [Value.cells] using h
section
variable {H : Type} {enc : TypeId × Value → H} {w : World}
theorem step_open {cs : List Value} {m : Nat} (h : RdU enc Tryd.prog w 53 m cs) : ∃ s : St, cs = stCells s ∧ (Lit.int .i64 s.k).wf = true ∧ (Lit.int .i64 s.most).wf = true ∧ (Lit.int .i64 s.least).wf = true ∧ (Lit.int .i64 s.n).wf = true := by
  obtain ⟨hl, hf⟩ := h.struct Tryd.underlying53
  rw [show Tryd.prog.cellsOf 53 = 4 by kernel_rfl] at hl
  obtain ⟨c0, c1, c2, c3, rfl⟩ := cells_list4 cs hl
  have k1 : Tryd.prog.cellsOf 3 = 1 := by kernel_rfl
  have h0 : RdU enc Tryd.prog w 3 m (([c0, c1, c2, c3].drop 0).take (Tryd.prog.cellsOf 3)) := hf 0 _ rfl
  have h1 : RdU enc Tryd.prog w 3 m (([c0, c1, c2, c3].drop 1).take (Tryd.prog.cellsOf 3)) := hf 1 _ rfl
  have h2 : RdU enc Tryd.prog w 3 m (([c0, c1, c2, c3].drop 2).take (Tryd.prog.cellsOf 3)) := hf 2 _ rfl
  have h3 : RdU enc Tryd.prog w 3 m (([c0, c1, c2, c3].drop 3).take (Tryd.prog.cellsOf 3)) := hf 3 _ rfl
  rw [k1] at h0 h1 h2 h3
  obtain ⟨a, e0, w0⟩ := h0.rd.int Tryd.underlying3
  obtain ⟨b, e1, w1⟩ := h1.rd.int Tryd.underlying3
  obtain ⟨c, e2, w2⟩ := h2.rd.int Tryd.underlying3
  obtain ⟨d, e3, w3⟩ := h3.rd.int Tryd.underlying3
  simp at e0 e1 e2 e3
  subst e0 e1 e2 e3
  exact ⟨⟨a, b, c, d⟩, rfl, w0, w1, w2, w3⟩
/-- a script as an argument -/
theorem script_open {v : Value} {m : Nat} (h : RdU enc Tryd.prog w 23 m v.cells.toList) : ∃ (A : Option Addr) (n c : Nat) (S : List St), v.cells.toList = [.slice A n c] ∧ S.length = n ∧ (∀ s ∈ S, (Lit.int .i64 s.k).wf = true ∧ (Lit.int .i64 s.most).wf = true ∧ (Lit.int .i64 s.least).wf = true ∧ (Lit.int .i64 s.n).wf = true) ∧ Reads w w.heap.size 4 A n (S.flatMap stCells) ∧ n + 1 ≤ m := by
  obtain ⟨A, n, c, S, h1, h2, h3, h4, h5, h6, h7, h8, h9⟩ := h.rows Tryd.underlying23 (size := 4) (by kernel_rfl) (by decide) stCells (fun s => (Lit.int .i64 s.k).wf = true ∧ (Lit.int .i64 s.most).wf = true ∧ (Lit.int .i64 s.least).wf = true ∧ (Lit.int .i64 s.n).wf = true) (fun _ => 1) (fun cs' m' hr => by
    obtain ⟨s, rfl, hs⟩ := step_open hr
    exact ⟨s, rfl, hs, hr.one⟩)
  rw [sum_ones] at h9
  exact ⟨A, n, c, S, h1, h6, h7, h8, by omega⟩
theorem bytes_open {v : Value} {m : Nat} (h : RdU enc Tryd.prog w 22 m v.cells.toList) : ∃ (A : Option Addr) (n c : Nat) (l : List UInt8), v.cells.toList = [.slice A n c] ∧ (A = none → n = 0 ∧ c = 0) ∧ n ≤ c ∧ l.length = n ∧ Reads w w.heap.size 1 A n (bcells l) ∧ n + 1 ≤ m := by
  obtain ⟨A, n, c, l, h1, h2, h3, _, h4, h5, h6⟩ := h.bytes Tryd.underlying22 Tryd.underlying5 (by kernel_rfl) (by kernel_rfl)
  exact ⟨A, n, c, l, h1, h2, h3, h4, h5, h6⟩

set_option maxRecDepth 100000 in
theorem juteLonger_walk (enc : TypeId × Value → H) (base : Nat) (W : World) (v0 : Value) (d0 : DataW H) (p0 : List MemPlace) (hv0 : Value.okWide Tryd.prog W .any base 22 v0) (h0 : DataW.Trod enc Tryd.prog W 0 (fun _ => true) true 22 v0 d0 p0)
    (v1 : Value) (d1 : DataW H) (p1 : List MemPlace) (hv1 : Value.okWide Tryd.prog W .any base 22 v1) (h1 : DataW.Trod enc Tryd.prog W 0 (fun _ => true) true 22 v1 d1 p1)
    (v2 : Value) (d2 : DataW H) (p2 : List MemPlace) (hv2 : Value.okWide Tryd.prog W .any base 23 v2) (h2 : DataW.Trod enc Tryd.prog W 0 (fun _ => true) true 23 v2 d2 p2)
    (hsz : (DataW.weightsEach Tryd.prog ([22, 22, 23] : List TypeId) ([d0, d1, d2] : List (DataW H))).all (· ≤ reachBytes) = true)
    (hk : Rows.uptoBulkAll ([d0, d1, d2] : List (DataW H)) ≤ 1048576) (hlaid : laidMetH Tryd.prog Rows.juteLongerUptoRow.laid W) :
    Calls Tryd.prog 4 #[v0, v1, v2] W fun e W' => e = .returned (.bool true) ∧ Below W.heap.size W W' := by
  obtain ⟨A0, n0, c0, l, e0, z0, g0, l0, r0, b0⟩ := bytes_open (rdu_of 0 h0 hsz rfl rfl hk)
  obtain ⟨A1, n1, c1, m, e1, z1, g1, l1, r1, b1⟩ := bytes_open (rdu_of 1 h1 hsz rfl rfl hk)
  obtain ⟨A2, n2, c2, S, e2, l2, _, r2, b2⟩ := script_open (rdu_of 2 h2 hsz rfl rfl hk)
  rw [cells_slice Tryd.underlying22 hv0 e0, cells_slice Tryd.underlying22 hv1 e1, cells_slice Tryd.underlying23 hv2 e2]
  exact longer_any A0 A1 A2 n0 c0 n1 c1 n2 c2 l m S W (env_of hlaid (by kernel_rfl) (by first | (exact List.mem_cons_self ..) | (exact List.mem_cons_of_mem _ (List.mem_cons_self ..)) | decide) (by first | (exact List.mem_cons_self ..) | (exact List.mem_cons_of_mem _ (List.mem_cons_self ..)) | decide)) r0 r1 r2 g0 (fun h => (z0 h).2) (by omega)
end
end Go.Proofs.YtbegingiedbldaaDoor
