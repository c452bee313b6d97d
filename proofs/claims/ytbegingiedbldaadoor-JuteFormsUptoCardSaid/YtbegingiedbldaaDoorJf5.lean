/- JuteForms: the arguments as they were read; the walk at them. -/
import Derived.Test.YtbegingiedbldaaDoorJf4
import Derived.Test.YtbegingiedbldaaDoorJl3
namespace Go.Proofs.YtbegingiedbldaaDoor
open Go.ChangeShapes Go.WideShapes Go.ChangeAt Go.RowKit

section
variable {H : Type} {enc : TypeId × Value → H} {w : World}
theorem ints_open {v : Value} {m : Nat} (h : RdU enc Tryd.prog w 65 m v.cells.toList) : ∃ (A : Option Addr) (n c : Nat) (L : List Int), v.cells.toList = [.slice A n c] ∧ L.length = n ∧ Reads w w.heap.size 1 A n (icells L) ∧ n + 1 ≤ m := by
  obtain ⟨A, n, c, L, h1, h2, h3, h4, h5, h6, h7, h8, h9⟩ := h.rows Tryd.underlying65 (size := 1) (by kernel_rfl) (by decide) (fun z : Int => [Value.int .i64 z]) (fun _ => True) (fun _ => 1) (fun cs' m' hr => by
    obtain ⟨z, e, hz⟩ := hr.rd.int Tryd.underlying3
    exact ⟨z, e, trivial, hr.one⟩)
  rw [sum_ones] at h9
  have e : (L.flatMap fun z : Int => [Value.int .i64 z]) = icells L := by clear h6 h7 h8 h9; induction L with
    | nil => rfl
    | cons a L ih => rw [List.flatMap_cons, ih]; rfl
  rw [e] at h8
  exact ⟨A, n, c, L, h1, h6, h8, by omega⟩
end

set_option maxRecDepth 100000 in
theorem juteForms_walk {H : Type} (enc : TypeId × Value → H) (base : Nat) (W : World) (v0 : Value) (d0 : DataW H) (p0 : List MemPlace) (hv0 : Value.okWide Tryd.prog W .any base 22 v0) (h0 : DataW.Trod enc Tryd.prog W 0 (fun _ => true) true 22 v0 d0 p0)
    (v1 : Value) (d1 : DataW H) (p1 : List MemPlace) (hv1 : Value.okWide Tryd.prog W .any base 65 v1) (h1 : DataW.Trod enc Tryd.prog W 0 (fun _ => true) true 65 v1 d1 p1)
    (a2 : Int) (_w2 : (Lit.int .i64 a2).wf = true)
    (hsz : (DataW.weightsEach Tryd.prog ([22, 65, 3] : List TypeId) ([d0, d1, DataW.lit (.int .i64 a2)] : List (DataW H))).all (· ≤ reachBytes) = true)
    (hk : Rows.uptoBulkAll ([d0, d1, DataW.lit (.int .i64 a2)] : List (DataW H)) ≤ 1048576) (hlaid : laidMetH Tryd.prog Rows.juteFormsUptoRow.laid W) :
    Calls Tryd.prog 6 #[v0, v1, .int .i64 a2] W fun e W' => e = .returned (.bool true) ∧ Below W.heap.size W W' := by
  obtain ⟨A0, n0, c0, l, e0, z0, g0, l0, r0, b0⟩ := bytes_open (rdu_of 0 h0 hsz rfl rfl hk)
  obtain ⟨A1, n1, c1, L, e1, l1, r1, b1⟩ := ints_open (rdu_of 1 h1 hsz rfl rfl hk)
  rw [cells_slice Tryd.underlying22 hv0 e0, cells_slice Tryd.underlying65 hv1 e1]
  exact formsLaw_any A0 A1 n0 c0 n1 c1 l L a2 W (env_of hlaid (by kernel_rfl) (by first | (exact List.mem_cons_self ..) | (exact List.mem_cons_of_mem _ (List.mem_cons_self ..)) | decide) (by first | (exact List.mem_cons_self ..) | (exact List.mem_cons_of_mem _ (List.mem_cons_self ..)) | decide)) r0 g0 (fun h => (z0 h).2) r1 (by omega) (by omega)
end Go.Proofs.YtbegingiedbldaaDoor
