/- JuteNils: the arguments as they were read; the walk at them. -/
import Derived.Test.YtbegingiedbldaaDoorJo2
import Derived.Test.YtbegingiedbldaaDoorJv2
namespace Go.Proofs.YtbegingiedbldaaDoor
open Go.ChangeShapes Go.WideShapes Go.ChangeAt Go.RowKit

section
variable {H : Type} {enc : TypeId × Value → H} {w : World}
theorem strs_open {v : Value} {m : Nat} (h : RdU enc Tryd.prog w 26 m v.cells.toList) : ∃ (A : Option Addr) (n c : Nat) (L : List ByteArray), v.cells.toList = [.slice A n c] ∧ L.length = n ∧ Reads w w.heap.size 1 A n (scells L) ∧ n + 1 ≤ m := by
  obtain ⟨A, n, c, L, h1, h2, h3, h4, h5, h6, h7, h8, h9⟩ := h.rows Tryd.underlying26 (size := 1) (by kernel_rfl) (by decide) (fun s : ByteArray => [Value.string s]) (fun _ => True) (fun _ => 1) (fun cs' m' hr => by
    obtain ⟨s, rfl, hs⟩ := hr.string Tryd.underlying9
    exact ⟨s, rfl, trivial, by omega⟩)
  rw [sum_ones] at h9
  rw [scells_flat] at h8
  exact ⟨A, n, c, L, h1, h6, h8, by omega⟩
end

set_option maxRecDepth 100000 in
theorem juteNils_walk {H : Type} (enc : TypeId × Value → H) (base : Nat) (W : World) (v0 : Value) (d0 : DataW H) (p0 : List MemPlace) (hv0 : Value.okWide Tryd.prog W .any base 22 v0) (h0 : DataW.Trod enc Tryd.prog W 0 (fun _ => true) true 22 v0 d0 p0)
    (a1 : Int) (w1 : (Lit.int .i64 a1).wf = true)
    (v2 : Value) (d2 : DataW H) (p2 : List MemPlace) (hv2 : Value.okWide Tryd.prog W .any base 26 v2) (h2 : DataW.Trod enc Tryd.prog W 0 (fun _ => true) true 26 v2 d2 p2)
    (hsz : (DataW.weightsEach Tryd.prog ([22, 3, 26] : List TypeId) ([d0, DataW.lit (.int .i64 a1), d2] : List (DataW H))).all (· ≤ reachBytes) = true)
    (hk : Rows.uptoBulkAll ([d0, DataW.lit (.int .i64 a1), d2] : List (DataW H)) ≤ 1048576) (hlaid : laidMetH Tryd.prog Rows.juteNilsUptoRow.laid W) :
    Calls Tryd.prog 9 #[v0, .int .i64 a1, v2] W fun e W' => e = .returned (.bool true) ∧ Below W.heap.size W W' := by
  obtain ⟨A0, n0, c0, l, e0, z0, g0, l0, r0, b0⟩ := bytes_open (rdu_of 0 h0 hsz rfl rfl hk)
  obtain ⟨A2, n2, c2, L, e2, l2, r2, b2⟩ := strs_open (rdu_of 2 h2 hsz rfl rfl hk)
  rw [cells_slice Tryd.underlying22 hv0 e0, cells_slice Tryd.underlying26 hv2 e2]
  exact nils_any A0 n0 c0 a1 A2 n2 c2 L W (env_of hlaid (by kernel_rfl) (by first | (exact List.mem_cons_self ..) | (exact List.mem_cons_of_mem _ (List.mem_cons_self ..)) | decide) (by first | (exact List.mem_cons_self ..) | (exact List.mem_cons_of_mem _ (List.mem_cons_self ..)) | decide)) r2 (by omega)
end Go.Proofs.YtbegingiedbldaaDoor
