/- JuteSums: the arguments as they were read; the walk at them. -/
import Derived.Test.YtbegingiedbldaaDoorJs1
import Derived.Test.YtbegingiedbldaaDoorJv2
namespace Go.Proofs.YtbegingiedbldaaDoor
open Go.ChangeShapes Go.WideShapes Go.ChangeAt Go.RowKit

theorem vl_reads {w : World} {S : List Vl} (h : ∀ s ∈ S, VlOk w s) : ∀ x ∈ S, Reads w w.heap.size 1 x.A x.n (scells x.L) ∧ x.n ≤ 9223372036854775807 := fun x hx => by
  obtain ⟨h1, _, h3, h4, _⟩ := h x hx
  exact ⟨h1, by have : maxLen = 9223372036854775807 := rfl; omega⟩
set_option maxRecDepth 100000 in
theorem juteSums_walk {H : Type} (enc : TypeId × Value → H) (base : Nat) (W : World) (v0 : Value) (d0 : DataW H) (p0 : List MemPlace) (hv0 : Value.okWide Tryd.prog W .any base 66 v0) (h0 : DataW.Trod enc Tryd.prog W 0 (fun _ => true) true 66 v0 d0 p0)
    (v1 : Value) (d1 : DataW H) (p1 : List MemPlace) (hv1 : Value.okWide Tryd.prog W .any base 66 v1) (h1 : DataW.Trod enc Tryd.prog W 0 (fun _ => true) true 66 v1 d1 p1)
    (hsz : (DataW.weightsEach Tryd.prog ([66, 66] : List TypeId) ([d0, d1] : List (DataW H))).all (· ≤ reachBytes) = true)
    (hk : Rows.uptoBulkAll ([d0, d1] : List (DataW H)) ≤ 1048576) (hlaid : laidMetH Tryd.prog Rows.juteSumsUptoRow.laid W) :
    Calls Tryd.prog 7 #[v0, v1] W fun e W' => e = .returned (.bool true) ∧ Below W.heap.size W W' := by
  obtain ⟨A0, n0, c0, S, e0, l0, o0, r0, b0⟩ := vls_open (rdu_of 0 h0 hsz rfl rfl hk)
  obtain ⟨A1, n1, c1, T, e1, l1, o1, r1, b1⟩ := vls_open (rdu_of 1 h1 hsz rfl rfl hk)
  rw [cells_slice Tryd.underlying66 hv0 e0, cells_slice Tryd.underlying66 hv1 e1]
  have q0 := bVls_le S
  have q1 := bVls_le T
  have q2 := vlSize_pos S
  have q3 := vlSize_pos T
  exact sums_any A0 A1 n0 c0 n1 c1 S T W (env_of hlaid (by kernel_rfl) (by first | (exact List.mem_cons_self ..) | (exact List.mem_cons_of_mem _ (List.mem_cons_self ..)) | decide) (by first | (exact List.mem_cons_self ..) | (exact List.mem_cons_of_mem _ (List.mem_cons_self ..)) | decide)) r0 r1 (vl_reads o0) (vl_reads o1) (by omega) (by omega) (by omega)
end Go.Proofs.YtbegingiedbldaaDoor
