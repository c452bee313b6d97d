/- JuteWrites: the argument as it was read; the walk at it. -/
import Derived.Test.YtbegingiedbldaaDoorJx1
import Derived.Test.YtbegingiedbldaaDoorJv2
namespace Go.Proofs.YtbegingiedbldaaDoor
open Go.ChangeShapes Go.WideShapes Go.ChangeAt Go.RowKit

theorem vl_small {S : List Vl} : ∀ x ∈ S, x.L.length ≤ (S.map vlSize).sum := by
  induction S with
  | nil => intro x hx; cases hx
  | cons v S ih =>
    intro x hx
    rw [List.map_cons, List.sum_cons]
    rcases List.mem_cons.1 hx with rfl | hx
    · have h : ∀ L : List ByteArray, L.length ≤ (L.map fun s => s.size + 1).sum := by
        intro L
        induction L with
        | nil => simp
        | cons s L ih => rw [List.map_cons, List.sum_cons, List.length_cons]; omega
      have := h x.L
      unfold vlSize
      omega
    · have := ih x hx
      omega
set_option maxRecDepth 100000 in
theorem juteWrites_walk {H : Type} (enc : TypeId × Value → H) (base : Nat) (W : World) (v0 : Value) (d0 : DataW H) (p0 : List MemPlace) (hv0 : Value.okWide Tryd.prog W .any base 66 v0) (h0 : DataW.Trod enc Tryd.prog W 0 (fun _ => true) true 66 v0 d0 p0)
    (hsz : (DataW.weightsEach Tryd.prog ([66] : List TypeId) ([d0] : List (DataW H))).all (· ≤ reachBytes) = true)
    (hk : Rows.uptoBulkAll ([d0] : List (DataW H)) ≤ 1048576) (hlaid : laidMetH Tryd.prog Rows.juteWritesUptoRow.laid W) :
    Calls Tryd.prog 8 #[v0] W fun e W' => e = .returned (.bool true) ∧ Below W.heap.size W W' := by
  obtain ⟨A0, n0, c0, S, e0, l0, o0, r0, b0⟩ := vls_open (rdu_of 0 h0 hsz rfl rfl hk)
  rw [cells_slice Tryd.underlying66 hv0 e0]
  have q0 := bVls_le S
  have q2 := vlSize_pos S
  exact writes_any A0 n0 c0 S W (env_of hlaid (by kernel_rfl) (by first | (exact List.mem_cons_self ..) | (exact List.mem_cons_of_mem _ (List.mem_cons_self ..)) | decide) (by first | (exact List.mem_cons_self ..) | (exact List.mem_cons_of_mem _ (List.mem_cons_self ..)) | decide)) r0 (fun x hx => ⟨(o0 x hx).1, by have := (o0 x hx).2.1; have := vl_small x hx; omega⟩) (by omega) (by omega)
end Go.Proofs.YtbegingiedbldaaDoor
