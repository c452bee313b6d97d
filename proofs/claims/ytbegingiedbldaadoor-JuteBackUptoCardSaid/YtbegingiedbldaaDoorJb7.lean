/- JuteBack: the argument as it was read; the walk at it. -/
import Derived.Test.YtbegingiedbldaaDoorJb6
import Derived.Test.YtbegingiedbldaaDoorJx2
namespace Go.Proofs.YtbegingiedbldaaDoor
open Go.ChangeShapes Go.WideShapes Go.ChangeAt Go.RowKit

theorem vl_fit {w : World} {v : Vl} (h : VlOk w v) {m : Nat} (hs : vlSize v ≤ m) (hm : m ≤ 2147483647) : VlFit v := by
  have hsum : ∀ L : List ByteArray, L.length ≤ (L.map fun s => s.size + 1).sum ∧ ∀ s ∈ L, s.size ≤ (L.map fun s => s.size + 1).sum := by
    intro L
    induction L with
    | nil => simp
    | cons a L ih =>
      rw [List.map_cons, List.sum_cons, List.length_cons]
      refine ⟨by omega, fun s hs => ?_⟩
      rcases List.mem_cons.1 hs with rfl | hs
      · omega
      · have := ih.2 s hs; omega
  have h1 := hsum v.L
  unfold vlSize at hs
  exact ⟨h.2.1, by have := h.2.1; omega, by omega, fun s hs' => by have := h1.2 s hs'; omega, h.2.2.2.2.2.2⟩
theorem vl_le {S : List Vl} : ∀ x ∈ S, vlSize x ≤ (S.map vlSize).sum := by
  induction S with
  | nil => intro x hx; cases hx
  | cons v S ih =>
    intro x hx
    rw [List.map_cons, List.sum_cons]
    rcases List.mem_cons.1 hx with rfl | hx
    · omega
    · have := ih x hx; omega
theorem plG_le (S : List Vl) : (plG S).1.length ≤ (S.map vlSize).sum ∧ (plG S).2.length ≤ (S.map vlSize).sum := by
  induction S with
  | nil => simp [plG]
  | cons v S ih =>
    have hv : (plV v).1.length ≤ 1 ∧ (plV v).2.length ≤ vlSize v := by
      have hl : v.L.length ≤ vlSize v := by
        have h : ∀ L : List ByteArray, L.length ≤ (L.map fun s => s.size + 1).sum := by
          intro L
          induction L with
          | nil => simp
          | cons a L ih => rw [List.map_cons, List.sum_cons, List.length_cons]; omega
        have := h v.L
        unfold vlSize
        omega
      have h1 : 1 ≤ vlSize v := by unfold vlSize; omega
      unfold plV
      repeat' split
      all_goals (simp; try omega)
    have h1 : 1 ≤ vlSize v := by unfold vlSize; omega
    simp only [plG, List.flatMap_cons, List.length_append, List.map_cons, List.sum_cons] at ih ⊢
    omega

set_option maxRecDepth 100000 in
theorem juteBack_walk {H : Type} (enc : TypeId × Value → H) (base : Nat) (W : World) (v0 : Value) (d0 : DataW H) (p0 : List MemPlace) (hv0 : Value.okWide Tryd.prog W .any base 66 v0) (h0 : DataW.Trod enc Tryd.prog W 0 (fun _ => true) true 66 v0 d0 p0)
    (hsz : (DataW.weightsEach Tryd.prog ([66] : List TypeId) ([d0] : List (DataW H))).all (· ≤ reachBytes) = true)
    (hk : Rows.uptoBulkAll ([d0] : List (DataW H)) ≤ 1048576) (hlaid : laidMetH Tryd.prog Rows.juteBackUptoRow.laid W) :
    Calls Tryd.prog 10 #[v0] W fun e W' => e = .returned (.bool true) ∧ Below W.heap.size W W' := by
  obtain ⟨A0, n0, c0, S, e0, l0, o0, r0, b0⟩ := vls_open (rdu_of 0 h0 hsz rfl rfl hk)
  rw [cells_slice Tryd.underlying66 hv0 e0]
  have q0 := bVls_le S
  have q2 := vlSize_pos S
  have q3 := plG_le S
  exact backLaw_any A0 n0 c0 S W (env_of hlaid (by kernel_rfl) (by first | (exact List.mem_cons_self ..) | (exact List.mem_cons_of_mem _ (List.mem_cons_self ..)) | decide) (by first | (exact List.mem_cons_self ..) | (exact List.mem_cons_of_mem _ (List.mem_cons_self ..)) | decide)) r0 (fun x hx => ⟨(o0 x hx).1, vl_fit (o0 x hx) (vl_le x hx) (by omega)⟩) (by omega) (by omega) (by omega) (by omega)
end Go.Proofs.YtbegingiedbldaaDoor
