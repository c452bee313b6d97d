/- ReplyCopies: the opener. (printed by gen_rb6.py) -/
import Derived.Test.YtnbaajplelchjaaGreatDoorRb5
set_option linter.unusedVariables false
set_option linter.unusedSimpArgs false
set_option maxRecDepth 100000
namespace Go.Proofs.YtnbaajplelchjaaGreatDoor
open Go.ChangeShapes Go.WideShapes Go.ChangeAt Go.RowKit

section
variable {H : Type} {enc : TypeId × Value → H} {w : World} {base : Nat}
theorem rd_ofR {P : Program} {v : Value} {d : DataW H} {p : List MemPlace} {t : TypeId} {ts : List TypeId} {ds : List (DataW H)} (j : Nat) (h : DataW.Trod enc P w 0 (fun _ => true) true t v d p)
    (hsz : (DataW.weightsEach P ts ds).all (· ≤ reachBytes) = true) (ht : ts[j]? = some t) (hd : ds[j]? = some d) : Rd enc P w t v.cells.toList := by
  obtain ⟨fuel, hf⟩ := h
  exact RdD.rd (d := d) ⟨fuel, _, hf, fun n hn => by simpa using List.all_eq_true.1 hsz _ (DataW.weights_mem_each ht hd n hn)⟩
theorem agg_argR {t : TypeId} {fs : Array Field} (ht : Tryz.prog.underlying t = some (.struct fs)) {v : Value} (hv : Value.okWide Tryz.prog w .any base t v) {cs0 : List Value} (hcs : v.cells.toList = cs0) : v = .agg cs0.toArray := by
  obtain ⟨cs, rfl, _⟩ : ∃ cs, v = .agg cs ∧ True := by
    unfold Value.okWide at hv
    rw [ht] at hv
    obtain ⟨cs, h, _⟩ := hv
    exact ⟨cs, h, trivial⟩
  have : cs = cs0.toArray := Array.ext' (by simpa [Value.cells] using hcs)
  rw [this]
set_option maxRecDepth 100000 in
set_option maxHeartbeats 4000000 in
theorem rep_open {cs : List Value} (h : Rd enc Tryz.prog w 35 cs) : ∃ (a z c : Int) (x : ResC) (xs : List Value), cs = rp a z c xs ∧ ((Lit.int .i32 a).wf = true ∧ (Lit.int .i64 z).wf = true ∧ (Lit.int .i32 c).wf = true) ∧ At w none x xs := by
  obtain ⟨hl, hf⟩ := h.struct Tryz.underlying35
  rw [show Tryz.prog.cellsOf 35 = 25 by kernel_rfl] at hl
  have kint64 : Tryz.prog.cellsOf 2 = 1 := by kernel_rfl
  have kint32 : Tryz.prog.cellsOf 21 = 1 := by kernel_rfl
  have kcode : Tryz.prog.cellsOf 22 = 1 := by kernel_rfl
  have kres : Tryz.prog.cellsOf 33 = 22 := by kernel_rfl
  obtain ⟨c0, c1, c2, c3, c4, c5, c6, c7, c8, c9, c10, c11, c12, c13, c14, c15, c16, c17, c18, c19, c20, c21, c22, c23, c24, rfl⟩ : ∃ c0 c1 c2 c3 c4 c5 c6 c7 c8 c9 c10 c11 c12 c13 c14 c15 c16 c17 c18 c19 c20 c21 c22 c23 c24 : Value, cs = [c0, c1, c2, c3, c4, c5, c6, c7, c8, c9, c10, c11, c12, c13, c14, c15, c16, c17, c18, c19, c20, c21, c22, c23, c24] := by
    match cs, hl with
    | [c0, c1, c2, c3, c4, c5, c6, c7, c8, c9, c10, c11, c12, c13, c14, c15, c16, c17, c18, c19, c20, c21, c22, c23, c24], _ => exact ⟨_, _, _, _, _, _, _, _, _, _, _, _, _, _, _, _, _, _, _, _, _, _, _, _, _, rfl⟩
  have h0 : Rd enc Tryz.prog w 21 (([c0, c1, c2, c3, c4, c5, c6, c7, c8, c9, c10, c11, c12, c13, c14, c15, c16, c17, c18, c19, c20, c21, c22, c23, c24].drop 0).take (Tryz.prog.cellsOf 21)) := hf 0 _ rfl
  have h1 : Rd enc Tryz.prog w 2 (([c0, c1, c2, c3, c4, c5, c6, c7, c8, c9, c10, c11, c12, c13, c14, c15, c16, c17, c18, c19, c20, c21, c22, c23, c24].drop 1).take (Tryz.prog.cellsOf 2)) := hf 1 _ rfl
  have h2 : Rd enc Tryz.prog w 22 (([c0, c1, c2, c3, c4, c5, c6, c7, c8, c9, c10, c11, c12, c13, c14, c15, c16, c17, c18, c19, c20, c21, c22, c23, c24].drop 2).take (Tryz.prog.cellsOf 22)) := hf 2 _ rfl
  have h3 : Rd enc Tryz.prog w 33 (([c0, c1, c2, c3, c4, c5, c6, c7, c8, c9, c10, c11, c12, c13, c14, c15, c16, c17, c18, c19, c20, c21, c22, c23, c24].drop 3).take (Tryz.prog.cellsOf 33)) := hf 3 _ rfl
  rw [kint32] at h0
  rw [kint64] at h1
  rw [kcode] at h2
  rw [kres] at h3
  obtain ⟨a, e0, w0⟩ := h0.int Tryz.underlying21
  obtain ⟨z, e1, w1⟩ := h1.int Tryz.underlying2
  obtain ⟨c, e2, w2⟩ := h2.int Tryz.underlying22
  obtain ⟨x, hx⟩ := res_open h3
  simp at e0 e1 e2
  subst e0 e1 e2
  exact ⟨a, z, c, x, _, rfl, ⟨w0, w1, w2⟩, hx⟩
theorem rep_arg {v : Value} (hv : Value.okWide Tryz.prog w .any base 35 v) (h : Rd enc Tryz.prog w 35 v.cells.toList) : ∃ (a z c : Int) (x : ResC) (xs : List Value), v = .agg (rp a z c xs).toArray ∧ ((Lit.int .i32 a).wf = true ∧ (Lit.int .i64 z).wf = true ∧ (Lit.int .i32 c).wf = true) ∧ At w none x xs := by
  obtain ⟨a, z, c, x, xs, e, hz, hx⟩ := rep_open h
  exact ⟨a, z, c, x, xs, agg_argR Tryz.underlying35 hv e, hz, hx⟩
end
set_option maxRecDepth 100000 in
theorem replyCopies_walk {H : Type} (enc : TypeId × Value → H) (base : Nat) (W : World) (v0 : Value) (d0 : DataW H) (p0 : List MemPlace) (hv0 : Value.okWide Tryz.prog W .any base 35 v0) (h0 : DataW.Trod enc Tryz.prog W 0 (fun _ => true) true 35 v0 d0 p0)
    (v1 : Value) (d1 : DataW H) (p1 : List MemPlace) (hv1 : Value.okWide Tryz.prog W .any base 35 v1) (h1 : DataW.Trod enc Tryz.prog W 0 (fun _ => true) true 35 v1 d1 p1)
    (hsz : (DataW.weightsEach Tryz.prog ([35, 35] : List TypeId) ([d0, d1] : List (DataW H))).all (· ≤ reachBytes) = true) (hlaid : laidMetH Tryz.prog Rows.replyCopiesRow.laid W) :
    Calls Tryz.prog 6 #[v0, v1] W fun e w' => e = .returned (.bool true) ∧ Below W.heap.size W w' := by
  have hE : Env W := env_of hlaid (by kernel_rfl) (by simp [Rows.replyCopiesRow]) (by simp [Rows.replyCopiesRow])
  obtain ⟨a, z, c, x, xs, rfl, _, hx⟩ := rep_arg hv0 (rd_ofR 0 h0 hsz rfl rfl)
  obtain ⟨a', z', c', y, ys, rfl, _, hy⟩ := rep_arg hv1 (rd_ofR 1 h1 hsz rfl rfl)
  exact copiesLaw_walk hx hy a z c a' z' c' hE
end Go.Proofs.YtnbaajplelchjaaGreatDoor
