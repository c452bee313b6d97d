/- What an argument of the Ops laws is: a request, bytes. -/
import Derived.Test.YtpjjnmdfgcfnmaaDoorOpen2
set_option linter.unusedVariables false
set_option linter.unusedSimpArgs false
namespace Go.Proofs.YtpjjnmdfgcfnmaaDoor
open Go.ChangeShapes Go.WideShapes Go.ChangeAt Go.RowKit

section
variable {H : Type} {enc : TypeId × Value → H} {W : World} {base : Nat}
set_option maxRecDepth 100000 in
/-- a request -/
theorem req_argO {v : Value} {d : DataW H} (hv : Value.okWide Tryd.prog W .any base 31 v) (h : RdD enc Tryd.prog W 31 v.cells.toList d) : ∃ (z : Int) (x : OpC) (xs : List Value), v = .agg (Value.int .i32 z :: xs).toArray ∧ (Lit.int .i32 z).wf = true ∧ At W none x xs ∧ x.bulk ≤ Rows.uptoBulk d := by
  obtain ⟨hl, ds, hds, hbu, hf⟩ := h.structU Tryd.underlying31
  rw [show Tryd.prog.cellsOf 31 = 20 by kernel_rfl] at hl
  obtain ⟨d0, d1, rfl⟩ : ∃ d0 d1, ds = [d0, d1] := by
    match ds, hds with
    | [d0, d1], _ => exact ⟨_, _, rfl⟩
  have h0 : RdD enc Tryd.prog W 21 ((v.cells.toList.drop 0).take (Tryd.prog.cellsOf 21)) d0 := (hf 0 _ _ rfl rfl).2
  have h1 : RdD enc Tryd.prog W 29 ((v.cells.toList.drop 1).take (Tryd.prog.cellsOf 29)) d1 := (hf 1 _ _ rfl rfl).2
  rw [show Tryd.prog.cellsOf 21 = 1 by kernel_rfl] at h0
  rw [show Tryd.prog.cellsOf 29 = 19 by kernel_rfl] at h1
  obtain ⟨cs, hcs⟩ : ∃ cs, cs = v.cells.toList := ⟨_, rfl⟩
  rw [← hcs] at hl h0 h1
  obtain ⟨c, r, rfl⟩ : ∃ c r, cs = c :: r := by
    match cs, hl with
    | c :: r, _ => exact ⟨_, _, rfl⟩
  obtain ⟨z, e0, w0⟩ := h0.rd.int Tryd.underlying21
  have e0 : c = .int .i32 z := by simpa using e0
  subst e0
  have hr : r.length = 19 := by simpa using hl
  have h1 : RdD enc Tryd.prog W 29 r d1 := by
    have : ((Value.int .i32 z :: r).drop 1).take 19 = r := by simp [List.take_of_length_le, hr]
    rwa [this] at h1
  obtain ⟨x, hx, hb⟩ := op_openN (SizeOf.sizeOf d1) d1 (Nat.le_refl _) _ h1
  simp only [Rows.uptoBulkAll] at hbu
  exact ⟨z, x, r, agg_arg Tryd.underlying31 hv hcs.symm, w0, hx, by omega⟩
set_option maxRecDepth 100000 in
/-- bytes -/
theorem bytes_argO {v : Value} {d : DataW H} (hv : Value.okWide Tryd.prog W .any base 22 v) (h : RdD enc Tryd.prog W 22 v.cells.toList d) : ∃ (A : Option Addr) (n c : Nat) (l : List UInt8), v = .slice A n c ∧ (A = none → n = 0 ∧ c = 0) ∧ n ≤ c ∧ c ≤ maxLen ∧ n ≤ reachBytes ∧ l.length = n ∧ Reads W W.heap.size 1 A n (bcells l) ∧ l.length + 1 ≤ Rows.uptoBulk d := by
  obtain ⟨A, n, c, l, e, x1, x2, x3, x4, x5, u⟩ := h.bytesU Tryd.underlying22 Tryd.underlying5 (by kernel_rfl) (by kernel_rfl)
  exact ⟨A, n, c, l, cells_sliceO Tryd.underlying22 hv e, x1, x2, Nat.le_trans x3 (by decide), Nat.le_trans x2 x3, x4, x5, by omega⟩
end
end Go.Proofs.YtpjjnmdfgcfnmaaDoor
