/- What the walks of OpsBack, OpsCuts and OpsOne share. (printed by gen_l2.py) -/
import Derived.Test.YtpjjnmdfgcfnmaaDoorOl1
set_option linter.unusedVariables false
set_option linter.unusedSimpArgs false
namespace Go.Proofs.YtpjjnmdfgcfnmaaDoor
open Go.RowKit

/-- what a row of a request is good for -/
structure ReqFit (cq : Array Value) (cs : List Value) : Prop where
  size : 20 = cq.size
  zero : ((Tryd.prog.info? 31).bind (·.zero)).map (·.cells.size) = some cq.size
  info : (Tryd.prog.info? 31).map (·.size) = some cq.size
  one : cq.all (·.oneCell') = true
  op : (Tryd.prog.info? 29).map (·.size) = some cs.length
theorem ReqFit.mk' {w : World} {lo : Option Nat} {z : Int} {x : OpC} {cs : List Value} {cq : Array Value} (hcq : cq = (Value.int .i32 z :: cs).toArray) (hat : At w lo x cs) : ReqFit cq cs := by
  have hsz : 20 = cq.size := by rw [hcq, List.size_toArray, List.length_cons, hat.len]
  refine ⟨hsz, by rw [← hsz]; kernel_rfl, by rw [← hsz]; exact req_size, ?_, by rw [hat.len]; exact isz_29⟩
  have := hat.one
  rw [Array.all_eq_true_iff_forall_mem] at this ⊢
  intro v hv
  rw [hcq] at hv
  rcases List.mem_cons.1 (by simpa using hv) with rfl | hv
  · rfl
  · exact this v (by simpa using hv)
theorem dec_case {l : List UInt8} {w w' : World} {e : Ending} (h : Decoded l w e w') : Below w.heap.size w w' ∧ ((∃ q E, decO l = .inl (q, E) ∧ E ≠ 0 ∧ (0 ≤ q ∧ q ≤ l.length) ∧ e = .returned (.tuple #[.agg zReq.toArray, .int .i64 q, .int .i64 E])) ∨
    (∃ z x cs, decO l = .inr (z, x) ∧ e = .returned (.tuple #[.agg (Value.int .i32 z :: cs).toArray, .int .i64 0, .int .i64 0]) ∧ At w' (some w.heap.size) x cs)) := by
  obtain ⟨h1, h2⟩ := h
  refine ⟨h1, ?_⟩
  rcases hd : decO l with ⟨q, E⟩ | ⟨z, x⟩
  · rw [hd] at h2
    exact .inl ⟨q, E, rfl, h2.1, h2.2.1, h2.2.2⟩
  · rw [hd] at h2
    obtain ⟨cs, h3, h4⟩ := h2
    exact .inr ⟨z, x, cs, rfl, h3, h4⟩
theorem same_true {w : World} {lo lo' : Option Nat} {x y : OpC} {cs ds : List Value} (hx : At w lo x cs) (hy : At w lo' y ds) (e : x = y) : ∀ W, Below w.heap.size w W → Calls Tryd.prog 14 #[.agg cs.toArray, .agg ds.toArray] W fun e w' => e = .returned (.bool true) ∧ Below W.heap.size W w' := by
  obtain ⟨b, h1, h2⟩ := same_any hx hy
  obtain rfl : b = true := h1.2 e
  exact h2
end Go.Proofs.YtpjjnmdfgcfnmaaDoor
