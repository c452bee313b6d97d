/- Rows of requests; how long an encoding is. -/
import Derived.Test.YtpjjnmdfgcfnmaaDoorOq31
set_option linter.unusedVariables false
set_option linter.unusedSimpArgs false
namespace Go.Proofs.YtpjjnmdfgcfnmaaDoor
open Go.RowKit

theorem enc_len {z : Int} {x : OpC} (h : x.bulk ≤ 1048576) : (encB z x).length ≤ 6000000 := by
  have := x.putB_le
  unfold encB
  simp only [List.length_append, bInt_len]
  omega
theorem enc_pos (z : Int) (x : OpC) : 0 < (encB z x).length := by
  unfold encB
  simp only [List.length_append, bInt_len]
  omega
theorem ReqRow.ct {w w0 : World} {lo : Option Nat} {g : Nat} {z : Int} {x : OpC} {cs : List Value} (h : ReqRow w g z x cs) (ha : At w0 lo x cs) : w.cell? ⟨g, 1, none⟩ = some (.int .i32 x.f.t) := blk_cell h.blk 1 (by have := ha.c0; simpa using this)
/-- what a row of a request is good for -/
structure ReqFit (cq : Array Value) (cs : List Value) : Prop where
  size : 20 = cq.size
  zero : ((Tryd.prog.info? 31).bind (·.zero)).map (·.cells.size) = some cq.size
  info : (Tryd.prog.info? 31).map (·.size) = some cq.size
  one : cq.all (·.oneCell') = true
  op : (Tryd.prog.info? 29).map (·.size) = some cs.length
theorem ReqFit.mk' {w : World} {lo : Option Nat} {z : Int} {x : OpC} {cs : List Value} {cq : Array Value} (hcq : cq = (Value.int .i32 z :: cs).toArray) (hat : At w lo x cs) : ReqFit cq cs := by
  have hsz : 20 = cq.size := by rw [hcq, List.size_toArray, List.length_cons, hat.len]
  refine ⟨hsz, by rw [← hsz]; kernel_rfl, by rw [← hsz]; exact req_size, ?_, by rw [hat.len]; exact isz_29⟩
  have := hat.one
  rw [Array.all_eq_true_iff_forall_mem] at this ⊢
  intro v hv
  rw [hcq] at hv
  rcases List.mem_cons.1 (by simpa using hv) with rfl | hv
  · rfl
  · exact this v (by simpa using hv)
end Go.Proofs.YtpjjnmdfgcfnmaaDoor
