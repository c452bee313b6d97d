/- A struct in the midst of a block, loaded within a region that draws its order. -/
import Derived.Test.YtbegingiedbldaaDoorStill
import Derived.Deep.MidRow
namespace Go.Proofs.YtbegingiedbldaaDoor
open Go.RowKit

section
variable {P : Program} {w0 : World}
theorem quiet_load_mid {o : Oper} {a : Act} {K : Act → Prop} (ty : TypeId) (x : Operand) (ho : o.op = .load ty x) (g off : Nat) (hx : a.eval x = .pointer (some ⟨g, off, none⟩)) (cs : List Value) (d : TypeDesc)
    (hg : ∀ w, Below w0.heap.size w0 w → w.rangeAt g off cs) (hu : P.underlying ty = some d) (hd : d.isRow = true) (hi : (P.info? ty).map (·.size) = some cs.length)
    (hk : K (a.put o.dst (.agg cs.toArray))) : o.quiet P a (fun w' => ∃ n : Past w0, w' = n.val) K :=
  ⟨.agg cs.toArray, fun w ⟨n, hw⟩ => by
    unfold Oper.quietAt execOp
    subst hw
    simp only [ho, hx, Instr.loadAt, Instr.sureAddr, Sem.run_bind, Sem.run_pure, Result.andThen_ok, run_loadVar_mid n.val g off ty cs d (hg _ n.prop) hu hd hi]
    exact ⟨rfl, rfl⟩, hk⟩
theorem quiet_load_int {o : Oper} {a : Act} {K : Act → Prop} (ty : TypeId) (x : Operand) (ho : o.op = .load ty x) (g off : Nat) (hx : a.eval x = .pointer (some ⟨g, off, none⟩)) (k : IntKind) (v : Value)
    (hg : ∀ w, Below w0.heap.size w0 w → w.cell? ⟨g, off, none⟩ = some v) (hu : P.underlying ty = some (.int k))
    (hk : K (a.put o.dst v)) : o.quiet P a (fun w' => ∃ n : Past w0, w' = n.val) K :=
  ⟨v, fun w ⟨n, hw⟩ => by
    unfold Oper.quietAt execOp
    subst hw
    have hc := hg _ n.prop
    simp only [ho, hx, Instr.loadAt, Instr.sureAddr, Sem.run_bind, Sem.run_pure, Result.andThen_ok]
    simp [loadVar, isAgg, run_underlying hu, go_sem, hc], hk⟩
end
end Go.Proofs.YtbegingiedbldaaDoor
