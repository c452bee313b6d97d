/- Straight lines of operations, one lemma for each, the frame written out: guarded ones by a Bool, no ways parted. -/
import Derived.Test.YtnbaajplelchjaaGreatDoorSeq
import Derived.Deep.Cut
set_option linter.unusedVariables false
set_option linter.unusedSimpArgs false
namespace Go.Proofs.YtnbaajplelchjaaGreatDoor
open Go.RowKit

/-- the value of a slot that is set under a condition -/
def gv (c : Bool) (v : Value) : Value := bif c then v else undef
section
variable {P : Program} {ops : Array Oper} {rest : List Oper} {o : Oper} {a : Act} {w : World} {Q : Exit → Act → World → Prop}
theorem ev {k : Nat} {v : Value} (h : a.tmps.toList[k]? = some v) : a.eval (.tmp k) = v := eval_tmp (by rw [← Array.getElem?_toList]; exact h)
theorem evg {k : Nat} {v : Value} {c : Bool} (h : a.tmps.toList[k]? = some (gv c v)) (hc : c = true) : a.eval (.tmp k) = v := eval_if (by rw [← Array.getElem?_toList]; exact h) hc
theorem wa {i k : Nat} {b x : Bool} (h : o.guard = some (i, b)) (hk : dstAt ops i = some k) (hv : a.tmps.toList[k]? = some (.bool x)) : Region.wanted o (yielded ops a.tmps) = (x == b) := want_all h hk (by rw [← Array.getElem?_toList]; exact hv)
theorem wg {i k : Nat} {b x c : Bool} (h : o.guard = some (i, b)) (hk : dstAt ops i = some k) (hv : a.tmps.toList[k]? = some (gv c (.bool x))) : Region.wanted o (yielded ops a.tmps) = (c && (x == b)) := want_if h hk (by rw [← Array.getElem?_toList]; exact hv)
theorem put_lit (l : List Value) (d) (k : Nat) (v : Value) : (Act.mk l.toArray d).put (some k) v = Act.mk (l.set k v).toArray d := by simp [Act.put]
theorem mapA0 : (#[] : Array Operand).toList.map a.eval = (#[] : Array Value).toList := rfl
theorem mapA1 {x : Operand} {v : Value} (h : a.eval x = v) : (#[x] : Array Operand).toList.map a.eval = (#[v] : Array Value).toList := by simp [h]
theorem mapA2 {x y : Operand} {u v : Value} (h1 : a.eval x = u) (h2 : a.eval y = v) : (#[x, y] : Array Operand).toList.map a.eval = (#[u, v] : Array Value).toList := by simp [h1, h2]
theorem mapA3 {x y z : Operand} {u v t : Value} (h1 : a.eval x = u) (h2 : a.eval y = v) (h3 : a.eval z = t) : (#[x, y, z] : Array Operand).toList.map a.eval = (#[u, v, t] : Array Value).toList := by simp [h1, h2, h3]
theorem wpL_u {u : Value} (hg : o.guard = none) (hr : (execOp a.eval o).run P w = .ok (.value u) w) (h : wpList P ops Q rest (a.put o.dst u) w) : wpList P ops Q (o :: rest) a w := wpList_step fun K hK => op_u hg hr (hK _ _ h)
theorem wpL_g {c : Bool} {u : Value} (hw : Region.wanted o (yielded ops a.tmps) = c) (hr : c = true → (execOp a.eval o).run P w = .ok (.value u) w) (h : wpList P ops Q rest (a.put o.dst (gv c u)) w) : wpList P ops Q (o :: rest) a w :=
  wpList_step fun K hK => op_g hw hr (hK _ _ h)
theorem wpL_mv {x : Operand} {v : Value} (hg : o.guard = none) (ho : o.op = .move x) (hx : a.eval x = v) (h : wpList P ops Q rest (a.put o.dst v) w) : wpList P ops Q (o :: rest) a w := wpL_u hg (r_move x ho hx) h
theorem wpL_as {x : Operand} {v : Value} (hg : o.guard = none) (ho : o.op = .assign x) (hx : a.eval x = v) (h : wpList P ops Q rest (a.put o.dst v) w) : wpList P ops Q (o :: rest) a w := wpL_u hg (r_assign x ho hx) h
theorem wpL_mvg {x : Operand} {v : Value} {c : Bool} (hw : Region.wanted o (yielded ops a.tmps) = c) (ho : o.op = .move x) (hx : c = true → a.eval x = v) (h : wpList P ops Q rest (a.put o.dst (gv c v)) w) : wpList P ops Q (o :: rest) a w := wpL_g hw (fun hc => r_move x ho (hx hc)) h
/-- a guarded call that changes nothing -/
theorem wpL_c {c : Bool} {u : Value} (hw : Region.wanted o (yielded ops a.tmps) = c) (f : FuncId) (xs : Array Operand) (ats : Array TypeId) (ho : o.op = .call { callee := .value (.func f), args := xs, argTypes := ats }) (args : Array Value) (hx0 : c = true → xs.toList.map a.eval = args.toList)
    {fn : Func} (hf : P.funcs[f]? = some fn) (hn : (fn.name == "runtime.NumGoroutine") = false) (hb : fn.body.isNone = false) (hc : c = true → Calls P f args w fun e w' => e = .returned u ∧ w' = w)
    (h : wpList P ops Q rest (a.put o.dst (gv c u)) w) : wpList P ops Q (o :: rest) a w := wpList_step fun K hK => by
  cases c
  · rw [if_neg (by rw [hw]; simp)]
    exact hK _ _ h
  · exact step_call hw f xs ats ho args (hx0 rfl) hf hn hb (hc rfl) (fun e w' h1 => ⟨u, h1.1, by rw [h1.2]; exact hK _ _ h⟩)
theorem wpL_cu {u : Value} (hg : o.guard = none) (f : FuncId) (xs : Array Operand) (ats : Array TypeId) (ho : o.op = .call { callee := .value (.func f), args := xs, argTypes := ats }) (args : Array Value) (hx0 : xs.toList.map a.eval = args.toList)
    {fn : Func} (hf : P.funcs[f]? = some fn) (hn : (fn.name == "runtime.NumGoroutine") = false) (hb : fn.body.isNone = false) (hc : Calls P f args w fun e w' => e = .returned u ∧ w' = w)
    (h : wpList P ops Q rest (a.put o.dst u) w) : wpList P ops Q (o :: rest) a w := wpL_c (want_free hg) f xs ats ho args (fun _ => hx0) hf hn hb (fun _ => hc) h
end
end Go.Proofs.YtnbaajplelchjaaGreatDoor
