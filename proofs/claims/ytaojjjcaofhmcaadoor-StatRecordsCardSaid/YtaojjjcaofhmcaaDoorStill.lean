/- A region that draws its order, walked once in the order of its text, where each operation keeps a class of worlds: loads of whole rows, and calls that only lay new blocks, among them. -/
import Derived.Test.YtaojjjcaofhmcaaDoorWords
import Derived.Deep.QuietTactic
import Derived.BigQuiet
namespace Go.Proofs.YtaojjjcaofhmcaaDoor
open Go.RowKit

/-- The worlds in which below the heap's size of w0 nothing has turned. -/
structure Past (w0 : World) where
  val : World
  prop : Below w0.heap.size w0 val
instance (w0 : World) : Nonempty (Past w0) := ⟨⟨w0, Below.refl _ _⟩⟩
/-- the class of worlds: in a form that the walk's simp sees through -/
theorem past_of {w0 W : World} (h : Below w0.heap.size w0 W) : ∃ n : Past w0, W = n.val := ⟨⟨W, h⟩, rfl⟩

section
variable {P : Program} {w0 : World}
theorem wp_region_past {id : Nat} {Q : Exit → Act → World → Prop} {a : Act} {l : List Oper} (hm : P.follows .mixedOrders = true) (hB : Region.lexB .any l.toArray = true)
    (h : wpQuiet P l.toArray (fun w' => ∃ n : Past w0, w' = n.val) (fun a' => ∀ n : Past w0, Q .normal a' n.val) l a) : (Code.region id l.toArray true).wp P Q a w0 :=
  wp_region_quiet (C := fun w' => ∃ n : Past w0, w' = n.val) hm hB (past_of (Below.refl _ _).drew) (by
    have hh : (fun a' => ∀ n : Past w0, Q .normal a' n.val) = (fun a' => ∀ w', (∃ n : Past w0, w' = n.val) → Q .normal a' w') := by
      funext a'
      exact propext ⟨fun h w' ⟨n, e⟩ => e ▸ h n, fun h n => h _ ⟨n, rfl⟩⟩
    rw [hh] at h
    simpa using h)

theorem quiet_load_blk {o : Oper} {a : Act} {K : Act → Prop} (ty : TypeId) (x : Operand) (ho : o.op = .load ty x) (g : Nat) (hx : a.eval x = .pointer (some ⟨g, 0, none⟩)) (t : TypeId) (cs : Array Value) (d : TypeDesc)
    (hg : ∀ w, Below w0.heap.size w0 w → Blk w g t cs) (hu : P.underlying ty = some d) (hd : (match d with | .struct _ | .array _ _ => true | _ => false) = true) (hi : (P.info? ty).map (·.size) = some cs.size)
    (hk : K (a.put o.dst (.agg cs))) : o.quiet P a (fun w' => ∃ n : Past w0, w' = n.val) K :=
  ⟨.agg cs, fun w ⟨n, hw⟩ => by
    unfold Oper.quietAt execOp
    subst hw
    simp only [ho, hx, Instr.loadAt, Instr.sureAddr, Sem.run_bind, Sem.run_pure, Result.andThen_ok, run_loadVar_row n.val g t ty cs _ d (hg _ n.prop) hu hd hi]
    exact ⟨rfl, rfl⟩, hk⟩

theorem quiet_call {o : Oper} {a : Act} {K : Act → Prop} (f : FuncId) (xs : Array Operand) (ats : Array TypeId) (ho : o.op = .call { callee := .value (.func f), args := xs, argTypes := ats }) (args : Array Value) (hx0 : xs.toList.map a.eval = args.toList)
    {fn : Func} (hf : P.funcs[f]? = some fn) (hn : (fn.name == "runtime.NumGoroutine") = false) (hb : fn.body.isNone = false) (v : Value) (hc : ∀ w, Below w0.heap.size w0 w → Calls P f args w fun e w'' => e = .returned v ∧ Below w0.heap.size w0 w'') (hk : K (a.put o.dst v)) :
    o.quiet P a (fun w' => ∃ n : Past w0, w' = n.val) K :=
  ⟨v, fun w ⟨n, hw⟩ => by
    have hx : #[] ++ xs.map a.eval ++ #[] = args := by
      apply Array.ext'
      simpa using hx0
    unfold Oper.quietAt
    subst hw
    obtain ⟨dst, op, ty, pos, after, guard⟩ := o
    dsimp only at ho
    subst ho
    have hrun : (callFunc f args).run P n.val = .ok (.enter f args) n.val := by
      have hn' : ¬ fn.name = "runtime.NumGoroutine" := by simpa using hn
      have hb' : ¬ fn.body = none := by
        intro h
        rw [h] at hb
        cases hb
      simp [callFunc, hf, hn', hb']
    rw [execOp_call_go, hx, hrun]
    exact ⟨rfl, (hc _ n.prop).mono fun _ _ ⟨he, hb⟩ => ⟨he, past_of hb⟩⟩, hk⟩

theorem quiet_eql_agg {o : Oper} {a : Act} {K : Act → Prop} (t : TypeId) (x y : Operand) (t' : TypeId) (ho : o.op = .binOp .eql t x y t') (xs ys : Array Value) (hx : a.eval x = .agg xs) (hy : a.eval y = .agg ys)
    (hm : P.eqGuardType P.depth t = false) (b : Bool) (hr : ∀ w, (binOp .eql t (.agg xs) (.agg ys)).run P w = .ok (.bool b) w) (hk : K (a.put o.dst (.bool b))) : o.quiet P a (fun w' => ∃ n : Past w0, w' = n.val) K :=
  ⟨.bool b, fun w hw => by
    unfold Oper.quietAt execOp
    simp only [ho, hx, hy, Sem.run_bind, run_eqGuard_agg w .eql t x y xs ys hm, Result.andThen_ok, hr]
    exact ⟨rfl, rfl⟩, hk⟩

/-- the class: nothing below the heap's size has turned -/
theorem to_class {f : FuncId} {args : Array Value} {v : Value} {w0 w : World} (hB : Below w0.heap.size w0 w) (h : Calls P f args w fun e w' => e = .returned v ∧ Below w.heap.size w w') : Calls P f args w fun e w' => e = .returned v ∧ Below w0.heap.size w0 w' :=
  h.mono fun _ _ ⟨he, hb⟩ => ⟨he, hB.trans (hb.mono hB.size)⟩
theorem to_class_same {f : FuncId} {args : Array Value} {v : Value} {w0 w : World} (hB : Below w0.heap.size w0 w) (h : Calls P f args w fun e w' => e = .returned v ∧ w = w') : Calls P f args w fun e w' => e = .returned v ∧ Below w0.heap.size w0 w' :=
  h.mono fun _ _ ⟨he, hb⟩ => ⟨he, hb ▸ hB⟩
end
end Go.Proofs.YtaojjjcaofhmcaaDoor
