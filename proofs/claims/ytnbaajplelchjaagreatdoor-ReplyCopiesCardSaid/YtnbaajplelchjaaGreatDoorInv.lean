/- A region that draws its order, by what each operation's value is: whatever the order. -/
import Derived.Test.YtnbaajplelchjaaGreatDoorBase
set_option linter.unusedVariables false
set_option linter.unusedSimpArgs false
namespace Go.Proofs.YtnbaajplelchjaaGreatDoor
open Go.RowKit

theorem count_set_true : ∀ (l : List Bool) (i : Nat), l[i]? = some false → (l.set i true).count false + 1 = l.count false
  | [], i, h => by simp at h
  | b :: l, 0, h => by
    simp only [List.getElem?_cons_zero, Option.some.injEq] at h
    subst h
    simp
  | b :: l, i + 1, h => by
    rw [List.getElem?_cons_succ] at h
    have := count_set_true l i h
    rw [List.set_cons_succ, List.count_cons, List.count_cons]
    omega
theorem count_none : ∀ (l : List Bool), l.count false = 0 → ∀ i, i < l.length → l[i]? = some true
  | [], _, i, h => by simp at h
  | b :: l, hc, i, h => by
    rw [List.count_cons] at hc
    cases b
    · simp at hc
    · rcases i with _ | i
      · rfl
      · rw [List.getElem?_cons_succ]
        exact count_none l (by simpa using hc) i (by simpa using h)

section
variable {P : Program} {ops : Array Oper} {Q : Exit → Act → World → Prop}
def dstAt (ops : Array Oper) (i : Nat) : Option Nat := (ops[i]?).bind (·.dst)
/-- no two operations write one slot -/
def dstsB (ops : Array Oper) : Bool := (List.range ops.size).all fun i => (List.range ops.size).all fun j => i == j || (dstAt ops i).isNone || !(dstAt ops i == dstAt ops j)
/-- each operation waits for earlier ones alone -/
def backB (ops : Array Oper) : Bool := (List.range ops.size).all fun i => ((ops[i]?).map fun o => o.after.all fun e => !Region.binds .any e || decide (e.on < i)).getD true
/-- their slots lie among so many -/
def slotsB (ops : Array Oper) (n : Nat) : Bool := (List.range ops.size).all fun i => ((dstAt ops i).map fun k => decide (k < n)).getD true

theorem dstAt_lt {ops : Array Oper} {i k : Nat} (h : dstAt ops i = some k) : i < ops.size := by
  unfold dstAt at h
  rcases Nat.lt_or_ge i ops.size with h1 | h1
  · exact h1
  · rw [Array.getElem?_eq_none h1] at h; cases h
theorem dsts_one (h : dstsB ops = true) {i j k : Nat} (hi : dstAt ops i = some k) (hj : dstAt ops j = some k) : i = j := by
  unfold dstsB at h
  rw [List.all_eq_true] at h
  have h1 := h i (List.mem_range.2 (dstAt_lt hi))
  rw [List.all_eq_true] at h1
  have h2 := h1 j (List.mem_range.2 (dstAt_lt hj))
  rw [hi, hj] at h2
  simpa using h2
theorem ready_nil (hb : backB ops = true) {listed : Array Bool} (hsz : listed.size = ops.size) (hr : Region.ready .any ops listed = []) : ∀ i, i < ops.size → listed.getD i true = true := by
  intro i
  induction i using Nat.strongRecOn with
  | ind i ih =>
    intro hi
    unfold backB at hb
    rw [List.all_eq_true] at hb
    have h1 := hb i (List.mem_range.2 hi)
    unfold Region.ready at hr
    have h2 := List.filter_eq_nil_iff.1 hr i (List.mem_range.2 hi)
    rw [Array.getElem?_eq_getElem hi] at h1 h2
    simp only [Option.map_some, Option.getD_some] at h1 h2
    rw [Array.all_eq_true_iff_forall_mem] at h1
    by_cases hl : listed.getD i true = true
    · exact hl
    · exfalso
      apply h2
      rw [Bool.and_eq_true]
      refine ⟨by simpa using hl, ?_⟩
      rw [Array.all_eq_true_iff_forall_mem]
      intro e he
      have h3 := h1 e he
      rw [Bool.or_eq_true] at h3 ⊢
      rcases h3 with h3 | h3
      · exact .inl h3
      · right
        have h4 : e.on < i := by simpa using h3
        have h5 := ih e.on h4 (by omega)
        have h6 : e.on < listed.size := by omega
        rw [Array.getD_eq_getD_getElem?, Array.getElem?_eq_getElem h6] at h5 ⊢
        exact h5

/-- the state in the midst of the region -/
structure RInv (ops : Array Oper) (F : Nat → Value → World → Prop) (a0 : Act) (w0 : World) (listed : Array Bool) (a : Act) (w : World) : Prop where
  size : listed.size = ops.size
  past : Below w0.heap.size w0 w
  defs : a.defers = a0.defers
  len : a.tmps.size = a0.tmps.size
  old : ∀ k, (∀ i, dstAt ops i ≠ some k) → a.tmps[k]? = a0.tmps[k]?
  done : ∀ i, listed.getD i false = true → ∀ k, dstAt ops i = some k → ∃ v, a.tmps[k]? = some v ∧ F i v w
/-- one operation, whatever has come ahead of it -/
def StepOk (P : Program) (ops : Array Oper) (Q : Exit → Act → World → Prop) (F : Nat → Value → World → Prop) (a0 : Act) (w0 : World) (i : Nat) (o : Oper) : Prop :=
  ∀ a w, Below w0.heap.size w0 w → (∀ k, (∀ i, dstAt ops i ≠ some k) → a.tmps[k]? = a0.tmps[k]?) → (∀ e ∈ o.after.toList, Region.binds .any e = true → ∀ k, dstAt ops e.on = some k → ∃ v, a.tmps[k]? = some v ∧ F e.on v w) →
    ∀ K : Act → World → Prop, (∀ v w', F i v w' → Below w.heap.size w w' → K (a.put o.dst v) w') → if Region.wanted o (yielded ops a.tmps) = true then Oper.wp P o a w K Q else K (a.put o.dst undef) w

theorem put_tmps (a : Act) (d : Option Nat) (v : Value) (k : Nat) (h : d ≠ some k) : (a.put d v).tmps[k]? = a.tmps[k]? := by
  unfold Act.put
  cases d with
  | none => rfl
  | some d =>
    have : d ≠ k := fun e => h (by rw [e])
    simp [Array.getElem?_setIfInBounds, this]
theorem put_tmps_same (a : Act) (v : Value) (k : Nat) (h : k < a.tmps.size) : (a.put (some k) v).tmps[k]? = some v := by
  unfold Act.put
  simp [Array.getElem?_setIfInBounds, h]
theorem put_len (a : Act) (d : Option Nat) (v : Value) : (a.put d v).tmps.size = a.tmps.size := by
  unfold Act.put; cases d <;> simp
theorem put_defs (a : Act) (d : Option Nat) (v : Value) : (a.put d v).defers = a.defers := by
  unfold Act.put; cases d <;> rfl

theorem wpAny_inv {F : Nat → Value → World → Prop} {a0 : Act} {w0 : World} (hb : backB ops = true) (hd : dstsB ops = true) (hs : slotsB ops a0.tmps.size = true)
    (hmono : ∀ i v w w', F i v w → Below w.heap.size w w' → F i v w') (hstep : ∀ i o, ops[i]? = some o → StepOk P ops Q F a0 w0 i o)
    (hend : ∀ a w, Below w0.heap.size w0 w → a.defers = a0.defers → a.tmps.size = a0.tmps.size → (∀ k, (∀ i, dstAt ops i ≠ some k) → a.tmps[k]? = a0.tmps[k]?) → (∀ i k, dstAt ops i = some k → ∃ v, a.tmps[k]? = some v ∧ F i v w) → Q .normal a w) :
    ∀ fuel listed a w, RInv ops F a0 w0 listed a w → listed.toList.count false = fuel → wpAny P .any ops Q fuel listed a w := by
  have hfin : ∀ listed a w, RInv ops F a0 w0 listed a w → (∀ i, i < ops.size → listed.getD i true = true) → Q .normal a w := by
    intro listed a w h hall
    refine hend a w h.past h.defs h.len h.old fun i k hk => h.done i ?_ k hk
    have hi := dstAt_lt hk
    have h1 := hall i hi
    have hi' : i < listed.size := by rw [h.size]; exact hi
    simp only [Array.getD_eq_getD_getElem?, Array.getElem?_eq_getElem hi', Option.getD_some] at h1 ⊢
    exact h1
  intro fuel
  induction fuel with
  | zero =>
    intro listed a w h hc
    have hall : ∀ i, i < ops.size → listed.getD i true = true := fun i hi => by
      have := count_none listed.toList hc i (by rw [Array.length_toList, h.size]; exact hi)
      rw [Array.getElem?_toList] at this
      rw [Array.getD_eq_getD_getElem?, this]
      rfl
    refine ⟨?_, hfin listed a w h hall⟩
    unfold Region.ready
    rw [List.filter_eq_nil_iff]
    intro i hi
    rw [hall i (List.mem_range.1 hi)]
    simp
  | succ fuel ih =>
    intro listed a w h hc
    refine ⟨fun hr => hfin listed a w h (ready_nil hb h.size hr), fun i hi => ?_⟩
    have hi2 : i < ops.size ∧ listed.getD i true = false ∧ ((ops[i]?).map (·.after.all fun e => !Region.binds .any e || listed.getD e.on false)).getD false = true := by
      unfold Region.ready at hi
      rw [List.mem_filter, Bool.and_eq_true] at hi
      exact ⟨List.mem_range.1 hi.1, by simpa using hi.2.1, hi.2.2⟩
    obtain ⟨g1, g2, g3⟩ := hi2
    have hil : i < listed.size := by rw [h.size]; exact g1
    have ho : ops[i]? = some ops[i] := Array.getElem?_eq_getElem g1
    rw [ho, Option.map_some, Option.getD_some, Array.all_eq_true_iff_forall_mem] at g3
    refine wpOp_step ho fun K' hK => ?_
    refine hstep i _ ho a w h.past h.old (fun e he hbd k hk => ?_) K' fun v w' hv hbl => hK _ _ (ih _ _ _ ?_ ?_)
    · have h4 := g3 e (by simpa using he)
      rw [hbd] at h4
      exact h.done e.on (by simpa using h4) k hk
    · have hdi : dstAt ops i = ops[i].dst := by unfold dstAt; rw [ho]; rfl
      refine ⟨by simp [h.size], h.past.trans (hbl.mono h.past.size), by rw [put_defs]; exact h.defs, by rw [put_len]; exact h.len, fun k hk => ?_, fun j hj k hk => ?_⟩
      · rw [put_tmps _ _ _ _ (by rw [← hdi]; exact hk i)]
        exact h.old k hk
      · by_cases hij : j = i
        · subst hij
          rw [hdi] at hk
          rw [hk]
          refine ⟨v, put_tmps_same _ _ _ ?_, hv⟩
          rw [h.len]
          unfold slotsB at hs
          rw [List.all_eq_true] at hs
          have := hs j (List.mem_range.2 g1)
          rw [hdi, hk] at this
          simpa using this
        · have hj' : listed.getD j false = true := by
            rw [Array.getD_eq_getD_getElem?, Array.getElem?_setIfInBounds, if_neg (Ne.symm hij)] at hj
            rw [Array.getD_eq_getD_getElem?]
            exact hj
          obtain ⟨u, hu, hF⟩ := h.done j hj' k hk
          refine ⟨u, ?_, hmono j u w w' hF hbl⟩
          rw [put_tmps _ _ _ _ (fun e => hij (dsts_one hd hk (by rw [hdi]; exact e)))]
          exact hu
    · have hf : listed.toList[i]? = some false := by
        rw [Array.getElem?_toList, Array.getElem?_eq_getElem hil]
        rw [Array.getD_eq_getD_getElem?, Array.getElem?_eq_getElem hil] at g2
        simpa using g2
      have := count_set_true listed.toList i hf
      rw [Array.toList_setIfInBounds]
      omega

theorem wp_region_inv {id : Nat} {a0 : Act} {w0 : World} {l : List Oper} (F : Nat → Value → World → Prop) (hm : P.follows .mixedOrders = true) (hb : backB l.toArray = true) (hd : dstsB l.toArray = true) (hs : slotsB l.toArray a0.tmps.size = true)
    (hmono : ∀ i v w w', F i v w → Below w.heap.size w w' → F i v w') (hstep : ∀ i o, l[i]? = some o → StepOk P l.toArray Q F a0 w0 i o)
    (hend : ∀ a w, Below w0.heap.size w0 w → a.defers = a0.defers → a.tmps.size = a0.tmps.size → (∀ k, (∀ i, dstAt l.toArray i ≠ some k) → a.tmps[k]? = a0.tmps[k]?) → (∀ i k, dstAt l.toArray i = some k → ∃ v, a.tmps[k]? = some v ∧ F i v w) → Q .normal a w) :
    (Code.region id l.toArray true).wp P Q a0 w0 := by
  refine wp_region_any hm ?_
  refine wpAny_inv (a0 := a0) (w0 := w0) hb hd hs hmono (fun i o h => hstep i o (by simpa using h)) hend _ _ _ _ ⟨by simp, (Below.refl _ _).drew, rfl, rfl, fun _ _ => rfl, fun i hi => ?_⟩ (by simp)
  exfalso
  rw [Array.getD_eq_getD_getElem?, Array.getElem?_replicate] at hi
  split at hi
  · cases hi
  · cases hi

end
/-! laws for the steps -/
section
variable {P : Program} {ops : Array Oper} {Q : Exit → Act → World → Prop} {o : Oper} {a : Act} {w : World} {K : Act → World → Prop} {E : Prop}
theorem want_free (h : o.guard = none) : Region.wanted o (yielded ops a.tmps) = true := by simp [Region.wanted, h]
theorem want_guard {i k : Nat} {b : Bool} (h : o.guard = some (i, b)) (hk : dstAt ops i = some k) (hv : a.tmps[k]? = some (.bool b)) : Region.wanted o (yielded ops a.tmps) = true := by
  unfold dstAt at hk
  simp [Region.wanted, h, yielded, hk, hv]
theorem step_val {v : Value} (hw : Region.wanted o (yielded ops a.tmps) = true) (hr : (execOp a.eval o).run P w = .ok (.value v) w) (h : K (a.put o.dst v) w) : if Region.wanted o (yielded ops a.tmps) = true then Oper.wp P o a w K Q else E := by
  rw [if_pos hw]
  unfold Oper.wp
  rw [hr]
  exact h
theorem step_load_row (hw : Region.wanted o (yielded ops a.tmps) = true) (ty : TypeId) (x : Operand) (ho : o.op = .load ty x) (g : Nat) (hx : a.eval x = .pointer (some ⟨g, 0, none⟩)) (t : TypeId) (cs : Array Value) (d : TypeDesc) (hg : Blk w g t cs)
    (hu : P.underlying ty = some d) (hd : (match d with | .struct _ | .array _ _ => true | _ => false) = true) (hi : (P.info? ty).map (·.size) = some cs.size) (h : K (a.put o.dst (.agg cs)) w) : if Region.wanted o (yielded ops a.tmps) = true then Oper.wp P o a w K Q else E := by
  rw [if_pos hw]
  exact wp_load_row ty x ho g hx t cs _ d hg hu hd hi h
theorem step_eql (hw : Region.wanted o (yielded ops a.tmps) = true) (t : TypeId) (x y : Operand) (t' : TypeId) (ho : o.op = .binOp .eql t x y t') (u v r : Value) (hx : a.eval x = u) (hy : a.eval y = v) (hg : (eqGuard .eql t x y u v).run P w = .ok () w) (hr : (binOp .eql t u v).run P w = .ok r w) (h : K (a.put o.dst r) w) : if Region.wanted o (yielded ops a.tmps) = true then Oper.wp P o a w K Q else E := by
  refine step_val hw ?_ h
  unfold execOp
  simp only [ho, hx, hy, Sem.run_bind, hg, Result.andThen_ok, hr]
  rfl
theorem step_conv (hw : Region.wanted o (yielded ops a.tmps) = true) (src dst : TypeId) (x : Operand) (ho : o.op = .convert src dst x) (v u : Value) (hx : a.eval x = v) (hr : (convert src dst v).run P w = .ok u w) (h : K (a.put o.dst u) w) : if Region.wanted o (yielded ops a.tmps) = true then Oper.wp P o a w K Q else E := by
  refine step_val hw ?_ h
  unfold execOp
  simp only [ho, hx, Sem.run_bind, hr, Result.andThen_ok]
  rfl
theorem step_move (hw : Region.wanted o (yielded ops a.tmps) = true) (x : Operand) (ho : o.op = .move x) (v : Value) (hx : a.eval x = v) (h : K (a.put o.dst v) w) : if Region.wanted o (yielded ops a.tmps) = true then Oper.wp P o a w K Q else E := by
  refine step_val hw ?_ h
  unfold execOp
  simp only [ho, hx]
  rfl
theorem step_assign (hw : Region.wanted o (yielded ops a.tmps) = true) (x : Operand) (ho : o.op = .assign x) (v : Value) (hx : a.eval x = v) (h : K (a.put o.dst v) w) : if Region.wanted o (yielded ops a.tmps) = true then Oper.wp P o a w K Q else E := by
  refine step_val hw ?_ h
  unfold execOp
  simp only [ho, hx]
  rfl
theorem step_pick_true (hw : Region.wanted o (yielded ops a.tmps) = true) (x y z : Operand) (ho : o.op = .pick x y z) (v : Value) (hx : a.eval x = .bool true) (hy : a.eval y = v) (h : K (a.put o.dst v) w) : if Region.wanted o (yielded ops a.tmps) = true then Oper.wp P o a w K Q else E := by
  refine step_val hw ?_ h
  unfold execOp
  simp [ho, hx, hy, asBool]
theorem step_pick_false (hw : Region.wanted o (yielded ops a.tmps) = true) (x y z : Operand) (ho : o.op = .pick x y z) (v : Value) (hx : a.eval x = .bool false) (hy : a.eval z = v) (h : K (a.put o.dst v) w) : if Region.wanted o (yielded ops a.tmps) = true then Oper.wp P o a w K Q else E := by
  refine step_val hw ?_ h
  unfold execOp
  simp [ho, hx, hy, asBool]
theorem eval_tmp {k : Nat} {v : Value} (h : a.tmps[k]? = some v) : a.eval (.tmp k) = v := by
  show a.tmps.getD k undef = v
  rw [Array.getD_eq_getD_getElem?, h]
  rfl
end
/-! values by a list; steps by a list -/
section
variable {P : Program} {ops : Array Oper} {Q : Exit → Act → World → Prop}
def FL (l : List (Value ⊕ (Value → World → Prop))) (i : Nat) (v : Value) (w : World) : Prop := match l[i]? with
  | some (.inl u) => v = u
  | some (.inr p) => p v w
  | none => True
theorem FL.mono {l : List (Value ⊕ (Value → World → Prop))} (h : ∀ p, Sum.inr p ∈ l → ∀ v w w', p v w → Below w.heap.size w w' → p v w') : ∀ i v w w', FL l i v w → Below w.heap.size w w' → FL l i v w' := by
  intro i v w w' hF hb
  unfold FL at hF ⊢
  split at hF
  · exact hF
  · rename_i p hp
    exact h p (List.mem_of_getElem? hp) v w w' hF hb
  · trivial
def StepsOk (P : Program) (ops : Array Oper) (Q : Exit → Act → World → Prop) (F : Nat → Value → World → Prop) (a0 : Act) (w0 : World) : Nat → List Oper → Prop
  | _, [] => True
  | i, o :: r => StepOk P ops Q F a0 w0 i o ∧ StepsOk P ops Q F a0 w0 (i + 1) r
theorem steps_get {F : Nat → Value → World → Prop} {a0 : Act} {w0 : World} : ∀ (l : List Oper) (n : Nat), StepsOk P ops Q F a0 w0 n l → ∀ i o, l[i]? = some o → StepOk P ops Q F a0 w0 (n + i) o
  | [], _, _, i, o, h => by simp at h
  | x :: l, n, hs, 0, o, h => by
    simp only [List.getElem?_cons_zero, Option.some.injEq] at h
    subst h
    exact hs.1
  | x :: l, n, hs, i + 1, o, h => by
    rw [List.getElem?_cons_succ] at h
    have := steps_get l (n + 1) hs.2 i o h
    rwa [Nat.add_assoc, Nat.add_comm 1 i] at this
/-- a slot that no operation of the region writes -/
def freeB (ops : Array Oper) (k : Nat) : Bool := (List.range ops.size).all fun i => !(dstAt ops i == some k)
theorem free_slot {k : Nat} (h : freeB ops k = true) : ∀ i, dstAt ops i ≠ some k := by
  intro i hi
  unfold freeB at h
  rw [List.all_eq_true] at h
  have := h i (List.mem_range.2 (dstAt_lt hi))
  rw [hi] at this
  simp at this
theorem dep_val {a : Act} {k : Nat} {u : Value} (h : ∃ v, a.tmps[k]? = some v ∧ v = u) : a.tmps[k]? = some u := by
  obtain ⟨v, h1, rfl⟩ := h
  exact h1
theorem wp_region_steps {id : Nat} {a0 : Act} {w0 : World} {l : List Oper} (F : List (Value ⊕ (Value → World → Prop))) (hm : P.follows .mixedOrders = true) (hb : backB l.toArray = true) (hd : dstsB l.toArray = true) (hs : slotsB l.toArray a0.tmps.size = true)
    (hmono : ∀ p, Sum.inr p ∈ F → ∀ v w w', p v w → Below w.heap.size w w' → p v w') (hstep : StepsOk P l.toArray Q (FL F) a0 w0 0 l)
    (hend : ∀ a w, Below w0.heap.size w0 w → a.defers = a0.defers → a.tmps.size = a0.tmps.size → (∀ k, (∀ i, dstAt l.toArray i ≠ some k) → a.tmps[k]? = a0.tmps[k]?) → (∀ i k, dstAt l.toArray i = some k → ∃ v, a.tmps[k]? = some v ∧ FL F i v w) → Q .normal a w) :
    (Code.region id l.toArray true).wp P Q a0 w0 :=
  wp_region_inv (FL F) hm hb hd hs (FL.mono hmono) (fun i o h => by have := steps_get l 0 hstep i o h; rwa [Nat.zero_add] at this) hend
theorem bool_eql_self {t : TypeId} (q : Bool) (w : World) (h : P.underlying t = some .bool) : (binOp .eql t (.bool q) (.bool q)).run P w = .ok (.bool true) w := by
  cases q <;> simp [go_sem, h]
end
end Go.Proofs.YtnbaajplelchjaaGreatDoor
