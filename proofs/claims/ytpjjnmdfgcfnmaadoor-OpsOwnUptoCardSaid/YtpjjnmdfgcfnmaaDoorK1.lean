/- Part 1 of a proof: lemmas and walks. -/
import Derived.Test.YtpjjnmdfgcfnmaaDoorK0
import Derived.Laws.Rows
import Derived.Laws.Tables
import Derived.Great.BuildSlice
set_option linter.unusedVariables false
set_option linter.unusedSimpArgs false
namespace Go.Proofs.YtpjjnmdfgcfnmaaDoor
open Go.RowKit

theorem count_set_true : ∀ (l : List Bool) (i : Nat), l[i]? = some false → (l.set i true).count false + 1 = l.count false
 | [], i, h => by simp at h
 | b :: l, 0, h => by
   simp only [List.getElem?_cons_zero, Option.some.injEq] at h
   subst h
   simp
 | b :: l, i + 1, h => by
   rw [List.getElem?_cons_succ] at h
   have := count_set_true l i h
   rw [zB, List.count_cons, List.count_cons]
   omega
theorem count_none : ∀ (l : List Bool), l.count false = 0 → ∀ i, i < l.length → l[i]? = some true
 | [], _, i, h => by simp at h
 | b :: l, hc, i, h => by
   rw [List.count_cons] at hc
   cases b
   · simp at hc
   · rcases i with _ | i
     · rfl
     · rw [List.getElem?_cons_succ]
       exact count_none l (by simpa using hc) i (by simpa using h)

section
variable {P : Program} {ops : Array Oper} {Q : Exit → Act → World → Prop}
def dstAt (ops : Array Oper) (i : Nat) : Option Nat := (ops[i]?).bind (·.dst)
def dstsB (ops : Array Oper) : Bool := (List.range ops.size).all fun i => (List.range ops.size).all fun j => i == j || (dstAt ops i).isNone || !(dstAt ops i == dstAt ops j)
def backB (ops : Array Oper) : Bool := (List.range ops.size).all fun i => ((ops[i]?).map fun o => o.after.all fun e => !Region.binds .any e || decide (e.on < i)).getD true
def slotsB (ops : Array Oper) (n : Nat) : Bool := (List.range ops.size).all fun i => ((dstAt ops i).map fun k => decide (k < n)).getD true

theorem dstAt_lt {ops : Array Oper} {i k : Nat} (h : dstAt ops i = some k) : i < ops.size := by
 unfold dstAt at h
 rcases Nat.lt_or_ge i ops.size with h1 | h1
 · exact h1
 · rw [Array.getElem?_eq_none h1] at h; cases h
theorem dsts_one (h : dstsB ops = true) {i j k : Nat} (hi : dstAt ops i = some k) (hj : dstAt ops j = some k) : i = j := by
 unfold dstsB at h
 rw [List.all_eq_true] at h
 have h1 := h i (List.mem_range.2 (dstAt_lt hi))
 rw [List.all_eq_true] at h1
 have h2 := h1 j (List.mem_range.2 (dstAt_lt hj))
 rw [hi, hj] at h2
 simpa using h2
theorem ready_nil (hb : backB ops = true) {listed : Array Bool} (hsz : listed.size = ops.size) (hr : Region.ready .any ops listed = []) : ∀ i, i < ops.size → listed.getD i true = true := by
 intro i
 induction i using Nat.strongRecOn with
 | ind i ih =>
   intro hi
   unfold backB at hb
   rw [List.all_eq_true] at hb
   have h1 := hb i (List.mem_range.2 hi)
   unfold Region.ready at hr
   have h2 := List.filter_eq_nil_iff.1 hr i (List.mem_range.2 hi)
   rw [Array.getElem?_eq_getElem hi] at h1 h2
   simp only [Option.map_some, Option.getD_some] at h1 h2
   rw [zQ] at h1
   by_cases hl : listed.getD i true = true
   · exact hl
   · exfalso
     apply h2
     rw [Bool.and_eq_true]
     refine ⟨by simpa using hl, ?_⟩
     rw [zQ]
     intro e he
     have h3 := h1 e he
     rw [Bool.or_eq_true] at h3 ⊢
     rcases h3 with h3 | h3
     · exact .inl h3
     · right
       have h4 : e.on < i := by simpa using h3
       have h5 := ih e.on h4 (by omega)
       have h6 : e.on < listed.size := by omega
       rw [zP, Array.getElem?_eq_getElem h6] at h5 ⊢
       exact h5

structure RInv (ops : Array Oper) (F : Nat → Value → World → Prop) (a0 : Act) (w0 : World) (listed : Array Bool) (a : Act) (w : World) : Prop where
 size : listed.size = ops.size
 past : Below w0.heap.size w0 w
 defs : a.defers = a0.defers
 len : a.tmps.size = a0.tmps.size
 old : ∀ k, (∀ i, dstAt ops i ≠ some k) → a.tmps[k]? = a0.tmps[k]?
 done : ∀ i, listed.getD i false = true → ∀ k, dstAt ops i = some k → ∃ v, a.tmps[k]? = some v ∧ F i v w
def StepOk (P : Program) (ops : Array Oper) (Q : Exit → Act → World → Prop) (F : Nat → Value → World → Prop) (a0 : Act) (w0 : World) (i : Nat) (o : Oper) : Prop :=
 ∀ a w, Below w0.heap.size w0 w → (∀ k, (∀ i, dstAt ops i ≠ some k) → a.tmps[k]? = a0.tmps[k]?) → (∀ e ∈ o.after.toList, Region.binds .any e = true → ∀ k, dstAt ops e.on = some k → ∃ v, a.tmps[k]? = some v ∧ F e.on v w) →
   ∀ K : Act → World → Prop, (∀ v w', F i v w' → Below w.heap.size w w' → K (a.put o.dst v) w') → if Region.wanted o (yielded ops a.tmps) = true then Oper.wp P o a w K Q else K (a.put o.dst undef) w

theorem put_tmps (a : Act) (d : Option Nat) (v : Value) (k : Nat) (h : d ≠ some k) : (a.put d v).tmps[k]? = a.tmps[k]? := by
 unfold Act.put
 cases d with
 | none => rfl
 | some d =>
   have : d ≠ k := fun e => h (by rw [e])
   simp [Array.getElem?_setIfInBounds, this]
theorem put_tmps_same (a : Act) (v : Value) (k : Nat) (h : k < a.tmps.size) : (a.put (some k) v).tmps[k]? = some v := by
 unfold Act.put
 simp [Array.getElem?_setIfInBounds, h]
theorem put_len (a : Act) (d : Option Nat) (v : Value) : (a.put d v).tmps.size = a.tmps.size := by
 unfold Act.put; cases d <;> simp
theorem put_defs (a : Act) (d : Option Nat) (v : Value) : (a.put d v).defers = a.defers := by
 unfold Act.put; cases d <;> rfl

theorem wpAny_inv {F : Nat → Value → World → Prop} {a0 : Act} {w0 : World} (hb : backB ops = true) (hd : dstsB ops = true) (hs : slotsB ops a0.tmps.size = true)
 (hmono : ∀ i v w w', F i v w → Below w.heap.size w w' → F i v w') (hstep : ∀ i o, ops[i]? = some o → StepOk P ops Q F a0 w0 i o)
 (hend : ∀ a w, Below w0.heap.size w0 w → a.defers = a0.defers → a.tmps.size = a0.tmps.size → (∀ k, (∀ i, dstAt ops i ≠ some k) → a.tmps[k]? = a0.tmps[k]?) → (∀ i k, dstAt ops i = some k → ∃ v, a.tmps[k]? = some v ∧ F i v w) → Q .normal a w) :
 ∀ fuel listed a w, RInv ops F a0 w0 listed a w → listed.toList.count false = fuel → wpAny P .any ops Q fuel listed a w := by
 have hfin : ∀ listed a w, RInv ops F a0 w0 listed a w → (∀ i, i < ops.size → listed.getD i true = true) → Q .normal a w := by
  intro listed a w h hall
  refine hend a w h.past h.defs h.len h.old fun i k hk => h.done i ?_ k hk
  have hi := dstAt_lt hk
  have h1 := hall i hi
  have hi' : i < listed.size := by rw [h.size]; exact hi
  simp only [zP, Array.getElem?_eq_getElem hi', Option.getD_some] at h1 ⊢
  exact h1
 intro fuel
 induction fuel with
 | zero =>
   intro listed a w h hc
   have hall : ∀ i, i < ops.size → listed.getD i true = true := fun i hi => by
    have := count_none listed.toList hc i (by rw [Array.length_toList, h.size]; exact hi)
    rw [Array.getElem?_toList] at this
    rw [zP, this]
    rfl
   refine ⟨?_, hfin listed a w h hall⟩
   unfold Region.ready
   rw [List.filter_eq_nil_iff]
   intro i hi
   rw [hall i (List.mem_range.1 hi)]
   simp
 | succ fuel ih =>
   intro listed a w h hc
   refine ⟨fun hr => hfin listed a w h (ready_nil hb h.size hr), fun i hi => ?_⟩
   have hi2 : i < ops.size ∧ listed.getD i true = false ∧ ((ops[i]?).map (·.after.all fun e => !Region.binds .any e || listed.getD e.on false)).getD false = true := by
    unfold Region.ready at hi
    rw [List.mem_filter, Bool.and_eq_true] at hi
    exact ⟨List.mem_range.1 hi.1, by simpa using hi.2.1, hi.2.2⟩
   obtain ⟨g1, g2, g3⟩ := hi2
   have hil : i < listed.size := by rw [h.size]; exact g1
   have ho : ops[i]? = some ops[i] := Array.getElem?_eq_getElem g1
   rw [ho, Option.map_some, Option.getD_some, zQ] at g3
   refine wpOp_step ho fun K' hK => ?_
   refine hstep i _ ho a w h.past h.old (fun e he hbd k hk => ?_) K' fun v w' hv hbl => hK _ _ (ih _ _ _ ?_ ?_)
   · have h4 := g3 e (by simpa using he)
     rw [hbd] at h4
     exact h.done e.on (by simpa using h4) k hk
   · have hdi : dstAt ops i = ops[i].dst := by unfold dstAt; rw [ho]; rfl
     refine ⟨by simp [h.size], h.past.trans (hbl.mono h.past.size), by rw [put_defs]; exact h.defs, by rw [put_len]; exact h.len, fun k hk => ?_, fun j hj k hk => ?_⟩
     · rw [put_tmps _ _ _ _ (by rw [← hdi]; exact hk i)]
       exact h.old k hk
     · by_cases hij : j = i
       · subst hij
         rw [hdi] at hk
         rw [hk]
         refine ⟨v, put_tmps_same _ _ _ ?_, hv⟩
         rw [h.len]
         unfold slotsB at hs
         rw [List.all_eq_true] at hs
         have := hs j (List.mem_range.2 g1)
         rw [hdi, hk] at this
         simpa using this
       · have hj' : listed.getD j false = true := by
          rw [zP, Array.getElem?_setIfInBounds, if_neg (Ne.symm hij)] at hj
          rw [zP]
          exact hj
         obtain ⟨u, hu, hF⟩ := h.done j hj' k hk
         refine ⟨u, ?_, hmono j u w w' hF hbl⟩
         rw [put_tmps _ _ _ _ (fun e => hij (dsts_one hd hk (by rw [hdi]; exact e)))]
         exact hu
   · have hf : listed.toList[i]? = some false := by
      rw [Array.getElem?_toList, Array.getElem?_eq_getElem hil]
      rw [zP, Array.getElem?_eq_getElem hil] at g2
      simpa using g2
     have := count_set_true listed.toList i hf
     rw [Array.toList_setIfInBounds]
     omega

theorem wp_region_inv {id : Nat} {a0 : Act} {w0 : World} {l : List Oper} (F : Nat → Value → World → Prop) (hm : P.follows .mixedOrders = true) (hb : backB l.toArray = true) (hd : dstsB l.toArray = true) (hs : slotsB l.toArray a0.tmps.size = true)
 (hmono : ∀ i v w w', F i v w → Below w.heap.size w w' → F i v w') (hstep : ∀ i o, l[i]? = some o → StepOk P l.toArray Q F a0 w0 i o)
 (hend : ∀ a w, Below w0.heap.size w0 w → a.defers = a0.defers → a.tmps.size = a0.tmps.size → (∀ k, (∀ i, dstAt l.toArray i ≠ some k) → a.tmps[k]? = a0.tmps[k]?) → (∀ i k, dstAt l.toArray i = some k → ∃ v, a.tmps[k]? = some v ∧ F i v w) → Q .normal a w) :
 (Code.region id l.toArray true).wp P Q a0 w0 := by
 refine wp_region_any hm ?_
 refine wpAny_inv (a0 := a0) (w0 := w0) hb hd hs hmono (fun i o h => hstep i o (by simpa using h)) hend _ _ _ _ ⟨by simp, zT.drew, rfl, rfl, fun _ _ => rfl, fun i hi => ?_⟩ (by simp)
 exfalso
 rw [zP, Array.getElem?_replicate] at hi
 split at hi
 · cases hi
 · cases hi

end
section
variable {P : Program} {ops : Array Oper} {Q : Exit → Act → World → Prop} {o : Oper} {a : Act} {w : World} {K : Act → World → Prop} {E : Prop}
theorem want_free (h : o.guard = none) : Region.wanted o (yielded ops a.tmps) = true := by simp [Region.wanted, h]
theorem step_val {v : Value} (hw : Region.wanted o (yielded ops a.tmps) = true) (hr : (execOp a.eval o).run P w = .ok (.value v) w) (h : K (a.put o.dst v) w) : if Region.wanted o (yielded ops a.tmps) = true then Oper.wp P o a w K Q else E := by
 rw [if_pos hw]
 unfold Oper.wp
 rw [hr]
 exact h
theorem yA {k : Nat} {v : Value} (h : a.tmps[k]? = some v) : a.eval (.tmp k) = v := by
 show a.tmps.getD k undef = v
 rw [zP, h]
 rfl
end
section
variable {P : Program} {ops : Array Oper} {Q : Exit → Act → World → Prop}
def FL (l : List (Value ⊕ (Value → World → Prop))) (i : Nat) (v : Value) (w : World) : Prop := match l[i]? with
 | some (.inl u) => v = u
 | some (.inr p) => p v w
 | none => True
theorem FL.mono {l : List (Value ⊕ (Value → World → Prop))} (h : ∀ p, Sum.inr p ∈ l → ∀ v w w', p v w → Below w.heap.size w w' → p v w') : ∀ i v w w', FL l i v w → Below w.heap.size w w' → FL l i v w' := by
 intro i v w w' hF hb
 unfold FL at hF ⊢
 split at hF
 · exact hF
 · rename_i p hp
   exact h p (List.mem_of_getElem? hp) v w w' hF hb
 · trivial
def StepsOk (P : Program) (ops : Array Oper) (Q : Exit → Act → World → Prop) (F : Nat → Value → World → Prop) (a0 : Act) (w0 : World) : Nat → List Oper → Prop
 | _, [] => True
 | i, o :: r => StepOk P ops Q F a0 w0 i o ∧ StepsOk P ops Q F a0 w0 (i + 1) r
theorem steps_get {F : Nat → Value → World → Prop} {a0 : Act} {w0 : World} : ∀ (l : List Oper) (n : Nat), StepsOk P ops Q F a0 w0 n l → ∀ i o, l[i]? = some o → StepOk P ops Q F a0 w0 (n + i) o
 | [], _, _, i, o, h => by simp at h
 | x :: l, n, hs, 0, o, h => by
   simp only [List.getElem?_cons_zero, Option.some.injEq] at h
   subst h
   exact hs.1
 | x :: l, n, hs, i + 1, o, h => by
   rw [List.getElem?_cons_succ] at h
   have := steps_get l (n + 1) hs.2 i o h
   rwa [Nat.add_assoc, Nat.add_comm 1 i] at this
def freeB (ops : Array Oper) (k : Nat) : Bool := (List.range ops.size).all fun i => !(dstAt ops i == some k)
theorem yG {k : Nat} (h : freeB ops k = true) : ∀ i, dstAt ops i ≠ some k := by
 intro i hi
 unfold freeB at h
 rw [List.all_eq_true] at h
 have := h i (List.mem_range.2 (dstAt_lt hi))
 rw [hi] at this
 simp at this
theorem dep_val {a : Act} {k : Nat} {u : Value} (h : ∃ v, a.tmps[k]? = some v ∧ v = u) : a.tmps[k]? = some u := by
 obtain ⟨v, h1, rfl⟩ := h
 exact h1
theorem wp_region_steps {id : Nat} {a0 : Act} {w0 : World} {l : List Oper} (F : List (Value ⊕ (Value → World → Prop))) (hm : P.follows .mixedOrders = true) (hb : backB l.toArray = true) (hd : dstsB l.toArray = true) (hs : slotsB l.toArray a0.tmps.size = true)
 (hmono : ∀ p, Sum.inr p ∈ F → ∀ v w w', p v w → Below w.heap.size w w' → p v w') (hstep : StepsOk P l.toArray Q (FL F) a0 w0 0 l)
 (hend : ∀ a w, Below w0.heap.size w0 w → a.defers = a0.defers → a.tmps.size = a0.tmps.size → (∀ k, (∀ i, dstAt l.toArray i ≠ some k) → a.tmps[k]? = a0.tmps[k]?) → (∀ i k, dstAt l.toArray i = some k → ∃ v, a.tmps[k]? = some v ∧ FL F i v w) → Q .normal a w) :
 (Code.region id l.toArray true).wp P Q a0 w0 :=
 wp_region_inv (FL F) hm hb hd hs (FL.mono hmono) (fun i o h => by have := steps_get l 0 hstep i o h; rwa [Nat.zero_add] at this) hend
end

section
variable {P : Program}
theorem run_load_at (w : World) (ad : Addr) (ty : TypeId) (cs : List Value) (d : TypeDesc) (hc : ∀ j v, cs[j]? = some v → w.cell? (ad.add j) = some v)
 (hu : P.underlying ty = some d) (hd : (match d with | .struct _ | .array _ _ => true | _ => false) = true) (hi : (P.info? ty).map (·.size) = some cs.length) :
 (loadVar ty ad).run P w = .ok (.agg cs.toArray) w := by
 have hl := run_loadCells_list (P := P) w ad cs hc
 cases hq : P.info? ty with
 | none => simp [hq] at hi
 | some i =>
   have hs : i.size = cs.length := by simpa [hq] using hi
   have hagg : (isAgg ty).run P w = .ok true w := by
    unfold isAgg
    rw [Sem.run_bind, run_underlying hu w]
    cases d <;> simp_all
   simp [loadVar, Sem.run_bind, hagg, sizeOf, typeInfo, hq, hs, hl]
theorem wpList_load_at {ops : Array Oper} {rest : List Oper} {o : Oper} {a : Act} {w : World} {Q : Exit → Act → World → Prop} (hw : Region.wanted o (yielded ops a.tmps) = true) (ty : TypeId) (x : Operand) (ho : o.op = .load ty x)
 (ad : Addr) (hx : a.eval x = .pointer (some ad)) (cs : List Value) (d : TypeDesc) (hc : ∀ j v, cs[j]? = some v → w.cell? (ad.add j) = some v)
 (hu : P.underlying ty = some d) (hd : (match d with | .struct _ | .array _ _ => true | _ => false) = true) (hi : (P.info? ty).map (·.size) = some cs.length)
 (h : wpList P ops Q rest (a.put o.dst (.agg cs.toArray)) w) : wpList P ops Q (o :: rest) a w :=
 wpList_step fun K hK => by
  rw [if_pos hw]
  unfold Oper.wp execOp
  simp only [ho, hx, Instr.loadAt, Instr.sureAddr, Sem.run_bind, Sem.run_pure, Result.andThen_ok, run_load_at w ad ty cs d hc hu hd hi]
  exact hK _ _ h
end

theorem yC {w : World} {g : Nat} {t : TypeId} {cs : Array Value} (h : Blk w g t cs) {u : Value} (j : Nat) (hu : cs[j]? = some u) : w.cell? ⟨g, j, none⟩ = some u := (h.cell j).trans hu

section
variable {P : Program} {o : Oper} {ρ : Operand → Value} {w : World}
theorem r_field (s : TypeId) (x : Operand) (f : Nat) (ho : o.op = .fieldAddr s x f) {ad : Addr} (hx : ρ x = .pointer (some ad)) {fs : Array Field} {fd : Field} (ht : P.underlying s = some (.struct fs)) (hf : fs[f]? = some fd) {n : Nat} (hn : (P.info? fd.type).map (·.size) = some (n + 1)) {ad' : Addr} (ha : ad.add fd.offset = ad') :
 (execOp ρ o).run P w = .ok (.value (.pointer (some ad'))) w := by
 subst ha
 unfold execOp
 have hl : f < fs.size := (Array.getElem?_eq_some_iff.1 hf).1
 have hg : fs[f] = fd := by rw [Array.getElem?_eq_getElem hl] at hf; injection hf
 cases hq : P.info? fd.type with
 | none => simp [hq] at hn
 | some i =>
   have hs : i.size = n + 1 := by simpa [hq] using hn
   simp [ho, hx, Instr.fieldAt, Instr.sureAddr, run_underlying ht, hl, hg, fieldPlace, sizeOf, typeInfo, hq, hs]
theorem r_load (ty : TypeId) (x : Operand) (ho : o.op = .load ty x) {ad : Addr} (hx : ρ x = .pointer (some ad)) {v : Value} (hc : w.cell? ad = some v) {d : TypeDesc} (hu : P.underlying ty = some d) (hd : (match d with | .struct _ | .array _ _ => false | _ => true) = true) :
 (execOp ρ o).run P w = .ok (.value v) w := by
 unfold execOp
 have hagg : (isAgg ty).run P w = .ok false w := by
  unfold isAgg
  rw [Sem.run_bind, run_underlying hu w]
  cases d <;> simp_all
 simp [ho, hx, Instr.loadAt, Instr.sureAddr, loadVar, hagg, go_sem, hc]
theorem r_load_row (ty : TypeId) (x : Operand) (ho : o.op = .load ty x) {ad : Addr} (hx : ρ x = .pointer (some ad)) (cs : List Value) {d : TypeDesc} (hc : ∀ j v, cs[j]? = some v → w.cell? (ad.add j) = some v)
 (hu : P.underlying ty = some d) (hd : (match d with | .struct _ | .array _ _ => true | _ => false) = true) (hi : (P.info? ty).map (·.size) = some cs.length) : (execOp ρ o).run P w = .ok (.value (.agg cs.toArray)) w := by
 unfold execOp
 simp [ho, hx, Instr.loadAt, Instr.sureAddr, run_load_at w ad ty cs d hc hu hd hi]
theorem r_move (x : Operand) (ho : o.op = .move x) {v : Value} (hx : ρ x = v) : (execOp ρ o).run P w = .ok (.value v) w := by
 unfold execOp; simp only [ho, hx]; rfl
theorem r_assign (x : Operand) (ho : o.op = .assign x) {v : Value} (hx : ρ x = v) : (execOp ρ o).run P w = .ok (.value v) w := by
 unfold execOp; simp only [ho, hx]; rfl
theorem r_or (x y z : Operand) (ho : o.op = .pick x y z) {b c : Bool} (hx : ρ x = .bool b) (hy : ρ y = .bool true) (hz : b = false → ρ z = .bool c) : (execOp ρ o).run P w = .ok (.value (.bool (b || c))) w := by
 unfold execOp
 cases b
 · simp [ho, hx, hz rfl, asBool]
 · simp [ho, hx, hy, asBool]
theorem r_and (x y z : Operand) (ho : o.op = .pick x y z) {b c : Bool} (hx : ρ x = .bool b) (hy : b = true → ρ y = .bool c) (hz : ρ z = .bool false) : (execOp ρ o).run P w = .ok (.value (.bool (b && c))) w := by
 unfold execOp
 cases b
 · simp [ho, hx, hz, asBool]
 · simp [ho, hx, hy rfl, asBool]
theorem r_not (t : TypeId) (x : Operand) (ho : o.op = .unOp .not t x) {b : Bool} (hx : ρ x = .bool b) : (execOp ρ o).run P w = .ok (.value (.bool (!b))) w := by
 unfold execOp; simp [ho, hx, Op.unary]
theorem r_ieq (t : TypeId) (x y : Operand) (t' : TypeId) (ho : o.op = .binOp .eql t x y t') {k : IntKind} {m n : Int} (hx : ρ x = .int k m) (hy : ρ y = .int k n) : (execOp ρ o).run P w = .ok (.value (.bool (m == n))) w := by
 unfold execOp; simp [ho, hx, hy, eqGuard, binOp, Op.intCmp]
theorem r_ine (t : TypeId) (x y : Operand) (t' : TypeId) (ho : o.op = .binOp .neq t x y t') {k : IntKind} {m n : Int} (hx : ρ x = .int k m) (hy : ρ y = .int k n) : (execOp ρ o).run P w = .ok (.value (.bool (m != n))) w := by
 unfold execOp; simp [ho, hx, hy, eqGuard, binOp, Op.intCmp]
theorem r_igt (t : TypeId) (x y : Operand) (t' : TypeId) (ho : o.op = .binOp .gtr t x y t') {k : IntKind} {m n : Int} (hx : ρ x = .int k m) (hy : ρ y = .int k n) : (execOp ρ o).run P w = .ok (.value (.bool (decide (m > n)))) w := by
 unfold execOp; simp [ho, hx, hy, eqGuard, binOp, Op.intCmp]
theorem r_seq (t : TypeId) (x y : Operand) (t' : TypeId) (ho : o.op = .binOp .eql t x y t') {m n : ByteArray} (hx : ρ x = .string m) (hy : ρ y = .string n) : (execOp ρ o).run P w = .ok (.value (.bool (m.toList == n.toList))) w := by
 unfold execOp; simp [ho, hx, hy, eqGuard, binOp, Op.stringOp]
theorem r_sne (t : TypeId) (x y : Operand) (t' : TypeId) (ho : o.op = .binOp .neq t x y t') {m n : ByteArray} (hx : ρ x = .string m) (hy : ρ y = .string n) : (execOp ρ o).run P w = .ok (.value (.bool (!(m.toList == n.toList)))) w := by
 unfold execOp; simp [ho, hx, hy, eqGuard, binOp, Op.stringOp]
theorem r_beq (t : TypeId) (x y : Operand) (t' : TypeId) (ho : o.op = .binOp .eql t x y t') (ht : P.underlying t = some .bool) {m n : Bool} (hx : ρ x = .bool m) (hy : ρ y = .bool n) : (execOp ρ o).run P w = .ok (.value (.bool (m == n))) w := by
 unfold execOp; cases m <;> cases n <;> simp [ho, hx, hy, eqGuard, go_sem, ht]
theorem r_bne (t : TypeId) (x y : Operand) (t' : TypeId) (ho : o.op = .binOp .neq t x y t') (ht : P.underlying t = some .bool) {m n : Bool} (hx : ρ x = .bool m) (hy : ρ y = .bool n) : (execOp ρ o).run P w = .ok (.value (.bool (m != n))) w := by
 unfold execOp; cases m <;> cases n <;> simp [ho, hx, hy, eqGuard, go_sem, ht]
theorem r_conv (src dst : TypeId) (x : Operand) (ho : o.op = .convert src dst x) {v u : Value} (hx : ρ x = v) (hr : (convert src dst v).run P w = .ok u w) : (execOp ρ o).run P w = .ok (.value u) w := by
 unfold execOp
 simp only [ho, hx, Sem.run_bind, hr, Result.andThen_ok]
 rfl
theorem r_len (xs : Array Operand) (ats : Array TypeId) (x : Operand) (t : TypeId) (ho : o.op = .call { callee := .builtin .len, args := #[x], argTypes := #[t] }) {A : Option Addr} {n c : Nat} (hx : ρ x = .slice A n c) {e : TypeId} (ht : P.underlying t = some (.slice e)) : (execOp ρ o).run P w = .ok (.value (.int .i64 n)) w := by
 unfold execOp
 simp [ho, resolve, invoke, builtin, hx, Builtin.len_, run_underlying ht, goInt]
theorem r_lens (x : Operand) (t : TypeId) (ho : o.op = .call { callee := .builtin .len, args := #[x], argTypes := #[t] }) {s : ByteArray} (hx : ρ x = .string s) (ht : P.underlying t = some .string) : (execOp ρ o).run P w = .ok (.value (.int .i64 s.size)) w := by
 unfold execOp
 simp [ho, resolve, invoke, builtin, hx, Builtin.len_, run_underlying ht, goInt]
theorem r_array (pt : TypeId) (x : Operand) (ho : o.op = .slice pt x none none none) {e : TypeId} {n : Nat} {ad : Addr} (hx : ρ x = .pointer (some ad)) (ht : P.underlying pt = some (.array n e)) (hn : 0 < n) {z : Nat} (hi : (P.info? e).map (·.size) = some z) : (execOp ρ o).run P w = .ok (.value (.slice (some ad) n n)) w := by
 unfold execOp
 have hn' : ¬ n = 0 := by omega
 cases hq : P.info? e with
 | none => simp [hq] at hi
 | some i => simp [ho, hx, Instr.sliceAt, Instr.sureAddr, run_underlying ht, Instr.sliceBounds, sizeOf, typeInfo, hq, Addr.add]
theorem r_index (t : TypeId) (x y : Operand) (ho : o.op = .indexAddr t x y) {ad : Addr} {n c k size : Nat} (hx : ρ x = .slice (some ad) n c) (hy : ρ y = .int .i64 k) (hk : k < n) {e : TypeId} (ht : P.underlying t = some (.slice e)) (hi : (P.info? e).map (·.size) = some size) {ad' : Addr} (ha : ad.add (k * size) = ad') : (execOp ρ o).run P w = .ok (.value (.pointer (some ad'))) w := by
 subst ha
 unfold execOp
 cases hq : P.info? e with
 | none => simp [hq] at hi
 | some i =>
   have hs : i.size = size := by simpa [hq] using hi
   have h0 : (0 : Int) ≤ k ∧ (k : Int) < n := ⟨by omega, by omega⟩
   simp [ho, hx, hy, Instr.indexAt, run_underlying ht, asIntOf, sizeOf, typeInfo, hq, hs, hk]
theorem r_indexA (t : TypeId) (x y : Operand) (ho : o.op = .indexAddr t x y) {ad : Addr} {n k size : Nat} (hx : ρ x = .pointer (some ad)) (hy : ρ y = .int .i64 k) (hk : k < n) {e : TypeId} (ht : P.underlying t = some (.array n e)) (hi : (P.info? e).map (·.size) = some size) {ad' : Addr} (ha : ad.add (k * size) = ad') : (execOp ρ o).run P w = .ok (.value (.pointer (some ad'))) w := by
 subst ha
 unfold execOp
 cases hq : P.info? e with
 | none => simp [hq] at hi
 | some i =>
   have hs : i.size = size := by simpa [hq] using hi
   simp [ho, hx, hy, Instr.indexAt, Instr.sureAddr, run_underlying ht, asIntOf, sizeOf, typeInfo, hq, hs, hk]
end

section
variable {P : Program} {ops : Array Oper} {Q : Exit → Act → World → Prop} {o : Oper} {a : Act} {w : World} {K : Act → World → Prop}
theorem want_if {i k : Nat} {b x c : Bool} (h : o.guard = some (i, b)) (hk : dstAt ops i = some k) (hv : a.tmps[k]? = some (bif c then .bool x else undef)) : Region.wanted o (yielded ops a.tmps) = (c && (x == b)) := by
 unfold dstAt at hk
 cases c
 · simp [Region.wanted, h, yielded, hk, hv, undef]
 · simp [Region.wanted, h, yielded, hk, hv]
theorem yE {i k : Nat} {b x : Bool} (h : o.guard = some (i, b)) (hk : dstAt ops i = some k) (hv : a.tmps[k]? = some (.bool x)) : Region.wanted o (yielded ops a.tmps) = (x == b) := by
 unfold dstAt at hk
 simp [Region.wanted, h, yielded, hk, hv]
theorem op_u {u : Value} (hg : o.guard = none) (hr : (execOp a.eval o).run P w = .ok (.value u) w) (hK : K (a.put o.dst u) w) : if Region.wanted o (yielded ops a.tmps) = true then Oper.wp P o a w K Q else K (a.put o.dst undef) w :=
 step_val (want_free hg) hr hK
theorem op_g {c : Bool} {u : Value} (hw : Region.wanted o (yielded ops a.tmps) = c) (hr : c = true → (execOp a.eval o).run P w = .ok (.value u) w) (hK : K (a.put o.dst (bif c then u else undef)) w) : if Region.wanted o (yielded ops a.tmps) = true then Oper.wp P o a w K Q else K (a.put o.dst undef) w := by
 cases c
 · rw [if_neg (by rw [hw]; simp)]
   exact hK
 · exact step_val hw (hr rfl) hK
theorem op_call {c : Bool} {u : Value} (hw : Region.wanted o (yielded ops a.tmps) = c) (f : FuncId) (xs : Array Operand) (ats : Array TypeId) (ho : o.op = .call { callee := .value (.func f), args := xs, argTypes := ats }) (args : Array Value) (hx0 : c = true → xs.toList.map a.eval = args.toList)
 {fn : Func} (hf : P.funcs[f]? = some fn) (hn : (fn.name == "runtime.NumGoroutine") = false) (hb : fn.body.isNone = false) (hc : c = true → Calls P f args w fun e w' => e = .returned u ∧ Below w.heap.size w w')
 (hK : ∀ w', Below w.heap.size w w' → K (a.put o.dst (bif c then u else undef)) w') : if Region.wanted o (yielded ops a.tmps) = true then Oper.wp P o a w K Q else K (a.put o.dst undef) w := by
 cases c
 · rw [if_neg (by rw [hw]; simp)]
   exact hK w zT
 · exact step_call hw f xs ats ho args (hx0 rfl) hf hn hb (hc rfl) (fun e w' h => ⟨u, h.1, hK w' h.2⟩)
theorem yB {k : Nat} {v : Value} {c : Bool} (h : a.tmps[k]? = some (bif c then v else undef)) (hc : c = true) : a.eval (.tmp k) = v := by
 subst hc
 exact yA h
end

def allInl : List (Value ⊕ (Value → World → Prop)) → Bool
 | [] => true
 | .inl _ :: r => allInl r
 | .inr _ :: _ => false
theorem nomono {F : List (Value ⊕ (Value → World → Prop))} (h : allInl F = true) : ∀ p, Sum.inr p ∈ F → ∀ v w w', p v w → Below w.heap.size w w' → p v w' := by
 intro p hp
 exfalso
 induction F with
 | nil => cases hp
 | cons x r ih =>
   cases x with
   | inl u =>
     rcases zH.1 hp with e | e
     · cases e
     · exact ih h e
   | inr q => simp [allInl] at h

section
variable {P : Program} {ops : Array Oper} {Q : Exit → Act → World → Prop}
def StepOkS (P : Program) (ops : Array Oper) (Q : Exit → Act → World → Prop) (F : Nat → Value → World → Prop) (l : List Oper) (a0 : Act) (w0 : World) (i : Nat) (o : Oper) : Prop :=
 ∀ a w, Below w0.heap.size w0 w → (∀ k, (∀ i, dstAt l.toArray i ≠ some k) → a.tmps[k]? = a0.tmps[k]?) → (∀ j k, j < i → dstAt l.toArray j = some k → ∃ v, a.tmps[k]? = some v ∧ F j v w) →
   ∀ K : Act → World → Prop, (∀ v w', F i v w' → Below w.heap.size w w' → K (a.put o.dst v) w') → if Region.wanted o (yielded ops a.tmps) = true then Oper.wp P o a w K Q else K (a.put o.dst undef) w
def StepsOkS (P : Program) (ops : Array Oper) (Q : Exit → Act → World → Prop) (F : Nat → Value → World → Prop) (l : List Oper) (a0 : Act) (w0 : World) : Nat → List Oper → Prop
 | _, [] => True
 | i, o :: r => StepOkS P ops Q F l a0 w0 i o ∧ StepsOkS P ops Q F l a0 w0 (i + 1) r
def Fin : List Oper → List (Value ⊕ (Value → World → Prop)) → Act → World → (Act → World → Prop) → Prop
 | o :: r, x :: F, a, w, K => match o.dst with
   | none => Fin r F a w K
   | some k => match x with
     | .inl u => Fin r F (a.put (some k) u) w K
     | .inr p => ∀ v, p v w → Fin r F (a.put (some k) v) w K
 | _, _, a, w, K => K a w
theorem fin_of {K : Act → World → Prop} {w : World} : ∀ (l : List Oper) (F : List (Value ⊕ (Value → World → Prop))) (a0 a : Act), l.length = F.length → a.defers = a0.defers → a.tmps.size = a0.tmps.size →
 (∀ k, (∀ i, dstAt l.toArray i ≠ some k) → a.tmps[k]? = a0.tmps[k]?) → (∀ i k, dstAt l.toArray i = some k → ∃ v, a.tmps[k]? = some v ∧ FL F i v w) → Fin l F a0 w K → K a w
 | [], [], a0, a, _, hd, hs, hold, _, h => by
   have e : a = a0 := by
    obtain ⟨t, d⟩ := a
    obtain ⟨t0, d0⟩ := a0
    dsimp only at hd hs hold
    subst hd
    have : t = t0 := Array.ext_getElem? fun i => hold i (fun j => by simp [dstAt])
    rw [this]
   rw [e]
   exact h
 | o :: r, x :: F, a0, a, hl, hd, hs, hold, hall, h => by
   have hall' : ∀ i k, dstAt r.toArray i = some k → ∃ v, a.tmps[k]? = some v ∧ FL F i v w := fun i k hk => by
    have := hall (i + 1) k (by unfold dstAt at hk ⊢; simpa using hk)
    exact this
   have h0 : dstAt (o :: r).toArray 0 = o.dst := by simp [dstAt]
   have hr : ∀ k, o.dst ≠ some k → (∀ i, dstAt r.toArray i ≠ some k) → ∀ i, dstAt (o :: r).toArray i ≠ some k := fun k h1 h2 i => by
    rcases i with _ | i
    · rw [h0]; exact h1
    · intro h3
      exact h2 i (by unfold dstAt at h3 ⊢; simpa using h3)
   unfold Fin at h
   cases hod : o.dst with
   | none =>
     rw [hod] at h
     exact fin_of r F a0 a (by simpa using hl) hd hs (fun k hk => hold k (hr k (by rw [hod]; simp) hk)) hall' h
   | some k =>
     rw [hod] at h
     obtain ⟨v, hv, hF⟩ := hall 0 k (by rw [h0, hod])
     have hFin : Fin r F (a0.put (some k) v) w K := by
      unfold FL at hF
      cases x with
      | inl u =>
        simp only [List.getElem?_cons_zero] at hF
        subst hF
        exact h
      | inr p => exact h v hF
     refine fin_of r F (a0.put (some k) v) a (by simpa using hl) (by rw [put_defs]; exact hd) (by rw [put_len]; exact hs) (fun j hj => ?_) hall' hFin
     by_cases hjk : k = j
     · subst hjk
       have hkl : k < a.tmps.size := (Array.getElem?_eq_some_iff.1 hv).1
       rw [put_tmps_same _ _ _ (by rw [← hs]; exact hkl)]
       exact hv
     · rw [put_tmps _ _ _ _ (by simpa using hjk)]
       exact hold j (hr j (by rw [hod]; simpa using hjk) hj)
 | [], _ :: _, _, _, hl, _, _, _, _, _ => by simp at hl
 | _ :: _, [], _, _, hl, _, _, _, _, _ => by simp at hl

theorem stepsS_get {F : Nat → Value → World → Prop} {l : List Oper} {a0 : Act} {w0 : World} : ∀ (r : List Oper) (n : Nat), StepsOkS P ops Q F l a0 w0 n r → ∀ i o, r[i]? = some o → StepOkS P ops Q F l a0 w0 (n + i) o
 | [], _, _, i, o, h => by simp at h
 | x :: r, n, hs, 0, o, h => by
   simp only [List.getElem?_cons_zero, Option.some.injEq] at h
   subst h
   exact hs.1
 | x :: r, n, hs, i + 1, o, h => by
   rw [List.getElem?_cons_succ] at h
   have := stepsS_get r (n + 1) hs.2 i o h
   rwa [Nat.add_assoc, Nat.add_comm 1 i] at this

theorem wpList_inv {F : Nat → Value → World → Prop} {l : List Oper} {a0 : Act} {w0 : World} (hd : dstsB l.toArray = true) (hs : slotsB l.toArray a0.tmps.size = true)
 (hmono : ∀ i v w w', F i v w → Below w.heap.size w w' → F i v w') (hstep : ∀ i o, l[i]? = some o → StepOkS P ops Q F l a0 w0 i o)
 (hend : ∀ a w, Below w0.heap.size w0 w → a.defers = a0.defers → a.tmps.size = a0.tmps.size → (∀ k, (∀ i, dstAt l.toArray i ≠ some k) → a.tmps[k]? = a0.tmps[k]?) → (∀ i k, dstAt l.toArray i = some k → ∃ v, a.tmps[k]? = some v ∧ F i v w) → Q .normal a w) :
 ∀ (d n : Nat) (a : Act) (w : World), n + d = l.length → Below w0.heap.size w0 w → a.defers = a0.defers → a.tmps.size = a0.tmps.size → (∀ k, (∀ i, dstAt l.toArray i ≠ some k) → a.tmps[k]? = a0.tmps[k]?) →
   (∀ j k, j < n → dstAt l.toArray j = some k → ∃ v, a.tmps[k]? = some v ∧ F j v w) → wpList P ops Q (l.drop n) a w := by
 intro d
 induction d with
 | zero =>
   intro n a w hn hb h1 h2 h3 h4
   rw [List.drop_eq_nil_of_le (by omega)]
   refine wpList_nil (hend a w hb h1 h2 h3 fun i k hk => h4 i k ?_ hk)
   have := dstAt_lt hk
   simp at this
   omega
 | succ d ih =>
   intro n a w hn hb h1 h2 h3 h4
   have hnl : n < l.length := by omega
   rw [List.drop_eq_getElem_cons hnl]
   have ho : l[n]? = some l[n] := List.getElem?_eq_getElem hnl
   have hdn : dstAt l.toArray n = l[n].dst := by
    unfold dstAt
    rw [List.getElem?_toArray, ho]
    rfl
   refine wpList_step fun K hK => hstep n _ ho a w hb h3 h4 K fun v w' hv hbl => hK _ _ (ih (n + 1) _ _ (by omega) (hb.trans (hbl.mono hb.size)) ?_ ?_ ?_ ?_)
   · rw [put_defs]; exact h1
   · rw [put_len]; exact h2
   · intro k hk
     rw [put_tmps _ _ _ _ (by rw [← hdn]; exact hk n)]
     exact h3 k hk
   · intro j k hj hk
     by_cases hjn : j = n
     · subst hjn
       rw [hdn] at hk
       rw [hk]
       refine ⟨v, put_tmps_same _ _ _ ?_, hv⟩
       rw [h2]
       unfold slotsB at hs
       rw [List.all_eq_true] at hs
       have := hs j (List.mem_range.2 (by simpa using hnl))
       rw [hdn, hk] at this
       simpa using this
     · obtain ⟨u, hu, hF⟩ := h4 j k (by omega) hk
       refine ⟨u, ?_, hmono j u w w' hF hbl⟩
       rw [put_tmps _ _ _ _ (fun e => hjn (dsts_one hd hk (by rw [hdn]; exact e)))]
       exact hu
theorem wpList_seq {l : List Oper} {a0 : Act} {w0 : World} (F : List (Value ⊕ (Value → World → Prop))) (hl : l.length = F.length) (hd : dstsB l.toArray = true) (hs : slotsB l.toArray a0.tmps.size = true)
 (hmono : ∀ p, Sum.inr p ∈ F → ∀ v w w', p v w → Below w.heap.size w w' → p v w') (hstep : StepsOkS P ops Q (FL F) l a0 w0 0 l)
 (hend : ∀ w, Below w0.heap.size w0 w → Fin l F a0 w (fun a w => Q .normal a w)) : wpList P ops Q l a0 w0 := by
 have h := wpList_inv (P := P) (ops := ops) (Q := Q) (F := FL F) (l := l) (a0 := a0) (w0 := w0) hd hs (FL.mono hmono) (fun i o h => by have := stepsS_get l 0 hstep i o h; rwa [Nat.zero_add] at this)
  (fun a w hb h1 h2 h3 h4 => fin_of (K := fun a w => Q .normal a w) l F a0 a hl h1 h2 h3 h4 (hend w hb)) l.length 0 a0 w0 (by omega) zT rfl rfl (fun _ _ => rfl) (fun j k hj => absurd hj (by omega))
 simpa using h
theorem wpList_seqA {l : List Oper} {a0 : Act} {w0 : World} (F : List (Value ⊕ (Value → World → Prop))) (hd : dstsB l.toArray = true) (hs : slotsB l.toArray a0.tmps.size = true)
 (hmono : ∀ p, Sum.inr p ∈ F → ∀ v w w', p v w → Below w.heap.size w w' → p v w') (hstep : StepsOkS P ops Q (FL F) l a0 w0 0 l)
 (hend : ∀ a w, Below w0.heap.size w0 w → a.defers = a0.defers → a.tmps.size = a0.tmps.size → (∀ k, (∀ i, dstAt l.toArray i ≠ some k) → a.tmps[k]? = a0.tmps[k]?) → (∀ i k, dstAt l.toArray i = some k → ∃ v, a.tmps[k]? = some v ∧ FL F i v w) → Q .normal a w) : wpList P ops Q l a0 w0 := by
 have h := wpList_inv (P := P) (ops := ops) (Q := Q) (F := FL F) (l := l) (a0 := a0) (w0 := w0) hd hs (FL.mono hmono) (fun i o h => by have := stepsS_get l 0 hstep i o h; rwa [Nat.zero_add] at this)
  hend l.length 0 a0 w0 (by omega) zT rfl rfl (fun _ _ => rfl) (fun j k hj => absurd hj (by omega))
 simpa using h
theorem wp_region_ord {id : Nat} {a0 : Act} {w0 : World} {l : List Oper} (F : List (Value ⊕ (Value → World → Prop))) (hl : l.length = F.length) (hm : P.follows .mixedOrders = true) (hb : backB l.toArray = true) (hd : dstsB l.toArray = true) (hs : slotsB l.toArray a0.tmps.size = true)
 (hmono : ∀ p, Sum.inr p ∈ F → ∀ v w w', p v w → Below w.heap.size w w' → p v w') (hstep : StepsOk P l.toArray Q (FL F) a0 w0 0 l)
 (hend : ∀ w, Below w0.heap.size w0 w → Fin l F a0 w (fun a w => Q .normal a w)) : (Code.region id l.toArray true).wp P Q a0 w0 :=
 wp_region_steps F hm hb hd hs hmono hstep fun a w hbl h1 h2 h3 h4 => fin_of (K := fun a w => Q .normal a w) l F a0 a hl h1 h2 h3 h4 (hend w hbl)
end

theorem setRow_new (w : World) (old cs : Array Value) (t : TypeId) : (w.alloc (.cells old t)).setRow w.heap.size cs = w.alloc (.cells cs t) := by
 unfold World.setRow World.alloc
 congr 1
 apply Array.ext_getElem?
 intro i
 rw [Array.getElem?_modify]
 by_cases h : w.heap.size = i
 · subst h
   simp
 · rw [if_neg h]
   rcases Nat.lt_or_ge i w.heap.size with hl | hl
   · rw [Array.getElem?_push_lt hl, Array.getElem?_push_lt hl]
   · rw [Array.getElem?_eq_none (by simp; omega), Array.getElem?_eq_none (by simp; omega)]
section
variable {P : Program}
theorem run_alloc_zero (w : World) (t : TypeId) {z : Value} (hz : (P.info? t).bind (·.zero) = some z) : (Instr.alloc t true (.tuple #[])).run P w = .ok (.pointer (some ⟨w.heap.size, 0, none⟩)) (w.alloc (.cells z.cells t)) := by
 cases hq : P.info? t with
 | none => simp [hq] at hz
 | some i =>
   have hzi : i.zero = some z := by simpa [hq] using hz
   simp [Instr.alloc, zeroValue, typeInfo, hq, hzi, newVar, newObj, go_sem]
   rfl
theorem wpList_new {ops : Array Oper} {rest : List Oper} {o : Oper} {a : Act} {w : World} {Q : Exit → Act → World → Prop} (hg : o.guard = none) (t : TypeId) (ho : o.op = .alloc t) {n : Nat}
 (hz : ((P.info? t).bind (·.zero)).map (·.cells.size) = some n)
 (h : ∀ old : Array Value, old.size = n → wpList P ops Q rest (a.put o.dst (.pointer (some ⟨w.heap.size, 0, none⟩))) (w.alloc (.cells old t))) : wpList P ops Q (o :: rest) a w :=
 wpList_plain hg fun _ hK => by
  cases hq : (P.info? t).bind (·.zero) with
  | none => rw [hq] at hz; simp at hz
  | some z =>
    rw [hq] at hz
    have hs : z.cells.size = n := by simpa using hz
    unfold Oper.wp execOp
    simp only [ho, Sem.run_bind, run_alloc_zero w t hq, Result.andThen_ok]
    exact hK _ _ (h z.cells hs)
theorem wpList_newrow {ops : Array Oper} {rest : List Oper} {o1 o2 : Oper} {a : Act} {w : World} {Q : Exit → Act → World → Prop} (hg1 : o1.guard = none) (hg2 : o2.guard = none) (t : TypeId) (ho1 : o1.op = .alloc t) (k : Nat) (hd1 : o1.dst = some k) (y : Operand) (ho2 : o2.op = .store t (.tmp k) y) (hd2 : o2.dst = none)
 (cs : Array Value) (hy : ∀ v, (a.put (some k) v).eval y = .agg cs) (hk : k < a.tmps.size) (hz : ((P.info? t).bind (·.zero)).map (·.cells.size) = some cs.size) (hi : (P.info? t).map (·.size) = some cs.size) (h1 : cs.all (·.oneCell') = true)
 (h : wpList P ops Q rest (a.put (some k) (.pointer (some ⟨w.heap.size, 0, none⟩))) (w.alloc (.cells cs t))) : wpList P ops Q (o1 :: o2 :: rest) a w := by
 refine wpList_new hg1 t ho1 hz fun old hs => ?_
 rw [hd1]
 refine wpList_store_row hg2 t (.tmp k) y ho2 w.heap.size cs ?_ (hy _) t old (heap_alloc_new w _) hi hs h1 ?_
 · exact yA (put_tmps_same _ _ _ hk)
 · rw [hd2, setRow_new]
   exact h
theorem wpList_newrow1 {ops : Array Oper} {rest : List Oper} {o1 o2 o3 : Oper} {a : Act} {w : World} {Q : Exit → Act → World → Prop} (hg1 : o1.guard = none) (hg2 : o2.guard = none) (hg3 : o3.guard = none) (t : TypeId) (ho1 : o1.op = .alloc t) (k : Nat) (hd1 : o1.dst = some k) (x : Operand) (ho2 : o2.op = .assign x) (j : Nat) (hd2 : o2.dst = some j) (hj : j ≠ k)
 (y : Operand) (ho3 : o3.op = .store t (.tmp k) y) (hd3 : o3.dst = none) (u : Value) (hx : ∀ v, (a.put (some k) v).eval x = u)
 (cs : Array Value) (hy : ∀ v, ((a.put (some k) v).put (some j) u).eval y = .agg cs) (hk : k < a.tmps.size) (hz : ((P.info? t).bind (·.zero)).map (·.cells.size) = some cs.size) (hi : (P.info? t).map (·.size) = some cs.size) (h1 : cs.all (·.oneCell') = true)
 (h : wpList P ops Q rest ((a.put (some k) (.pointer (some ⟨w.heap.size, 0, none⟩))).put (some j) u) (w.alloc (.cells cs t))) : wpList P ops Q (o1 :: o2 :: o3 :: rest) a w := by
 refine wpList_new hg1 t ho1 hz fun old hs => ?_
 rw [hd1]
 refine wpList_plain hg2 fun _ hK => ?_
 unfold Oper.wp
 rw [show (execOp (a.put (some k) (.pointer (some ⟨w.heap.size, 0, none⟩))).eval o2).run P (w.alloc (.cells old t)) = .ok (.value u) (w.alloc (.cells old t)) from r_assign x ho2 (hx _)]
 refine hK _ _ ?_
 rw [hd2]
 refine wpList_store_row hg3 t (.tmp k) y ho3 w.heap.size cs ?_ (hy _) t old (heap_alloc_new w _) hi hs h1 ?_
 · refine yA ?_
   rw [put_tmps _ _ _ _ (by simpa using hj)]
   exact put_tmps_same _ _ _ hk
 · rw [hd3, setRow_new]
   exact h
theorem fold_set : ∀ (l : List Value) (k : Nat) (old : Array Value), k + l.length ≤ old.size → ((l.zipIdx k).foldl (fun cs x => cs.setIfInBounds (0 + x.2) x.1) old).toList = old.toList.take k ++ l ++ old.toList.drop (k + l.length)
 | [], k, old, _ => by simp
 | v :: r, k, old, h => by
   rw [List.zipIdx_cons, List.foldl_cons, fold_set r (k + 1) _ (by simp at h ⊢; omega)]
   have hi : k < old.size := by simp at h; omega
   dsimp only
   rw [Nat.zero_add, Array.toList_setIfInBounds]
   apply List.ext_getElem?
   intro j
   simp only [List.getElem?_append, zG, List.length_take, List.length_set, Array.length_toList, List.getElem?_take, List.getElem?_set, List.getElem?_drop, zM, List.getElem?_cons]
   have e1 : min (k + 1) old.size = k + 1 := by simp at h; omega
   have e2 : min k old.size = k := by simp at h; omega
   simp only [e1, e2]
   rcases (by omega : j < k ∨ j = k ∨ k < j) with hk | hk | hk
   · rw [if_pos (by omega), if_pos (by omega), if_pos (by omega), if_neg (by omega), if_pos (by omega), if_pos (by omega), if_pos (by omega)]
   · subst hk
     rw [if_pos (by omega), if_pos (by omega), if_pos (by omega), if_pos rfl, if_pos (by omega), if_pos (by omega), if_neg (by omega), if_pos (by omega)]
   · by_cases hk2 : j < k + 1 + r.length
     · rw [if_pos (by omega), if_neg (by omega), if_pos (by omega), if_neg (by omega), if_neg (by omega)]
       congr 1
       try omega
     · rw [if_neg (by omega), if_neg (by omega), if_neg (by omega)]
       congr 1
       try omega
theorem wpList_build1 {ops : Array Oper} {rest : List Oper} {o : Oper} {a : Act} {w : World} {Q : Exit → Act → World → Prop} (hg : o.guard = none) (t e : TypeId) (x : Operand) (ho : o.op = .buildSlice t 1 #[(0, x)]) (v : Value) (hx : a.eval x = v) (n : Nat)
 (hu : P.underlying t = some (.slice e)) (hi : (P.info? e).map (·.size) = some n) (hz : ((P.info? e).bind (·.zero)).map (·.cells.size) = some n) (hn : 0 < n ∧ n ≤ 1000) (hv : v.cells.size = n)
 (h : wpList P ops Q rest (a.put o.dst (.slice (some ⟨w.heap.size, 0, none⟩) 1 1)) (w.alloc (.cells v.cells e))) : wpList P ops Q (o :: rest) a w := by
 cases hq : P.info? e with
 | none => simp [hq] at hi
 | some i =>
   have hs : i.size = n := by simpa [hq] using hi
   cases hzz : i.zero with
   | none => simp [hq, hzz] at hz
   | some z =>
     have hzs : z.cells.size = n := by simpa [hq, hzz] using hz
     refine wpList_plain hg fun _ hK => ?_
     unfold Oper.wp execOp
     have hfill : Instr.fill (fun i' => some (i' * i.size, i.size)) ((Array.range (1 * i.size)).map (z.cells[· % z.cells.size]!)) [(0, v)] = some v.cells := by
      unfold Instr.fill
      simp only [Nat.zero_mul]
      rw [if_neg (by simp [hv, hs])]
      unfold Instr.fill
      congr 1
      apply Array.ext'
      have hf := fold_set v.cells.toList 0 ((Array.range (1 * i.size)).map (z.cells[· % z.cells.size]!)) (by simp [hv, hs])
      rw [← Array.foldl_toList, Array.toList_zipIdx]
      rw [hf]
      simp [hv, hs]
     have hfp : (#[(0, x)].map fun (i, x) => (i, a.eval x)).toList = [(0, v)] := by simp [hx]
     simp only [ho, Sem.run_bind, run_buildSlice w t e 1 _ v.cells i z hu hq hzz (by omega) (by omega) (by rw [hfp]; exact hfill), Result.andThen_ok]
     exact hK _ _ h
end

section
variable {P : Program} {ops : Array Oper} {Q : Exit → Act → World → Prop}
def lastB (ops : Array Oper) (n : Nat) : Bool := decide (ops.size = n + 1) && (dstAt ops n).isNone && (List.range n).all fun j => ((ops[n]?).map fun o => o.after.any fun e => Region.binds .any e && e.on == j).getD false

def StepL (P : Program) (ops : Array Oper) (Q : Exit → Act → World → Prop) (o : Oper) (a : Act) (w : World) : Prop :=
 ∀ K : Act → World → Prop, (∀ a w, Q .normal a w → K a w) → if Region.wanted o (yielded ops a.tmps) = true then Oper.wp P o a w K Q else K (a.put o.dst undef) w
theorem wpAny_invT {n : Nat} {oL : Oper} {F : Nat → Value → World → Prop} {a0 : Act} {w0 : World} (hb : backB ops = true) (hd : dstsB ops = true) (hs : slotsB ops a0.tmps.size = true) (hl : lastB ops n = true) (hoL : ops[n]? = some oL)
 (hmono : ∀ i v w w', F i v w → Below w.heap.size w w' → F i v w') (hstep : ∀ i o, i < n → ops[i]? = some o → StepOk P ops Q F a0 w0 i o)
 (hend : ∀ a w, Below w0.heap.size w0 w → a.defers = a0.defers → a.tmps.size = a0.tmps.size → (∀ k, (∀ i, dstAt ops i ≠ some k) → a.tmps[k]? = a0.tmps[k]?) → (∀ i k, dstAt ops i = some k → ∃ v, a.tmps[k]? = some v ∧ F i v w) → StepL P ops Q oL a w) :
 ∀ fuel listed a w, RInv ops F a0 w0 listed a w → listed.getD n true = false → listed.toList.count false = fuel → wpAny P .any ops Q fuel listed a w := by
 unfold lastB at hl
 rw [Bool.and_eq_true, Bool.and_eq_true, List.all_eq_true] at hl
 obtain ⟨⟨hsz, hdn⟩, hwait⟩ := hl
 have hsz : ops.size = n + 1 := by simpa using hsz
 intro fuel
 induction fuel with
 | zero =>
   intro listed a w h hn hc
   exfalso
   have hnl : n < listed.size := by rw [h.size, hsz]; omega
   have := count_none listed.toList hc n (by rw [Array.length_toList]; exact hnl)
   rw [Array.getElem?_toList] at this
   rw [zP, this] at hn
   simp at hn
 | succ fuel ih =>
   intro listed a w h hn hc
   refine ⟨fun hr => ?_, fun i hi => ?_⟩
   · exfalso
     have := ready_nil hb h.size hr n (by omega)
     rw [hn] at this
     cases this
   have hi2 : i < ops.size ∧ listed.getD i true = false ∧ ((ops[i]?).map (·.after.all fun e => !Region.binds .any e || listed.getD e.on false)).getD false = true := by
    unfold Region.ready at hi
    rw [List.mem_filter, Bool.and_eq_true] at hi
    exact ⟨List.mem_range.1 hi.1, by simpa using hi.2.1, hi.2.2⟩
   obtain ⟨g1, g2, g3⟩ := hi2
   have hil : i < listed.size := by rw [h.size]; exact g1
   have ho : ops[i]? = some ops[i] := Array.getElem?_eq_getElem g1
   rw [ho, Option.map_some, Option.getD_some, zQ] at g3
   have hf : listed.toList[i]? = some false := by
    rw [Array.getElem?_toList, Array.getElem?_eq_getElem hil]
    rw [zP, Array.getElem?_eq_getElem hil] at g2
    simpa using g2
   have hcnt := count_set_true listed.toList i hf
   by_cases hin : i = n
   · subst hin
     have hall : ∀ j, j < i → listed.getD j false = true := fun j hj => by
      have hw := hwait j (List.mem_range.2 hj)
      rw [ho, Option.map_some, Option.getD_some, Array.any_eq_true] at hw
      obtain ⟨x, hx, hx2⟩ := hw
      simp only [Bool.and_eq_true, beq_iff_eq] at hx2
      have := g3 ops[i].after[x] (Array.getElem_mem hx)
      rw [hx2.1, hx2.2] at this
      simpa using this
     obtain rfl : ops[i] = oL := by rw [ho] at hoL; injection hoL
     refine wpOp_step ho fun K' hK => ?_
     have hq : StepL P ops Q ops[i] a w := hend a w h.past h.defs h.len h.old fun j k hk => by
      have hj := dstAt_lt hk
      rcases (by omega : j < i ∨ j = i) with hji | rfl
      · exact h.done j (hall j hji) k hk
      · rw [hk] at hdn
        cases hdn
     have hz : ∀ a' w', Q .normal a' w' → wpAny P .any ops Q fuel (listed.setIfInBounds i true) a' w' := fun a' w' hq' => by
      have h0 : fuel = 0 := by
       have hall2 : ∀ j, j < listed.toList.length → (listed.toList.set i true)[j]? = some true := fun j hj => by
        rw [Array.length_toList, h.size, hsz] at hj
        rw [List.getElem?_set]
        split
        · rw [if_pos (by rw [Array.length_toList]; exact hil)]
        · rename_i hne
          have := hall j (by omega)
          have hjl : j < listed.size := by rw [h.size, hsz]; omega
          rw [zP, Array.getElem?_eq_getElem hjl] at this
          rw [Array.getElem?_toList, Array.getElem?_eq_getElem hjl]
          simpa using this
       have hc0 : (listed.toList.set i true).count false = 0 := by
        rw [List.count_eq_zero]
        intro hm
        obtain ⟨j, hj⟩ := List.mem_iff_getElem?.1 hm
        have hjl : j < listed.toList.length := by
         have := (List.getElem?_eq_some_iff.1 hj).1
         simpa using this
        rw [hall2 j hjl] at hj
        cases hj
       omega
      subst h0
      refine ⟨?_, hq'⟩
      unfold Region.ready
      rw [List.filter_eq_nil_iff]
      intro j hj
      have hj' := List.mem_range.1 hj
      have : (listed.setIfInBounds i true).getD j true = true := by
       rw [zP, Array.getElem?_setIfInBounds]
       split
       · rfl
       · have := hall j (by omega)
         have hjl : j < listed.size := by rw [h.size]; exact hj'
         rw [zP, Array.getElem?_eq_getElem hjl] at this
         rw [Array.getElem?_eq_getElem hjl]
         simpa using this
      rw [this]
      simp
     exact hq K' fun a' w' hq' => hK a' w' (hz a' w' hq')
   · refine wpOp_step ho fun K' hK => ?_
     refine hstep i _ (by omega) ho a w h.past h.old (fun e he hbd k hk => ?_) K' fun v w' hv hbl => hK _ _ (ih _ _ _ ?_ ?_ ?_)
     · have h4 := g3 e (by simpa using he)
       rw [hbd] at h4
       exact h.done e.on (by simpa using h4) k hk
     · have hdi : dstAt ops i = ops[i].dst := by unfold dstAt; rw [ho]; rfl
       refine ⟨by simp [h.size], h.past.trans (hbl.mono h.past.size), by rw [put_defs]; exact h.defs, by rw [put_len]; exact h.len, fun k hk => ?_, fun j hj k hk => ?_⟩
       · rw [put_tmps _ _ _ _ (by rw [← hdi]; exact hk i)]
         exact h.old k hk
       · by_cases hij : j = i
         · subst hij
           rw [hdi] at hk
           rw [hk]
           refine ⟨v, put_tmps_same _ _ _ ?_, hv⟩
           rw [h.len]
           unfold slotsB at hs
           rw [List.all_eq_true] at hs
           have := hs j (List.mem_range.2 g1)
           rw [hdi, hk] at this
           simpa using this
         · have hj' : listed.getD j false = true := by
            rw [zP, Array.getElem?_setIfInBounds, if_neg (Ne.symm hij)] at hj
            rw [zP]
            exact hj
           obtain ⟨u, hu, hF⟩ := h.done j hj' k hk
           refine ⟨u, ?_, hmono j u w w' hF hbl⟩
           rw [put_tmps _ _ _ _ (fun e => hij (dsts_one hd hk (by rw [hdi]; exact e)))]
           exact hu
     · rw [zP, Array.getElem?_setIfInBounds, if_neg hin]
       rw [zP] at hn
       exact hn
     · rw [Array.toList_setIfInBounds]
       omega
theorem stepsN_get {F : Nat → Value → World → Prop} {a0 : Act} {w0 : World} {n : Nat} {l : List Oper} (h : StepsOk P ops Q F a0 w0 0 (l.take n)) : ∀ i o, i < n → l[i]? = some o → StepOk P ops Q F a0 w0 i o := fun i o hi ho => by
 have := steps_get (l.take n) 0 h i o (by rw [List.getElem?_take, if_pos hi]; exact ho)
 rwa [Nat.zero_add] at this
theorem dstAt_take {l : List Oper} {n i k : Nat} (h : dstAt (l.take n).toArray i = some k) : dstAt l.toArray i = some k := by
 unfold dstAt at h ⊢
 simp only [List.getElem?_toArray, List.getElem?_take] at h ⊢
 split at h
 · exact h
 · cases h
theorem wp_region_tail {id : Nat} {a0 : Act} {w0 : World} {l : List Oper} (n : Nat) {oL : Oper} (hoL : l[n]? = some oL) (F : List (Value ⊕ (Value → World → Prop))) (hl : (l.take n).length = F.length) (hm : P.follows .mixedOrders = true) (hb : backB l.toArray = true) (hd : dstsB l.toArray = true) (hs : slotsB l.toArray a0.tmps.size = true) (hla : lastB l.toArray n = true)
 (hmono : ∀ p, Sum.inr p ∈ F → ∀ v w w', p v w → Below w.heap.size w w' → p v w') (hstep : StepsOk P l.toArray Q (FL F) a0 w0 0 (l.take n))
 (hend : ∀ w, Below w0.heap.size w0 w → Fin (l.take n) F a0 w (fun a w => StepL P l.toArray Q oL a w)) : (Code.region id l.toArray true).wp P Q a0 w0 := by
 refine wp_region_any hm ?_
 have hla' := hla
 unfold lastB at hla'
 rw [Bool.and_eq_true, Bool.and_eq_true] at hla'
 obtain ⟨⟨hsz, hdn⟩, _⟩ := hla'
 have hsz : l.length = n + 1 := by simpa using hsz
 refine wpAny_invT (n := n) (oL := oL) (a0 := a0) (w0 := w0) hb hd hs hla (by simpa using hoL) (FL.mono hmono) (fun i o hi h => stepsN_get hstep i o hi (by simpa using h)) ?_ _ _ _ _ ⟨by simp, zT.drew, rfl, rfl, fun _ _ => rfl, fun i hi => ?_⟩ ?_ (by simp)
 · intro a w hbl h1 h2 h3 h4
   refine fin_of (K := fun a w => StepL P l.toArray Q oL a w) (l.take n) F a0 a hl h1 h2 (fun k hk => h3 k fun i hi => ?_) (fun i k hk => h4 i k (dstAt_take hk)) (hend w hbl)
   have hil := dstAt_lt hi
   have hil' : i < n + 1 := by simpa [hsz] using hil
   rcases (by omega : i < n ∨ i = n) with hin | rfl
   · refine hk i ?_
     unfold dstAt at hi ⊢
     simp only [List.getElem?_toArray, List.getElem?_take, if_pos hin] at hi ⊢
     exact hi
   · rw [hi] at hdn
     cases hdn
 · exfalso
   rw [zP, Array.getElem?_replicate] at hi
   split at hi
   · cases hi
   · cases hi
 · rw [zP, Array.getElem?_replicate, if_pos (by rw [zO]; omega)]
   rfl
end
theorem op_callR {P : Program} {ops : Array Oper} {Q : Exit → Act → World → Prop} {o : Oper} {a : Act} {w : World} {K : Act → World → Prop} {R : Value → World → Prop} (hg : o.guard = none) (f : FuncId) (xs : Array Operand) (ats : Array TypeId) (ho : o.op = .call { callee := .value (.func f), args := xs, argTypes := ats }) (args : Array Value) (hx0 : xs.toList.map a.eval = args.toList)
 {fn : Func} (hf : P.funcs[f]? = some fn) (hn : (fn.name == "runtime.NumGoroutine") = false) (hb : fn.body.isNone = false) (hc : Calls P f args w fun e w' => ∃ v, e = .returned v ∧ R v w' ∧ Below w.heap.size w w')
 (hK : ∀ v w', R v w' → Below w.heap.size w w' → K (a.put o.dst v) w') : if Region.wanted o (yielded ops a.tmps) = true then Oper.wp P o a w K Q else K (a.put o.dst undef) w :=
 step_call (want_free hg) f xs ats ho args hx0 hf hn hb hc (fun e w' ⟨v, h1, h2, h3⟩ => ⟨v, h1, hK v w' h2 h3⟩)
section
variable {P : Program}
theorem run_storeCells_blk {g : Nat} {t : TypeId} : ∀ (news : List Value) (i off : Nat) (w : World) (cs : Array Value), Blk w g t cs → off + i + news.length ≤ cs.size → (∀ v ∈ news, v.oneCell' = true) →
 ∃ w' cs', (storeCells ⟨g, off, none⟩ news i).run P w = .ok () w' ∧ Blk w' g t cs' ∧ cs'.toList = cs.toList.take (off + i) ++ news ++ cs.toList.drop (off + i + news.length) ∧ w.grownBy w' (some g) ∧ w'.heap.size = w.heap.size
 | [], i, off, w, cs, hb, hl, _ => ⟨w, cs, rfl, hb, by simp, World.grownBy.refl _ _, rfl⟩
 | v :: r, i, off, w, cs, hb, hl, h1 => by
   have hi : off + i < cs.size := by simp at hl; omega
   have hadd : (⟨g, off, none⟩ : Addr).add i = ⟨g, off + i, none⟩ := zN g off i
   have hst : (store ((⟨g, off, none⟩ : Addr).add i) v).run P w = .ok () (w.setCell ⟨g, off + i, none⟩ v) := by
    rw [hadd, run_store P w _ v _ (h1 v (by simp)), hb.cell, Array.getElem?_eq_getElem hi]
    simp [hb.frozen]
   obtain ⟨w', cs', h2, h3, h4, h5, h6⟩ := run_storeCells_blk r (i + 1) off (w.setCell ⟨g, off + i, none⟩ v) (cs.setIfInBounds (off + i) v) (hb.set_ _ v) (by simp at hl ⊢; omega) (fun x hx => h1 x (by simp [hx]))
   have hg := only_setCell' (w := w) (g := g) (p := ⟨g, off + i, none⟩) (.inl rfl) v
   refine ⟨w', cs', ?_, h3, ?_, ⟨h5.os.trans hg.os, h5.tape.trans hg.tape, h5.output.trans hg.output, Nat.le_trans hg.size h5.size, fun k hk hne => (h5.block k (Nat.lt_of_lt_of_le hk hg.size) hne).trans (hg.block k hk hne)⟩, by rw [h6]; simp [World.setCell]⟩
   · simp only [storeCells, Sem.run_bind, hst, Result.andThen_ok, h2]
   · rw [h4, Array.toList_setIfInBounds]
     apply List.ext_getElem?
     intro k
     simp only [List.getElem?_append, zG, List.length_take, List.length_set, Array.length_toList, List.getElem?_take, List.getElem?_set, List.getElem?_drop, zM, List.getElem?_cons]
     rcases (by omega : k < off + i ∨ k = off + i ∨ off + i < k) with hk | hk | hk
     · have e1 : min (off + (i + 1)) cs.size = off + i + 1 := by omega
       have e2 : min (off + i) cs.size = off + i := by omega
       simp only [e1, e2]
       rw [if_pos (by omega), if_pos (by omega), if_pos (by omega), if_neg (by omega), if_pos (by omega), if_pos (by omega), if_pos (by omega)]
     · have e1 : min (off + (i + 1)) cs.size = off + i + 1 := by omega
       have e2 : min (off + i) cs.size = off + i := by omega
       simp only [e1, e2]
       subst hk
       rw [if_pos (by omega), if_pos (by omega), if_pos (by omega), if_pos rfl, if_pos (by omega), if_pos (by omega), if_neg (by omega), if_pos (by omega)]
     · have e1 : min (off + (i + 1)) cs.size = off + i + 1 := by omega
       have e2 : min (off + i) cs.size = off + i := by omega
       simp only [e1, e2]
       by_cases hk2 : k < off + i + 1 + r.length
       · rw [if_pos (by omega), if_neg (by omega), if_pos (by omega), if_neg (by omega), if_neg (by omega)]
         congr 1
         try omega
       · rw [if_neg (by omega), if_neg (by omega), if_neg (by omega)]
         congr 1
         try omega
theorem run_storeVar_mid {w : World} {g off : Nat} {t ty : TypeId} {cs : Array Value} {v : Value} {news : List Value} (hb : Blk w g t cs) (hv : v.cells.toList = news) (hi : (P.info? ty).map (·.size) = some news.length) (hl : off + news.length ≤ cs.size) (h1 : ∀ v ∈ news, v.oneCell' = true) :
 ∃ w' cs', (storeVar ty ⟨g, off, none⟩ v).run P w = .ok () w' ∧ Blk w' g t cs' ∧ cs'.toList = cs.toList.take off ++ news ++ cs.toList.drop (off + news.length) ∧ w.grownBy w' (some g) ∧ w'.heap.size = w.heap.size := by
 obtain ⟨w', cs', h2, h3, h4, h5, h6⟩ := run_storeCells_blk (P := P) news 0 off w cs hb (by omega) h1
 refine ⟨w', cs', ?_, h3, by simpa using h4, h5, h6⟩
 cases hq : P.info? ty with
 | none => simp [hq] at hi
 | some i =>
   have hs : i.size = news.length := by simpa [hq] using hi
   have hc : v.cells.size = i.size := by rw [hs, ← hv]; simp
   simp [storeVar, sizeOf, typeInfo, hq, hc, hv, h2]
theorem wpList_store_mid {ops : Array Oper} {rest : List Oper} {o : Oper} {a : Act} {w : World} {Q : Exit → Act → World → Prop} (hg : o.guard = none) (ty : TypeId) (x y : Operand) (ho : o.op = .store ty x y) (g off : Nat) (v : Value) (hx : a.eval x = .pointer (some ⟨g, off, none⟩)) (hy : a.eval y = v)
 {t : TypeId} {cs : Array Value} {news : List Value} (hb : Blk w g t cs) (hv : v.cells.toList = news) (hi : (P.info? ty).map (·.size) = some news.length) (hl : off + news.length ≤ cs.size) (h1 : ∀ v ∈ news, v.oneCell' = true)
 (h : ∀ w' cs', Blk w' g t cs' → cs'.toList = cs.toList.take off ++ news ++ cs.toList.drop (off + news.length) → w.grownBy w' (some g) → w'.heap.size = w.heap.size → wpList P ops Q rest (a.put o.dst undef) w') : wpList P ops Q (o :: rest) a w := by
 obtain ⟨w', cs', h2, h3, h4, h5, h6⟩ := run_storeVar_mid (P := P) hb hv hi hl h1
 refine wpList_plain hg fun _ hK => ?_
 unfold Oper.wp execOp
 simp only [ho, hx, hy, Instr.storeAt, Instr.sureAddr, Sem.run_bind, Sem.run_pure, Result.andThen_ok, h2]
 exact hK _ _ (h w' cs' h3 h4 h5 h6)
theorem stepL_store_mid {ops : Array Oper} {o : Oper} {a : Act} {w : World} {Q : Exit → Act → World → Prop} (hg : o.guard = none) (ty : TypeId) (x y : Operand) (ho : o.op = .store ty x y) (g off : Nat) (v : Value) (hx : a.eval x = .pointer (some ⟨g, off, none⟩)) (hy : a.eval y = v)
 {t : TypeId} {cs : Array Value} {news : List Value} (hb : Blk w g t cs) (hv : v.cells.toList = news) (hi : (P.info? ty).map (·.size) = some news.length) (hl : off + news.length ≤ cs.size) (h1 : ∀ v ∈ news, v.oneCell' = true)
 (h : ∀ w' cs', Blk w' g t cs' → cs'.toList = cs.toList.take off ++ news ++ cs.toList.drop (off + news.length) → w.grownBy w' (some g) → w'.heap.size = w.heap.size → Q .normal (a.put o.dst undef) w') : StepL P ops Q o a w := by
 obtain ⟨w', cs', h2, h3, h4, h5, h6⟩ := run_storeVar_mid (P := P) hb hv hi hl h1
 intro K hK
 rw [if_pos (want_free hg)]
 unfold Oper.wp execOp
 simp only [ho, hx, hy, Instr.storeAt, Instr.sureAddr, Sem.run_bind, Sem.run_pure, Result.andThen_ok, h2]
 exact hK _ _ (h w' cs' h3 h4 h5 h6)
end

section
variable {P : Program} {ops : Array Oper} {Q : Exit → Act → World → Prop} {C : World → World → Prop}
def Left (ops : Array Oper) (F : Nat → Value → World → Prop) (a : Act) (w : World) (i : Nat) : Prop := ∃ v, F i v w ∧ ∀ k, dstAt ops i = some k → a.tmps[k]? = some v
structure RInvC (C : World → World → Prop) (ops : Array Oper) (F : Nat → Value → World → Prop) (a0 : Act) (w0 : World) (listed : Array Bool) (a : Act) (w : World) : Prop where
 size : listed.size = ops.size
 past : C w0 w
 defs : a.defers = a0.defers
 len : a.tmps.size = a0.tmps.size
 old : ∀ k, (∀ i, dstAt ops i ≠ some k) → a.tmps[k]? = a0.tmps[k]?
 done : ∀ i, i < ops.size → listed.getD i false = true → Left ops F a w i
def StepOkC (C : World → World → Prop) (P : Program) (ops : Array Oper) (Q : Exit → Act → World → Prop) (F : Nat → Value → World → Prop) (a0 : Act) (w0 : World) (i : Nat) (o : Oper) : Prop :=
 ∀ a w, C w0 w → (∀ k, (∀ i, dstAt ops i ≠ some k) → a.tmps[k]? = a0.tmps[k]?) → (∀ e ∈ o.after.toList, Region.binds .any e = true → e.on < ops.size → Left ops F a w e.on) →
   ∀ K : Act → World → Prop, (∀ v w', F i v w' → C w w' → K (a.put o.dst v) w') → if Region.wanted o (yielded ops a.tmps) = true then Oper.wp P o a w K Q else K (a.put o.dst undef) w

theorem wpAny_invC {F : Nat → Value → World → Prop} {a0 : Act} {w0 : World} (hCt : ∀ {u v w}, C u v → C v w → C u w) (hb : backB ops = true) (hd : dstsB ops = true) (hs : slotsB ops a0.tmps.size = true)
 (hmono : ∀ i v w w', F i v w → C w w' → F i v w') (hstep : ∀ i o, ops[i]? = some o → StepOkC C P ops Q F a0 w0 i o)
 (hend : ∀ a w, C w0 w → a.defers = a0.defers → a.tmps.size = a0.tmps.size → (∀ k, (∀ i, dstAt ops i ≠ some k) → a.tmps[k]? = a0.tmps[k]?) → (∀ i, i < ops.size → Left ops F a w i) → Q .normal a w) :
 ∀ fuel listed a w, RInvC C ops F a0 w0 listed a w → listed.toList.count false = fuel → wpAny P .any ops Q fuel listed a w := by
 have hfin : ∀ listed a w, RInvC C ops F a0 w0 listed a w → (∀ i, i < ops.size → listed.getD i true = true) → Q .normal a w := by
  intro listed a w h hall
  refine hend a w h.past h.defs h.len h.old fun i hi => h.done i hi ?_
  have h1 := hall i hi
  have hi' : i < listed.size := by rw [h.size]; exact hi
  simp only [zP, Array.getElem?_eq_getElem hi', Option.getD_some] at h1 ⊢
  exact h1
 intro fuel
 induction fuel with
 | zero =>
   intro listed a w h hc
   have hall : ∀ i, i < ops.size → listed.getD i true = true := fun i hi => by
    have := count_none listed.toList hc i (by rw [Array.length_toList, h.size]; exact hi)
    rw [Array.getElem?_toList] at this
    rw [zP, this]
    rfl
   refine ⟨?_, hfin listed a w h hall⟩
   unfold Region.ready
   rw [List.filter_eq_nil_iff]
   intro i hi
   rw [hall i (List.mem_range.1 hi)]
   simp
 | succ fuel ih =>
   intro listed a w h hc
   refine ⟨fun hr => hfin listed a w h (ready_nil hb h.size hr), fun i hi => ?_⟩
   have hi2 : i < ops.size ∧ listed.getD i true = false ∧ ((ops[i]?).map (·.after.all fun e => !Region.binds .any e || listed.getD e.on false)).getD false = true := by
    unfold Region.ready at hi
    rw [List.mem_filter, Bool.and_eq_true] at hi
    exact ⟨List.mem_range.1 hi.1, by simpa using hi.2.1, hi.2.2⟩
   obtain ⟨g1, g2, g3⟩ := hi2
   have hil : i < listed.size := by rw [h.size]; exact g1
   have ho : ops[i]? = some ops[i] := Array.getElem?_eq_getElem g1
   rw [ho, Option.map_some, Option.getD_some, zQ] at g3
   refine wpOp_step ho fun K' hK => ?_
   refine hstep i _ ho a w h.past h.old (fun e he hbd hlt => ?_) K' fun v w' hv hbl => hK _ _ (ih _ _ _ ?_ ?_)
   · have h4 := g3 e (by simpa using he)
     rw [hbd] at h4
     exact h.done e.on hlt (by simpa using h4)
   · have hdi : dstAt ops i = ops[i].dst := by unfold dstAt; rw [ho]; rfl
     refine ⟨by simp [h.size], hCt h.past hbl, by rw [put_defs]; exact h.defs, by rw [put_len]; exact h.len, fun k hk => ?_, fun j hjs hj => ?_⟩
     · rw [put_tmps _ _ _ _ (by rw [← hdi]; exact hk i)]
       exact h.old k hk
     · by_cases hij : j = i
       · subst hij
         refine ⟨v, hv, fun k hk => ?_⟩
         rw [hdi] at hk
         rw [hk]
         refine put_tmps_same _ _ _ ?_
         rw [h.len]
         unfold slotsB at hs
         rw [List.all_eq_true] at hs
         have := hs j (List.mem_range.2 g1)
         rw [hdi, hk] at this
         simpa using this
       · have hj' : listed.getD j false = true := by
          rw [zP, Array.getElem?_setIfInBounds, if_neg (Ne.symm hij)] at hj
          rw [zP]
          exact hj
         obtain ⟨u, hF, hu⟩ := h.done j hjs hj'
         refine ⟨u, hmono j u w w' hF hbl, fun k hk => ?_⟩
         rw [put_tmps _ _ _ _ (fun e => hij (dsts_one hd hk (by rw [hdi]; exact e)))]
         exact hu k hk
   · have hf : listed.toList[i]? = some false := by
      rw [Array.getElem?_toList, Array.getElem?_eq_getElem hil]
      rw [zP, Array.getElem?_eq_getElem hil] at g2
      simpa using g2
     have := count_set_true listed.toList i hf
     rw [Array.toList_setIfInBounds]
     omega
def StepsOkC (C : World → World → Prop) (P : Program) (ops : Array Oper) (Q : Exit → Act → World → Prop) (F : Nat → Value → World → Prop) (a0 : Act) (w0 : World) : Nat → List Oper → Prop
 | _, [] => True
 | i, o :: r => StepOkC C P ops Q F a0 w0 i o ∧ StepsOkC C P ops Q F a0 w0 (i + 1) r
theorem steps_getC {F : Nat → Value → World → Prop} {a0 : Act} {w0 : World} : ∀ (l : List Oper) (n : Nat), StepsOkC C P ops Q F a0 w0 n l → ∀ i o, l[i]? = some o → StepOkC C P ops Q F a0 w0 (n + i) o
 | [], _, _, i, o, h => by simp at h
 | x :: l, n, hs, 0, o, h => by
   simp only [List.getElem?_cons_zero, Option.some.injEq] at h
   subst h
   exact hs.1
 | x :: l, n, hs, i + 1, o, h => by
   rw [List.getElem?_cons_succ] at h
   have := steps_getC l (n + 1) hs.2 i o h
   rwa [Nat.add_assoc, Nat.add_comm 1 i] at this
theorem FL.monoC {l : List (Value ⊕ (Value → World → Prop))} (h : ∀ p, Sum.inr p ∈ l → ∀ v w w', p v w → C w w' → p v w') : ∀ i v w w', FL l i v w → C w w' → FL l i v w' := by
 intro i v w w' hF hb
 unfold FL at hF ⊢
 split at hF
 · exact hF
 · rename_i p hp
   exact h p (List.mem_of_getElem? hp) v w w' hF hb
 · trivial
theorem wp_region_stepsC {id : Nat} {a0 : Act} {w0 : World} {l : List Oper} (C : World → World → Prop) (F : List (Value ⊕ (Value → World → Prop))) (hCd : C w0 w0.drew) (hCt : ∀ {u v w}, C u v → C v w → C u w) (hm : P.follows .mixedOrders = true) (hb : backB l.toArray = true) (hd : dstsB l.toArray = true) (hs : slotsB l.toArray a0.tmps.size = true)
 (hmono : ∀ p, Sum.inr p ∈ F → ∀ v w w', p v w → C w w' → p v w') (hstep : StepsOkC C P l.toArray Q (FL F) a0 w0 0 l)
 (hend : ∀ a w, C w0 w → a.defers = a0.defers → a.tmps.size = a0.tmps.size → (∀ k, (∀ i, dstAt l.toArray i ≠ some k) → a.tmps[k]? = a0.tmps[k]?) → (∀ i, i < l.length → Left l.toArray (FL F) a w i) → Q .normal a w) :
 (Code.region id l.toArray true).wp P Q a0 w0 := by
 refine wp_region_any hm ?_
 refine wpAny_invC (C := C) (a0 := a0) (w0 := w0) (F := FL F) hCt hb hd hs (FL.monoC hmono) (fun i o h => by have := steps_getC l 0 hstep i o (by simpa using h); rwa [Nat.zero_add] at this) (fun a w h1 h2 h3 h4 h5 => hend a w h1 h2 h3 h4 (fun i hi => h5 i (by simpa using hi))) _ _ _ _ ⟨by simp, hCd, rfl, rfl, fun _ _ => rfl, fun i _ hi => ?_⟩ (by simp)
 exfalso
 rw [zP, Array.getElem?_replicate] at hi
 split at hi
 · cases hi
 · cases hi
end

structure Cp (b : Nat) (T : TypeId) (st : List (Nat × Value)) (w w' : World) : Prop where
 grown : w.grownBy w' (some b)
 size : w'.heap.size = w.heap.size
 blk : ∀ cs, Blk w b T cs → ∃ cs', Blk w' b T cs' ∧ cs'.size = cs.size ∧ (∀ k, (∀ v, (k, v) ∉ st) → cs'[k]? = cs[k]?) ∧ (∀ k v, (k, v) ∈ st → cs[k]? = some v → cs'[k]? = some v)
theorem Cp.refl {b : Nat} {T : TypeId} {st : List (Nat × Value)} (w : World) : Cp b T st w w := ⟨World.grownBy.refl _ _, rfl, fun cs h => ⟨cs, h, rfl, fun _ _ => rfl, fun _ _ _ h => h⟩⟩
theorem Cp.drew {b : Nat} {T : TypeId} {st : List (Nat × Value)} (w : World) : Cp b T st w w.drew := ⟨⟨rfl, rfl, rfl, Nat.le_refl _, fun _ _ _ => rfl⟩, rfl, fun cs h => ⟨cs, h, rfl, fun _ _ => rfl, fun _ _ _ h => h⟩⟩
theorem Cp.trans {b : Nat} {T : TypeId} {st : List (Nat × Value)} {u v w : World} (h : Cp b T st u v) (h' : Cp b T st v w) : Cp b T st u w := by
 refine ⟨⟨h'.grown.os.trans h.grown.os, h'.grown.tape.trans h.grown.tape, h'.grown.output.trans h.grown.output, Nat.le_trans h.grown.size h'.grown.size, fun k hk hne => (h'.grown.block k (Nat.lt_of_lt_of_le hk h.grown.size) hne).trans (h.grown.block k hk hne)⟩, h'.size.trans h.size, fun cs hb => ?_⟩
 obtain ⟨c1, h1, h2, h3, h4⟩ := h.blk cs hb
 obtain ⟨c2, g1, g2, g3, g4⟩ := h'.blk c1 h1
 exact ⟨c2, g1, g2.trans h2, fun k hk => (g3 k hk).trans (h3 k hk), fun k v hv hc => g4 k v hv (h4 k v hv hc)⟩
def FnB (st : List (Nat × Value)) : Prop := ∀ k v v', (k, v) ∈ st → (k, v') ∈ st → v = v'
theorem fnB_of {st : List (Nat × Value)} (h : (st.map Prod.fst).Nodup) : FnB st := by
 induction st with
 | nil => intro k v v' h; cases h
 | cons x r ih =>
   rw [List.map_cons, List.nodup_cons] at h
   intro k v v' h1 h2
   rcases zH.1 h1 with e1 | e1
   · rcases zH.1 h2 with e2 | e2
     · rw [← e1] at e2
       injection e2 with _ e2
       exact e2.symm
     · subst e1
       exact absurd (List.mem_map.2 ⟨_, e2, rfl⟩) h.1
   · rcases zH.1 h2 with e2 | e2
     · subst e2
       exact absurd (List.mem_map.2 ⟨_, e1, rfl⟩) h.1
     · exact ih h.2 k v v' e1 e2
theorem fold_st : ∀ (st : List (Nat × Value)) (ps : Array Value) (k : Nat), FnB st → k < ps.size →
 ((∀ v, (k, v) ∈ st → (st.foldl (fun ps x => ps.setIfInBounds x.1 x.2) ps)[k]? = some v) ∧ ((∀ v, (k, v) ∉ st) → (st.foldl (fun ps x => ps.setIfInBounds x.1 x.2) ps)[k]? = ps[k]?)) ∧ (st.foldl (fun ps x => ps.setIfInBounds x.1 x.2) ps).size = ps.size
 | [], ps, k, _, _ => ⟨⟨fun v h => absurd h (by simp), fun _ => rfl⟩, rfl⟩
 | x :: r, ps, k, hf, hk => by
   obtain ⟨⟨h1, h2⟩, h3⟩ := fold_st r (ps.setIfInBounds x.1 x.2) k (fun k v v' h h' => hf k v v' (by simp [h]) (by simp [h'])) (by simpa using hk)
   rw [List.foldl_cons]
   refine ⟨⟨fun v hv => ?_, fun hno => ?_⟩, by rw [h3]; simp⟩
   · by_cases hr : ∃ v', (k, v') ∈ r
     · obtain ⟨v', hr⟩ := hr
       rw [h1 v' hr, hf k v v' hv (by simp [hr])]
     · rw [h2 (fun v' hv' => hr ⟨v', hv'⟩)]
       rcases zH.1 hv with e | e
       · subst e
         simp [hk]
       · exact absurd ⟨v, e⟩ hr
   · rw [h2 (fun v hv => hno v (by simp [hv]))]
     rw [Array.getElem?_setIfInBounds]
     split
     · rename_i e
       subst e
       exact absurd (List.mem_cons_self ..) (hno x.2)
     · rfl
theorem Cp.done {b : Nat} {T : TypeId} {st : List (Nat × Value)} {w w' : World} {ps : Array Value} (h : Cp b T st w w') (hb : Blk w b T ps) (hf : FnB st) (hk : ∀ k v, (k, v) ∈ st → k < ps.size) (hd : ∀ k v, (k, v) ∈ st → w'.cell? ⟨b, k, none⟩ = some v) :
 Blk w' b T (st.foldl (fun ps x => ps.setIfInBounds x.1 x.2) ps) := by
 obtain ⟨cs', h1, h2, h3, _⟩ := h.blk ps hb
 have e : cs' = st.foldl (fun ps x => ps.setIfInBounds x.1 x.2) ps := by
  apply Array.ext_getElem?
  intro k
  rcases Nat.lt_or_ge k ps.size with hl | hl
  · obtain ⟨⟨f1, f2⟩, f3⟩ := fold_st st ps k hf hl
    by_cases hr : ∃ v, (k, v) ∈ st
    · obtain ⟨v, hr⟩ := hr
      rw [f1 v hr]
      have := hd k v hr
      rwa [h1.cell] at this
    · rw [f2 (fun v hv => hr ⟨v, hv⟩)]
      exact h3 k fun v hv => hr ⟨v, hv⟩
  · have hs : (st.foldl (fun ps x => ps.setIfInBounds x.1 x.2) ps).size = ps.size := by
     have : ∀ (st : List (Nat × Value)) (ps : Array Value), (st.foldl (fun ps x => ps.setIfInBounds x.1 x.2) ps).size = ps.size := by
      intro st
      induction st with
      | nil => intro ps; rfl
      | cons x r ih => intro ps; rw [List.foldl_cons, ih]; simp
     exact this st ps
    rw [Array.getElem?_eq_none (by omega), Array.getElem?_eq_none (by omega)]
 rw [← e]
 exact h1
theorem Cp.keep {b : Nat} {T : TypeId} {st : List (Nat × Value)} {w w' : World} {ps : Array Value} {k : Nat} {v : Value} (h : Cp b T st w w') (hb : Blk w b T ps) (hm : (k, v) ∈ st) (hc : w.cell? ⟨b, k, none⟩ = some v) : w'.cell? ⟨b, k, none⟩ = some v := by
 obtain ⟨cs', h1, _, _, h4⟩ := h.blk ps hb
 rw [h1.cell]
 rw [hb.cell] at hc
 exact h4 k v hm hc
section
variable {P : Program} {ops : Array Oper} {Q : Exit → Act → World → Prop} {o : Oper} {a : Act} {w : World} {K : Act → World → Prop} {b : Nat} {T : TypeId} {st : List (Nat × Value)}
theorem op_store {ps : Array Value} (hg : o.guard = none) (ty : TypeId) (x y : Operand) (ho : o.op = .store ty x y) (off : Nat) (v : Value) (hx : a.eval x = .pointer (some ⟨b, off, none⟩)) (hy : a.eval y = v) {news : List Value} (hb : Blk w b T ps) (hv : v.cells.toList = news) (hi : (P.info? ty).map (·.size) = some news.length) (hl : off + news.length ≤ ps.size) (h1 : ∀ v ∈ news, v.oneCell' = true)
 (hst : ∀ i u, news[i]? = some u → (off + i, u) ∈ st) (hf : FnB st)
 (hK : ∀ w', (∀ i u, news[i]? = some u → w'.cell? ⟨b, off + i, none⟩ = some u) → Cp b T st w w' → K (a.put o.dst undef) w') : if Region.wanted o (yielded ops a.tmps) = true then Oper.wp P o a w K Q else K (a.put o.dst undef) w := by
 obtain ⟨w', cs', h2, h3, h4, h5, h6⟩ := run_storeVar_mid (P := P) hb hv hi hl h1
 rw [if_pos (want_free hg)]
 unfold Oper.wp execOp
 simp only [ho, hx, hy, Instr.storeAt, Instr.sureAddr, Sem.run_bind, Sem.run_pure, Result.andThen_ok, h2]
 have hlen : cs'.size = ps.size := by
  have := congrArg List.length h4
  simp only [zG, List.length_take, List.length_drop, Array.length_toList] at this
  omega
 have hget : ∀ k, cs'[k]? = if k < off then ps[k]? else if k < off + news.length then news[k - off]? else ps[k]? := fun k => by
  rw [← Array.getElem?_toList, h4]
  simp only [List.getElem?_append, zG, List.length_take, Array.length_toList, List.getElem?_take, List.getElem?_drop]
  have e1 : min off ps.size = off := by omega
  rw [e1]
  by_cases k1 : k < off
  · rw [if_pos (by omega), if_pos k1, if_pos k1, if_pos k1, Array.getElem?_toList]
  · by_cases k2 : k < off + news.length
    · rw [if_pos k2, if_neg k1, if_neg k1, if_pos k2]
    · rw [if_neg k2, if_neg k1, if_neg k2, show off + news.length + (k - (off + news.length)) = k by omega, Array.getElem?_toList]
 refine hK w' (fun i u hu => ?_) ⟨h5, h6, fun cs hcs => ?_⟩
 · have hil := (List.getElem?_eq_some_iff.1 hu).1
   rw [h3.cell, hget, if_neg (by omega), if_pos (by omega), show off + i - off = i by omega]
   exact hu
 · have e : cs = ps := by
    unfold Blk at hcs hb
    rw [hcs] at hb
    injection hb with hb
    injection hb
   subst e
   refine ⟨cs', h3, hlen, fun k hk => ?_, fun k u hu hc => ?_⟩
   · rw [hget]
     split
     · rfl
     · split
       · rename_i k1 k2
         have hkl : k - off < news.length := by omega
         have := hst (k - off) _ (List.getElem?_eq_getElem hkl)
         rw [show off + (k - off) = k by omega] at this
         exact absurd this (hk _)
       · rfl
   · rw [hget]
     split
     · exact hc
     · split
       · rename_i k1 k2
         have hkl : k - off < news.length := by omega
         have := hst (k - off) _ (List.getElem?_eq_getElem hkl)
         rw [show off + (k - off) = k by omega] at this
         rw [List.getElem?_eq_getElem hkl, hf k _ _ this hu]
       · exact hc
def FinC : List Oper → List (Value ⊕ (Value → World → Prop)) → Act → World → (Act → World → Prop) → Prop
 | o :: r, x :: F, a, w, K => match o.dst with
   | none => match x with
     | .inl _ => FinC r F a w K
     | .inr p => (∃ v, p v w) → FinC r F a w K
   | some k => match x with
     | .inl u => FinC r F (a.put (some k) u) w K
     | .inr p => ∀ v, p v w → FinC r F (a.put (some k) v) w K
 | _, _, a, w, K => K a w
theorem finC_of {K : Act → World → Prop} {w : World} : ∀ (l : List Oper) (F : List (Value ⊕ (Value → World → Prop))) (a0 a : Act), l.length = F.length → a.defers = a0.defers → a.tmps.size = a0.tmps.size →
 (∀ k, (∀ i, dstAt l.toArray i ≠ some k) → a.tmps[k]? = a0.tmps[k]?) → (∀ i, i < l.length → Left l.toArray (FL F) a w i) → FinC l F a0 w K → K a w
 | [], [], a0, a, _, hd, hs, hold, _, h => by
   have e : a = a0 := by
    obtain ⟨t, d⟩ := a
    obtain ⟨t0, d0⟩ := a0
    dsimp only at hd hs hold
    subst hd
    have : t = t0 := Array.ext_getElem? fun i => hold i (fun j => by simp [dstAt])
    rw [this]
   rw [e]
   exact h
 | o :: r, x :: F, a0, a, hl, hd, hs, hold, hall, h => by
   have hall' : ∀ i, i < r.length → Left r.toArray (FL F) a w i := fun i hi => by
    obtain ⟨v, h1, h2⟩ := hall (i + 1) (by simpa using hi)
    exact ⟨v, h1, fun k hk => h2 k (by unfold dstAt at hk ⊢; simpa using hk)⟩
   have h0 : dstAt (o :: r).toArray 0 = o.dst := by simp [dstAt]
   have hr : ∀ k, o.dst ≠ some k → (∀ i, dstAt r.toArray i ≠ some k) → ∀ i, dstAt (o :: r).toArray i ≠ some k := fun k h1 h2 i => by
    rcases i with _ | i
    · rw [h0]; exact h1
    · intro h3
      exact h2 i (by unfold dstAt at h3 ⊢; simpa using h3)
   obtain ⟨v, hF, hv⟩ := hall 0 (by simp)
   unfold FinC at h
   cases hod : o.dst with
   | none =>
     rw [hod] at h
     have hFin : FinC r F a0 w K := by
      unfold FL at hF
      cases x with
      | inl u => exact h
      | inr p => exact h ⟨v, hF⟩
     exact finC_of r F a0 a (by simpa using hl) hd hs (fun k hk => hold k (hr k (by rw [hod]; simp) hk)) hall' hFin
   | some k =>
     rw [hod] at h
     have hv' := hv k (by rw [h0, hod])
     have hFin : FinC r F (a0.put (some k) v) w K := by
      unfold FL at hF
      cases x with
      | inl u =>
        simp only [List.getElem?_cons_zero] at hF
        subst hF
        exact h
      | inr p => exact h v hF
     refine finC_of r F (a0.put (some k) v) a (by simpa using hl) (by rw [put_defs]; exact hd) (by rw [put_len]; exact hs) (fun j hj => ?_) hall' hFin
     by_cases hjk : k = j
     · subst hjk
       have hkl : k < a.tmps.size := (Array.getElem?_eq_some_iff.1 hv').1
       rw [put_tmps_same _ _ _ (by rw [← hs]; exact hkl)]
       exact hv'
     · rw [put_tmps _ _ _ _ (by simpa using hjk)]
       exact hold j (hr j (by rw [hod]; simpa using hjk) hj)
 | [], _ :: _, _, _, hl, _, _, _, _, _ => by simp at hl
 | _ :: _, [], _, _, hl, _, _, _, _, _ => by simp at hl
theorem left_dep {F : List (Value ⊕ (Value → World → Prop))} {i k : Nat} {u : Value} (h : Left ops (FL F) a w i) (hk : dstAt ops i = some k) (hF : ∀ v, FL F i v w → v = u) : a.tmps[k]? = some u := by
 obtain ⟨v, h1, h2⟩ := h
 rw [← hF v h1]
 exact h2 k hk
theorem wp_region_copy {id : Nat} {a0 : Act} {w0 : World} {l : List Oper} (b : Nat) (T : TypeId) (st : List (Nat × Value)) (F : List (Value ⊕ (Value → World → Prop))) (hl : l.length = F.length) (hm : P.follows .mixedOrders = true) (hb : backB l.toArray = true) (hd : dstsB l.toArray = true) (hs : slotsB l.toArray a0.tmps.size = true)
 (hmono : ∀ p, Sum.inr p ∈ F → ∀ v w w', p v w → Cp b T st w w' → p v w') (hstep : StepsOkC (Cp b T st) P l.toArray Q (FL F) a0 w0 0 l)
 (hend : ∀ w, Cp b T st w0 w → FinC l F a0 w (fun a w => Q .normal a w)) : (Code.region id l.toArray true).wp P Q a0 w0 :=
 wp_region_stepsC (Cp b T st) F (Cp.drew _) (fun h h' => h.trans h') hm hb hd hs hmono hstep fun a w h1 h2 h3 h4 h5 => finC_of (K := fun a w => Q .normal a w) l F a0 a hl h2 h3 h4 h5 (hend w h1)
end

section
variable {l : List Oper} {ops : Array Oper} {F : List (Value ⊕ (Value → World → Prop))} {a a0 : Act} {w w' : World} {i : Nat} {x u : Value} {o : Oper}
theorem fl_of {j : Nat} (h : ∃ v, a.tmps[i]? = some v ∧ FL F j v w) (hF : F[j]? = some (.inl u)) : a.tmps[i]? = some u := by
 obtain ⟨v, h1, h2⟩ := h
 unfold FL at h2
 rw [hF] at h2
 have h2 : v = u := h2
 rw [← h2]
 exact h1
theorem dR (hdep : ∀ j k, j < i → dstAt ops j = some k → ∃ v, a.tmps[k]? = some v ∧ FL F j v w) (j k : Nat) (h1 : j < i := by decide) (h2 : dstAt ops j = some k := by rfl) (h3 : F[j]? = some (.inl u) := by rfl) : a.tmps[k]? = some u := fl_of (hdep j k h1 h2) h3
theorem dQ (hdep : ∀ j k, j < i → dstAt ops j = some k → ∃ v, a.tmps[k]? = some v ∧ FL F j v w) (j k : Nat) (h : Hid (x = u)) (h1 : j < i := by decide) (h2 : dstAt ops j = some k := by rfl) (h3 : F[j]? = some (.inl x) := by rfl) : a.tmps[k]? = some u := by
 rw [← h.out]
 exact fl_of (hdep j k h1 h2) h3
theorem dD (hdep : ∀ e ∈ o.after.toList, Region.binds .any e = true → ∀ k, dstAt ops e.on = some k → ∃ v, a.tmps[k]? = some v ∧ FL F e.on v w) (j k : Nat) (h0 : ⟨j, .data⟩ ∈ o.after.toList := by simp) (h2 : dstAt ops j = some k := by rfl) (h3 : F[j]? = some (.inl u) := by rfl) : a.tmps[k]? = some u := fl_of (hdep ⟨j, .data⟩ h0 rfl k h2) h3
theorem dE (hdep : ∀ e ∈ o.after.toList, Region.binds .any e = true → ∀ k, dstAt ops e.on = some k → ∃ v, a.tmps[k]? = some v ∧ FL F e.on v w) (j k : Nat) (h : Hid (x = u)) (h0 : ⟨j, .data⟩ ∈ o.after.toList := by simp) (h2 : dstAt ops j = some k := by rfl) (h3 : F[j]? = some (.inl x) := by rfl) : a.tmps[k]? = some u := by
 rw [← h.out]
 exact fl_of (hdep ⟨j, .data⟩ h0 rfl k h2) h3
theorem dG (hdep : ∀ e ∈ o.after.toList, Region.binds .any e = true → ∀ k, dstAt ops e.on = some k → ∃ v, a.tmps[k]? = some v ∧ FL F e.on v w) (j k : Nat) (h0 : ⟨j, .guard⟩ ∈ o.after.toList := by simp) (h2 : dstAt ops j = some k := by rfl) (h3 : F[j]? = some (.inl u) := by rfl) : a.tmps[k]? = some u := fl_of (hdep ⟨j, .guard⟩ h0 rfl k h2) h3
theorem dL (hdep : ∀ e ∈ o.after.toList, Region.binds .any e = true → e.on < ops.size → Left ops (FL F) a w e.on) (j : Nat) {k : Nat} (h : Hid (x = u)) (h0 : ⟨j, .data⟩ ∈ o.after.toList := by simp) (h1 : j < ops.size := by decide) (h2 : dstAt ops j = some k := by rfl) (h3 : F[j]? = some (.inl x) := by rfl) : a.tmps[k]? = some u := by
 rw [← h.out]
 exact left_dep (hdep ⟨j, .data⟩ h0 rfl h1) h2 (fun v hv => by unfold FL at hv; rw [h3] at hv; exact hv)
theorem hO (hold : ∀ k, (∀ i, dstAt ops i ≠ some k) → a.tmps[k]? = a0.tmps[k]?) (k : Nat) (h1 : freeB ops k = true := by as_aux_lemma => kernel_rfl) (h2 : a0.tmps[k]? = some u := by rfl) : a.tmps[k]? = some u := (hold k (yG h1)).trans h2
theorem wQ {k : Nat} {b x : Bool} (hv : a.tmps[k]? = some (.bool x)) (h : o.guard = some (i, b) := by rfl) (hk : dstAt ops i = some k := by rfl) : Region.wanted o (yielded ops a.tmps) = (x == b) := yE h hk hv
theorem kR {K : Act → World → Prop} {d : Option Nat} (hK : ∀ v w', FL F i v w' → Below w.heap.size w w' → K (a.put d v) w') (h3 : F[i]? = some (.inl u) := by rfl) : K (a.put d u) w := hK _ _ (by
 unfold FL
 rw [h3]) zT
theorem kH {K : Act → World → Prop} {d : Option Nat} (hK : ∀ v w', FL F i v w' → Below w.heap.size w w' → K (a.put d v) w') (h : Hid (x = u)) (h3 : F[i]? = some (.inl x) := by rfl) : K (a.put d u) w := hK _ _ (by
 unfold FL
 rw [h3]
 exact h.out.symm) zT
end
theorem wpAq (n : Nat) {a b c d e r P Q p f w} (h : wpList p f w (Oper.mk (some n) a b c d e :: r) P Q) : wpList p f w (Oper.mk (some n) a b c d e :: r) P Q := h
theorem wpSt (n : Nat) {o y t b c d e r P Q p f w} (h : wpList p f w (Oper.mk o (.store t (.tmp n) y) b c d e :: r) P Q) : wpList p f w (Oper.mk o (.store t (.tmp n) y) b c d e :: r) P Q := h
end Go.Proofs.YtpjjnmdfgcfnmaaDoor
