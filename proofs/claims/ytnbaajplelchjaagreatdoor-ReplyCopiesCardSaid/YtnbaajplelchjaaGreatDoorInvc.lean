/- A region that draws its order and may write, by what each operation's value is: whatever the order; C: what a step may do to memory. -/
import Derived.Test.YtnbaajplelchjaaGreatDoorInv
set_option linter.unusedVariables false
set_option linter.unusedSimpArgs false
namespace Go.Proofs.YtnbaajplelchjaaGreatDoor
open Go.RowKit

section
variable {P : Program} {ops : Array Oper} {Q : Exit → Act → World → Prop} {C : World → World → Prop}
/-- what a done operation leaves -/
def Left (ops : Array Oper) (F : Nat → Value → World → Prop) (a : Act) (w : World) (i : Nat) : Prop := ∃ v, F i v w ∧ ∀ k, dstAt ops i = some k → a.tmps[k]? = some v
structure RInvC (C : World → World → Prop) (ops : Array Oper) (F : Nat → Value → World → Prop) (a0 : Act) (w0 : World) (listed : Array Bool) (a : Act) (w : World) : Prop where
  size : listed.size = ops.size
  past : C w0 w
  defs : a.defers = a0.defers
  len : a.tmps.size = a0.tmps.size
  old : ∀ k, (∀ i, dstAt ops i ≠ some k) → a.tmps[k]? = a0.tmps[k]?
  done : ∀ i, i < ops.size → listed.getD i false = true → Left ops F a w i
def StepOkC (C : World → World → Prop) (P : Program) (ops : Array Oper) (Q : Exit → Act → World → Prop) (F : Nat → Value → World → Prop) (a0 : Act) (w0 : World) (i : Nat) (o : Oper) : Prop :=
  ∀ a w, C w0 w → (∀ k, (∀ i, dstAt ops i ≠ some k) → a.tmps[k]? = a0.tmps[k]?) → (∀ e ∈ o.after.toList, Region.binds .any e = true → e.on < ops.size → Left ops F a w e.on) →
    ∀ K : Act → World → Prop, (∀ v w', F i v w' → C w w' → K (a.put o.dst v) w') → if Region.wanted o (yielded ops a.tmps) = true then Oper.wp P o a w K Q else K (a.put o.dst undef) w

theorem wpAny_invC {F : Nat → Value → World → Prop} {a0 : Act} {w0 : World} (hCt : ∀ {u v w}, C u v → C v w → C u w) (hb : backB ops = true) (hd : dstsB ops = true) (hs : slotsB ops a0.tmps.size = true)
    (hmono : ∀ i v w w', F i v w → C w w' → F i v w') (hstep : ∀ i o, ops[i]? = some o → StepOkC C P ops Q F a0 w0 i o)
    (hend : ∀ a w, C w0 w → a.defers = a0.defers → a.tmps.size = a0.tmps.size → (∀ k, (∀ i, dstAt ops i ≠ some k) → a.tmps[k]? = a0.tmps[k]?) → (∀ i, i < ops.size → Left ops F a w i) → Q .normal a w) :
    ∀ fuel listed a w, RInvC C ops F a0 w0 listed a w → listed.toList.count false = fuel → wpAny P .any ops Q fuel listed a w := by
  have hfin : ∀ listed a w, RInvC C ops F a0 w0 listed a w → (∀ i, i < ops.size → listed.getD i true = true) → Q .normal a w := by
    intro listed a w h hall
    refine hend a w h.past h.defs h.len h.old fun i hi => h.done i hi ?_
    have h1 := hall i hi
    have hi' : i < listed.size := by rw [h.size]; exact hi
    simp only [Array.getD_eq_getD_getElem?, Array.getElem?_eq_getElem hi', Option.getD_some] at h1 ⊢
    exact h1
  intro fuel
  induction fuel with
  | zero =>
    intro listed a w h hc
    have hall : ∀ i, i < ops.size → listed.getD i true = true := fun i hi => by
      have := count_none listed.toList hc i (by rw [Array.length_toList, h.size]; exact hi)
      rw [Array.getElem?_toList] at this
      rw [Array.getD_eq_getD_getElem?, this]
      rfl
    refine ⟨?_, hfin listed a w h hall⟩
    unfold Region.ready
    rw [List.filter_eq_nil_iff]
    intro i hi
    rw [hall i (List.mem_range.1 hi)]
    simp
  | succ fuel ih =>
    intro listed a w h hc
    refine ⟨fun hr => hfin listed a w h (ready_nil hb h.size hr), fun i hi => ?_⟩
    have hi2 : i < ops.size ∧ listed.getD i true = false ∧ ((ops[i]?).map (·.after.all fun e => !Region.binds .any e || listed.getD e.on false)).getD false = true := by
      unfold Region.ready at hi
      rw [List.mem_filter, Bool.and_eq_true] at hi
      exact ⟨List.mem_range.1 hi.1, by simpa using hi.2.1, hi.2.2⟩
    obtain ⟨g1, g2, g3⟩ := hi2
    have hil : i < listed.size := by rw [h.size]; exact g1
    have ho : ops[i]? = some ops[i] := Array.getElem?_eq_getElem g1
    rw [ho, Option.map_some, Option.getD_some, Array.all_eq_true_iff_forall_mem] at g3
    refine wpOp_step ho fun K' hK => ?_
    refine hstep i _ ho a w h.past h.old (fun e he hbd hlt => ?_) K' fun v w' hv hbl => hK _ _ (ih _ _ _ ?_ ?_)
    · have h4 := g3 e (by simpa using he)
      rw [hbd] at h4
      exact h.done e.on hlt (by simpa using h4)
    · have hdi : dstAt ops i = ops[i].dst := by unfold dstAt; rw [ho]; rfl
      refine ⟨by simp [h.size], hCt h.past hbl, by rw [put_defs]; exact h.defs, by rw [put_len]; exact h.len, fun k hk => ?_, fun j hjs hj => ?_⟩
      · rw [put_tmps _ _ _ _ (by rw [← hdi]; exact hk i)]
        exact h.old k hk
      · by_cases hij : j = i
        · subst hij
          refine ⟨v, hv, fun k hk => ?_⟩
          rw [hdi] at hk
          rw [hk]
          refine put_tmps_same _ _ _ ?_
          rw [h.len]
          unfold slotsB at hs
          rw [List.all_eq_true] at hs
          have := hs j (List.mem_range.2 g1)
          rw [hdi, hk] at this
          simpa using this
        · have hj' : listed.getD j false = true := by
            rw [Array.getD_eq_getD_getElem?, Array.getElem?_setIfInBounds, if_neg (Ne.symm hij)] at hj
            rw [Array.getD_eq_getD_getElem?]
            exact hj
          obtain ⟨u, hF, hu⟩ := h.done j hjs hj'
          refine ⟨u, hmono j u w w' hF hbl, fun k hk => ?_⟩
          rw [put_tmps _ _ _ _ (fun e => hij (dsts_one hd hk (by rw [hdi]; exact e)))]
          exact hu k hk
    · have hf : listed.toList[i]? = some false := by
        rw [Array.getElem?_toList, Array.getElem?_eq_getElem hil]
        rw [Array.getD_eq_getD_getElem?, Array.getElem?_eq_getElem hil] at g2
        simpa using g2
      have := count_set_true listed.toList i hf
      rw [Array.toList_setIfInBounds]
      omega
def StepsOkC (C : World → World → Prop) (P : Program) (ops : Array Oper) (Q : Exit → Act → World → Prop) (F : Nat → Value → World → Prop) (a0 : Act) (w0 : World) : Nat → List Oper → Prop
  | _, [] => True
  | i, o :: r => StepOkC C P ops Q F a0 w0 i o ∧ StepsOkC C P ops Q F a0 w0 (i + 1) r
theorem steps_getC {F : Nat → Value → World → Prop} {a0 : Act} {w0 : World} : ∀ (l : List Oper) (n : Nat), StepsOkC C P ops Q F a0 w0 n l → ∀ i o, l[i]? = some o → StepOkC C P ops Q F a0 w0 (n + i) o
  | [], _, _, i, o, h => by simp at h
  | x :: l, n, hs, 0, o, h => by
    simp only [List.getElem?_cons_zero, Option.some.injEq] at h
    subst h
    exact hs.1
  | x :: l, n, hs, i + 1, o, h => by
    rw [List.getElem?_cons_succ] at h
    have := steps_getC l (n + 1) hs.2 i o h
    rwa [Nat.add_assoc, Nat.add_comm 1 i] at this
theorem FL.monoC {l : List (Value ⊕ (Value → World → Prop))} (h : ∀ p, Sum.inr p ∈ l → ∀ v w w', p v w → C w w' → p v w') : ∀ i v w w', FL l i v w → C w w' → FL l i v w' := by
  intro i v w w' hF hb
  unfold FL at hF ⊢
  split at hF
  · exact hF
  · rename_i p hp
    exact h p (List.mem_of_getElem? hp) v w w' hF hb
  · trivial
theorem wp_region_stepsC {id : Nat} {a0 : Act} {w0 : World} {l : List Oper} (C : World → World → Prop) (F : List (Value ⊕ (Value → World → Prop))) (hCd : C w0 w0.drew) (hCt : ∀ {u v w}, C u v → C v w → C u w) (hm : P.follows .mixedOrders = true) (hb : backB l.toArray = true) (hd : dstsB l.toArray = true) (hs : slotsB l.toArray a0.tmps.size = true)
    (hmono : ∀ p, Sum.inr p ∈ F → ∀ v w w', p v w → C w w' → p v w') (hstep : StepsOkC C P l.toArray Q (FL F) a0 w0 0 l)
    (hend : ∀ a w, C w0 w → a.defers = a0.defers → a.tmps.size = a0.tmps.size → (∀ k, (∀ i, dstAt l.toArray i ≠ some k) → a.tmps[k]? = a0.tmps[k]?) → (∀ i, i < l.length → Left l.toArray (FL F) a w i) → Q .normal a w) :
    (Code.region id l.toArray true).wp P Q a0 w0 := by
  refine wp_region_any hm ?_
  refine wpAny_invC (C := C) (a0 := a0) (w0 := w0) (F := FL F) hCt hb hd hs (FL.monoC hmono) (fun i o h => by have := steps_getC l 0 hstep i o (by simpa using h); rwa [Nat.zero_add] at this) (fun a w h1 h2 h3 h4 h5 => hend a w h1 h2 h3 h4 (fun i hi => h5 i (by simpa using hi))) _ _ _ _ ⟨by simp, hCd, rfl, rfl, fun _ _ => rfl, fun i _ hi => ?_⟩ (by simp)
  exfalso
  rw [Array.getD_eq_getD_getElem?, Array.getElem?_replicate] at hi
  split at hi
  · cases hi
  · cases hi
theorem left_val {F : List (Value ⊕ (Value → World → Prop))} {a : Act} {w : World} {i k : Nat} {u : Value} (h : Left ops (FL F) a w i) (hF : F[i]? = some (.inl u)) (hk : dstAt ops i = some k) : a.tmps[k]? = some u := by
  obtain ⟨v, h1, h2⟩ := h
  unfold FL at h1
  rw [hF] at h1
  have h3 : v = u := h1
  rw [← h3]
  exact h2 k hk
theorem left_fact {F : List (Value ⊕ (Value → World → Prop))} {a : Act} {w : World} {i : Nat} {p : Value → World → Prop} (h : Left ops (FL F) a w i) (hF : F[i]? = some (.inr p)) : ∃ v, p v w ∧ ∀ k, dstAt ops i = some k → a.tmps[k]? = some v := by
  obtain ⟨v, h1, h2⟩ := h
  unfold FL at h1
  rw [hF] at h1
  exact ⟨v, h1, h2⟩
end
end Go.Proofs.YtnbaajplelchjaaGreatDoor
