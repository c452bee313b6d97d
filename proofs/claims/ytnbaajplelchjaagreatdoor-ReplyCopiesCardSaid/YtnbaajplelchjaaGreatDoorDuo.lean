/- A region that draws its order, in which some operations (its stages, each of which waits for the one ahead of it) change memory, and the others only read. -/
import Derived.Test.YtnbaajplelchjaaGreatDoorSeq
import Derived.Test.YtnbaajplelchjaaGreatDoorInvc
set_option linter.unusedVariables false
set_option linter.unusedSimpArgs false
namespace Go.Proofs.YtnbaajplelchjaaGreatDoor
open Go.RowKit

section
variable {P : Program} {ops : Array Oper} {Q : Exit → Act → World → Prop} {C : World → World → Prop} {st : List Nat} {M : Nat → Value → World → Prop}
/-- each stage waits for the one ahead of it, and writes a slot -/
def stagesB (ops : Array Oper) (st : List Nat) : Bool := (List.range st.length).all fun j => decide (st.getD j 0 < ops.size) && (dstAt ops (st.getD j 0)).isSome &&
  (j == 0 || ((ops[st.getD j 0]?).map fun o => o.after.toList.any fun e => Region.binds .any e && e.on == st.getD (j - 1) 0).getD false) && (List.range st.length).all fun k => j == k || !(st.getD j 0 == st.getD k 0)
/-- what memory is behind p stages -/
def MemAt (ops : Array Oper) (st : List Nat) (M : Nat → Value → World → Prop) (p : Nat) (a : Act) (w : World) : Prop :=
  ∃ v, M p v w ∧ ∀ j, p = j + 1 → ∀ k, dstAt ops (st.getD j 0) = some k → a.tmps[k]? = some v
/-- an operation waits for another one, through others -/
def waitsB (ops : Array Oper) (i : Nat) : Nat → Nat → Bool
  | 0, _ => false
  | n + 1, j => j == i || ((ops[j]?).map fun o => o.after.toList.any fun e => Region.binds .any e && waitsB ops i n e.on).getD false
/-- whatever writes the slot waits for this operation -/
def lateB (ops : Array Oper) (i k : Nat) : Bool := (List.range ops.size).all fun j => !(dstAt ops j == some k) || waitsB ops i ops.size j
structure RInvD (C : World → World → Prop) (ops : Array Oper) (st : List Nat) (M : Nat → Value → World → Prop) (F : Nat → Value → World → Prop) (a0 : Act) (w0 : World) (listed : Array Bool) (a : Act) (w : World) : Prop where
  size : listed.size = ops.size
  past : C w0 w
  defs : a.defers = a0.defers
  len : a.tmps.size = a0.tmps.size
  old : ∀ k, (∀ i, dstAt ops i = some k → listed.getD i false = false) → a.tmps[k]? = a0.tmps[k]?
  closed : ∀ j o, listed.getD j false = true → ops[j]? = some o → ∀ e ∈ o.after.toList, Region.binds .any e = true → listed.getD e.on false = true
  done : ∀ i, listed.getD i false = true → ∀ k, dstAt ops i = some k → ∃ v, a.tmps[k]? = some v ∧ F i v w
  stage : ∃ p, p ≤ st.length ∧ (∀ j, j < st.length → (listed.getD (st.getD j 0) false = true ↔ j < p)) ∧ MemAt ops st M p a w
def StepOkD (C : World → World → Prop) (P : Program) (ops : Array Oper) (Q : Exit → Act → World → Prop) (st : List Nat) (M : Nat → Value → World → Prop) (F : Nat → Value → World → Prop) (a0 : Act) (w0 : World) (i : Nat) (o : Oper) : Prop :=
  ∀ a w, C w0 w → (∀ k, lateB ops i k = true → a.tmps[k]? = a0.tmps[k]?) → (∀ e ∈ o.after.toList, Region.binds .any e = true → ∀ k, dstAt ops e.on = some k → ∃ v, a.tmps[k]? = some v ∧ F e.on v w) →
    match st.findIdx? (· == i) with
    | none => ∀ K : Act → World → Prop, (∀ v, F i v w → K (a.put o.dst v) w) → if Region.wanted o (yielded ops a.tmps) = true then Oper.wp P o a w K Q else K (a.put o.dst undef) w
    | some j => ∀ v, M j v w → (∀ j', j = j' + 1 → ∀ k, dstAt ops (st.getD j' 0) = some k → a.tmps[k]? = some v) →
      ∀ K : Act → World → Prop, (∀ v' w', M (j + 1) v' w' → F i v' w' → C w w' → K (a.put o.dst v') w') → if Region.wanted o (yielded ops a.tmps) = true then Oper.wp P o a w K Q else K (a.put o.dst undef) w
theorem waits_not {listed : Array Bool} (hcl : ∀ j o, listed.getD j false = true → ops[j]? = some o → ∀ e ∈ o.after.toList, Region.binds .any e = true → listed.getD e.on false = true) {i : Nat} (hi : listed.getD i false = false) :
    ∀ n j, waitsB ops i n j = true → listed.getD j false = false
  | 0, _, h => by simp [waitsB] at h
  | n + 1, j, h => by
    unfold waitsB at h
    rw [Bool.or_eq_true, beq_iff_eq] at h
    rcases h with rfl | h
    · exact hi
    · rcases ho : ops[j]? with _ | o
      · rw [ho] at h
        cases h
      · rw [ho] at h
        simp only [Option.map_some, Option.getD_some, List.any_eq_true, Bool.and_eq_true] at h
        obtain ⟨e, he, hb, hw⟩ := h
        have h1 := waits_not hcl hi n e.on hw
        rcases hj : listed.getD j false with _ | _
        · rfl
        · rw [hcl j o hj ho e he hb] at h1
          cases h1
theorem stages_get (h : stagesB ops st = true) {j : Nat} (hj : j < st.length) : st.getD j 0 < ops.size ∧ (∃ k, dstAt ops (st.getD j 0) = some k) ∧ (∀ j', j = j' + 1 → ∀ o, ops[st.getD j 0]? = some o → ∃ e ∈ o.after.toList, Region.binds .any e = true ∧ e.on = st.getD j' 0) ∧ ∀ k, k < st.length → st.getD j 0 = st.getD k 0 → j = k := by
  unfold stagesB at h
  rw [List.all_eq_true] at h
  have h := h j (List.mem_range.2 hj)
  simp only [Bool.and_eq_true, decide_eq_true_eq] at h
  obtain ⟨⟨⟨h1, h2⟩, h3⟩, h4⟩ := h
  refine ⟨h1, Option.isSome_iff_exists.1 h2, fun j' hj' o ho => ?_, fun k hk he => ?_⟩
  · subst hj'
    rw [ho] at h3
    simp only [Option.map_some, Option.getD_some, Bool.or_eq_true, beq_iff_eq, Nat.add_eq_zero_iff, Nat.one_ne_zero, and_false, false_or, Nat.add_sub_cancel, List.any_eq_true, Bool.and_eq_true] at h3
    obtain ⟨e, he, hb, hon⟩ := h3
    exact ⟨e, he, hb, hon⟩
  · rw [List.all_eq_true] at h4
    have := h4 k (List.mem_range.2 hk)
    simp only [Bool.or_eq_true, beq_iff_eq, Bool.not_eq_true', beq_eq_false_iff_ne] at this
    rcases this with h | h
    · exact h
    · exact absurd he h
theorem find_stage {i : Nat} : (st.findIdx? (· == i) = none ∧ ∀ j, j < st.length → st.getD j 0 ≠ i) ∨ ∃ j, st.findIdx? (· == i) = some j ∧ j < st.length ∧ st.getD j 0 = i := by
  rcases h : st.findIdx? (· == i) with _ | j
  · refine .inl ⟨rfl, fun j hj he => ?_⟩
    rw [List.findIdx?_eq_none_iff] at h
    have := h (st.getD j 0) (by rw [List.getD_eq_getElem?_getD, List.getElem?_eq_getElem hj]; exact List.getElem_mem _)
    rw [he] at this
    simp at this
  · refine .inr ⟨j, rfl, ?_⟩
    rw [List.findIdx?_eq_some_iff_getElem] at h
    obtain ⟨hj, h1, _⟩ := h
    refine ⟨hj, ?_⟩
    rw [List.getD_eq_getElem?_getD, List.getElem?_eq_getElem hj]
    simpa using h1
theorem wpAny_duo {F : Nat → Value → World → Prop} {a0 : Act} {w0 : World} (hCt : ∀ {u v w}, C u v → C v w → C u w) (hCr : ∀ u, C u u) (hst : stagesB ops st = true) (hb : backB ops = true) (hd : dstsB ops = true) (hs : slotsB ops a0.tmps.size = true)
    (hmono : ∀ i v w w', F i v w → C w w' → F i v w') (hstep : ∀ i o, ops[i]? = some o → StepOkD C P ops Q st M F a0 w0 i o)
    (hend : ∀ a w, C w0 w → a.defers = a0.defers → a.tmps.size = a0.tmps.size → (∀ k, (∀ i, dstAt ops i ≠ some k) → a.tmps[k]? = a0.tmps[k]?) → (∀ i k, dstAt ops i = some k → ∃ v, a.tmps[k]? = some v ∧ F i v w) → MemAt ops st M st.length a w → Q .normal a w) :
    ∀ fuel listed a w, RInvD C ops st M F a0 w0 listed a w → listed.toList.count false = fuel → wpAny P .any ops Q fuel listed a w := by
  have hfin : ∀ listed a w, RInvD C ops st M F a0 w0 listed a w → (∀ i, i < ops.size → listed.getD i true = true) → Q .normal a w := by
    intro listed a w h hall
    have hall' : ∀ i, i < ops.size → listed.getD i false = true := fun i hi => by
      have h1 := hall i hi
      have hi' : i < listed.size := by rw [h.size]; exact hi
      simp only [Array.getD_eq_getD_getElem?, Array.getElem?_eq_getElem hi', Option.getD_some] at h1 ⊢
      exact h1
    refine hend a w h.past h.defs h.len (fun k hk => h.old k fun i hi => absurd hi (hk i)) (fun i k hk => h.done i (hall' i (dstAt_lt hk)) k hk) ?_
    obtain ⟨p, hp, hl, hm⟩ := h.stage
    have : p = st.length := by
      rcases Nat.lt_or_ge p st.length with hlt | hge
      · have := (hl p hlt).1 (hall' _ (stages_get hst hlt).1)
        omega
      · omega
    rwa [this] at hm
  intro fuel
  induction fuel with
  | zero =>
    intro listed a w h hc
    have hall : ∀ i, i < ops.size → listed.getD i true = true := fun i hi => by
      have := count_none listed.toList hc i (by rw [Array.length_toList, h.size]; exact hi)
      rw [Array.getElem?_toList] at this
      rw [Array.getD_eq_getD_getElem?, this]
      rfl
    refine ⟨?_, hfin listed a w h hall⟩
    unfold Region.ready
    rw [List.filter_eq_nil_iff]
    intro i hi
    rw [hall i (List.mem_range.1 hi)]
    simp
  | succ fuel ih =>
    intro listed a w h hc
    refine ⟨fun hr => hfin listed a w h (ready_nil hb h.size hr), fun i hi => ?_⟩
    have hi2 : i < ops.size ∧ listed.getD i true = false ∧ ((ops[i]?).map (·.after.all fun e => !Region.binds .any e || listed.getD e.on false)).getD false = true := by
      unfold Region.ready at hi
      rw [List.mem_filter, Bool.and_eq_true] at hi
      exact ⟨List.mem_range.1 hi.1, by simpa using hi.2.1, hi.2.2⟩
    obtain ⟨g1, g2, g3⟩ := hi2
    have hil : i < listed.size := by rw [h.size]; exact g1
    have ho : ops[i]? = some ops[i] := Array.getElem?_eq_getElem g1
    rw [ho, Option.map_some, Option.getD_some, Array.all_eq_true_iff_forall_mem] at g3
    have hdi : dstAt ops i = ops[i].dst := by unfold dstAt; rw [ho]; rfl
    have hnl : listed.getD i false = false := by
      rw [Array.getD_eq_getD_getElem?, Array.getElem?_eq_getElem hil] at g2 ⊢
      exact g2
    have hdone : ∀ e ∈ ops[i].after.toList, Region.binds .any e = true → listed.getD e.on false = true := fun e he hbd => by
      have h4 := g3 e (by simpa using he)
      rw [hbd] at h4
      simpa using h4
    have hcnt : (listed.setIfInBounds i true).toList.count false = fuel := by
      have hf : listed.toList[i]? = some false := by
        rw [Array.getElem?_toList, Array.getElem?_eq_getElem hil]
        rw [Array.getD_eq_getD_getElem?, Array.getElem?_eq_getElem hil] at g2
        simpa using g2
      have := count_set_true listed.toList i hf
      rw [Array.toList_setIfInBounds]
      omega
    have hoff : ∀ j, j ≠ i → (listed.setIfInBounds i true).getD j false = listed.getD j false := fun j hij => by
      rw [Array.getD_eq_getD_getElem?, Array.getElem?_setIfInBounds, if_neg (Ne.symm hij), Array.getD_eq_getD_getElem?]
    have hon : (listed.setIfInBounds i true).getD i false = true := by
      rw [Array.getD_eq_getD_getElem?, Array.getElem?_setIfInBounds, if_pos rfl, if_pos hil]
      rfl
    have hkeep : ∀ v j k, j ≠ i → dstAt ops j = some k → (a.put ops[i].dst v).tmps[k]? = a.tmps[k]? := fun v j k hij hk =>
      put_tmps _ _ _ _ (fun e => hij (dsts_one hd hk (by rw [hdi]; exact e)))
    have hsame : ∀ v k, dstAt ops i = some k → (a.put ops[i].dst v).tmps[k]? = some v := fun v k hk => by
      rw [hdi] at hk
      rw [hk]
      refine put_tmps_same _ _ _ ?_
      rw [h.len]
      unfold slotsB at hs
      rw [List.all_eq_true] at hs
      have := hs i (List.mem_range.2 g1)
      rw [hdi, hk] at this
      simpa using this
    have hnext : ∀ v w', F i v w' → C w w' → (∃ p, p ≤ st.length ∧ (∀ j, j < st.length → ((listed.setIfInBounds i true).getD (st.getD j 0) false = true ↔ j < p)) ∧ MemAt ops st M p (a.put ops[i].dst v) w') →
        RInvD C ops st M F a0 w0 (listed.setIfInBounds i true) (a.put ops[i].dst v) w' := fun v w' hF hC hS => by
      refine ⟨by simp [h.size], hCt h.past hC, by rw [put_defs]; exact h.defs, by rw [put_len]; exact h.len, fun k hk => ?_, fun j o hj hoj e he hbd => ?_, fun j hj k hk => ?_, hS⟩
      · have hik : dstAt ops i ≠ some k := fun e => by
          have := hk i e
          rw [hon] at this
          cases this
        rw [put_tmps _ _ _ _ (by rw [← hdi]; exact hik)]
        refine h.old k fun j hj => ?_
        have hji : j ≠ i := by
          rintro rfl
          exact hik hj
        have := hk j hj
        rwa [hoff j hji] at this
      · have h1 : listed.getD e.on false = true := by
          by_cases hji : j = i
          · subst hji
            rw [ho] at hoj
            injection hoj with hoj
            subst hoj
            exact hdone e he hbd
          · rw [hoff j hji] at hj
            exact h.closed j o hj hoj e he hbd
        by_cases hei : e.on = i
        · rw [hei]
          exact hon
        · rw [hoff _ hei]
          exact h1
      · by_cases hij : j = i
        · subst hij
          exact ⟨v, hsame v k hk, hF⟩
        · rw [hoff j hij] at hj
          obtain ⟨u, hu, hFu⟩ := h.done j hj k hk
          exact ⟨u, by rw [hkeep v j k hij hk]; exact hu, hmono j u w w' hFu hC⟩
    refine wpOp_step ho fun K' hK => ?_
    have hso := hstep i _ ho a w h.past (fun k hk => h.old k fun j hj => by
      unfold lateB at hk
      rw [List.all_eq_true] at hk
      have := hk j (List.mem_range.2 (dstAt_lt hj))
      rw [hj] at this
      simp only [BEq.rfl, Bool.not_true, Bool.false_or] at this
      exact waits_not h.closed hnl _ _ this) (fun e he hbd k hk => h.done e.on (hdone e he hbd) k hk)
    obtain ⟨p, hp, hl, v0, hm, hv0⟩ := h.stage
    rcases find_stage (st := st) (i := i) with ⟨hf, hne⟩ | ⟨j, hf, hj, he⟩
    · rw [hf] at hso
      refine hso K' fun v hv => hK _ _ (ih _ _ _ (hnext v w hv (hCr w) ⟨p, hp, fun j hj => ?_, v0, hm, fun j hj k hk => ?_⟩) hcnt)
      · rw [hoff _ (hne j hj)]
        exact hl j hj
      · rw [hkeep v _ k (hne j (by omega)) hk]
        exact hv0 j hj k hk
    · rw [hf] at hso
      obtain ⟨s1, s2, s3, s4⟩ := stages_get hst hj
      have hpj : p = j := by
        have h1 := hl j hj
        rw [he, hnl] at h1
        have h2 : ¬ j < p := fun hlt => by cases h1.2 hlt
        rcases j with _ | j'
        · omega
        · obtain ⟨e, hme, hbd, hon'⟩ := s3 j' rfl ops[i] (by rw [he]; exact ho)
          have h3 := hdone e hme hbd
          rw [hon'] at h3
          have := (hl j' (by omega)).1 h3
          omega
      subst hpj
      refine hso v0 hm hv0 K' fun v' w' hM hF hC => hK _ _ (ih _ _ _ (hnext v' w' hF hC ⟨p + 1, hj, fun k hk => ?_, v', hM, fun k hk k' hk' => ?_⟩) hcnt)
      · by_cases hkp : k = p
        · subst hkp
          rw [he, hon]
          simp
        · rw [hoff _ (fun e' => hkp ((s4 k hk (by rw [he, e'])).symm))]
          rw [hl k hk]
          omega
      · obtain rfl : k = p := by omega
        exact hsame v' k' (by rw [← he]; exact hk')
def StepsOkD (C : World → World → Prop) (P : Program) (ops : Array Oper) (Q : Exit → Act → World → Prop) (st : List Nat) (M : Nat → Value → World → Prop) (F : Nat → Value → World → Prop) (a0 : Act) (w0 : World) : Nat → List Oper → Prop
  | _, [] => True
  | i, o :: r => StepOkD C P ops Q st M F a0 w0 i o ∧ StepsOkD C P ops Q st M F a0 w0 (i + 1) r
theorem steps_getD {F : Nat → Value → World → Prop} {a0 : Act} {w0 : World} : ∀ (l : List Oper) (n : Nat), StepsOkD C P ops Q st M F a0 w0 n l → ∀ i o, l[i]? = some o → StepOkD C P ops Q st M F a0 w0 (n + i) o
  | [], _, _, i, o, h => by simp at h
  | x :: l, n, hs, 0, o, h => by
    simp only [List.getElem?_cons_zero, Option.some.injEq] at h
    subst h
    exact hs.1
  | x :: l, n, hs, i + 1, o, h => by
    rw [List.getElem?_cons_succ] at h
    have := steps_getD l (n + 1) hs.2 i o h
    rwa [Nat.add_assoc, Nat.add_comm 1 i] at this
/-- of a stage's value nothing is told by its place -/
def Tt : Value → World → Prop := fun _ _ => True
def AllTt : List (Value ⊕ (Value → World → Prop)) → Prop
  | [] => True
  | .inl _ :: r => AllTt r
  | .inr p :: r => p = Tt ∧ AllTt r
theorem AllTt.mono : ∀ {F : List (Value ⊕ (Value → World → Prop))}, AllTt F → ∀ p, Sum.inr p ∈ F → ∀ v w w', p v w → C w w' → p v w'
  | [], _, p, hp => by cases hp
  | .inl _ :: r, h, p, hp => by
    rcases List.mem_cons.1 hp with e | e
    · cases e
    · exact AllTt.mono (F := r) h p e
  | .inr q :: r, h, p, hp => by
    rcases List.mem_cons.1 hp with e | e
    · injection e with e
      subst e
      rw [h.1]
      intro v w w' _ _
      trivial
    · exact AllTt.mono (F := r) h.2 p e
/-- whatever the order: the last stage's value is told, behind all -/
theorem wp_region_duo {id : Nat} {a0 : Act} {w0 : World} {l : List Oper} (C : World → World → Prop) (st : List Nat) (last : Nat) (M : Nat → Value → World → Prop) (F : List (Value ⊕ (Value → World → Prop))) (v0 : Value) (hM0 : M 0 v0 w0.drew) (hlast : st.getLast? = some last)
    (hCd : C w0 w0.drew) (hCt : ∀ {u v w}, C u v → C v w → C u w) (hCr : ∀ u, C u u) (hl : l.length = F.length) (hm : P.follows .mixedOrders = true) (hst : stagesB l.toArray st = true) (hb : backB l.toArray = true) (hd : dstsB l.toArray = true) (hs : slotsB l.toArray a0.tmps.size = true)
    (hT : AllTt F)
    (hstep : StepsOkD C P l.toArray Q st M (FL F) a0 w0 0 l)
    (hend : ∀ w v, C w0 w → M st.length v w → Fin l (F.set last (.inl v)) a0 w (fun a w => Q .normal a w)) : (Code.region id l.toArray true).wp P Q a0 w0 := by
  refine wp_region_any hm ?_
  have hmono : ∀ i v w w', FL F i v w → C w w' → FL F i v w' := FL.monoC (AllTt.mono hT)
  refine wpAny_duo (C := C) (st := st) (M := M) (a0 := a0) (w0 := w0) (F := FL F) hCt hCr hst hb hd hs hmono (fun i o h => by have := steps_getD l 0 hstep i o (by simpa using h); rwa [Nat.zero_add] at this) (fun a w h1 h2 h3 h4 h5 h6 => ?_) _ _ _ _ ⟨by simp, hCd, rfl, rfl, fun _ _ => rfl, fun i o hi => ?_, fun i hi => ?_, 0, Nat.zero_le _, fun j hj => ?_, v0, hM0, fun j hj => by omega⟩ (by simp)
  · obtain ⟨v, hM, hv⟩ := h6
    refine fin_of (K := fun a w => Q .normal a w) l (F.set last (.inl v)) a0 a (by rw [List.length_set]; exact hl) h2 h3 h4 (fun i k hk => ?_) (hend w v h1 hM)
    obtain ⟨u, hu, hFu⟩ := h5 i k hk
    refine ⟨u, hu, ?_⟩
    by_cases hi : i = last
    · subst hi
      have hne : st ≠ [] := by rintro rfl; cases hlast
      have hlen : 0 < st.length := List.length_pos_iff.2 hne
      have := hv (st.length - 1) (by omega) k (by
        rw [List.getLast?_eq_getElem?] at hlast
        rw [List.getD_eq_getElem?_getD, hlast]
        exact hk)
      rw [hu] at this
      injection this with this
      unfold FL
      rw [List.getElem?_set, if_pos rfl]
      split
      · rename_i h; split at h
        · injection h with h; injection h with h; rw [this, h]
        · cases h
      · rename_i h; split at h
        · injection h with h; cases h
        · cases h
      · trivial
    · unfold FL at hFu ⊢
      rw [List.getElem?_set, if_neg (Ne.symm hi)]
      exact hFu
  · exfalso
    rw [Array.getD_eq_getD_getElem?, Array.getElem?_replicate] at hi
    split at hi
    · cases hi
    · cases hi
  · exfalso
    rw [Array.getD_eq_getD_getElem?, Array.getElem?_replicate] at hi
    split at hi
    · cases hi
    · cases hi
  · refine ⟨fun hi => ?_, fun h => absurd h (Nat.not_lt_zero _)⟩
    exfalso
    rw [Array.getD_eq_getD_getElem?, Array.getElem?_replicate] at hi
    split at hi
    · cases hi
    · cases hi
end
end Go.Proofs.YtnbaajplelchjaaGreatDoor
