/- A region that draws its order, in which some operations (its stages, each of which waits for the one ahead of it, through others) change memory or hand out something new, and the others only read: by the values that the stages have handed out so far. -/
import Derived.Test.YtnbaajplelchjaaGreatDoorDuo
set_option linter.unusedVariables false
set_option linter.unusedSimpArgs false
namespace Go.Proofs.YtnbaajplelchjaaGreatDoor
open Go.RowKit

section
variable {P : Program} {ops : Array Oper} {Q : Exit → Act → World → Prop} {st : List Nat} {M : List Value → World → Prop} {F : List Value}
/-- each stage waits for the one ahead of it -/
def stagesT (ops : Array Oper) (st : List Nat) : Bool := (List.range st.length).all fun j => decide (st.getD j 0 < ops.size) &&
  (j == 0 || waitsB ops (st.getD (j - 1) 0) ops.size (st.getD j 0)) && (List.range st.length).all fun k => j == k || !(st.getD j 0 == st.getD k 0)
/-- an operation's value -/
def valT (st : List Nat) (F vs : List Value) (i : Nat) : Value := match st.findIdx? (· == i) with
  | some j => vs.getD j undef
  | none => F.getD i undef
/-- so many stages may be past where this operation is not -/
def bndT (ops : Array Oper) (st : List Nat) (i : Nat) : Nat := (st.findIdx? fun s => waitsB ops i ops.size s).getD st.length
structure RInvT (ops : Array Oper) (st : List Nat) (F : List Value) (M : List Value → World → Prop) (a0 : Act) (listed : Array Bool) (a : Act) (w : World) : Prop where
  size : listed.size = ops.size
  defs : a.defers = a0.defers
  len : a.tmps.size = a0.tmps.size
  old : ∀ k, (∀ i, dstAt ops i = some k → listed.getD i false = false) → a.tmps[k]? = a0.tmps[k]?
  closed : ∀ j o, listed.getD j false = true → ops[j]? = some o → ∀ e ∈ o.after.toList, Region.binds .any e = true → listed.getD e.on false = true
  stage : ∃ vs, vs.length ≤ st.length ∧ (∀ j, j < st.length → (listed.getD (st.getD j 0) false = true ↔ j < vs.length)) ∧ M vs w ∧ ∀ i, listed.getD i false = true → ∀ k, dstAt ops i = some k → a.tmps[k]? = some (valT st F vs i)
def StepOkT (P : Program) (ops : Array Oper) (Q : Exit → Act → World → Prop) (st : List Nat) (F : List Value) (M : List Value → World → Prop) (a0 : Act) (i : Nat) (o : Oper) : Prop :=
  ∀ a w vs, M vs w → vs.length ≤ bndT ops st i → (∀ k, lateB ops i k = true → a.tmps[k]? = a0.tmps[k]?) → (∀ e ∈ o.after.toList, Region.binds .any e = true → ∀ k, dstAt ops e.on = some k → a.tmps[k]? = some (valT st F vs e.on)) →
    match st.findIdx? (· == i) with
    | none => ∀ K : Act → World → Prop, K (a.put o.dst (F.getD i undef)) w → if Region.wanted o (yielded ops a.tmps) = true then Oper.wp P o a w K Q else K (a.put o.dst undef) w
    | some j => vs.length = j → ∀ K : Act → World → Prop, (∀ v' w', M (vs ++ [v']) w' → K (a.put o.dst v') w') → if Region.wanted o (yielded ops a.tmps) = true then Oper.wp P o a w K Q else K (a.put o.dst undef) w
theorem stagesT_get (h : stagesT ops st = true) {j : Nat} (hj : j < st.length) : st.getD j 0 < ops.size ∧ (∀ j', j = j' + 1 → waitsB ops (st.getD j' 0) ops.size (st.getD j 0) = true) ∧ ∀ k, k < st.length → st.getD j 0 = st.getD k 0 → j = k := by
  unfold stagesT at h
  rw [List.all_eq_true] at h
  have h := h j (List.mem_range.2 hj)
  simp only [Bool.and_eq_true, decide_eq_true_eq] at h
  obtain ⟨⟨h1, h3⟩, h4⟩ := h
  refine ⟨h1, fun j' hj' => ?_, fun k hk he => ?_⟩
  · subst hj'
    simp only [Bool.or_eq_true, beq_iff_eq, Nat.add_eq_zero_iff, Nat.one_ne_zero, and_false, false_or, Nat.add_sub_cancel] at h3
    exact h3
  · rw [List.all_eq_true] at h4
    have := h4 k (List.mem_range.2 hk)
    simp only [Bool.or_eq_true, beq_iff_eq, Bool.not_eq_true', beq_eq_false_iff_ne] at this
    rcases this with h | h
    · exact h
    · exact absurd he h
theorem wpAny_trio {a0 : Act} (hst : stagesT ops st = true) (hb : backB ops = true) (hd : dstsB ops = true) (hs : slotsB ops a0.tmps.size = true)
    (hstep : ∀ i o, ops[i]? = some o → StepOkT P ops Q st F M a0 i o)
    (hend : ∀ a w vs, M vs w → vs.length = st.length → a.defers = a0.defers → a.tmps.size = a0.tmps.size → (∀ k, (∀ i, dstAt ops i ≠ some k) → a.tmps[k]? = a0.tmps[k]?) → (∀ i k, dstAt ops i = some k → a.tmps[k]? = some (valT st F vs i)) → Q .normal a w) :
    ∀ fuel listed a w, RInvT ops st F M a0 listed a w → listed.toList.count false = fuel → wpAny P .any ops Q fuel listed a w := by
  have hfin : ∀ listed a w, RInvT ops st F M a0 listed a w → (∀ i, i < ops.size → listed.getD i true = true) → Q .normal a w := by
    intro listed a w h hall
    have hall' : ∀ i, i < ops.size → listed.getD i false = true := fun i hi => by
      have h1 := hall i hi
      have hi' : i < listed.size := by rw [h.size]; exact hi
      simp only [Array.getD_eq_getD_getElem?, Array.getElem?_eq_getElem hi', Option.getD_some] at h1 ⊢
      exact h1
    obtain ⟨vs, hp, hl, hm, hv⟩ := h.stage
    refine hend a w vs hm ?_ h.defs h.len (fun k hk => h.old k fun i hi => absurd hi (hk i)) (fun i k hk => hv i (hall' i (dstAt_lt hk)) k hk)
    rcases Nat.lt_or_ge vs.length st.length with hlt | hge
    · have := (hl _ hlt).1 (hall' _ (stagesT_get hst hlt).1)
      omega
    · omega
  intro fuel
  induction fuel with
  | zero =>
    intro listed a w h hc
    have hall : ∀ i, i < ops.size → listed.getD i true = true := fun i hi => by
      have := count_none listed.toList hc i (by rw [Array.length_toList, h.size]; exact hi)
      rw [Array.getElem?_toList] at this
      rw [Array.getD_eq_getD_getElem?, this]
      rfl
    refine ⟨?_, hfin listed a w h hall⟩
    unfold Region.ready
    rw [List.filter_eq_nil_iff]
    intro i hi
    rw [hall i (List.mem_range.1 hi)]
    simp
  | succ fuel ih =>
    intro listed a w h hc
    refine ⟨fun hr => hfin listed a w h (ready_nil hb h.size hr), fun i hi => ?_⟩
    have hi2 : i < ops.size ∧ listed.getD i true = false ∧ ((ops[i]?).map (·.after.all fun e => !Region.binds .any e || listed.getD e.on false)).getD false = true := by
      unfold Region.ready at hi
      rw [List.mem_filter, Bool.and_eq_true] at hi
      exact ⟨List.mem_range.1 hi.1, by simpa using hi.2.1, hi.2.2⟩
    obtain ⟨g1, g2, g3⟩ := hi2
    have hil : i < listed.size := by rw [h.size]; exact g1
    have ho : ops[i]? = some ops[i] := Array.getElem?_eq_getElem g1
    rw [ho, Option.map_some, Option.getD_some, Array.all_eq_true_iff_forall_mem] at g3
    have hdi : dstAt ops i = ops[i].dst := by unfold dstAt; rw [ho]; rfl
    have hnl : listed.getD i false = false := by
      rw [Array.getD_eq_getD_getElem?, Array.getElem?_eq_getElem hil] at g2 ⊢
      exact g2
    have hdone : ∀ e ∈ ops[i].after.toList, Region.binds .any e = true → listed.getD e.on false = true := fun e he hbd => by
      have h4 := g3 e (by simpa using he)
      rw [hbd] at h4
      simpa using h4
    have hcnt : (listed.setIfInBounds i true).toList.count false = fuel := by
      have hf : listed.toList[i]? = some false := by
        rw [Array.getElem?_toList, Array.getElem?_eq_getElem hil]
        rw [Array.getD_eq_getD_getElem?, Array.getElem?_eq_getElem hil] at g2
        simpa using g2
      have := count_set_true listed.toList i hf
      rw [Array.toList_setIfInBounds]
      omega
    have hoff : ∀ j, j ≠ i → (listed.setIfInBounds i true).getD j false = listed.getD j false := fun j hij => by
      rw [Array.getD_eq_getD_getElem?, Array.getElem?_setIfInBounds, if_neg (Ne.symm hij), Array.getD_eq_getD_getElem?]
    have hon : (listed.setIfInBounds i true).getD i false = true := by
      rw [Array.getD_eq_getD_getElem?, Array.getElem?_setIfInBounds, if_pos rfl, if_pos hil]
      rfl
    have hkeep : ∀ v j k, j ≠ i → dstAt ops j = some k → (a.put ops[i].dst v).tmps[k]? = a.tmps[k]? := fun v j k hij hk =>
      put_tmps _ _ _ _ (fun e => hij (dsts_one hd hk (by rw [hdi]; exact e)))
    have hsame : ∀ v k, dstAt ops i = some k → (a.put ops[i].dst v).tmps[k]? = some v := fun v k hk => by
      rw [hdi] at hk
      rw [hk]
      refine put_tmps_same _ _ _ ?_
      rw [h.len]
      unfold slotsB at hs
      rw [List.all_eq_true] at hs
      have := hs i (List.mem_range.2 g1)
      rw [hdi, hk] at this
      simpa using this
    obtain ⟨vs, hp, hl, hm, hv⟩ := h.stage
    have hbnd : vs.length ≤ bndT ops st i := by
      unfold bndT
      rcases hf : st.findIdx? (fun s => waitsB ops i ops.size s) with _ | j
      · exact hp
      · rw [List.findIdx?_eq_some_iff_getElem] at hf
        obtain ⟨hj, hw, _⟩ := hf
        have h1 := waits_not h.closed hnl _ _ hw
        have h2 : ¬ j < vs.length := fun hlt => by
          have := (hl j hj).2 hlt
          rw [List.getD_eq_getElem?_getD, List.getElem?_eq_getElem hj, Option.getD_some, h1] at this
          cases this
        exact Nat.le_of_not_lt h2
    have hnext : ∀ v w' vs', vs'.length ≤ st.length → (∀ j, j < st.length → ((listed.setIfInBounds i true).getD (st.getD j 0) false = true ↔ j < vs'.length)) → M vs' w' → (∀ j, listed.getD j false = true → valT st F vs' j = valT st F vs j) → v = valT st F vs' i →
        RInvT ops st F M a0 (listed.setIfInBounds i true) (a.put ops[i].dst v) w' := fun v w' vs' h1 h2 h3 h4 h5 => by
      refine ⟨by simp [h.size], by rw [put_defs]; exact h.defs, by rw [put_len]; exact h.len, fun k hk => ?_, fun j o hj hoj e he hbd => ?_, vs', h1, h2, h3, fun j hj k hk => ?_⟩
      · have hik : dstAt ops i ≠ some k := fun e => by
          have := hk i e
          rw [hon] at this
          cases this
        rw [put_tmps _ _ _ _ (by rw [← hdi]; exact hik)]
        refine h.old k fun j hj => ?_
        have hji : j ≠ i := by
          rintro rfl
          exact hik hj
        have := hk j hj
        rwa [hoff j hji] at this
      · have h1 : listed.getD e.on false = true := by
          by_cases hji : j = i
          · subst hji
            rw [ho] at hoj
            injection hoj with hoj
            subst hoj
            exact hdone e he hbd
          · rw [hoff j hji] at hj
            exact h.closed j o hj hoj e he hbd
        by_cases hei : e.on = i
        · rw [hei]
          exact hon
        · rw [hoff _ hei]
          exact h1
      · by_cases hij : j = i
        · subst hij
          rw [hsame v k hk, h5]
        · rw [hoff j hij] at hj
          rw [hkeep v j k hij hk, hv j hj k hk, h4 j hj]
    refine wpOp_step ho fun K' hK => ?_
    have hso := hstep i _ ho a w vs hm hbnd (fun k hk => h.old k fun j hj => by
      unfold lateB at hk
      rw [List.all_eq_true] at hk
      have := hk j (List.mem_range.2 (dstAt_lt hj))
      rw [hj] at this
      simp only [BEq.rfl, Bool.not_true, Bool.false_or] at this
      exact waits_not h.closed hnl _ _ this) (fun e he hbd k hk => hv e.on (hdone e he hbd) k hk)
    rcases find_stage (st := st) (i := i) with ⟨hf, hne⟩ | ⟨j, hf, hj, he⟩
    · rw [hf] at hso
      refine hso K' (hK _ _ (ih _ _ _ (hnext _ w vs hp (fun j hj => ?_) hm (fun _ _ => rfl) ?_) hcnt))
      · rw [hoff _ (hne j hj)]
        exact hl j hj
      · unfold valT
        rw [hf]
    · rw [hf] at hso
      obtain ⟨s1, s3, s4⟩ := stagesT_get hst hj
      have hpj : vs.length = j := by
        have h1 := hl j hj
        rw [he, hnl] at h1
        have h2 : ¬ j < vs.length := fun hlt => by cases h1.2 hlt
        rcases j with _ | j'
        · omega
        · have h3 := s3 j' rfl
          rcases hj' : listed.getD (st.getD j' 0) false with _ | _
          · exfalso
            -- the operation is ready: what it waits for is past
            have h5 : ∀ n jj, waitsB ops (st.getD j' 0) n jj = true → (jj = i ∨ listed.getD jj false = true) → jj ≠ st.getD j' 0 → False := by
              intro n
              induction n with
              | zero => intro jj h; simp [waitsB] at h
              | succ n ihn =>
                intro jj h hd' hne
                unfold waitsB at h
                rw [Bool.or_eq_true, beq_iff_eq] at h
                rcases h with h | h
                · exact hne h
                · rcases hoj : ops[jj]? with _ | oj
                  · rw [hoj] at h; cases h
                  · rw [hoj] at h
                    simp only [Option.map_some, Option.getD_some, List.any_eq_true, Bool.and_eq_true] at h
                    obtain ⟨e, hme, hbd, hw⟩ := h
                    have hle : listed.getD e.on false = true := by
                      rcases hd' with rfl | hd'
                      · rw [ho] at hoj
                        injection hoj with hoj
                        subst hoj
                        exact hdone e hme hbd
                      · exact h.closed jj oj hd' hoj e hme hbd
                    exact ihn e.on hw (.inr hle) (fun e' => by rw [e', hj'] at hle; cases hle)
            exact h5 _ _ h3 (.inl he) (fun e' => by
              have := s4 j' (by omega) e'
              omega)
          · have := (hl j' (by omega)).1 hj'
            omega
      refine hso hpj K' fun v' w' hM => hK _ _ (ih _ _ _ (hnext v' w' (vs ++ [v']) (by rw [List.length_append, List.length_singleton]; omega) (fun k hk => ?_) hM (fun jj hjj => ?_) ?_) hcnt)
      · rw [List.length_append, List.length_singleton]
        by_cases hkp : k = j
        · subst hkp
          rw [he, hon]
          simp [hpj]
        · rw [hoff _ (fun e' => hkp ((s4 k hk (by rw [he, e'])).symm)), hl k hk]
          omega
      · unfold valT
        rcases find_stage (st := st) (i := jj) with ⟨hf', _⟩ | ⟨j2, hf', hj2, he2⟩
        · rw [hf']
        · rw [hf']
          have := (hl j2 hj2).1 (by rw [he2]; exact hjj)
          show (vs ++ [v']).getD j2 undef = vs.getD j2 undef
          rw [List.getD_eq_getElem?_getD, List.getD_eq_getElem?_getD, List.getElem?_append_left this]
      · unfold valT
        rw [hf]
        show v' = (vs ++ [v']).getD j undef
        rw [List.getD_eq_getElem?_getD, ← hpj, List.getElem?_append_right (Nat.le_refl _), Nat.sub_self]
        rfl
def StepsOkT (P : Program) (ops : Array Oper) (Q : Exit → Act → World → Prop) (st : List Nat) (F : List Value) (M : List Value → World → Prop) (a0 : Act) : Nat → List Oper → Prop
  | _, [] => True
  | i, o :: r => StepOkT P ops Q st F M a0 i o ∧ StepsOkT P ops Q st F M a0 (i + 1) r
theorem steps_getT {a0 : Act} : ∀ (l : List Oper) (n : Nat), StepsOkT P ops Q st F M a0 n l → ∀ i o, l[i]? = some o → StepOkT P ops Q st F M a0 (n + i) o
  | [], _, _, i, o, h => by simp at h
  | x :: l, n, hs, 0, o, h => by
    simp only [List.getElem?_cons_zero, Option.some.injEq] at h
    subst h
    exact hs.1
  | x :: l, n, hs, i + 1, o, h => by
    rw [List.getElem?_cons_succ] at h
    have := steps_getT l (n + 1) hs.2 i o h
    rwa [Nat.add_assoc, Nat.add_comm 1 i] at this
/-- whatever the order: behind all, memory by the stages' values -/
theorem wp_region_trio {id : Nat} {a0 : Act} {w0 : World} {l : List Oper} (st : List Nat) (F : List Value) (M : List Value → World → Prop) (hM0 : M [] w0.drew)
    (hm : P.follows .mixedOrders = true) (hst : stagesT l.toArray st = true) (hb : backB l.toArray = true) (hd : dstsB l.toArray = true) (hs : slotsB l.toArray a0.tmps.size = true)
    (hstep : StepsOkT P l.toArray Q st F M a0 0 l)
    (hend : ∀ w vs, M vs w → vs.length = st.length → ∀ G : List (Value ⊕ (Value → World → Prop)), G = (List.range l.length).map (fun i => Sum.inl (valT st F vs i)) → Fin l G a0 w (fun a w => Q .normal a w)) : (Code.region id l.toArray true).wp P Q a0 w0 := by
  refine wp_region_any hm ?_
  refine wpAny_trio (st := st) (M := M) (F := F) (a0 := a0) hst hb hd hs (fun i o h => by have := steps_getT l 0 hstep i o (by simpa using h); rwa [Nat.zero_add] at this) (fun a w vs h1 h2 h3 h4 h5 h6 => ?_) _ _ _ _ ⟨by simp, rfl, rfl, fun _ _ => rfl, fun i o hi => ?_, [], Nat.zero_le _, fun j hj => ?_, hM0, fun i hi => ?_⟩ (by simp)
  · refine fin_of (K := fun a w => Q .normal a w) l _ a0 a (by simp) h3 h4 h5 (fun i k hk => ?_) (hend w vs h1 h2 _ rfl)
    refine ⟨_, h6 i k hk, ?_⟩
    have hi : i < l.length := by have := dstAt_lt hk; simpa using this
    unfold FL
    rw [List.getElem?_map, List.getElem?_range hi]
    rfl
  · exfalso
    rw [Array.getD_eq_getD_getElem?, Array.getElem?_replicate] at hi
    split at hi
    · cases hi
    · cases hi
  · refine ⟨fun hi => ?_, fun h => absurd h (Nat.not_lt_zero _)⟩
    exfalso
    rw [Array.getD_eq_getD_getElem?, Array.getElem?_replicate] at hi
    split at hi
    · cases hi
    · cases hi
  · exfalso
    rw [Array.getD_eq_getD_getElem?, Array.getElem?_replicate] at hi
    split at hi
    · cases hi
    · cases hi
end
end Go.Proofs.YtnbaajplelchjaaGreatDoor
