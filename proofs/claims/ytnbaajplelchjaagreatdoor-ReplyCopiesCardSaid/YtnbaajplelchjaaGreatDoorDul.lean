/- A region that draws its order, whose last operation waits for all others, through others, and writes. -/
import Derived.Test.YtnbaajplelchjaaGreatDoorDuo
import Derived.Test.YtnbaajplelchjaaGreatDoorTail
set_option linter.unusedVariables false
set_option linter.unusedSimpArgs false
namespace Go.Proofs.YtnbaajplelchjaaGreatDoor
open Go.RowKit

section
variable {P : Program} {ops : Array Oper} {Q : Exit → Act → World → Prop}
/-- what is listed waits for nothing that is not -/
def Closed (ops : Array Oper) (listed : Array Bool) : Prop := ∀ j o, listed.getD j false = true → ops[j]? = some o → ∀ e ∈ o.after.toList, Region.binds .any e = true → listed.getD e.on false = true
theorem closed_set {listed : Array Bool} (hcl : Closed ops listed) {i : Nat} {oi : Oper} (ho : ops[i]? = some oi) (hil : i < listed.size) (hd : ∀ e ∈ oi.after.toList, Region.binds .any e = true → listed.getD e.on false = true) : Closed ops (listed.setIfInBounds i true) := by
  have hoff : ∀ j, j ≠ i → (listed.setIfInBounds i true).getD j false = listed.getD j false := fun j hij => by
    rw [Array.getD_eq_getD_getElem?, Array.getElem?_setIfInBounds, if_neg (Ne.symm hij), Array.getD_eq_getD_getElem?]
  intro j o hj hoj e he hbd
  have h1 : listed.getD e.on false = true := by
    by_cases hji : j = i
    · subst hji
      rw [ho] at hoj
      injection hoj with hoj
      subst hoj
      exact hd e he hbd
    · rw [hoff j hji] at hj
      exact hcl j o hj hoj e he hbd
  by_cases hei : e.on = i
  · rw [hei, Array.getD_eq_getD_getElem?, Array.getElem?_setIfInBounds, if_pos rfl, if_pos hil]
    rfl
  · rw [hoff _ hei]
    exact h1
/-- the last one waits for all others, through others, and writes no slot -/
def lastU (ops : Array Oper) (n : Nat) : Bool := decide (ops.size = n + 1) && (dstAt ops n).isNone && (List.range n).all fun j => waitsB ops j ops.size n
theorem wpAny_invU {n : Nat} {oL : Oper} {F : Nat → Value → World → Prop} {a0 : Act} {w0 : World} (hb : backB ops = true) (hd : dstsB ops = true) (hs : slotsB ops a0.tmps.size = true) (hl : lastU ops n = true) (hoL : ops[n]? = some oL)
    (hmono : ∀ i v w w', F i v w → Below w.heap.size w w' → F i v w') (hstep : ∀ i o, i < n → ops[i]? = some o → StepOk P ops Q F a0 w0 i o)
    (hend : ∀ a w, Below w0.heap.size w0 w → a.defers = a0.defers → a.tmps.size = a0.tmps.size → (∀ k, (∀ i, dstAt ops i ≠ some k) → a.tmps[k]? = a0.tmps[k]?) → (∀ i k, dstAt ops i = some k → ∃ v, a.tmps[k]? = some v ∧ F i v w) → StepL P ops Q oL a w) :
    ∀ fuel listed a w, RInv ops F a0 w0 listed a w → Closed ops listed → listed.getD n true = false → listed.toList.count false = fuel → wpAny P .any ops Q fuel listed a w := by
  unfold lastU at hl
  rw [Bool.and_eq_true, Bool.and_eq_true, List.all_eq_true] at hl
  obtain ⟨⟨hsz, hdn⟩, hwait⟩ := hl
  have hsz : ops.size = n + 1 := by simpa using hsz
  intro fuel
  induction fuel with
  | zero =>
    intro listed a w h hcl hn hc
    exfalso
    have hnl : n < listed.size := by rw [h.size, hsz]; omega
    have := count_none listed.toList hc n (by rw [Array.length_toList]; exact hnl)
    rw [Array.getElem?_toList] at this
    rw [Array.getD_eq_getD_getElem?, this] at hn
    simp at hn
  | succ fuel ih =>
    intro listed a w h hcl hn hc
    refine ⟨fun hr => ?_, fun i hi => ?_⟩
    · exfalso
      have := ready_nil hb h.size hr n (by omega)
      rw [hn] at this
      cases this
    have hi2 : i < ops.size ∧ listed.getD i true = false ∧ ((ops[i]?).map (·.after.all fun e => !Region.binds .any e || listed.getD e.on false)).getD false = true := by
      unfold Region.ready at hi
      rw [List.mem_filter, Bool.and_eq_true] at hi
      exact ⟨List.mem_range.1 hi.1, by simpa using hi.2.1, hi.2.2⟩
    obtain ⟨g1, g2, g3⟩ := hi2
    have hil : i < listed.size := by rw [h.size]; exact g1
    have ho : ops[i]? = some ops[i] := Array.getElem?_eq_getElem g1
    rw [ho, Option.map_some, Option.getD_some, Array.all_eq_true_iff_forall_mem] at g3
    have hf : listed.toList[i]? = some false := by
      rw [Array.getElem?_toList, Array.getElem?_eq_getElem hil]
      rw [Array.getD_eq_getD_getElem?, Array.getElem?_eq_getElem hil] at g2
      simpa using g2
    have hcnt := count_set_true listed.toList i hf
    by_cases hin : i = n
    · subst hin
      have hall : ∀ j, j < i → listed.getD j false = true := fun j hj => by
        have hw := hwait j (List.mem_range.2 hj)
        rw [hsz, waitsB, Bool.or_eq_true, beq_iff_eq] at hw
        rcases hw with hw | hw
        · omega
        rw [ho] at hw
        simp only [Option.map_some, Option.getD_some, List.any_eq_true, Bool.and_eq_true] at hw
        obtain ⟨e, he, hbd, hwe⟩ := hw
        have h1 := g3 e (by simpa using he)
        rw [hbd] at h1
        rcases hj2 : listed.getD j false with _ | _
        · rw [waits_not hcl hj2 _ _ hwe] at h1
          simp at h1
        · rfl
      obtain rfl : ops[i] = oL := by rw [ho] at hoL; injection hoL
      refine wpOp_step ho fun K' hK => ?_
      have hq : StepL P ops Q ops[i] a w := hend a w h.past h.defs h.len h.old fun j k hk => by
        have hj := dstAt_lt hk
        rcases (by omega : j < i ∨ j = i) with hji | rfl
        · exact h.done j (hall j hji) k hk
        · rw [hk] at hdn
          cases hdn
      have hz : ∀ a' w', Q .normal a' w' → wpAny P .any ops Q fuel (listed.setIfInBounds i true) a' w' := fun a' w' hq' => by
        have h0 : fuel = 0 := by
          have hall2 : ∀ j, j < listed.toList.length → (listed.toList.set i true)[j]? = some true := fun j hj => by
            rw [Array.length_toList, h.size, hsz] at hj
            rw [List.getElem?_set]
            split
            · rw [if_pos (by rw [Array.length_toList]; exact hil)]
            · rename_i hne
              have := hall j (by omega)
              have hjl : j < listed.size := by rw [h.size, hsz]; omega
              rw [Array.getD_eq_getD_getElem?, Array.getElem?_eq_getElem hjl] at this
              rw [Array.getElem?_toList, Array.getElem?_eq_getElem hjl]
              simpa using this
          have hc0 : (listed.toList.set i true).count false = 0 := by
            rw [List.count_eq_zero]
            intro hm
            obtain ⟨j, hj⟩ := List.mem_iff_getElem?.1 hm
            have hjl : j < listed.toList.length := by
              have := (List.getElem?_eq_some_iff.1 hj).1
              simpa using this
            rw [hall2 j hjl] at hj
            cases hj
          omega
        subst h0
        refine ⟨?_, hq'⟩
        unfold Region.ready
        rw [List.filter_eq_nil_iff]
        intro j hj
        have hj' := List.mem_range.1 hj
        have : (listed.setIfInBounds i true).getD j true = true := by
          rw [Array.getD_eq_getD_getElem?, Array.getElem?_setIfInBounds]
          split
          · rfl
          · have := hall j (by omega)
            have hjl : j < listed.size := by rw [h.size]; exact hj'
            rw [Array.getD_eq_getD_getElem?, Array.getElem?_eq_getElem hjl] at this
            rw [Array.getElem?_eq_getElem hjl]
            simpa using this
        rw [this]
        simp
      exact hq K' fun a' w' hq' => hK a' w' (hz a' w' hq')
    · refine wpOp_step ho fun K' hK => ?_
      refine hstep i _ (by omega) ho a w h.past h.old (fun e he hbd k hk => ?_) K' fun v w' hv hbl => hK _ _ (ih _ _ _ ?_ (closed_set hcl ho hil fun e he hbd => by have h4 := g3 e (by simpa using he); rw [hbd] at h4; simpa using h4) ?_ ?_)
      · have h4 := g3 e (by simpa using he)
        rw [hbd] at h4
        exact h.done e.on (by simpa using h4) k hk
      · have hdi : dstAt ops i = ops[i].dst := by unfold dstAt; rw [ho]; rfl
        refine ⟨by simp [h.size], h.past.trans (hbl.mono h.past.size), by rw [put_defs]; exact h.defs, by rw [put_len]; exact h.len, fun k hk => ?_, fun j hj k hk => ?_⟩
        · rw [put_tmps _ _ _ _ (by rw [← hdi]; exact hk i)]
          exact h.old k hk
        · by_cases hij : j = i
          · subst hij
            rw [hdi] at hk
            rw [hk]
            refine ⟨v, put_tmps_same _ _ _ ?_, hv⟩
            rw [h.len]
            unfold slotsB at hs
            rw [List.all_eq_true] at hs
            have := hs j (List.mem_range.2 g1)
            rw [hdi, hk] at this
            simpa using this
          · have hj' : listed.getD j false = true := by
              rw [Array.getD_eq_getD_getElem?, Array.getElem?_setIfInBounds, if_neg (Ne.symm hij)] at hj
              rw [Array.getD_eq_getD_getElem?]
              exact hj
            obtain ⟨u, hu, hF⟩ := h.done j hj' k hk
            refine ⟨u, ?_, hmono j u w w' hF hbl⟩
            rw [put_tmps _ _ _ _ (fun e => hij (dsts_one hd hk (by rw [hdi]; exact e)))]
            exact hu
      · rw [Array.getD_eq_getD_getElem?, Array.getElem?_setIfInBounds, if_neg hin]
        rw [Array.getD_eq_getD_getElem?] at hn
        exact hn
      · rw [Array.toList_setIfInBounds]
        omega
/-- any order of the first n, then the last one -/
theorem wp_region_last {id : Nat} {a0 : Act} {w0 : World} {l : List Oper} (n : Nat) {oL : Oper} (hoL : l[n]? = some oL) (F : List (Value ⊕ (Value → World → Prop))) (hl : (l.take n).length = F.length) (hm : P.follows .mixedOrders = true) (hb : backB l.toArray = true) (hd : dstsB l.toArray = true) (hs : slotsB l.toArray a0.tmps.size = true) (hla : lastU l.toArray n = true)
    (hmono : ∀ p, Sum.inr p ∈ F → ∀ v w w', p v w → Below w.heap.size w w' → p v w') (hstep : StepsOk P l.toArray Q (FL F) a0 w0 0 (l.take n))
    (hend : ∀ w, Below w0.heap.size w0 w → Fin (l.take n) F a0 w (fun a w => StepL P l.toArray Q oL a w)) : (Code.region id l.toArray true).wp P Q a0 w0 := by
  refine wp_region_any hm ?_
  have hla' := hla
  unfold lastU at hla'
  rw [Bool.and_eq_true, Bool.and_eq_true] at hla'
  obtain ⟨⟨hsz, hdn⟩, _⟩ := hla'
  have hsz : l.length = n + 1 := by simpa using hsz
  refine wpAny_invU (n := n) (oL := oL) (a0 := a0) (w0 := w0) hb hd hs hla (by simpa using hoL) (FL.mono hmono) (fun i o hi h => stepsN_get hstep i o hi (by simpa using h)) ?_ _ _ _ _ ⟨by simp, (Below.refl _ _).drew, rfl, rfl, fun _ _ => rfl, fun i hi => ?_⟩ (fun i o hi => ?_) ?_ (by simp)
  · intro a w hbl h1 h2 h3 h4
    refine fin_of (K := fun a w => StepL P l.toArray Q oL a w) (l.take n) F a0 a hl h1 h2 (fun k hk => h3 k fun i hi => ?_) (fun i k hk => h4 i k (dstAt_take hk)) (hend w hbl)
    have hil := dstAt_lt hi
    have hil' : i < n + 1 := by simpa [hsz] using hil
    rcases (by omega : i < n ∨ i = n) with hin | rfl
    · refine hk i ?_
      unfold dstAt at hi ⊢
      simp only [List.getElem?_toArray, List.getElem?_take, if_pos hin] at hi ⊢
      exact hi
    · rw [hi] at hdn
      cases hdn
  · exfalso
    rw [Array.getD_eq_getD_getElem?, Array.getElem?_replicate] at hi
    split at hi
    · cases hi
    · cases hi
  · exfalso
    rw [Array.getD_eq_getD_getElem?, Array.getElem?_replicate] at hi
    split at hi
    · cases hi
    · cases hi
  · rw [Array.getD_eq_getD_getElem?, Array.getElem?_replicate, if_pos (by rw [List.size_toArray]; omega)]
    rfl
end
end Go.Proofs.YtnbaajplelchjaaGreatDoor
