/- A region that draws its order, whose last operation waits for all others and writes; stores into a block, by what it holds behind them. -/
import Derived.Test.YtnbaajplelchjaaGreatDoorRow
set_option linter.unusedVariables false
set_option linter.unusedSimpArgs false
namespace Go.Proofs.YtnbaajplelchjaaGreatDoor
open Go.RowKit

section
variable {P : Program} {ops : Array Oper} {Q : Exit → Act → World → Prop}
/-- the last one waits for all others, and writes no slot -/
def lastB (ops : Array Oper) (n : Nat) : Bool := decide (ops.size = n + 1) && (dstAt ops n).isNone && (List.range n).all fun j => ((ops[n]?).map fun o => o.after.any fun e => Region.binds .any e && e.on == j).getD false

/-- the last one is done -/
def StepL (P : Program) (ops : Array Oper) (Q : Exit → Act → World → Prop) (o : Oper) (a : Act) (w : World) : Prop :=
  ∀ K : Act → World → Prop, (∀ a w, Q .normal a w → K a w) → if Region.wanted o (yielded ops a.tmps) = true then Oper.wp P o a w K Q else K (a.put o.dst undef) w
theorem wpAny_invT {n : Nat} {oL : Oper} {F : Nat → Value → World → Prop} {a0 : Act} {w0 : World} (hb : backB ops = true) (hd : dstsB ops = true) (hs : slotsB ops a0.tmps.size = true) (hl : lastB ops n = true) (hoL : ops[n]? = some oL)
    (hmono : ∀ i v w w', F i v w → Below w.heap.size w w' → F i v w') (hstep : ∀ i o, i < n → ops[i]? = some o → StepOk P ops Q F a0 w0 i o)
    (hend : ∀ a w, Below w0.heap.size w0 w → a.defers = a0.defers → a.tmps.size = a0.tmps.size → (∀ k, (∀ i, dstAt ops i ≠ some k) → a.tmps[k]? = a0.tmps[k]?) → (∀ i k, dstAt ops i = some k → ∃ v, a.tmps[k]? = some v ∧ F i v w) → StepL P ops Q oL a w) :
    ∀ fuel listed a w, RInv ops F a0 w0 listed a w → listed.getD n true = false → listed.toList.count false = fuel → wpAny P .any ops Q fuel listed a w := by
  unfold lastB at hl
  rw [Bool.and_eq_true, Bool.and_eq_true, List.all_eq_true] at hl
  obtain ⟨⟨hsz, hdn⟩, hwait⟩ := hl
  have hsz : ops.size = n + 1 := by simpa using hsz
  intro fuel
  induction fuel with
  | zero =>
    intro listed a w h hn hc
    exfalso
    have hnl : n < listed.size := by rw [h.size, hsz]; omega
    have := count_none listed.toList hc n (by rw [Array.length_toList]; exact hnl)
    rw [Array.getElem?_toList] at this
    rw [Array.getD_eq_getD_getElem?, this] at hn
    simp at hn
  | succ fuel ih =>
    intro listed a w h hn hc
    refine ⟨fun hr => ?_, fun i hi => ?_⟩
    · exfalso
      have := ready_nil hb h.size hr n (by omega)
      rw [hn] at this
      cases this
    have hi2 : i < ops.size ∧ listed.getD i true = false ∧ ((ops[i]?).map (·.after.all fun e => !Region.binds .any e || listed.getD e.on false)).getD false = true := by
      unfold Region.ready at hi
      rw [List.mem_filter, Bool.and_eq_true] at hi
      exact ⟨List.mem_range.1 hi.1, by simpa using hi.2.1, hi.2.2⟩
    obtain ⟨g1, g2, g3⟩ := hi2
    have hil : i < listed.size := by rw [h.size]; exact g1
    have ho : ops[i]? = some ops[i] := Array.getElem?_eq_getElem g1
    rw [ho, Option.map_some, Option.getD_some, Array.all_eq_true_iff_forall_mem] at g3
    have hf : listed.toList[i]? = some false := by
      rw [Array.getElem?_toList, Array.getElem?_eq_getElem hil]
      rw [Array.getD_eq_getD_getElem?, Array.getElem?_eq_getElem hil] at g2
      simpa using g2
    have hcnt := count_set_true listed.toList i hf
    by_cases hin : i = n
    · subst hin
      have hall : ∀ j, j < i → listed.getD j false = true := fun j hj => by
        have hw := hwait j (List.mem_range.2 hj)
        rw [ho, Option.map_some, Option.getD_some, Array.any_eq_true] at hw
        obtain ⟨x, hx, hx2⟩ := hw
        simp only [Bool.and_eq_true, beq_iff_eq] at hx2
        have := g3 ops[i].after[x] (Array.getElem_mem hx)
        rw [hx2.1, hx2.2] at this
        simpa using this
      obtain rfl : ops[i] = oL := by rw [ho] at hoL; injection hoL
      refine wpOp_step ho fun K' hK => ?_
      have hq : StepL P ops Q ops[i] a w := hend a w h.past h.defs h.len h.old fun j k hk => by
        have hj := dstAt_lt hk
        rcases (by omega : j < i ∨ j = i) with hji | rfl
        · exact h.done j (hall j hji) k hk
        · rw [hk] at hdn
          cases hdn
      have hz : ∀ a' w', Q .normal a' w' → wpAny P .any ops Q fuel (listed.setIfInBounds i true) a' w' := fun a' w' hq' => by
        have h0 : fuel = 0 := by
          have hall2 : ∀ j, j < listed.toList.length → (listed.toList.set i true)[j]? = some true := fun j hj => by
            rw [Array.length_toList, h.size, hsz] at hj
            rw [List.getElem?_set]
            split
            · rw [if_pos (by rw [Array.length_toList]; exact hil)]
            · rename_i hne
              have := hall j (by omega)
              have hjl : j < listed.size := by rw [h.size, hsz]; omega
              rw [Array.getD_eq_getD_getElem?, Array.getElem?_eq_getElem hjl] at this
              rw [Array.getElem?_toList, Array.getElem?_eq_getElem hjl]
              simpa using this
          have hc0 : (listed.toList.set i true).count false = 0 := by
            rw [List.count_eq_zero]
            intro hm
            obtain ⟨j, hj⟩ := List.mem_iff_getElem?.1 hm
            have hjl : j < listed.toList.length := by
              have := (List.getElem?_eq_some_iff.1 hj).1
              simpa using this
            rw [hall2 j hjl] at hj
            cases hj
          omega
        subst h0
        refine ⟨?_, hq'⟩
        unfold Region.ready
        rw [List.filter_eq_nil_iff]
        intro j hj
        have hj' := List.mem_range.1 hj
        have : (listed.setIfInBounds i true).getD j true = true := by
          rw [Array.getD_eq_getD_getElem?, Array.getElem?_setIfInBounds]
          split
          · rfl
          · have := hall j (by omega)
            have hjl : j < listed.size := by rw [h.size]; exact hj'
            rw [Array.getD_eq_getD_getElem?, Array.getElem?_eq_getElem hjl] at this
            rw [Array.getElem?_eq_getElem hjl]
            simpa using this
        rw [this]
        simp
      exact hq K' fun a' w' hq' => hK a' w' (hz a' w' hq')
    · refine wpOp_step ho fun K' hK => ?_
      refine hstep i _ (by omega) ho a w h.past h.old (fun e he hbd k hk => ?_) K' fun v w' hv hbl => hK _ _ (ih _ _ _ ?_ ?_ ?_)
      · have h4 := g3 e (by simpa using he)
        rw [hbd] at h4
        exact h.done e.on (by simpa using h4) k hk
      · have hdi : dstAt ops i = ops[i].dst := by unfold dstAt; rw [ho]; rfl
        refine ⟨by simp [h.size], h.past.trans (hbl.mono h.past.size), by rw [put_defs]; exact h.defs, by rw [put_len]; exact h.len, fun k hk => ?_, fun j hj k hk => ?_⟩
        · rw [put_tmps _ _ _ _ (by rw [← hdi]; exact hk i)]
          exact h.old k hk
        · by_cases hij : j = i
          · subst hij
            rw [hdi] at hk
            rw [hk]
            refine ⟨v, put_tmps_same _ _ _ ?_, hv⟩
            rw [h.len]
            unfold slotsB at hs
            rw [List.all_eq_true] at hs
            have := hs j (List.mem_range.2 g1)
            rw [hdi, hk] at this
            simpa using this
          · have hj' : listed.getD j false = true := by
              rw [Array.getD_eq_getD_getElem?, Array.getElem?_setIfInBounds, if_neg (Ne.symm hij)] at hj
              rw [Array.getD_eq_getD_getElem?]
              exact hj
            obtain ⟨u, hu, hF⟩ := h.done j hj' k hk
            refine ⟨u, ?_, hmono j u w w' hF hbl⟩
            rw [put_tmps _ _ _ _ (fun e => hij (dsts_one hd hk (by rw [hdi]; exact e)))]
            exact hu
      · rw [Array.getD_eq_getD_getElem?, Array.getElem?_setIfInBounds, if_neg hin]
        rw [Array.getD_eq_getD_getElem?] at hn
        exact hn
      · rw [Array.toList_setIfInBounds]
        omega
theorem stepsN_get {F : Nat → Value → World → Prop} {a0 : Act} {w0 : World} {n : Nat} {l : List Oper} (h : StepsOk P ops Q F a0 w0 0 (l.take n)) : ∀ i o, i < n → l[i]? = some o → StepOk P ops Q F a0 w0 i o := fun i o hi ho => by
  have := steps_get (l.take n) 0 h i o (by rw [List.getElem?_take, if_pos hi]; exact ho)
  rwa [Nat.zero_add] at this
theorem dstAt_take {l : List Oper} {n i k : Nat} (h : dstAt (l.take n).toArray i = some k) : dstAt l.toArray i = some k := by
  unfold dstAt at h ⊢
  simp only [List.getElem?_toArray, List.getElem?_take] at h ⊢
  split at h
  · exact h
  · cases h
/-- any order of the first n, then the last one -/
theorem wp_region_tail {id : Nat} {a0 : Act} {w0 : World} {l : List Oper} (n : Nat) {oL : Oper} (hoL : l[n]? = some oL) (F : List (Value ⊕ (Value → World → Prop))) (hl : (l.take n).length = F.length) (hm : P.follows .mixedOrders = true) (hb : backB l.toArray = true) (hd : dstsB l.toArray = true) (hs : slotsB l.toArray a0.tmps.size = true) (hla : lastB l.toArray n = true)
    (hmono : ∀ p, Sum.inr p ∈ F → ∀ v w w', p v w → Below w.heap.size w w' → p v w') (hstep : StepsOk P l.toArray Q (FL F) a0 w0 0 (l.take n))
    (hend : ∀ w, Below w0.heap.size w0 w → Fin (l.take n) F a0 w (fun a w => StepL P l.toArray Q oL a w)) : (Code.region id l.toArray true).wp P Q a0 w0 := by
  refine wp_region_any hm ?_
  have hla' := hla
  unfold lastB at hla'
  rw [Bool.and_eq_true, Bool.and_eq_true] at hla'
  obtain ⟨⟨hsz, hdn⟩, _⟩ := hla'
  have hsz : l.length = n + 1 := by simpa using hsz
  refine wpAny_invT (n := n) (oL := oL) (a0 := a0) (w0 := w0) hb hd hs hla (by simpa using hoL) (FL.mono hmono) (fun i o hi h => stepsN_get hstep i o hi (by simpa using h)) ?_ _ _ _ _ ⟨by simp, (Below.refl _ _).drew, rfl, rfl, fun _ _ => rfl, fun i hi => ?_⟩ ?_ (by simp)
  · intro a w hbl h1 h2 h3 h4
    refine fin_of (K := fun a w => StepL P l.toArray Q oL a w) (l.take n) F a0 a hl h1 h2 (fun k hk => h3 k fun i hi => ?_) (fun i k hk => h4 i k (dstAt_take hk)) (hend w hbl)
    have hil := dstAt_lt hi
    have hil' : i < n + 1 := by simpa [hsz] using hil
    rcases (by omega : i < n ∨ i = n) with hin | rfl
    · refine hk i ?_
      unfold dstAt at hi ⊢
      simp only [List.getElem?_toArray, List.getElem?_take, if_pos hin] at hi ⊢
      exact hi
    · rw [hi] at hdn
      cases hdn
  · exfalso
    rw [Array.getD_eq_getD_getElem?, Array.getElem?_replicate] at hi
    split at hi
    · cases hi
    · cases hi
  · rw [Array.getD_eq_getD_getElem?, Array.getElem?_replicate, if_pos (by rw [List.size_toArray]; omega)]
    rfl
end
/-- a call whose value is told by a predicate -/
theorem op_callR {P : Program} {ops : Array Oper} {Q : Exit → Act → World → Prop} {o : Oper} {a : Act} {w : World} {K : Act → World → Prop} {R : Value → World → Prop} (hg : o.guard = none) (f : FuncId) (xs : Array Operand) (ats : Array TypeId) (ho : o.op = .call { callee := .value (.func f), args := xs, argTypes := ats }) (args : Array Value) (hx0 : xs.toList.map a.eval = args.toList)
    {fn : Func} (hf : P.funcs[f]? = some fn) (hn : (fn.name == "runtime.NumGoroutine") = false) (hb : fn.body.isNone = false) (hc : Calls P f args w fun e w' => ∃ v, e = .returned v ∧ R v w' ∧ Below w.heap.size w w')
    (hK : ∀ v w', R v w' → Below w.heap.size w w' → K (a.put o.dst v) w') : if Region.wanted o (yielded ops a.tmps) = true then Oper.wp P o a w K Q else K (a.put o.dst undef) w :=
  step_call (want_free hg) f xs ats ho args hx0 hf hn hb hc (fun e w' ⟨v, h1, h2, h3⟩ => ⟨v, h1, hK v w' h2 h3⟩)
/-! stores into a block -/
section
variable {P : Program}
theorem run_storeCells_blk {g : Nat} {t : TypeId} : ∀ (news : List Value) (i off : Nat) (w : World) (cs : Array Value), Blk w g t cs → off + i + news.length ≤ cs.size → (∀ v ∈ news, v.oneCell' = true) →
    ∃ w' cs', (storeCells ⟨g, off, none⟩ news i).run P w = .ok () w' ∧ Blk w' g t cs' ∧ cs'.toList = cs.toList.take (off + i) ++ news ++ cs.toList.drop (off + i + news.length) ∧ w.grownBy w' (some g) ∧ w'.heap.size = w.heap.size
  | [], i, off, w, cs, hb, hl, _ => ⟨w, cs, rfl, hb, by simp, World.grownBy.refl _ _, rfl⟩
  | v :: r, i, off, w, cs, hb, hl, h1 => by
    have hi : off + i < cs.size := by simp at hl; omega
    have hadd : (⟨g, off, none⟩ : Addr).add i = ⟨g, off + i, none⟩ := Go.WideShapes.add_plain g off i
    have hst : (store ((⟨g, off, none⟩ : Addr).add i) v).run P w = .ok () (w.setCell ⟨g, off + i, none⟩ v) := by
      rw [hadd, run_store P w _ v _ (h1 v (by simp)), hb.cell, Array.getElem?_eq_getElem hi]
      simp [hb.frozen]
    obtain ⟨w', cs', h2, h3, h4, h5, h6⟩ := run_storeCells_blk r (i + 1) off (w.setCell ⟨g, off + i, none⟩ v) (cs.setIfInBounds (off + i) v) (hb.set_ _ v) (by simp at hl ⊢; omega) (fun x hx => h1 x (by simp [hx]))
    have hg := only_setCell' (w := w) (g := g) (p := ⟨g, off + i, none⟩) (.inl rfl) v
    refine ⟨w', cs', ?_, h3, ?_, ⟨h5.os.trans hg.os, h5.tape.trans hg.tape, h5.output.trans hg.output, Nat.le_trans hg.size h5.size, fun k hk hne => (h5.block k (Nat.lt_of_lt_of_le hk hg.size) hne).trans (hg.block k hk hne)⟩, by rw [h6]; simp [World.setCell]⟩
    · simp only [storeCells, Sem.run_bind, hst, Result.andThen_ok, h2]
    · rw [h4, Array.toList_setIfInBounds]
      apply List.ext_getElem?
      intro k
      simp only [List.getElem?_append, List.length_append, List.length_take, List.length_set, Array.length_toList, List.getElem?_take, List.getElem?_set, List.getElem?_drop, List.length_cons, List.getElem?_cons]
      rcases (by omega : k < off + i ∨ k = off + i ∨ off + i < k) with hk | hk | hk
      · have e1 : min (off + (i + 1)) cs.size = off + i + 1 := by omega
        have e2 : min (off + i) cs.size = off + i := by omega
        simp only [e1, e2]
        rw [if_pos (by omega), if_pos (by omega), if_pos (by omega), if_neg (by omega), if_pos (by omega), if_pos (by omega), if_pos (by omega)]
      · have e1 : min (off + (i + 1)) cs.size = off + i + 1 := by omega
        have e2 : min (off + i) cs.size = off + i := by omega
        simp only [e1, e2]
        subst hk
        rw [if_pos (by omega), if_pos (by omega), if_pos (by omega), if_pos rfl, if_pos (by omega), if_pos (by omega), if_neg (by omega), if_pos (by omega)]
      · have e1 : min (off + (i + 1)) cs.size = off + i + 1 := by omega
        have e2 : min (off + i) cs.size = off + i := by omega
        simp only [e1, e2]
        by_cases hk2 : k < off + i + 1 + r.length
        · rw [if_pos (by omega), if_neg (by omega), if_pos (by omega), if_neg (by omega), if_neg (by omega)]
          congr 1
          try omega
        · rw [if_neg (by omega), if_neg (by omega), if_neg (by omega)]
          congr 1
          try omega
theorem run_storeVar_mid {w : World} {g off : Nat} {t ty : TypeId} {cs : Array Value} {v : Value} {news : List Value} (hb : Blk w g t cs) (hv : v.cells.toList = news) (hi : (P.info? ty).map (·.size) = some news.length) (hl : off + news.length ≤ cs.size) (h1 : ∀ v ∈ news, v.oneCell' = true) :
    ∃ w' cs', (storeVar ty ⟨g, off, none⟩ v).run P w = .ok () w' ∧ Blk w' g t cs' ∧ cs'.toList = cs.toList.take off ++ news ++ cs.toList.drop (off + news.length) ∧ w.grownBy w' (some g) ∧ w'.heap.size = w.heap.size := by
  obtain ⟨w', cs', h2, h3, h4, h5, h6⟩ := run_storeCells_blk (P := P) news 0 off w cs hb (by omega) h1
  refine ⟨w', cs', ?_, h3, by simpa using h4, h5, h6⟩
  cases hq : P.info? ty with
  | none => simp [hq] at hi
  | some i =>
    have hs : i.size = news.length := by simpa [hq] using hi
    have hc : v.cells.size = i.size := by rw [hs, ← hv]; simp
    simp [storeVar, sizeOf, typeInfo, hq, hc, hv, h2]
/-- a store into the midst of a block, one behind the other -/
theorem wpList_store_mid {ops : Array Oper} {rest : List Oper} {o : Oper} {a : Act} {w : World} {Q : Exit → Act → World → Prop} (hg : o.guard = none) (ty : TypeId) (x y : Operand) (ho : o.op = .store ty x y) (g off : Nat) (v : Value) (hx : a.eval x = .pointer (some ⟨g, off, none⟩)) (hy : a.eval y = v)
    {t : TypeId} {cs : Array Value} {news : List Value} (hb : Blk w g t cs) (hv : v.cells.toList = news) (hi : (P.info? ty).map (·.size) = some news.length) (hl : off + news.length ≤ cs.size) (h1 : ∀ v ∈ news, v.oneCell' = true)
    (h : ∀ w' cs', Blk w' g t cs' → cs'.toList = cs.toList.take off ++ news ++ cs.toList.drop (off + news.length) → w.grownBy w' (some g) → w'.heap.size = w.heap.size → wpList P ops Q rest (a.put o.dst undef) w') : wpList P ops Q (o :: rest) a w := by
  obtain ⟨w', cs', h2, h3, h4, h5, h6⟩ := run_storeVar_mid (P := P) hb hv hi hl h1
  refine wpList_plain hg fun _ hK => ?_
  unfold Oper.wp execOp
  simp only [ho, hx, hy, Instr.storeAt, Instr.sureAddr, Sem.run_bind, Sem.run_pure, Result.andThen_ok, h2]
  exact hK _ _ (h w' cs' h3 h4 h5 h6)
theorem stepL_store_mid {ops : Array Oper} {o : Oper} {a : Act} {w : World} {Q : Exit → Act → World → Prop} (hg : o.guard = none) (ty : TypeId) (x y : Operand) (ho : o.op = .store ty x y) (g off : Nat) (v : Value) (hx : a.eval x = .pointer (some ⟨g, off, none⟩)) (hy : a.eval y = v)
    {t : TypeId} {cs : Array Value} {news : List Value} (hb : Blk w g t cs) (hv : v.cells.toList = news) (hi : (P.info? ty).map (·.size) = some news.length) (hl : off + news.length ≤ cs.size) (h1 : ∀ v ∈ news, v.oneCell' = true)
    (h : ∀ w' cs', Blk w' g t cs' → cs'.toList = cs.toList.take off ++ news ++ cs.toList.drop (off + news.length) → w.grownBy w' (some g) → w'.heap.size = w.heap.size → Q .normal (a.put o.dst undef) w') : StepL P ops Q o a w := by
  obtain ⟨w', cs', h2, h3, h4, h5, h6⟩ := run_storeVar_mid (P := P) hb hv hi hl h1
  intro K hK
  rw [if_pos (want_free hg)]
  unfold Oper.wp execOp
  simp only [ho, hx, hy, Instr.storeAt, Instr.sureAddr, Sem.run_bind, Sem.run_pure, Result.andThen_ok, h2]
  exact hK _ _ (h w' cs' h3 h4 h5 h6)
end
end Go.Proofs.YtnbaajplelchjaaGreatDoor
