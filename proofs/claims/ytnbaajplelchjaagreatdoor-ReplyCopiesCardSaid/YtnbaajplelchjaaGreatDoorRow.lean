/- A new variable that holds a row: laid and stored at once. -/
import Derived.Test.YtnbaajplelchjaaGreatDoorSeq
import Derived.Laws.Tables
import Derived.Great.BuildSlice
set_option linter.unusedVariables false
set_option linter.unusedSimpArgs false
namespace Go.Proofs.YtnbaajplelchjaaGreatDoor
open Go.RowKit

theorem setRow_new (w : World) (old cs : Array Value) (t : TypeId) : (w.alloc (.cells old t)).setRow w.heap.size cs = w.alloc (.cells cs t) := by
  unfold World.setRow World.alloc
  congr 1
  apply Array.ext_getElem?
  intro i
  rw [Array.getElem?_modify]
  by_cases h : w.heap.size = i
  · subst h
    simp
  · rw [if_neg h]
    rcases Nat.lt_or_ge i w.heap.size with hl | hl
    · rw [Array.getElem?_push_lt hl, Array.getElem?_push_lt hl]
    · rw [Array.getElem?_eq_none (by simp; omega), Array.getElem?_eq_none (by simp; omega)]
section
variable {P : Program}
theorem run_alloc_zero (w : World) (t : TypeId) {z : Value} (hz : (P.info? t).bind (·.zero) = some z) : (Instr.alloc t true (.tuple #[])).run P w = .ok (.pointer (some ⟨w.heap.size, 0, none⟩)) (w.alloc (.cells z.cells t)) := by
  cases hq : P.info? t with
  | none => simp [hq] at hz
  | some i =>
    have hzi : i.zero = some z := by simpa [hq] using hz
    simp [Instr.alloc, zeroValue, typeInfo, hq, hzi, newVar, newObj, go_sem]
    rfl
theorem wpList_new {ops : Array Oper} {rest : List Oper} {o : Oper} {a : Act} {w : World} {Q : Exit → Act → World → Prop} (hg : o.guard = none) (t : TypeId) (ho : o.op = .alloc t) {n : Nat}
    (hz : ((P.info? t).bind (·.zero)).map (·.cells.size) = some n)
    (h : ∀ old : Array Value, old.size = n → wpList P ops Q rest (a.put o.dst (.pointer (some ⟨w.heap.size, 0, none⟩))) (w.alloc (.cells old t))) : wpList P ops Q (o :: rest) a w :=
  wpList_plain hg fun _ hK => by
    cases hq : (P.info? t).bind (·.zero) with
    | none => rw [hq] at hz; simp at hz
    | some z =>
      rw [hq] at hz
      have hs : z.cells.size = n := by simpa using hz
      unfold Oper.wp execOp
      simp only [ho, Sem.run_bind, run_alloc_zero w t hq, Result.andThen_ok]
      exact hK _ _ (h z.cells hs)
/-- a new variable, a row stored into it -/
theorem wpList_newrow {ops : Array Oper} {rest : List Oper} {o1 o2 : Oper} {a : Act} {w : World} {Q : Exit → Act → World → Prop} (hg1 : o1.guard = none) (hg2 : o2.guard = none) (t : TypeId) (ho1 : o1.op = .alloc t) (k : Nat) (hd1 : o1.dst = some k) (y : Operand) (ho2 : o2.op = .store t (.tmp k) y) (hd2 : o2.dst = none)
    (cs : Array Value) (hy : ∀ v, (a.put (some k) v).eval y = .agg cs) (hk : k < a.tmps.size) (hz : ((P.info? t).bind (·.zero)).map (·.cells.size) = some cs.size) (hi : (P.info? t).map (·.size) = some cs.size) (h1 : cs.all (·.oneCell') = true)
    (h : wpList P ops Q rest (a.put (some k) (.pointer (some ⟨w.heap.size, 0, none⟩))) (w.alloc (.cells cs t))) : wpList P ops Q (o1 :: o2 :: rest) a w := by
  refine wpList_new hg1 t ho1 hz fun old hs => ?_
  rw [hd1]
  refine wpList_store_row hg2 t (.tmp k) y ho2 w.heap.size cs ?_ (hy _) t old (heap_alloc_new w _) hi hs h1 ?_
  · exact eval_tmp (put_tmps_same _ _ _ hk)
  · rw [hd2, setRow_new]
    exact h
/-- the same, another variable set between -/
theorem wpList_newrow1 {ops : Array Oper} {rest : List Oper} {o1 o2 o3 : Oper} {a : Act} {w : World} {Q : Exit → Act → World → Prop} (hg1 : o1.guard = none) (hg2 : o2.guard = none) (hg3 : o3.guard = none) (t : TypeId) (ho1 : o1.op = .alloc t) (k : Nat) (hd1 : o1.dst = some k) (x : Operand) (ho2 : o2.op = .assign x) (j : Nat) (hd2 : o2.dst = some j) (hj : j ≠ k)
    (y : Operand) (ho3 : o3.op = .store t (.tmp k) y) (hd3 : o3.dst = none) (u : Value) (hx : ∀ v, (a.put (some k) v).eval x = u)
    (cs : Array Value) (hy : ∀ v, ((a.put (some k) v).put (some j) u).eval y = .agg cs) (hk : k < a.tmps.size) (hz : ((P.info? t).bind (·.zero)).map (·.cells.size) = some cs.size) (hi : (P.info? t).map (·.size) = some cs.size) (h1 : cs.all (·.oneCell') = true)
    (h : wpList P ops Q rest ((a.put (some k) (.pointer (some ⟨w.heap.size, 0, none⟩))).put (some j) u) (w.alloc (.cells cs t))) : wpList P ops Q (o1 :: o2 :: o3 :: rest) a w := by
  refine wpList_new hg1 t ho1 hz fun old hs => ?_
  rw [hd1]
  refine wpList_plain hg2 fun _ hK => ?_
  unfold Oper.wp
  rw [show (execOp (a.put (some k) (.pointer (some ⟨w.heap.size, 0, none⟩))).eval o2).run P (w.alloc (.cells old t)) = .ok (.value u) (w.alloc (.cells old t)) from r_assign x ho2 (hx _)]
  refine hK _ _ ?_
  rw [hd2]
  refine wpList_store_row hg3 t (.tmp k) y ho3 w.heap.size cs ?_ (hy _) t old (heap_alloc_new w _) hi hs h1 ?_
  · refine eval_tmp ?_
    rw [put_tmps _ _ _ _ (by simpa using hj)]
    exact put_tmps_same _ _ _ hk
  · rw [hd3, setRow_new]
    exact h
theorem fold_set : ∀ (l : List Value) (k : Nat) (old : Array Value), k + l.length ≤ old.size → ((l.zipIdx k).foldl (fun cs x => cs.setIfInBounds (0 + x.2) x.1) old).toList = old.toList.take k ++ l ++ old.toList.drop (k + l.length)
  | [], k, old, _ => by simp
  | v :: r, k, old, h => by
    rw [List.zipIdx_cons, List.foldl_cons, fold_set r (k + 1) _ (by simp at h ⊢; omega)]
    have hi : k < old.size := by simp at h; omega
    dsimp only
    rw [Nat.zero_add, Array.toList_setIfInBounds]
    apply List.ext_getElem?
    intro j
    simp only [List.getElem?_append, List.length_append, List.length_take, List.length_set, Array.length_toList, List.getElem?_take, List.getElem?_set, List.getElem?_drop, List.length_cons, List.getElem?_cons]
    have e1 : min (k + 1) old.size = k + 1 := by simp at h; omega
    have e2 : min k old.size = k := by simp at h; omega
    simp only [e1, e2]
    rcases (by omega : j < k ∨ j = k ∨ k < j) with hk | hk | hk
    · rw [if_pos (by omega), if_pos (by omega), if_pos (by omega), if_neg (by omega), if_pos (by omega), if_pos (by omega), if_pos (by omega)]
    · subst hk
      rw [if_pos (by omega), if_pos (by omega), if_pos (by omega), if_pos rfl, if_pos (by omega), if_pos (by omega), if_neg (by omega), if_pos (by omega)]
    · by_cases hk2 : j < k + 1 + r.length
      · rw [if_pos (by omega), if_neg (by omega), if_pos (by omega), if_neg (by omega), if_neg (by omega)]
        congr 1
        try omega
      · rw [if_neg (by omega), if_neg (by omega), if_neg (by omega)]
        congr 1
        try omega
/-- a slice of one -/
theorem wpList_build1 {ops : Array Oper} {rest : List Oper} {o : Oper} {a : Act} {w : World} {Q : Exit → Act → World → Prop} (hg : o.guard = none) (t e : TypeId) (x : Operand) (ho : o.op = .buildSlice t 1 #[(0, x)]) (v : Value) (hx : a.eval x = v) (n : Nat)
    (hu : P.underlying t = some (.slice e)) (hi : (P.info? e).map (·.size) = some n) (hz : ((P.info? e).bind (·.zero)).map (·.cells.size) = some n) (hn : 0 < n ∧ n ≤ 1000) (hv : v.cells.size = n)
    (h : wpList P ops Q rest (a.put o.dst (.slice (some ⟨w.heap.size, 0, none⟩) 1 1)) (w.alloc (.cells v.cells e))) : wpList P ops Q (o :: rest) a w := by
  cases hq : P.info? e with
  | none => simp [hq] at hi
  | some i =>
    have hs : i.size = n := by simpa [hq] using hi
    cases hzz : i.zero with
    | none => simp [hq, hzz] at hz
    | some z =>
      have hzs : z.cells.size = n := by simpa [hq, hzz] using hz
      refine wpList_plain hg fun _ hK => ?_
      unfold Oper.wp execOp
      have hfill : Instr.fill (fun i' => some (i' * i.size, i.size)) ((Array.range (1 * i.size)).map (z.cells[· % z.cells.size]!)) [(0, v)] = some v.cells := by
        unfold Instr.fill
        simp only [Nat.zero_mul]
        rw [if_neg (by simp [hv, hs])]
        unfold Instr.fill
        congr 1
        apply Array.ext'
        have hf := fold_set v.cells.toList 0 ((Array.range (1 * i.size)).map (z.cells[· % z.cells.size]!)) (by simp [hv, hs])
        rw [← Array.foldl_toList, Array.toList_zipIdx]
        rw [hf]
        simp [hv, hs]
      have hfp : (#[(0, x)].map fun (i, x) => (i, a.eval x)).toList = [(0, v)] := by simp [hx]
      simp only [ho, Sem.run_bind, run_buildSlice w t e 1 _ v.cells i z hu hq hzz (by omega) (by omega) (by rw [hfp]; exact hfill), Result.andThen_ok]
      exact hK _ _ h
end
end Go.Proofs.YtnbaajplelchjaaGreatDoor
