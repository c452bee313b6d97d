/- A region's operations by what each one's value is: in the order of the text, or in whatever order; guarded ones by a Bool. -/
import Derived.Test.YtnbaajplelchjaaGreatDoorInv
import Derived.Laws.Rows
set_option linter.unusedVariables false
set_option linter.unusedSimpArgs false
namespace Go.Proofs.YtnbaajplelchjaaGreatDoor
open Go.RowKit

section
variable {P : Program}
theorem run_load_at (w : World) (ad : Addr) (ty : TypeId) (cs : List Value) (d : TypeDesc) (hc : ∀ j v, cs[j]? = some v → w.cell? (ad.add j) = some v)
    (hu : P.underlying ty = some d) (hd : (match d with | .struct _ | .array _ _ => true | _ => false) = true) (hi : (P.info? ty).map (·.size) = some cs.length) :
    (loadVar ty ad).run P w = .ok (.agg cs.toArray) w := by
  have hl := run_loadCells_list (P := P) w ad cs hc
  cases hq : P.info? ty with
  | none => simp [hq] at hi
  | some i =>
    have hs : i.size = cs.length := by simpa [hq] using hi
    have hagg : (isAgg ty).run P w = .ok true w := by
      unfold isAgg
      rw [Sem.run_bind, run_underlying hu w]
      cases d <;> simp_all
    simp [loadVar, Sem.run_bind, hagg, sizeOf, typeInfo, hq, hs, hl]
theorem wpList_load_at {ops : Array Oper} {rest : List Oper} {o : Oper} {a : Act} {w : World} {Q : Exit → Act → World → Prop} (hw : Region.wanted o (yielded ops a.tmps) = true) (ty : TypeId) (x : Operand) (ho : o.op = .load ty x)
    (ad : Addr) (hx : a.eval x = .pointer (some ad)) (cs : List Value) (d : TypeDesc) (hc : ∀ j v, cs[j]? = some v → w.cell? (ad.add j) = some v)
    (hu : P.underlying ty = some d) (hd : (match d with | .struct _ | .array _ _ => true | _ => false) = true) (hi : (P.info? ty).map (·.size) = some cs.length)
    (h : wpList P ops Q rest (a.put o.dst (.agg cs.toArray)) w) : wpList P ops Q (o :: rest) a w :=
  wpList_step fun K hK => by
    rw [if_pos hw]
    unfold Oper.wp execOp
    simp only [ho, hx, Instr.loadAt, Instr.sureAddr, Sem.run_bind, Sem.run_pure, Result.andThen_ok, run_load_at w ad ty cs d hc hu hd hi]
    exact hK _ _ h
theorem step_load_at {ops : Array Oper} {o : Oper} {a : Act} {w : World} {K : Act → World → Prop} {Q : Exit → Act → World → Prop} {E : Prop} (hw : Region.wanted o (yielded ops a.tmps) = true) (ty : TypeId) (x : Operand) (ho : o.op = .load ty x) (ad : Addr) (hx : a.eval x = .pointer (some ad)) (cs : List Value) (d : TypeDesc) (hc : ∀ j v, cs[j]? = some v → w.cell? (ad.add j) = some v)
    (hu : P.underlying ty = some d) (hd : (match d with | .struct _ | .array _ _ => true | _ => false) = true) (hi : (P.info? ty).map (·.size) = some cs.length) (h : K (a.put o.dst (.agg cs.toArray)) w) : if Region.wanted o (yielded ops a.tmps) = true then Oper.wp P o a w K Q else E := by
  rw [if_pos hw]
  unfold Oper.wp execOp
  simp only [ho, hx, Instr.loadAt, Instr.sureAddr, Sem.run_bind, Sem.run_pure, Result.andThen_ok, run_load_at w ad ty cs d hc hu hd hi]
  exact h
end

theorem blk_cell {w : World} {g : Nat} {t : TypeId} {cs : Array Value} (h : Blk w g t cs) {u : Value} (j : Nat) (hu : cs[j]? = some u) : w.cell? ⟨g, j, none⟩ = some u := (h.cell j).trans hu

/-! what single operations come to -/
section
variable {P : Program} {o : Oper} {ρ : Operand → Value} {w : World}
theorem r_field (s : TypeId) (x : Operand) (f : Nat) (ho : o.op = .fieldAddr s x f) {ad : Addr} (hx : ρ x = .pointer (some ad)) {fs : Array Field} {fd : Field} (ht : P.underlying s = some (.struct fs)) (hf : fs[f]? = some fd) {n : Nat} (hn : (P.info? fd.type).map (·.size) = some (n + 1)) {ad' : Addr} (ha : ad.add fd.offset = ad') :
    (execOp ρ o).run P w = .ok (.value (.pointer (some ad'))) w := by
  subst ha
  unfold execOp
  have hl : f < fs.size := (Array.getElem?_eq_some_iff.1 hf).1
  have hg : fs[f] = fd := by rw [Array.getElem?_eq_getElem hl] at hf; injection hf
  cases hq : P.info? fd.type with
  | none => simp [hq] at hn
  | some i =>
    have hs : i.size = n + 1 := by simpa [hq] using hn
    simp [ho, hx, Instr.fieldAt, Instr.sureAddr, run_underlying ht, hl, hg, fieldPlace, sizeOf, typeInfo, hq, hs]
theorem r_load (ty : TypeId) (x : Operand) (ho : o.op = .load ty x) {ad : Addr} (hx : ρ x = .pointer (some ad)) {v : Value} (hc : w.cell? ad = some v) {d : TypeDesc} (hu : P.underlying ty = some d) (hd : (match d with | .struct _ | .array _ _ => false | _ => true) = true) :
    (execOp ρ o).run P w = .ok (.value v) w := by
  unfold execOp
  have hagg : (isAgg ty).run P w = .ok false w := by
    unfold isAgg
    rw [Sem.run_bind, run_underlying hu w]
    cases d <;> simp_all
  simp [ho, hx, Instr.loadAt, Instr.sureAddr, loadVar, hagg, go_sem, hc]
theorem r_load_row (ty : TypeId) (x : Operand) (ho : o.op = .load ty x) {ad : Addr} (hx : ρ x = .pointer (some ad)) (cs : List Value) {d : TypeDesc} (hc : ∀ j v, cs[j]? = some v → w.cell? (ad.add j) = some v)
    (hu : P.underlying ty = some d) (hd : (match d with | .struct _ | .array _ _ => true | _ => false) = true) (hi : (P.info? ty).map (·.size) = some cs.length) : (execOp ρ o).run P w = .ok (.value (.agg cs.toArray)) w := by
  unfold execOp
  simp [ho, hx, Instr.loadAt, Instr.sureAddr, run_load_at w ad ty cs d hc hu hd hi]
theorem r_move (x : Operand) (ho : o.op = .move x) {v : Value} (hx : ρ x = v) : (execOp ρ o).run P w = .ok (.value v) w := by
  unfold execOp; simp only [ho, hx]; rfl
theorem r_assign (x : Operand) (ho : o.op = .assign x) {v : Value} (hx : ρ x = v) : (execOp ρ o).run P w = .ok (.value v) w := by
  unfold execOp; simp only [ho, hx]; rfl
theorem r_or (x y z : Operand) (ho : o.op = .pick x y z) {b c : Bool} (hx : ρ x = .bool b) (hy : ρ y = .bool true) (hz : b = false → ρ z = .bool c) : (execOp ρ o).run P w = .ok (.value (.bool (b || c))) w := by
  unfold execOp
  cases b
  · simp [ho, hx, hz rfl, asBool]
  · simp [ho, hx, hy, asBool]
theorem r_and (x y z : Operand) (ho : o.op = .pick x y z) {b c : Bool} (hx : ρ x = .bool b) (hy : b = true → ρ y = .bool c) (hz : ρ z = .bool false) : (execOp ρ o).run P w = .ok (.value (.bool (b && c))) w := by
  unfold execOp
  cases b
  · simp [ho, hx, hz, asBool]
  · simp [ho, hx, hy rfl, asBool]
theorem r_not (t : TypeId) (x : Operand) (ho : o.op = .unOp .not t x) {b : Bool} (hx : ρ x = .bool b) : (execOp ρ o).run P w = .ok (.value (.bool (!b))) w := by
  unfold execOp; simp [ho, hx, Op.unary]
theorem r_ieq (t : TypeId) (x y : Operand) (t' : TypeId) (ho : o.op = .binOp .eql t x y t') {k : IntKind} {m n : Int} (hx : ρ x = .int k m) (hy : ρ y = .int k n) : (execOp ρ o).run P w = .ok (.value (.bool (m == n))) w := by
  unfold execOp; simp [ho, hx, hy, eqGuard, binOp, Op.intCmp]
theorem r_ine (t : TypeId) (x y : Operand) (t' : TypeId) (ho : o.op = .binOp .neq t x y t') {k : IntKind} {m n : Int} (hx : ρ x = .int k m) (hy : ρ y = .int k n) : (execOp ρ o).run P w = .ok (.value (.bool (m != n))) w := by
  unfold execOp; simp [ho, hx, hy, eqGuard, binOp, Op.intCmp]
theorem r_igt (t : TypeId) (x y : Operand) (t' : TypeId) (ho : o.op = .binOp .gtr t x y t') {k : IntKind} {m n : Int} (hx : ρ x = .int k m) (hy : ρ y = .int k n) : (execOp ρ o).run P w = .ok (.value (.bool (decide (m > n)))) w := by
  unfold execOp; simp [ho, hx, hy, eqGuard, binOp, Op.intCmp]
theorem r_ilt (t : TypeId) (x y : Operand) (t' : TypeId) (ho : o.op = .binOp .lss t x y t') {k : IntKind} {m n : Int} (hx : ρ x = .int k m) (hy : ρ y = .int k n) : (execOp ρ o).run P w = .ok (.value (.bool (decide (m < n)))) w := by
  unfold execOp; simp [ho, hx, hy, eqGuard, binOp, Op.intCmp]
theorem r_seq (t : TypeId) (x y : Operand) (t' : TypeId) (ho : o.op = .binOp .eql t x y t') {m n : ByteArray} (hx : ρ x = .string m) (hy : ρ y = .string n) : (execOp ρ o).run P w = .ok (.value (.bool (m.toList == n.toList))) w := by
  unfold execOp; simp [ho, hx, hy, eqGuard, binOp, Op.stringOp]
theorem r_sne (t : TypeId) (x y : Operand) (t' : TypeId) (ho : o.op = .binOp .neq t x y t') {m n : ByteArray} (hx : ρ x = .string m) (hy : ρ y = .string n) : (execOp ρ o).run P w = .ok (.value (.bool (!(m.toList == n.toList)))) w := by
  unfold execOp; simp [ho, hx, hy, eqGuard, binOp, Op.stringOp]
theorem r_beq (t : TypeId) (x y : Operand) (t' : TypeId) (ho : o.op = .binOp .eql t x y t') (ht : P.underlying t = some .bool) {m n : Bool} (hx : ρ x = .bool m) (hy : ρ y = .bool n) : (execOp ρ o).run P w = .ok (.value (.bool (m == n))) w := by
  unfold execOp; cases m <;> cases n <;> simp [ho, hx, hy, eqGuard, go_sem, ht]
theorem r_bne (t : TypeId) (x y : Operand) (t' : TypeId) (ho : o.op = .binOp .neq t x y t') (ht : P.underlying t = some .bool) {m n : Bool} (hx : ρ x = .bool m) (hy : ρ y = .bool n) : (execOp ρ o).run P w = .ok (.value (.bool (m != n))) w := by
  unfold execOp; cases m <;> cases n <;> simp [ho, hx, hy, eqGuard, go_sem, ht]
theorem r_conv (src dst : TypeId) (x : Operand) (ho : o.op = .convert src dst x) {v u : Value} (hx : ρ x = v) (hr : (convert src dst v).run P w = .ok u w) : (execOp ρ o).run P w = .ok (.value u) w := by
  unfold execOp
  simp only [ho, hx, Sem.run_bind, hr, Result.andThen_ok]
  rfl
theorem r_len (xs : Array Operand) (ats : Array TypeId) (x : Operand) (t : TypeId) (ho : o.op = .call { callee := .builtin .len, args := #[x], argTypes := #[t] }) {A : Option Addr} {n c : Nat} (hx : ρ x = .slice A n c) {e : TypeId} (ht : P.underlying t = some (.slice e)) : (execOp ρ o).run P w = .ok (.value (.int .i64 n)) w := by
  unfold execOp
  simp [ho, resolve, invoke, builtin, hx, Builtin.len_, run_underlying ht, goInt]
theorem r_lens (x : Operand) (t : TypeId) (ho : o.op = .call { callee := .builtin .len, args := #[x], argTypes := #[t] }) {s : ByteArray} (hx : ρ x = .string s) (ht : P.underlying t = some .string) : (execOp ρ o).run P w = .ok (.value (.int .i64 s.size)) w := by
  unfold execOp
  simp [ho, resolve, invoke, builtin, hx, Builtin.len_, run_underlying ht, goInt]
theorem r_array (pt : TypeId) (x : Operand) (ho : o.op = .slice pt x none none none) {e : TypeId} {n : Nat} {ad : Addr} (hx : ρ x = .pointer (some ad)) (ht : P.underlying pt = some (.array n e)) (hn : 0 < n) {z : Nat} (hi : (P.info? e).map (·.size) = some z) : (execOp ρ o).run P w = .ok (.value (.slice (some ad) n n)) w := by
  unfold execOp
  have hn' : ¬ n = 0 := by omega
  cases hq : P.info? e with
  | none => simp [hq] at hi
  | some i => simp [ho, hx, Instr.sliceAt, Instr.sureAddr, run_underlying ht, Instr.sliceBounds, sizeOf, typeInfo, hq, Addr.add]
theorem r_index (t : TypeId) (x y : Operand) (ho : o.op = .indexAddr t x y) {ad : Addr} {n c k size : Nat} (hx : ρ x = .slice (some ad) n c) (hy : ρ y = .int .i64 k) (hk : k < n) {e : TypeId} (ht : P.underlying t = some (.slice e)) (hi : (P.info? e).map (·.size) = some size) {ad' : Addr} (ha : ad.add (k * size) = ad') : (execOp ρ o).run P w = .ok (.value (.pointer (some ad'))) w := by
  subst ha
  unfold execOp
  cases hq : P.info? e with
  | none => simp [hq] at hi
  | some i =>
    have hs : i.size = size := by simpa [hq] using hi
    have h0 : (0 : Int) ≤ k ∧ (k : Int) < n := ⟨by omega, by omega⟩
    simp [ho, hx, hy, Instr.indexAt, run_underlying ht, asIntOf, sizeOf, typeInfo, hq, hs, hk]
theorem r_indexA (t : TypeId) (x y : Operand) (ho : o.op = .indexAddr t x y) {ad : Addr} {n k size : Nat} (hx : ρ x = .pointer (some ad)) (hy : ρ y = .int .i64 k) (hk : k < n) {e : TypeId} (ht : P.underlying t = some (.array n e)) (hi : (P.info? e).map (·.size) = some size) {ad' : Addr} (ha : ad.add (k * size) = ad') : (execOp ρ o).run P w = .ok (.value (.pointer (some ad'))) w := by
  subst ha
  unfold execOp
  cases hq : P.info? e with
  | none => simp [hq] at hi
  | some i =>
    have hs : i.size = size := by simpa [hq] using hi
    simp [ho, hx, hy, Instr.indexAt, Instr.sureAddr, run_underlying ht, asIntOf, sizeOf, typeInfo, hq, hs, hk]
end

/-! guards -/
section
variable {P : Program} {ops : Array Oper} {Q : Exit → Act → World → Prop} {o : Oper} {a : Act} {w : World} {K : Act → World → Prop}
theorem want_if {i k : Nat} {b x c : Bool} (h : o.guard = some (i, b)) (hk : dstAt ops i = some k) (hv : a.tmps[k]? = some (bif c then .bool x else undef)) : Region.wanted o (yielded ops a.tmps) = (c && (x == b)) := by
  unfold dstAt at hk
  cases c
  · simp [Region.wanted, h, yielded, hk, hv, undef]
  · simp [Region.wanted, h, yielded, hk, hv]
theorem want_all {i k : Nat} {b x : Bool} (h : o.guard = some (i, b)) (hk : dstAt ops i = some k) (hv : a.tmps[k]? = some (.bool x)) : Region.wanted o (yielded ops a.tmps) = (x == b) := by
  unfold dstAt at hk
  simp [Region.wanted, h, yielded, hk, hv]
/-- an operation without a guard -/
theorem op_u {u : Value} (hg : o.guard = none) (hr : (execOp a.eval o).run P w = .ok (.value u) w) (hK : K (a.put o.dst u) w) : if Region.wanted o (yielded ops a.tmps) = true then Oper.wp P o a w K Q else K (a.put o.dst undef) w :=
  step_val (want_free hg) hr hK
/-- a guarded one -/
theorem op_g {c : Bool} {u : Value} (hw : Region.wanted o (yielded ops a.tmps) = c) (hr : c = true → (execOp a.eval o).run P w = .ok (.value u) w) (hK : K (a.put o.dst (bif c then u else undef)) w) : if Region.wanted o (yielded ops a.tmps) = true then Oper.wp P o a w K Q else K (a.put o.dst undef) w := by
  cases c
  · rw [if_neg (by rw [hw]; simp)]
    exact hK
  · exact step_val hw (hr rfl) hK
/-- a guarded call -/
theorem op_call {c : Bool} {u : Value} (hw : Region.wanted o (yielded ops a.tmps) = c) (f : FuncId) (xs : Array Operand) (ats : Array TypeId) (ho : o.op = .call { callee := .value (.func f), args := xs, argTypes := ats }) (args : Array Value) (hx0 : c = true → xs.toList.map a.eval = args.toList)
    {fn : Func} (hf : P.funcs[f]? = some fn) (hn : (fn.name == "runtime.NumGoroutine") = false) (hb : fn.body.isNone = false) (hc : c = true → Calls P f args w fun e w' => e = .returned u ∧ Below w.heap.size w w')
    (hK : ∀ w', Below w.heap.size w w' → K (a.put o.dst (bif c then u else undef)) w') : if Region.wanted o (yielded ops a.tmps) = true then Oper.wp P o a w K Q else K (a.put o.dst undef) w := by
  cases c
  · rw [if_neg (by rw [hw]; simp)]
    exact hK w (Below.refl _ _)
  · exact step_call hw f xs ats ho args (hx0 rfl) hf hn hb (hc rfl) (fun e w' h => ⟨u, h.1, hK w' h.2⟩)
theorem eval_if {k : Nat} {v : Value} {c : Bool} (h : a.tmps[k]? = some (bif c then v else undef)) (hc : c = true) : a.eval (.tmp k) = v := by
  subst hc
  exact eval_tmp h
end

def allInl : List (Value ⊕ (Value → World → Prop)) → Bool
  | [] => true
  | .inl _ :: r => allInl r
  | .inr _ :: _ => false
theorem nomono {F : List (Value ⊕ (Value → World → Prop))} (h : allInl F = true) : ∀ p, Sum.inr p ∈ F → ∀ v w w', p v w → Below w.heap.size w w' → p v w' := by
  intro p hp
  exfalso
  induction F with
  | nil => cases hp
  | cons x r ih =>
    cases x with
    | inl u =>
      rcases List.mem_cons.1 hp with e | e
      · cases e
      · exact ih h e
    | inr q => simp [allInl] at h

/-! one behind the other, in the order of the text -/
section
variable {P : Program} {ops : Array Oper} {Q : Exit → Act → World → Prop}
def StepOkS (P : Program) (ops : Array Oper) (Q : Exit → Act → World → Prop) (F : Nat → Value → World → Prop) (l : List Oper) (a0 : Act) (w0 : World) (i : Nat) (o : Oper) : Prop :=
  ∀ a w, Below w0.heap.size w0 w → (∀ k, (∀ i, dstAt l.toArray i ≠ some k) → a.tmps[k]? = a0.tmps[k]?) → (∀ j k, j < i → dstAt l.toArray j = some k → ∃ v, a.tmps[k]? = some v ∧ F j v w) →
    ∀ K : Act → World → Prop, (∀ v w', F i v w' → Below w.heap.size w w' → K (a.put o.dst v) w') → if Region.wanted o (yielded ops a.tmps) = true then Oper.wp P o a w K Q else K (a.put o.dst undef) w
def StepsOkS (P : Program) (ops : Array Oper) (Q : Exit → Act → World → Prop) (F : Nat → Value → World → Prop) (l : List Oper) (a0 : Act) (w0 : World) : Nat → List Oper → Prop
  | _, [] => True
  | i, o :: r => StepOkS P ops Q F l a0 w0 i o ∧ StepsOkS P ops Q F l a0 w0 (i + 1) r
/-- the frame behind all of them -/
def Fin : List Oper → List (Value ⊕ (Value → World → Prop)) → Act → World → (Act → World → Prop) → Prop
  | o :: r, x :: F, a, w, K => match o.dst with
    | none => Fin r F a w K
    | some k => match x with
      | .inl u => Fin r F (a.put (some k) u) w K
      | .inr p => ∀ v, p v w → Fin r F (a.put (some k) v) w K
  | _, _, a, w, K => K a w
theorem fin_of {K : Act → World → Prop} {w : World} : ∀ (l : List Oper) (F : List (Value ⊕ (Value → World → Prop))) (a0 a : Act), l.length = F.length → a.defers = a0.defers → a.tmps.size = a0.tmps.size →
    (∀ k, (∀ i, dstAt l.toArray i ≠ some k) → a.tmps[k]? = a0.tmps[k]?) → (∀ i k, dstAt l.toArray i = some k → ∃ v, a.tmps[k]? = some v ∧ FL F i v w) → Fin l F a0 w K → K a w
  | [], [], a0, a, _, hd, hs, hold, _, h => by
    have e : a = a0 := by
      obtain ⟨t, d⟩ := a
      obtain ⟨t0, d0⟩ := a0
      dsimp only at hd hs hold
      subst hd
      have : t = t0 := Array.ext_getElem? fun i => hold i (fun j => by simp [dstAt])
      rw [this]
    rw [e]
    exact h
  | o :: r, x :: F, a0, a, hl, hd, hs, hold, hall, h => by
    have hall' : ∀ i k, dstAt r.toArray i = some k → ∃ v, a.tmps[k]? = some v ∧ FL F i v w := fun i k hk => by
      have := hall (i + 1) k (by unfold dstAt at hk ⊢; simpa using hk)
      exact this
    have h0 : dstAt (o :: r).toArray 0 = o.dst := by simp [dstAt]
    have hr : ∀ k, o.dst ≠ some k → (∀ i, dstAt r.toArray i ≠ some k) → ∀ i, dstAt (o :: r).toArray i ≠ some k := fun k h1 h2 i => by
      rcases i with _ | i
      · rw [h0]; exact h1
      · intro h3
        exact h2 i (by unfold dstAt at h3 ⊢; simpa using h3)
    unfold Fin at h
    cases hod : o.dst with
    | none =>
      rw [hod] at h
      exact fin_of r F a0 a (by simpa using hl) hd hs (fun k hk => hold k (hr k (by rw [hod]; simp) hk)) hall' h
    | some k =>
      rw [hod] at h
      obtain ⟨v, hv, hF⟩ := hall 0 k (by rw [h0, hod])
      have hFin : Fin r F (a0.put (some k) v) w K := by
        unfold FL at hF
        cases x with
        | inl u =>
          simp only [List.getElem?_cons_zero] at hF
          subst hF
          exact h
        | inr p => exact h v hF
      refine fin_of r F (a0.put (some k) v) a (by simpa using hl) (by rw [put_defs]; exact hd) (by rw [put_len]; exact hs) (fun j hj => ?_) hall' hFin
      by_cases hjk : k = j
      · subst hjk
        have hkl : k < a.tmps.size := (Array.getElem?_eq_some_iff.1 hv).1
        rw [put_tmps_same _ _ _ (by rw [← hs]; exact hkl)]
        exact hv
      · rw [put_tmps _ _ _ _ (by simpa using hjk)]
        exact hold j (hr j (by rw [hod]; simpa using hjk) hj)
  | [], _ :: _, _, _, hl, _, _, _, _, _ => by simp at hl
  | _ :: _, [], _, _, hl, _, _, _, _, _ => by simp at hl

theorem stepsS_get {F : Nat → Value → World → Prop} {l : List Oper} {a0 : Act} {w0 : World} : ∀ (r : List Oper) (n : Nat), StepsOkS P ops Q F l a0 w0 n r → ∀ i o, r[i]? = some o → StepOkS P ops Q F l a0 w0 (n + i) o
  | [], _, _, i, o, h => by simp at h
  | x :: r, n, hs, 0, o, h => by
    simp only [List.getElem?_cons_zero, Option.some.injEq] at h
    subst h
    exact hs.1
  | x :: r, n, hs, i + 1, o, h => by
    rw [List.getElem?_cons_succ] at h
    have := stepsS_get r (n + 1) hs.2 i o h
    rwa [Nat.add_assoc, Nat.add_comm 1 i] at this

theorem wpList_inv {F : Nat → Value → World → Prop} {l : List Oper} {a0 : Act} {w0 : World} (hd : dstsB l.toArray = true) (hs : slotsB l.toArray a0.tmps.size = true)
    (hmono : ∀ i v w w', F i v w → Below w.heap.size w w' → F i v w') (hstep : ∀ i o, l[i]? = some o → StepOkS P ops Q F l a0 w0 i o)
    (hend : ∀ a w, Below w0.heap.size w0 w → a.defers = a0.defers → a.tmps.size = a0.tmps.size → (∀ k, (∀ i, dstAt l.toArray i ≠ some k) → a.tmps[k]? = a0.tmps[k]?) → (∀ i k, dstAt l.toArray i = some k → ∃ v, a.tmps[k]? = some v ∧ F i v w) → Q .normal a w) :
    ∀ (d n : Nat) (a : Act) (w : World), n + d = l.length → Below w0.heap.size w0 w → a.defers = a0.defers → a.tmps.size = a0.tmps.size → (∀ k, (∀ i, dstAt l.toArray i ≠ some k) → a.tmps[k]? = a0.tmps[k]?) →
      (∀ j k, j < n → dstAt l.toArray j = some k → ∃ v, a.tmps[k]? = some v ∧ F j v w) → wpList P ops Q (l.drop n) a w := by
  intro d
  induction d with
  | zero =>
    intro n a w hn hb h1 h2 h3 h4
    rw [List.drop_eq_nil_of_le (by omega)]
    refine wpList_nil (hend a w hb h1 h2 h3 fun i k hk => h4 i k ?_ hk)
    have := dstAt_lt hk
    simp at this
    omega
  | succ d ih =>
    intro n a w hn hb h1 h2 h3 h4
    have hnl : n < l.length := by omega
    rw [List.drop_eq_getElem_cons hnl]
    have ho : l[n]? = some l[n] := List.getElem?_eq_getElem hnl
    have hdn : dstAt l.toArray n = l[n].dst := by
      unfold dstAt
      rw [List.getElem?_toArray, ho]
      rfl
    refine wpList_step fun K hK => hstep n _ ho a w hb h3 h4 K fun v w' hv hbl => hK _ _ (ih (n + 1) _ _ (by omega) (hb.trans (hbl.mono hb.size)) ?_ ?_ ?_ ?_)
    · rw [put_defs]; exact h1
    · rw [put_len]; exact h2
    · intro k hk
      rw [put_tmps _ _ _ _ (by rw [← hdn]; exact hk n)]
      exact h3 k hk
    · intro j k hj hk
      by_cases hjn : j = n
      · subst hjn
        rw [hdn] at hk
        rw [hk]
        refine ⟨v, put_tmps_same _ _ _ ?_, hv⟩
        rw [h2]
        unfold slotsB at hs
        rw [List.all_eq_true] at hs
        have := hs j (List.mem_range.2 (by simpa using hnl))
        rw [hdn, hk] at this
        simpa using this
      · obtain ⟨u, hu, hF⟩ := h4 j k (by omega) hk
        refine ⟨u, ?_, hmono j u w w' hF hbl⟩
        rw [put_tmps _ _ _ _ (fun e => hjn (dsts_one hd hk (by rw [hdn]; exact e)))]
        exact hu
theorem wpList_seq {l : List Oper} {a0 : Act} {w0 : World} (F : List (Value ⊕ (Value → World → Prop))) (hl : l.length = F.length) (hd : dstsB l.toArray = true) (hs : slotsB l.toArray a0.tmps.size = true)
    (hmono : ∀ p, Sum.inr p ∈ F → ∀ v w w', p v w → Below w.heap.size w w' → p v w') (hstep : StepsOkS P ops Q (FL F) l a0 w0 0 l)
    (hend : ∀ w, Below w0.heap.size w0 w → Fin l F a0 w (fun a w => Q .normal a w)) : wpList P ops Q l a0 w0 := by
  have h := wpList_inv (P := P) (ops := ops) (Q := Q) (F := FL F) (l := l) (a0 := a0) (w0 := w0) hd hs (FL.mono hmono) (fun i o h => by have := stepsS_get l 0 hstep i o h; rwa [Nat.zero_add] at this)
    (fun a w hb h1 h2 h3 h4 => fin_of (K := fun a w => Q .normal a w) l F a0 a hl h1 h2 h3 h4 (hend w hb)) l.length 0 a0 w0 (by omega) (Below.refl _ _) rfl rfl (fun _ _ => rfl) (fun j k hj => absurd hj (by omega))
  simpa using h
/-- the same, of the frame behind just what is asked -/
theorem wpList_seqA {l : List Oper} {a0 : Act} {w0 : World} (F : List (Value ⊕ (Value → World → Prop))) (hd : dstsB l.toArray = true) (hs : slotsB l.toArray a0.tmps.size = true)
    (hmono : ∀ p, Sum.inr p ∈ F → ∀ v w w', p v w → Below w.heap.size w w' → p v w') (hstep : StepsOkS P ops Q (FL F) l a0 w0 0 l)
    (hend : ∀ a w, Below w0.heap.size w0 w → a.defers = a0.defers → a.tmps.size = a0.tmps.size → (∀ k, (∀ i, dstAt l.toArray i ≠ some k) → a.tmps[k]? = a0.tmps[k]?) → (∀ i k, dstAt l.toArray i = some k → ∃ v, a.tmps[k]? = some v ∧ FL F i v w) → Q .normal a w) : wpList P ops Q l a0 w0 := by
  have h := wpList_inv (P := P) (ops := ops) (Q := Q) (F := FL F) (l := l) (a0 := a0) (w0 := w0) hd hs (FL.mono hmono) (fun i o h => by have := stepsS_get l 0 hstep i o h; rwa [Nat.zero_add] at this)
    hend l.length 0 a0 w0 (by omega) (Below.refl _ _) rfl rfl (fun _ _ => rfl) (fun j k hj => absurd hj (by omega))
  simpa using h
/-- whatever the order -/
theorem wp_region_ord {id : Nat} {a0 : Act} {w0 : World} {l : List Oper} (F : List (Value ⊕ (Value → World → Prop))) (hl : l.length = F.length) (hm : P.follows .mixedOrders = true) (hb : backB l.toArray = true) (hd : dstsB l.toArray = true) (hs : slotsB l.toArray a0.tmps.size = true)
    (hmono : ∀ p, Sum.inr p ∈ F → ∀ v w w', p v w → Below w.heap.size w w' → p v w') (hstep : StepsOk P l.toArray Q (FL F) a0 w0 0 l)
    (hend : ∀ w, Below w0.heap.size w0 w → Fin l F a0 w (fun a w => Q .normal a w)) : (Code.region id l.toArray true).wp P Q a0 w0 :=
  wp_region_steps F hm hb hd hs hmono hstep fun a w hbl h1 h2 h3 h4 => fin_of (K := fun a w => Q .normal a w) l F a0 a hl h1 h2 h3 h4 (hend w hbl)
end
end Go.Proofs.YtnbaajplelchjaaGreatDoor
