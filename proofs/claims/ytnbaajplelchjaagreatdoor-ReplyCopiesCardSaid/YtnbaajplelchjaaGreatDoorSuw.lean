/- Blocks kept, rows loaded: of any layer. (printed by gen_sur.py) -/
import Derived.Test.YtnbaajplelchjaaGreatDoorJw
import Derived.Laws.Rows
import Derived.Test.YtnbaajplelchjaaGreatDoorSeq
set_option linter.unusedVariables false
set_option linter.unusedSimpArgs false
namespace Go.Proofs.YtnbaajplelchjaaGreatDoor
open Go.RowKit

theorem lit_cell {w : World} {g : Nat} {t : TypeId} {cs : Array Value} (h : Blk w g t cs) {u : Value} (j : Nat) (hu : cs[j]? = some u) : w.cell? ⟨g, j, none⟩ = some u := (h.cell j).trans hu
theorem own_low {w : World} {b b' size n : Nat} {e : TypeId} {v : Value} {xs : List Value} (h : w.ownsRow b e size v n xs) (hb : b' ≤ b) : w.ownsRow b' e size v n xs :=
  ⟨h.1, h.2.imp id (fun ⟨g, cap, cur, e1, hg, r⟩ => ⟨g, cap, cur, e1, Nat.le_trans hb hg, r⟩)⟩
theorem Blk.wrote {w w' : World} {base g b : Nat} {v v' : Value} {l k : List UInt8} {t : TypeId} {cs : Array Value} (h : Blk w b t cs) (hv : Wr w base g v l) (hp : Wrote base g v v' l k w w') (hb : b ≠ g) (ht : 5 ≠ t) : Blk w' b t cs :=
  h.kp hp.2.1 (fun hm => by
    rcases List.mem_cons.1 hm with e | hm
    · exact hb e
    · exact own_blk_ne hv.2 h ht (by simpa using hm))
theorem own_below {w w' : World} {base : Nat} {e : TypeId} {size n : Nat} {v : Value} {xs : List Value} (h : w.ownsRow base e size v n xs) (hb : Below w.heap.size w w') : w'.ownsRow base e size v n xs :=
  h.kept (row := none) ⟨hb.os, hb.tape, hb.output, hb.size, fun k hk _ => hb.block k hk⟩ (by
    cases v.ownBlock <;> simp)
theorem Kp.set_ {X : List Nat} {w w' : World} (h : Kp X w w') {g : Nat} (hg : w.heap.size ≤ g) (i : Nat) (v : Value) : Kp X w (w'.setCell ⟨g, i, none⟩ v) :=
  h.to (Kp.setCell ⟨g, i, none⟩ v) (fun _ h _ => h) (fun y hy hl => by simp at hy; omega)
theorem Kp.set_in {X : List Nat} {w w' : World} (h : Kp X w w') {g : Nat} (hg : g ∈ X) (i : Nat) (v : Value) : Kp X w (w'.setCell ⟨g, i, none⟩ v) :=
  h.to (Kp.setCell ⟨g, i, none⟩ v) (fun _ h _ => h) (fun y hy hl => by simp at hy; rw [hy]; exact hg)
theorem Kp.later {X : List Nat} {w w' w'' : World} (h : Kp X w w') (hb : Below w'.heap.size w' w'') : Kp X w w'' := h.to (Kp.of_below (X := []) hb) (fun _ h _ => h) (fun _ h => by cases h)
theorem blk_has {w : World} {g : Nat} {t : TypeId} {cs : Array Value} (h : Blk w g t cs) (i : Nat) (hi : i < cs.size) : ∃ u, w.cell? ⟨g, i, none⟩ = some u := ⟨cs[i], by rw [h.cell i, Array.getElem?_eq_getElem hi]⟩
section
variable {w0 w w' : World} {B : Nat → Prop} {R c nb q q' : Nat} {A : Option Addr} {l : List UInt8} {cs : Array Value} {er : Int}
theorem own_far {X : List Nat} {base size n : Nat} {e : TypeId} {v : Value} {xs : List Value} (h : w.ownsRow base e size v n xs) (hk : Kp X w w') (hX : ∀ x ∈ X, x < base) : w'.ownsRow base e size v n xs :=
  own_kp h hk (fun x hx e => by have := (h.lt x e).1; have := hX x hx; omega)
theorem own_setf {base size n g i : Nat} {e : TypeId} {v u : Value} {xs : List Value} (h : w.ownsRow base e size v n xs) (hg : g < base) : (w.setCell ⟨g, i, none⟩ u).ownsRow base e size v n xs :=
  own_far h (Kp.setCell ⟨g, i, none⟩ u) (by simpa using hg)
end
theorem results_cell_tmp {P : Program} {fn : Func} {p q : Tmp} {ty : TypeId} (h : fn.results = #[.cell p ty, .tmp q]) (tmps : Array Value) (w : World) (g : Nat) (t : TypeId) (cs : Array Value) (d : TypeDesc) (u : Value)
    (hp : tmps.getD p undef = .pointer (some ⟨g, 0, none⟩)) (hq : tmps.getD q undef = u) (hg : Blk w g t cs) (hu : P.underlying ty = some d) (hd : (match d with | .struct _ | .array _ _ => true | _ => false) = true) (hi : (P.info? ty).map (·.size) = some cs.size) :
    (results fn tmps).run P w = .ok (.tuple #[.agg cs, u]) w := by
  have hp' : tmps[p]?.getD undef = .pointer (some ⟨g, 0, none⟩) := by simpa using hp
  have hq' : tmps[q]?.getD undef = u := by simpa using hq
  simp [results, h, hp', hq', asAddr, run_loadVar_row w g t ty cs (0, 0) d hg hu hd hi]
theorem set_one {cs : Array Value} {i : Nat} {v : Value} (h : cs.all (·.oneCell') = true) (hv : v.oneCell' = true) : (cs.setIfInBounds i v).all (·.oneCell') = true := by
  rw [Array.all_eq_true] at h ⊢
  intro j hj
  rw [Array.getElem_setIfInBounds]
  split
  · exact hv
  · exact h j (by simpa using hj)
theorem reads_litf (w : World) (t : TypeId) (fr : Nat × Nat) (xs : List Value) : Reads (w.alloc (.cells xs.toArray t fr)) (w.heap.size + 1) 1 (some ⟨w.heap.size, 0, none⟩) xs.length xs :=
  ⟨by simp, fun _ => ⟨_, rfl, Nat.lt_succ_self _, fun j u hu => by
    have h := cell_of_row (w.alloc (.cells xs.toArray t fr)) w.heap.size j xs.toArray t fr (heap_alloc_new w _)
    rw [Go.WideShapes.add_plain, Nat.zero_add, h]
    simpa using hu⟩⟩
theorem own_cap {w : World} {base size n c : Nat} {e : TypeId} {A : Option Addr} {xs : List Value} (h : w.ownsRow base e size (.slice A n c) n xs) : n ≤ c := by
  rcases h.2 with ⟨h1, h2⟩ | ⟨g, cap, cur, h1, _, _, hc, _⟩
  · injection h1 with _ h3 h4
    omega
  · injection h1 with _ _ h3
    omega
/-- a row of bytes that a call handed out -/
def Got (w : World) (A : Option Addr) (n c : Nat) (l : List UInt8) : Prop := Reads w w.heap.size 1 A n (bcells l) ∧ n ≤ c ∧ (A = none → c = 0)
theorem Got.of_own {w : World} {B : Nat} {A : Option Addr} {n c : Nat} {l : List UInt8} (h : w.ownsRow B 5 1 (.slice A n c) n (bcells l)) : Got w A n c l := ⟨Reads.of_own h, own_cap h, fun e => (own_nil h e).2⟩
theorem Got.later {w w' : World} {A : Option Addr} {n c : Nat} {l : List UInt8} (h : Got w A n c l) (hb : Below w.heap.size w w') : Got w' A n c l := ⟨(h.1.below hb).more hb.size, h.2⟩
/-- rows compared, in an operation with a guard that lets it through -/
theorem wpList_eql_agg_g {P : Program} {ops : Array Oper} {rest : List Oper} {o : Oper} {a : Act} {w : World} {Q : Exit → Act → World → Prop} (hw : Region.wanted o (yielded ops a.tmps) = true) (t : TypeId) (x y : Operand) (t' : TypeId) (ho : o.op = .binOp .eql t x y t') (xs ys : Array Value) (hx : a.eval x = .agg xs) (hy : a.eval y = .agg ys)
    (hm : P.eqGuardType P.depth t = false) (b : Bool) (hr : (binOp .eql t (.agg xs) (.agg ys)).run P w = .ok (.bool b) w) (h : wpList P ops Q rest (a.put o.dst (.bool b)) w) : wpList P ops Q (o :: rest) a w :=
  wpList_step fun K hK => by
    rw [if_pos hw]
    unfold Oper.wp execOp
    simp only [ho, hx, hy, Sem.run_bind, run_eqGuard_agg w .eql t x y xs ys hm, Result.andThen_ok, hr]
    exact hK _ _ h
/-- a row loaded, in an operation with a guard that lets it through -/
theorem wpList_load_row_g {P : Program} {ops : Array Oper} {rest : List Oper} {o : Oper} {a : Act} {w : World} {Q : Exit → Act → World → Prop} (hw : Region.wanted o (yielded ops a.tmps) = true) (ty : TypeId) (x : Operand) (ho : o.op = .load ty x)
    (g : Nat) (hx : a.eval x = .pointer (some ⟨g, 0, none⟩)) (t : TypeId) (cs : Array Value) (fr : Nat × Nat) (d : TypeDesc) (hg : w.heap[g]? = some (.cells cs t fr))
    (hu : P.underlying ty = some d) (hd : (match d with | .struct _ | .array _ _ => true | _ => false) = true) (hi : (P.info? ty).map (·.size) = some cs.size)
    (h : wpList P ops Q rest (a.put o.dst (.agg cs)) w) : wpList P ops Q (o :: rest) a w :=
  wpList_step fun K hK => by rw [if_pos hw]; exact wp_load_row ty x ho g hx t cs fr d hg hu hd hi (hK _ _ h)
section
variable {P : Program}
end
end Go.Proofs.YtnbaajplelchjaaGreatDoor
