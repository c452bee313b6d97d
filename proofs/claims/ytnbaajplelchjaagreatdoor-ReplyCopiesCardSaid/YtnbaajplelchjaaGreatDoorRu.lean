/- Short forms for walks over results. (printed by gen_ru.py) -/
import Derived.Test.YtnbaajplelchjaaGreatDoorRa2
set_option linter.unusedVariables false
set_option linter.unusedSimpArgs false
namespace Go.Proofs.YtnbaajplelchjaaGreatDoor
open Go.RowKit

theorem hidT {w w1 w2 : World} (h : Hid (Below w.heap.size w w1)) (k : Below w1.heap.size w1 w2) : Hid (Below w.heap.size w w2) := Lib.hid (h.out.trans (k.mono h.out.size))
theorem newB {w w' : World} {x} (h : w.alloc x = w') : Below w.heap.size w w' := by subst h; exact (Below.refl _ _).alloc (Nat.le_refl _) _
theorem newK {w w' : World} {t : TypeId} {cs : Array Value} (h : w.alloc (.cells cs t) = w') : Blk w' w.heap.size t cs := by subst h; exact Blk.new _ _ _
theorem cellsB {w : World} {g : Nat} {t : TypeId} {l : List Value} (h : Blk w g t l.toArray) (j : Nat) (v : Value) (hv : l[j]? = some v) : w.cell? ((⟨g, 0, none⟩ : Addr).add j) = some v := by
  rw [Go.WideShapes.add_plain, Nat.zero_add]; exact blk_cell h j (by simpa using hv)
theorem wpAt (n : Nat) {a b c d e r P Q p f w} (h : wpList p f w (Oper.mk (some n) a b c d e :: r) P Q) : wpList p f w (Oper.mk (some n) a b c d e :: r) P Q := h

theorem own_capO {w : World} {base size n c : Nat} {e : TypeId} {A : Option Addr} {xs : List Value} (h : w.ownsRow base e size (.slice A n c) n xs) : n ≤ c := by
  rcases h.2 with ⟨h1, h2⟩ | ⟨g, cap, cur, h1, _, _, hc, _⟩
  · injection h1 with _ h3 h4
    omega
  · injection h1 with _ _ h3
    omega

theorem reads_litO (w : World) (t : TypeId) (fr : Nat × Nat) (xs : List Value) : Reads (w.alloc (.cells xs.toArray t fr)) (w.heap.size + 1) 1 (some ⟨w.heap.size, 0, none⟩) xs.length xs :=
  ⟨by simp, fun _ => ⟨_, rfl, Nat.lt_succ_self _, fun j u hu => by
    have h := cell_of_row (w.alloc (.cells xs.toArray t fr)) w.heap.size j xs.toArray t fr (heap_alloc_new w _)
    rw [Go.WideShapes.add_plain, Nat.zero_add, h]
    simpa using hu⟩⟩

theorem app0 {W w' : World} {lo : Option Nat} {b : Nat} {e : TypeId} {size bytes len : Nat} {s : Sl} {xs : List Value} {v : Value} (h : SlAt W lo e size bytes s len xs) (ho : w'.ownsRow b e size v (0 + s.n) ([] ++ xs)) : ∃ s' : Sl, v = .slice s'.A s'.n s'.c ∧ SlAt w' (some b) e size bytes s' len xs := by
  rw [Nat.zero_add, List.nil_append] at ho
  obtain ⟨A', c', rfl⟩ := slice_form ho
  exact ⟨⟨A', s.n, c'⟩, rfl, by rw [h.len]; exact SlAt.of_own ho h.reach⟩
theorem wpList_load1 {P : Program} {ops : Array Oper} {rest : List Oper} {o : Oper} {a : Act} {w : World} {Q : Exit → Act → World → Prop} (hgd : o.guard = none) (ty : TypeId) (x : Operand) (ho : o.op = .load ty x)
    (ad : Addr) (hx : a.eval x = .pointer (some ad)) {v : Value} (hc : w.cell? ad = some v) {d : TypeDesc} (hu : P.underlying ty = some d) (hd : (match d with | .struct _ | .array _ _ => false | _ => true) = true)
    (h : wpList P ops Q rest (a.put o.dst v) w) : wpList P ops Q (o :: rest) a w := wpList_step fun K hK => op_u hgd (r_load ty x ho hx hc hu hd) (hK _ _ h)
theorem FlatSt.lit (W : World) : FlatSt W.heap.size (.slice (some ⟨W.heap.size, 0, none⟩) 0 0) [] (W.alloc (.cells #[] 33)) :=
  ⟨World.ownsRow_made W #[] 0 (Nat.le_refl _) (by decide) rfl, by simp, fun _ hr => by cases hr⟩

theorem at_map {P : List (ResC × List Value)} {xs : List ResC} (h : P.map Prod.fst = xs) {j : Nat} (hj : j < P.length) : xs[j]? = some (P[j]).1 := by
  rw [← h, List.getElem?_map, List.getElem?_eq_getElem hj]
  rfl

theorem row_tail {w : World} {g : Nat} {t : TypeId} {z : Value} {cs : List Value} (h : Blk w g t (z :: cs).toArray) : ∀ j v, cs[j]? = some v → w.cell? ((⟨g, 1, none⟩ : Addr).add j) = some v := fun j v hv => by
  rw [Go.WideShapes.add_plain, Nat.add_comm]
  exact blk_cell h (j + 1) (by simpa using hv)
section
variable {w : World} {lo : Option Nat} {x : ResC} {cs : List Value} (h : At w lo x cs)
include h
theorem At.infoL : (Tryz.prog.info? 33).map (·.size) = some cs.length := by rw [h.len]; exact isz_33
theorem At.infoA : (Tryz.prog.info? 33).map (·.size) = some cs.toArray.size := by rw [List.size_toArray, h.len]; exact isz_33
theorem At.zeroA : ((Tryz.prog.info? 33).bind (·.zero)).map (·.cells.size) = some cs.toArray.size := by rw [List.size_toArray, h.len]; exact zer_res
end

end Go.Proofs.YtnbaajplelchjaaGreatDoor
