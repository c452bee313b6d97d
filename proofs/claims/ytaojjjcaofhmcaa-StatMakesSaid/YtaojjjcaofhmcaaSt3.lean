/- Copied, New by the program and by the reference, the clone by the program. -/
import Derived.Test.YtaojjjcaofhmcaaSt2
namespace Go.Proofs.Ytaojjjcaofhmcaa
open Go.RowKit

theorem own_mono {w : World} {base base' : Nat} {e : TypeId} {size n : Nat} {v : Value} {xs : List Value} (h : w.ownsRow base e size v n xs) (hb : base' ≤ base) : w.ownsRow base' e size v n xs :=
  ⟨h.1, h.2.imp id fun ⟨g, cap, cur, h1, h2, h3⟩ => ⟨g, cap, cur, h1, Nat.le_trans hb h2, h3⟩⟩
theorem own_below {w w' : World} {base : Nat} {e : TypeId} {size n : Nat} {v : Value} {xs : List Value} (h : w.ownsRow base e size v n xs) (hb : Below w.heap.size w w') : w'.ownsRow base e size v n xs :=
  h.kept (row := none) ⟨hb.os, hb.tape, hb.output, hb.size, fun k hk _ => hb.block k hk⟩ (by
    cases v.ownBlock <;> simp)

section
variable (cs : Array Value) (hcs : cs.size = 17) (hone : cs.all (·.oneCell') = true) (dA : Option Addr) (dn dc : Nat) (aA : Option Addr) (an ac : Nat) (c1 : cs[1]? = some (.slice dA dn dc)) (c2 : cs[2]? = some (.slice aA an ac))
    (xs ys : List Value) (B : Nat) (w : World)
    (hd : Reads w B 1 dA dn xs) (ha : Reads w B 3 aA an ys) (hd1 : ∀ u ∈ xs, u.oneCell' = true) (ha1 : ∀ u ∈ ys, u.oneCell' = true) (hB : B ≤ w.heap.size) (hdn : dn ≤ 140737488355328) (han : an * 40 ≤ 140737488355328)
include hcs hone c1 c2 hd ha hd1 ha1 hB hdn han

set_option maxRecDepth 100000 in
set_option maxHeartbeats 1000000 in
theorem copied_any :
    Calls Try.prog 4 #[.agg cs] w fun e w' => ∃ dA' dc' aA' ac', e = .returned (.agg (reNode cs (.slice dA' dn dc') (.slice aA' an ac'))) ∧
      w'.ownsRow w.heap.size 5 1 (.slice dA' dn dc') dn xs ∧ w'.ownsRow w.heap.size 47 3 (.slice aA' an ac') an ys ∧ Below w.heap.size w w' := by
  have HS := Lib.hid hcs
  have HO := Lib.hid hone
  have HC := fun (W : World) (h : Below w.heap.size w W) => refClone_any cs hcs hone dA dn dc aA an ac c1 c2 xs ys B W (hd.below (h.mono hB)) (ha.below (h.mono hB)) hd1 ha1 (Nat.le_trans hB h.size) hdn han
  have HCC := Lib.hid HC
  clear HC hcs hone c1 c2 hd ha hd1 ha1
  go_enter Try.func4, Try.ntmps4
  go_wp2_with (first
    | (go_at_call 18
       refine (HCC.out _ (by go_grown)).mono ?_
       rintro e w1 ⟨A1, k1, A2, k2, rfl, hown1, hown2, hb1⟩
       have kb2 : Blk w1 (w.heap.size + 1) 27 _ := (Blk.new' (by simp)).below hb1 (by simp))
    | (refine wpList_load_row rfl 27 (.tmp 1) rfl w.heap.size rfl 27 _ _ _ ((Blk.new _ _ _).alloc _) Try.underlying27 rfl (by rw [node_size]; simp [HS.out]) ?_)
    | (refine wpList_store_row rfl 27 (.tmp 2) (.tmp 4) rfl (w.heap.size + 1) _ rfl rfl 27 _ kb2 (by rw [node_size]; simp [reNode, HS.out]) (by simp [reNode, HS.out]) (re_one HO.out _ _ _ _ _ _) ?_))
  refine bodyPost_ret (results_cell_row rfl _ _ (w.heap.size + 1) 27 _ _ _ rfl (cells_setRow kb2) Try.underlying27 rfl (by rw [node_size]; simp [reNode, HS.out])) rfl ?_
  exact ⟨A1, k1, A2, k2, rfl, own_mono (own_setRow hown1 kb2 (by decide) _) (by simp; omega), own_mono (own_setRow hown2 kb2 (by decide) _) (by simp; omega), below_setRow' (Below.trans (by go_grown) (hb1.mono (by simp; omega))) (by omega) _⟩

set_option maxRecDepth 100000 in
set_option maxHeartbeats 1000000 in
theorem clone_any (hdnil : dA = none → dn = 0 ∧ dc = 0) (hanil : aA = none → an = 0 ∧ ac = 0) :
    Calls Try.prog 19 #[.agg cs] w fun e w' => ∃ dA' dc' aA' ac', e = .returned (.agg (reNode cs (.slice dA' dn dc') (.slice aA' an ac'))) ∧
      w'.ownsRow w.heap.size 5 1 (.slice dA' dn dc') dn xs ∧ w'.ownsRow w.heap.size 47 3 (.slice aA' an ac') an ys ∧ Below w.heap.size w w' := by
  have HS := Lib.hid hcs
  have HO := Lib.hid hone
  have HD := fun (W : World) (h : Below w.heap.size w W) => bytesClone_any dA dn dc B xs W (hd.below (h.mono hB)) hd1 (Nat.le_trans hB h.size) (by omega) hdnil
  have HA := fun (W : World) (h : Below w.heap.size w W) => aclsClone_any aA an ac B ys W (ha.below (h.mono hB)) ha1 (Nat.le_trans hB h.size) (by omega) hanil
  have HDD := Lib.hid HD
  have HAA := Lib.hid HA
  clear HD HA hcs hone hd ha hd1 ha1 hdnil hanil
  go_enter Try.func19, Try.ntmps19
  go_wp2_with (first
    | (go_at_call 21
       refine (HDD.out _ (by go_grown)).mono ?_
       rintro e w1 ⟨A1, k1, rfl, hown1, hb1⟩
       have kb1 : Blk w1 w.heap.size 27 _ := ((Blk.new _ _ _).alloc _).below hb1 (by simp; omega)
       have kb2 : Blk w1 (w.heap.size + 1) 27 _ := (Blk.new' (by simp)).below hb1 (by simp)
       have hb1' : Below w.heap.size w w1 := Below.trans (by go_grown) (hb1.mono (by simp; omega))
       have kc1 := kb1.cell
       have kf1 := kb1.frozen
       have hl0 := kb1.lt
       have hl1 := kb2.lt
       clear hb1)
    | (go_at_call 22
       refine (HAA.out _ (hb1'.trans (by go_grown))).mono ?_
       rintro e w2 ⟨A2, k2, rfl, hown2, hb2⟩
       have kb3 : Blk w2 w.heap.size 27 _ := (kb1.set_ 1 (.slice A1 dn k1)).below hb2 (by simp; omega)
       have kb4 : Blk w2 (w.heap.size + 1) 27 _ := (kb2.far (p := ⟨w.heap.size, 1, none⟩) (by simp) (.slice A1 dn k1)).below hb2 (by simp; omega)
       have hb2' : Below w.heap.size w w2 := hb1'.trans (Below.trans (by go_grown) (hb2.mono (by simp; omega)))
       have hown3 := own_below (own_set hown1 kb1 (by decide) 1 (.slice A1 dn k1)) hb2
       have kc3 : w2.cell? ⟨w.heap.size, 2, none⟩ = some (.slice aA an ac) := by rw [kb3.cell]; simpa using c2
       have kf3 := kb3.frozen
       have hl2 := kb3.lt
       have hl3 := kb4.lt
       clear kc1 kf1 hb2)
    | (refine wpList_load_row rfl 27 (.tmp 1) rfl w.heap.size rfl 27 _ _ _ (kb3.set_ 2 (.slice A2 an k2)) Try.underlying27 rfl (by rw [node_size]; simp [HS.out]) ?_)
    | (refine wpList_store_row rfl 27 (.tmp 2) (.tmp 11) rfl (w.heap.size + 1) _ rfl rfl 27 _ (kb4.far (p := ⟨w.heap.size, 2, none⟩) (by simp) (.slice A2 an k2)) (by rw [node_size]; simp [HS.out]) (by simp [HS.out]) (re_one HO.out _ _ _ _ _ _) ?_))
  refine bodyPost_ret (results_cell_row rfl _ _ (w.heap.size + 1) 27 _ _ _ rfl (cells_setRow (kb4.far (p := ⟨w.heap.size, 2, none⟩) (by simp) (.slice A2 an k2))) Try.underlying27 rfl (by rw [node_size]; simp [HS.out])) rfl ?_
  exact ⟨A1, k1, A2, k2, rfl, own_mono (own_setRow (own_set hown3 kb3 (by decide) _ _) (kb4.far (p := ⟨w.heap.size, 2, none⟩) (by simp) (.slice A2 an k2)) (by decide) _) (by simp; omega), own_mono (own_setRow (own_set hown2 kb3 (by decide) _ _) (kb4.far (p := ⟨w.heap.size, 2, none⟩) (by simp) (.slice A2 an k2)) (by decide) _) (by simp; omega), below_setRow' (hb2'.setCell (Nat.le_refl _) _) (by omega) _⟩
end
end Go.Proofs.Ytaojjjcaofhmcaa
