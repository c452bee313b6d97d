/- The clones of a node, by the program and by the reference: its bytes and its permissions lie in new memory; its other cells are as they were. -/
import Derived.Test.YtaojjjcaofhmcaaSt1
namespace Go.Proofs.Ytaojjjcaofhmcaa
open Go.RowKit

theorem node_size : (Try.prog.info? 27).map (·.size) = some 17 := by kernel_rfl
/-- the cells of a node with other bytes and permissions -/
def reNode (cs : Array Value) (d a : Value) : Array Value := (cs.setIfInBounds 1 d).setIfInBounds 2 a

theorem re_one {cs : Array Value} (h : cs.all (·.oneCell') = true) (A1 : Option Addr) (n1 c1 : Nat) (A2 : Option Addr) (n2 c2 : Nat) : ((cs.setIfInBounds 1 (.slice A1 n1 c1)).setIfInBounds 2 (.slice A2 n2 c2)).all (·.oneCell') = true := by
  rw [Array.all_eq_true_iff_forall_mem] at h ⊢
  intro x hx
  rcases Array.mem_or_eq_of_mem_setIfInBounds hx with hx | rfl
  · rcases Array.mem_or_eq_of_mem_setIfInBounds hx with hx | rfl
    · exact h x hx
    · rfl
  · rfl

set_option maxRecDepth 100000 in
set_option maxHeartbeats 1000000 in
theorem refClone_any (cs : Array Value) (hcs : cs.size = 17) (hone : cs.all (·.oneCell') = true) (dA : Option Addr) (dn dc : Nat) (aA : Option Addr) (an ac : Nat) (c1 : cs[1]? = some (.slice dA dn dc)) (c2 : cs[2]? = some (.slice aA an ac))
    (xs ys : List Value) (B : Nat) (w : World)
    (hd : Reads w B 1 dA dn xs) (ha : Reads w B 3 aA an ys) (hd1 : ∀ u ∈ xs, u.oneCell' = true) (ha1 : ∀ u ∈ ys, u.oneCell' = true) (hB : B ≤ w.heap.size) (hdn : dn ≤ 140737488355328) (han : an * 40 ≤ 140737488355328) :
    Calls Try.prog 18 #[.agg cs] w fun e w' => ∃ dA' dc' aA' ac', e = .returned (.agg (reNode cs (.slice dA' dn dc') (.slice aA' an ac'))) ∧
      w'.ownsRow w.heap.size 5 1 (.slice dA' dn dc') dn xs ∧ w'.ownsRow w.heap.size 47 3 (.slice aA' an ac') an ys ∧ Below w.heap.size w w' := by
  obtain ⟨i0, hi0, hz0, hz1, hz2⟩ := info_parts u8_info
  obtain ⟨j0, hj0, hy0, hy1, hy2⟩ := info_parts acl_info
  have HD := Lib.hid hd
  have HA := Lib.hid ha
  have HD1 := Lib.hid hd1
  have HA1 := Lib.hid ha1
  have HS := Lib.hid hcs
  have HO := Lib.hid hone
  clear hd ha hd1 ha1 hcs hone
  go_enter Try.func18, Try.ntmps18
  go_wp2_with (first
    | (at_builtin
       refine wpList_append_any _ rfl (.tmp 3) (.tmp 5) _ rfl w.heap.size 5 i0 _ 1 1 Try.underlying22 hi0 hz0 hz1 hz2 rfl (by decide) (.slice (some ⟨w.heap.size + 2, 0, none⟩) 0 0) 0 [] rfl (owns_empty (Blk.new' (by simp)) (by omega)) B dA dn dc xs rfl (HD.out.below (by go_grown)) HD1.out (by simp only [maxLen]; omega) (by omega) (by simp; omega) ?_
       intro v1 w1 hown1 hg1 hat1
       have kb1 : Blk w1 w.heap.size 27 _ := (((Blk.new _ _ _).alloc _).alloc _).grown hg1 (by simp [Value.ownBlock])
       have kb2 : Blk w1 (w.heap.size + 1) 27 _ := ((Blk.new' (by simp)).alloc _).grown hg1 (by simp [Value.ownBlock])
       have hb1 : Below w.heap.size w w1 := Below.grown (by go_grown) hg1 (by simp; omega) (fun k hk => by simp [Value.ownBlock] at hk; omega)
       have kc1 := kb1.cell
       have kf1 := kb1.frozen
       have hl0 := kb1.lt
       have hl1 := kb2.lt
       have hs1 := hb1.size
       clear hat1 hg1
       obtain ⟨A1, c1', hv1⟩ := slice_form hown1
       rw [hv1] at hown1 ⊢
       simp only [Nat.zero_add, List.nil_append] at hown1
       clear hv1 v1)
    | (at_builtin
       refine wpList_append_any _ rfl (.tmp 8) (.tmp 10) _ rfl w.heap.size 47 j0 _ 3 40 Try.underlying23 hj0 hy0 hy1 hy2 rfl (by decide) (.slice (some ⟨w1.heap.size, 0, none⟩) 0 0) 0 [] rfl (owns_empty (Blk.new' (by simp)) hb1.size) B aA an ac ys rfl (HA.out.below ((hb1.mono hB).trans (by go_grown))) HA1.out (by simp only [maxLen]; omega) (by omega) (by simp; omega) ?_
       intro v2 w2 hown2 hg2 hat2
       obtain ⟨A2, c2', hv2⟩ := slice_form hown2
       rw [hv2] at hown2 ⊢
       have kb3 : Blk w2 w.heap.size 27 _ := ((kb1.set_ 1 (.slice A1 dn c1')).alloc _).grown hg2 (by simp [Value.ownBlock]; omega)
       have kb4 : Blk w2 (w.heap.size + 1) 27 _ := ((kb2.far (p := ⟨w.heap.size, 1, none⟩) (by simp) (.slice A1 dn c1')).alloc _).grown hg2 (by simp [Value.ownBlock]; omega)
       have hb2 : Below w.heap.size w w2 := Below.grown (hb1.trans (by go_grown)) hg2 (by simp; omega) (fun k hk => by simp [Value.ownBlock] at hk; omega)
       have hown3 := own_new ((own_set hown1 kb1 (by decide) 1 (.slice A1 dn c1')).alloc (.cells #[] 47)) hg2 (own_lt hown1 (Nat.le_refl _))
       have kf3 := kb3.frozen
       have kc3 : w2.cell? ⟨w.heap.size, 2, none⟩ = some (.slice aA an ac) := by rw [kb3.cell]; simpa using c2
       have hl2 := kb3.lt
       have hl3 := kb4.lt
       simp only [Nat.zero_add, List.nil_append] at hown2
       clear kc1 kf1 hat2 hg2 hv2 v2)
    | (refine wpList_load_row rfl 27 (.tmp 1) rfl w.heap.size rfl 27 _ _ _ (kb3.set_ 2 (.slice A2 an c2')) Try.underlying27 rfl (by rw [node_size]; simp [HS.out]) ?_)
    | (refine wpList_store_row rfl 27 (.tmp 2) (.tmp 13) rfl (w.heap.size + 1) _ rfl rfl 27 _ (kb4.far (p := ⟨w.heap.size, 2, none⟩) (by simp) (.slice A2 an c2')) (by rw [node_size]; simp [HS.out]) (by simp [HS.out]) (re_one HO.out _ _ _ _ _ _) ?_))
  refine bodyPost_ret (results_cell_row rfl _ _ (w.heap.size + 1) 27 _ _ _ rfl (cells_setRow (kb4.far (p := ⟨w.heap.size, 2, none⟩) (by simp) (.slice A2 an c2'))) Try.underlying27 rfl (by rw [node_size]; simp [HS.out])) rfl ?_
  refine ⟨A1, c1', A2, c2', rfl, own_setRow (own_set hown3 kb3 (by decide) _ _) (kb4.far (p := ⟨w.heap.size, 2, none⟩) (by simp) (.slice A2 an c2')) (by decide) _, own_setRow (own_set hown2 kb3 (by decide) _ _) (kb4.far (p := ⟨w.heap.size, 2, none⟩) (by simp) (.slice A2 an c2')) (by decide) _, below_setRow' (hb2.setCell (Nat.le_refl _) _) (by omega) _⟩
end Go.Proofs.Ytaojjjcaofhmcaa
