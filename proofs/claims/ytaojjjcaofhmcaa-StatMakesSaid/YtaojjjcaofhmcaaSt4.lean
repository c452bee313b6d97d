/- New by the program and by the reference. -/
import Derived.Test.YtaojjjcaofhmcaaSt3
namespace Go.Proofs.Ytaojjjcaofhmcaa
open Go.RowKit

section
variable (p : ByteArray) (dA : Option Addr) (dn dc : Nat) (aA : Option Addr) (an ac : Nat) (o z t : Int)
    (xs ys : List Value) (B : Nat) (w : World)
    (hd : Reads w B 1 dA dn xs) (ha : Reads w B 3 aA an ys) (hd1 : ∀ u ∈ xs, u.oneCell' = true) (ha1 : ∀ u ∈ ys, u.oneCell' = true) (hB : B ≤ w.heap.size) (hdn : dn ≤ 140737488355328) (han : an * 40 ≤ 140737488355328)
include hd ha hd1 ha1 hB hdn han

set_option maxRecDepth 100000 in
set_option maxHeartbeats 1000000 in
theorem new_any (hdnil : dA = none → dn = 0 ∧ dc = 0) (hanil : aA = none → an = 0 ∧ ac = 0) :
    Calls Try.prog 5 #[.string p, .slice dA dn dc, .slice aA an ac, .int .i64 o, .int .i64 z, .int .i64 t] w fun e w' => ∃ dA' dc' aA' ac', e = .returned (.agg #[.string p, .slice dA' dn dc', .slice aA' an ac', .int .i64 o, .int .i64 z, .int .i64 z, .int .i64 z, .int .i64 0, .int .i64 0, .int .i64 t, .int .i64 t, .int .i32 0, .int .i32 0, .int .i32 0, .bool false, .int .i64 0, .int .i64 0]) ∧
      w'.ownsRow w.heap.size 5 1 (.slice dA' dn dc') dn xs ∧ w'.ownsRow w.heap.size 47 3 (.slice aA' an ac') an ys ∧ Below w.heap.size w w' := by
  have HC := fun (W : World) (h : Below w.heap.size w W) => clone_any #[.string p, .slice dA dn dc, .slice aA an ac, .int .i64 o, .int .i64 z, .int .i64 z, .int .i64 z, .int .i64 0, .int .i64 0, .int .i64 t, .int .i64 t, .int .i32 0, .int .i32 0, .int .i32 0, .bool false, .int .i64 0, .int .i64 0] rfl (by simp [Value.oneCell']) dA dn dc aA an ac rfl rfl xs ys B W (hd.below (h.mono hB)) (ha.below (h.mono hB)) hd1 ha1 (Nat.le_trans hB h.size) hdn han hdnil hanil
  have HCC := Lib.hid HC
  clear HC hd ha hd1 ha1 hdnil hanil
  go_enter Try.func5, Try.ntmps5
  go_wp2_with (first
    | (go_at_call 19
       refine (HCC.out _ (by go_grown)).mono ?_
       rintro e w1 ⟨A1, k1, A2, k2, rfl, hown1, hown2, hb1⟩
       have kb2 : Blk w1 w.heap.size 27 _ := (Blk.new' (by simp)).below hb1 (by simp))
    | (refine wpList_store_row rfl 27 (.tmp 12) (.tmp 23) rfl w.heap.size #[.string p, .slice A1 dn k1, .slice A2 an k2, .int .i64 o, .int .i64 z, .int .i64 z, .int .i64 z, .int .i64 0, .int .i64 0, .int .i64 t, .int .i64 t, .int .i32 0, .int .i32 0, .int .i32 0, .bool false, .int .i64 0, .int .i64 0] rfl rfl 27 _ kb2 (by rw [node_size]; rfl) rfl (by simp [Value.oneCell']) ?_))
  refine bodyPost_ret (results_cell_row rfl _ _ w.heap.size 27 #[.string p, .slice A1 dn k1, .slice A2 an k2, .int .i64 o, .int .i64 z, .int .i64 z, .int .i64 z, .int .i64 0, .int .i64 0, .int .i64 t, .int .i64 t, .int .i32 0, .int .i32 0, .int .i32 0, .bool false, .int .i64 0, .int .i64 0] _ _ rfl (cells_setRow kb2) Try.underlying27 rfl (by rw [node_size]; rfl)) rfl ?_
  exact ⟨A1, k1, A2, k2, rfl, own_mono (own_setRow hown1 kb2 (by decide) _) (by simp), own_mono (own_setRow hown2 kb2 (by decide) _) (by simp), below_setRow' (Below.trans (by go_grown) (hb1.mono (by simp))) (by omega) _⟩

set_option maxRecDepth 100000 in
set_option maxHeartbeats 1000000 in
theorem refNew_any :
    Calls Try.prog 6 #[.string p, .slice dA dn dc, .slice aA an ac, .int .i64 o, .int .i64 z, .int .i64 t] w fun e w' => ∃ dA' dc' aA' ac', e = .returned (.agg #[.string p, .slice dA' dn dc', .slice aA' an ac', .int .i64 o, .int .i64 z, .int .i64 z, .int .i64 z, .int .i64 0, .int .i64 0, .int .i64 t, .int .i64 t, .int .i32 0, .int .i32 0, .int .i32 0, .bool false, .int .i64 0, .int .i64 0]) ∧
      w'.ownsRow w.heap.size 5 1 (.slice dA' dn dc') dn xs ∧ w'.ownsRow w.heap.size 47 3 (.slice aA' an ac') an ys ∧ Below w.heap.size w w' := by
  obtain ⟨i0, hi0, hz0, hz1, hz2⟩ := info_parts u8_info
  obtain ⟨j0, hj0, hy0, hy1, hy2⟩ := info_parts acl_info
  have HD := Lib.hid hd
  have HA := Lib.hid ha
  have HD1 := Lib.hid hd1
  have HA1 := Lib.hid ha1
  clear hd ha hd1 ha1
  go_enter Try.func6, Try.ntmps6
  go_wp2_with (first
    | (at_builtin
       refine wpList_append_any _ rfl (.tmp 14) (.tmp 15) _ rfl w.heap.size 5 i0 _ 1 1 Try.underlying22 hi0 hz0 hz1 hz2 rfl (by decide) (.slice (some ⟨w.heap.size + 1, 0, none⟩) 0 0) 0 [] rfl (owns_empty (Blk.new' (by simp)) (by omega)) B dA dn dc xs rfl (HD.out.below (by go_grown)) HD1.out (by simp only [maxLen]; omega) (by omega) (by simp; omega) ?_
       intro v1 w1 hown1 hg1 hat1
       have kb1 : Blk w1 w.heap.size 27 _ := ((Blk.new _ _ _).alloc _).grown hg1 (by simp [Value.ownBlock])
       have hb1 : Below w.heap.size w w1 := Below.grown (by go_grown) hg1 (by simp; omega) (fun k hk => by simp [Value.ownBlock] at hk; omega)
       have hl0 := kb1.lt
       clear hat1 hg1
       obtain ⟨A1, c1', hv1⟩ := slice_form hown1
       rw [hv1] at hown1 ⊢
       simp only [Nat.zero_add, List.nil_append] at hown1
       clear hv1 v1)
    | (at_builtin
       refine wpList_append_any _ rfl (.tmp 17) (.tmp 18) _ rfl w.heap.size 47 j0 _ 3 40 Try.underlying23 hj0 hy0 hy1 hy2 rfl (by decide) (.slice (some ⟨w1.heap.size, 0, none⟩) 0 0) 0 [] rfl (owns_empty (Blk.new' (by simp)) hb1.size) B aA an ac ys rfl (HA.out.below ((hb1.mono hB).trans (by go_grown))) HA1.out (by simp only [maxLen]; omega) (by omega) (by simp; omega) ?_
       intro v2 w2 hown2 hg2 hat2
       obtain ⟨A2, c2', hv2⟩ := slice_form hown2
       rw [hv2] at hown2 ⊢
       have kb3 : Blk w2 w.heap.size 27 _ := (kb1.alloc _).grown hg2 (by simp [Value.ownBlock]; omega)
       have hb2 : Below w.heap.size w w2 := Below.grown (hb1.trans (by go_grown)) hg2 (by simp; omega) (fun k hk => by simp [Value.ownBlock] at hk; omega)
       have hown3 := own_new (hown1.alloc (.cells #[] 47)) hg2 (own_lt hown1 (Nat.le_refl _))
       have hl2 := kb3.lt
       simp only [Nat.zero_add, List.nil_append] at hown2
       clear hat2 hg2 hv2 v2)
    | (refine wpList_store_row rfl 27 (.tmp 12) (.tmp 26) rfl w.heap.size #[.string p, .slice A1 dn c1', .slice A2 an c2', .int .i64 o, .int .i64 z, .int .i64 z, .int .i64 z, .int .i64 0, .int .i64 0, .int .i64 t, .int .i64 t, .int .i32 0, .int .i32 0, .int .i32 0, .bool false, .int .i64 0, .int .i64 0] rfl rfl 27 _ kb3 (by rw [node_size]; rfl) rfl (by simp [Value.oneCell']) ?_))
  refine bodyPost_ret (results_cell_row rfl _ _ w.heap.size 27 #[.string p, .slice A1 dn c1', .slice A2 an c2', .int .i64 o, .int .i64 z, .int .i64 z, .int .i64 z, .int .i64 0, .int .i64 0, .int .i64 t, .int .i64 t, .int .i32 0, .int .i32 0, .int .i32 0, .bool false, .int .i64 0, .int .i64 0] _ _ rfl (cells_setRow kb3) Try.underlying27 rfl (by rw [node_size]; rfl)) rfl ?_
  exact ⟨A1, c1', A2, c2', rfl, own_setRow hown3 kb3 (by decide) _, own_setRow hown2 kb3 (by decide) _, below_setRow' hb2 (by omega) _⟩
end

theorem retb {a b : Bool} (h : a = b) : Ending.returned (.bool a) = .returned (.bool b) := by rw [h]

/-! ### numbers of a node, each by its cells -/
def lifeOf (o : Int) : Int := if -72057594037927936 < o ∧ o ≤ -72057594037927936 + 1099511627775 then o + 72057594037927936 else 0
def agesB (o : Int) : Bool := decide (-72057594037927936 < o ∧ o ≤ -72057594037927936 + 1099511627775)
def ephB (o : Int) : Bool := o != 0 && o != -9223372036854775808 && !agesB o

section
variable (cs : Array Value) (o : Int) (ho : -9223372036854775808 ≤ o) (ho' : o ≤ 9223372036854775807) (c3 : cs[3]? = some (.int .i64 o)) (w : World)
include c3 ho ho'
set_option maxHeartbeats 400000 in
theorem life_any : Calls Try.prog 7 #[.agg cs] w fun e w' => e = .returned (.tuple #[.int .i64 (lifeOf o), .bool (agesB o)]) ∧ Below w.heap.size w w' := by
  by_cases h : -72057594037927936 < o ∧ o ≤ -72057594037927936 + 1099511627775
  · have e1 : lifeOf o = o + 72057594037927936 := by unfold lifeOf; rw [if_pos h]
    have e2 : agesB o = true := by unfold agesB; exact decide_eq_true h
    rw [e1, e2]
    clear e1 e2
    obtain ⟨h1, h2⟩ := h
    go_enter Try.func7, Try.ntmps7
    go_wp2
    go_ret2
    exact ⟨rfl, by go_grown⟩
  · have e1 : lifeOf o = 0 := by unfold lifeOf; rw [if_neg h]
    have e2 : agesB o = false := by unfold agesB; exact decide_eq_false h
    rw [e1, e2]
    clear e1 e2
    have h' : 0 ≤ o ∨ o ≤ -72057594037927936 ∨ (o < 0 ∧ -72057594037927936 + 1099511627775 < o) := by omega
    clear h
    rcases h' with h | h | ⟨h, h2⟩
    all_goals
      go_enter Try.func7, Try.ntmps7
      go_wp2
      all_goals
        go_ret2
        exact ⟨rfl, by go_grown⟩
set_option maxHeartbeats 400000 in
theorem refLife_any : Calls Try.prog 8 #[.agg cs] w fun e w' => e = .returned (.tuple #[.int .i64 (lifeOf o), .bool (agesB o)]) ∧ Below w.heap.size w w' := by
  by_cases h : -72057594037927936 < o ∧ o ≤ -72057594037927936 + 1099511627775
  · have e1 : lifeOf o = o + 72057594037927936 := by unfold lifeOf; rw [if_pos h]
    have e2 : agesB o = true := by unfold agesB; exact decide_eq_true h
    rw [e1, e2]
    clear e1 e2
    obtain ⟨h1, h2⟩ := h
    go_enter Try.func8, Try.ntmps8
    go_wp2
    go_ret2
    exact ⟨rfl, by go_grown⟩
  · have e1 : lifeOf o = 0 := by unfold lifeOf; rw [if_neg h]
    have e2 : agesB o = false := by unfold agesB; exact decide_eq_false h
    rw [e1, e2]
    clear e1 e2
    have h' : 0 ≤ o ∨ o ≤ -72057594037927936 ∨ (o < 0 ∧ -72057594037927936 + 1099511627775 < o) := by omega
    clear h
    rcases h' with h | h | ⟨h, h2⟩
    all_goals
      go_enter Try.func8, Try.ntmps8
      go_wp2
      all_goals
        go_ret2
        exact ⟨rfl, by go_grown⟩

set_option maxHeartbeats 400000 in
theorem eph_any (hcs : cs.size = 17) : Calls Try.prog 16 #[.agg cs] w fun e w' => e = .returned (.bool (ephB o)) ∧ Below w.heap.size w w' := by
  have HS := Lib.hid hcs
  clear hcs
  go_enter Try.func16, Try.ntmps16
  go_wp2_with (first
    | (go_at_call 7
       refine (life_any cs o ho ho' c3 _).mono ?_
       rintro e w1 ⟨rfl, hb1⟩
       have kb1 : Blk w1 w.heap.size 27 _ := (Blk.new _ _ _).below hb1 (by simp)
       have kc1 := kb1.cell
       have hbb : Below w.heap.size w w1 := Below.trans (by go_grown) (hb1.mono (by simp)))
    | (refine wpList_load_row rfl 27 (.tmp 1) rfl w.heap.size rfl 27 _ _ _ (Blk.new _ _ _) Try.underlying27 rfl (by rw [node_size]; simp [HS.out]) ?_))
  all_goals
    go_ret
    exact ⟨retb (by simp [ephB, *]), hbb⟩

set_option maxHeartbeats 400000 in
theorem refEph_any (hcs : cs.size = 17) : Calls Try.prog 17 #[.agg cs] w fun e w' => e = .returned (.bool (ephB o)) ∧ Below w.heap.size w w' := by
  have HS := Lib.hid hcs
  clear hcs
  go_enter Try.func17, Try.ntmps17
  go_wp2_with (first
    | (go_at_call 8
       refine (refLife_any cs o ho ho' c3 _).mono ?_
       rintro e w1 ⟨rfl, hb1⟩
       have kb1 : Blk w1 w.heap.size 27 _ := (Blk.new _ _ _).below hb1 (by simp)
       have kc1 := kb1.cell
       have hbb : Below w.heap.size w w1 := Below.trans (by go_grown) (hb1.mono (by simp)))
    | (refine wpList_load_row rfl 27 (.tmp 1) rfl w.heap.size rfl 27 _ _ _ (Blk.new _ _ _) Try.underlying27 rfl (by rw [node_size]; simp [HS.out]) ?_))
  all_goals
    go_ret
    exact ⟨retb (by simp [ephB, *]), hbb⟩
end
end Go.Proofs.Ytaojjjcaofhmcaa
