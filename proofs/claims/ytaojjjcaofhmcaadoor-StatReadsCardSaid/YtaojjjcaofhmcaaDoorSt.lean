/- Copies in new memory: bytes.Clone, slices.Clone of permissions, the clones of a node by the program and by the reference. -/
import Derived.Test.YtaojjjcaofhmcaaDoorBase
import Derived.Deep.QuietTactic
import Derived.BigQuiet
set_option linter.unusedVariables false
set_option linter.unusedSimpArgs false
namespace Go.Proofs.YtaojjjcaofhmcaaDoor
open Go.RowKit

theorem u8_infoS : (Tryd.prog.info? 5).map (fun i => (i.zero, i.size, i.bytes)) = some (some (.int .u8 0), 1, 1) := by kernel_rfl
theorem acl_info : (Tryd.prog.info? 57).map (fun i => (i.zero, i.size, i.bytes)) = some (some (.agg #[.int .i32 0, .string .empty, .string .empty]), 3, 40) := by kernel_rfl

set_option maxHeartbeats 400000 in
theorem bytesClone_any (A : Option Addr) (n c B : Nat) (xs : List Value) (w : World) (hr : Reads w B 1 A n xs) (h1 : ∀ u ∈ xs, u.oneCell' = true) (hB : B ≤ w.heap.size) (hn : n * 1 ≤ 140737488355328) (hnil : A = none → n = 0 ∧ c = 0) :
    Calls Tryd.prog 62 #[.slice A n c] w fun e w' => ∃ A' c', e = .returned (.slice A' n c') ∧ w'.ownsRow w.heap.size 5 1 (.slice A' n c') n xs ∧ Below w.heap.size w w' := by
  obtain ⟨i0, hi0, hz0, hz1, hz2⟩ := info_parts u8_infoS
  rcases A with _ | ad
  · obtain ⟨rfl, rfl⟩ := hnil rfl
    have hx : xs = [] := List.eq_nil_of_length_eq_zero (by simpa using hr.1)
    subst hx
    clear hr h1 hn hnil
    have hq := fun W : World => Lib.run_eql_slice_nil (P := Tryd.prog) W 24 5 none 0 0 0 0 Tryd.underlying24
    go_enter Tryd.func62, Tryd.ntmps62
    go_wp2
    go_ret
    exact ⟨_, _, rfl, World.ownsRow_nil _ _ _ _, Below.refl _ _⟩
  · have HR := Lib.hid hr
    have H1 := Lib.hid h1
    have hq := fun W : World => Lib.run_eql_slice_nil (P := Tryd.prog) W 24 5 (some ad) n c 0 0 Tryd.underlying24
    clear hr h1 hnil
    go_enter Tryd.func62, Tryd.ntmps62
    go_wp2_with (at_builtin; refine wpList_append_any _ rfl (.tmp 5) (.tmp 6) _ rfl w.heap.size 5 i0 _ 1 1 Tryd.underlying24 hi0 hz0 hz1 hz2 rfl (by decide) (.slice (some ⟨w.heap.size, 0, none⟩) 0 0) 0 [] rfl (World.ownsRow_made w #[] 0 (Nat.le_refl _) (by decide) rfl) B (some ad) n c xs rfl (HR.out.alloc hB _) H1.out (by simp only [maxLen]; omega) (by omega) (by simp) ?_; intro v1 w1 hown1 hg1 hat1)
    go_ret
    have hb1 : Below w.heap.size w w1 := ((Below.refl _ _).alloc (Nat.le_refl _) _).grown hg1 (by simp) (fun k hk => by simp [Value.ownBlock] at hk; omega)
    obtain ⟨A', c', rfl⟩ : ∃ A' c', v1 = .slice A' (0 + n) c' := by
      rcases hown1.2 with ⟨rfl, h0⟩ | ⟨g, cap, cur, rfl, _⟩
      · exact ⟨none, 0, by rw [h0]⟩
      · exact ⟨_, _, rfl⟩
    simp only [Nat.zero_add, List.nil_append] at hown1
    exact ⟨A', c', by simp, hown1, hb1⟩

set_option maxHeartbeats 400000 in
theorem aclsClone_any (A : Option Addr) (n c B : Nat) (xs : List Value) (w : World) (hr : Reads w B 3 A n xs) (h1 : ∀ u ∈ xs, u.oneCell' = true) (hB : B ≤ w.heap.size) (hn : n * 40 ≤ 140737488355328) (hnil : A = none → n = 0 ∧ c = 0) :
    Calls Tryd.prog 63 #[.slice A n c] w fun e w' => ∃ A' c', e = .returned (.slice A' n c') ∧ w'.ownsRow w.heap.size 57 3 (.slice A' n c') n xs ∧ Below w.heap.size w w' := by
  obtain ⟨i0, hi0, hz0, hz1, hz2⟩ := info_parts acl_info
  rcases A with _ | ad
  · obtain ⟨rfl, rfl⟩ := hnil rfl
    have hx : xs = [] := List.eq_nil_of_length_eq_zero (by simpa using hr.1)
    subst hx
    clear hr h1 hn hnil
    have hq := fun W : World => Lib.run_eql_slice_nil (P := Tryd.prog) W 28 57 none 0 0 0 0 Tryd.underlying28
    go_enter Tryd.func63, Tryd.ntmps63
    go_wp2
    go_ret
    exact ⟨_, _, rfl, World.ownsRow_nil _ _ _ _, Below.refl _ _⟩
  · have HR := Lib.hid hr
    have H1 := Lib.hid h1
    have hq := fun W : World => Lib.run_eql_slice_nil (P := Tryd.prog) W 28 57 (some ad) n c 0 0 Tryd.underlying28
    clear hr h1 hnil
    go_enter Tryd.func63, Tryd.ntmps63
    go_wp2_with (at_builtin; refine wpList_append_any _ rfl (.tmp 5) (.tmp 6) _ rfl w.heap.size 57 i0 _ 3 40 Tryd.underlying28 hi0 hz0 hz1 hz2 rfl (by decide) (.slice (some ⟨w.heap.size, 0, none⟩) 0 0) 0 [] rfl (World.ownsRow_made w #[] 0 (Nat.le_refl _) (by decide) rfl) B (some ad) n c xs rfl (HR.out.alloc hB _) H1.out (by simp only [maxLen]; omega) (by omega) (by simp) ?_; intro v1 w1 hown1 hg1 hat1)
    go_ret
    have hb1 : Below w.heap.size w w1 := ((Below.refl _ _).alloc (Nat.le_refl _) _).grown hg1 (by simp) (fun k hk => by simp [Value.ownBlock] at hk; omega)
    obtain ⟨A', c', rfl⟩ : ∃ A' c', v1 = .slice A' (0 + n) c' := by
      rcases hown1.2 with ⟨rfl, h0⟩ | ⟨g, cap, cur, rfl, _⟩
      · exact ⟨none, 0, by rw [h0]⟩
      · exact ⟨_, _, rfl⟩
    simp only [Nat.zero_add, List.nil_append] at hown1
    exact ⟨A', c', by simp, hown1, hb1⟩

end Go.Proofs.YtaojjjcaofhmcaaDoor
/- The clones of a node, by the program and by the reference: its bytes and its permissions lie in new memory; its other cells are as they were. -/
namespace Go.Proofs.YtaojjjcaofhmcaaDoor
open Go.RowKit

theorem node_size : (Tryd.prog.info? 32).map (·.size) = some 17 := by kernel_rfl
/-- the cells of a node with other bytes and permissions -/
def reNode (cs : Array Value) (d a : Value) : Array Value := (cs.setIfInBounds 1 d).setIfInBounds 2 a

theorem re_one {cs : Array Value} (h : cs.all (·.oneCell') = true) (A1 : Option Addr) (n1 c1 : Nat) (A2 : Option Addr) (n2 c2 : Nat) : ((cs.setIfInBounds 1 (.slice A1 n1 c1)).setIfInBounds 2 (.slice A2 n2 c2)).all (·.oneCell') = true := by
  rw [Array.all_eq_true_iff_forall_mem] at h ⊢
  intro x hx
  rcases Array.mem_or_eq_of_mem_setIfInBounds hx with hx | rfl
  · rcases Array.mem_or_eq_of_mem_setIfInBounds hx with hx | rfl
    · exact h x hx
    · rfl
  · rfl

set_option maxRecDepth 100000 in
set_option maxHeartbeats 1000000 in
theorem refClone_any (cs : Array Value) (hcs : cs.size = 17) (hone : cs.all (·.oneCell') = true) (dA : Option Addr) (dn dc : Nat) (aA : Option Addr) (an ac : Nat) (c1 : cs[1]? = some (.slice dA dn dc)) (c2 : cs[2]? = some (.slice aA an ac))
    (xs ys : List Value) (B : Nat) (w : World)
    (hd : Reads w B 1 dA dn xs) (ha : Reads w B 3 aA an ys) (hd1 : ∀ u ∈ xs, u.oneCell' = true) (ha1 : ∀ u ∈ ys, u.oneCell' = true) (hB : B ≤ w.heap.size) (hdn : dn ≤ 140737488355328) (han : an * 40 ≤ 140737488355328) :
    Calls Tryd.prog 44 #[.agg cs] w fun e w' => ∃ dA' dc' aA' ac', e = .returned (.agg (reNode cs (.slice dA' dn dc') (.slice aA' an ac'))) ∧
      w'.ownsRow w.heap.size 5 1 (.slice dA' dn dc') dn xs ∧ w'.ownsRow w.heap.size 57 3 (.slice aA' an ac') an ys ∧ Below w.heap.size w w' := by
  obtain ⟨i0, hi0, hz0, hz1, hz2⟩ := info_parts u8_infoS
  obtain ⟨j0, hj0, hy0, hy1, hy2⟩ := info_parts acl_info
  have HD := Lib.hid hd
  have HA := Lib.hid ha
  have HD1 := Lib.hid hd1
  have HA1 := Lib.hid ha1
  have HS := Lib.hid hcs
  have HO := Lib.hid hone
  clear hd ha hd1 ha1 hcs hone
  go_enter Tryd.func44, Tryd.ntmps44
  go_wp2_with (first
    | (at_builtin
       refine wpList_append_any _ rfl (.tmp 3) (.tmp 5) _ rfl w.heap.size 5 i0 _ 1 1 Tryd.underlying24 hi0 hz0 hz1 hz2 rfl (by decide) (.slice (some ⟨w.heap.size + 2, 0, none⟩) 0 0) 0 [] rfl (owns_empty (Blk.new' (by simp)) (by omega)) B dA dn dc xs rfl (HD.out.below (by go_grown)) HD1.out (by simp only [maxLen]; omega) (by omega) (by simp; omega) ?_
       intro v1 w1 hown1 hg1 hat1
       have kb1 : Blk w1 w.heap.size 32 _ := (((Blk.new _ _ _).alloc _).alloc _).grown hg1 (by simp [Value.ownBlock])
       have kb2 : Blk w1 (w.heap.size + 1) 32 _ := ((Blk.new' (by simp)).alloc _).grown hg1 (by simp [Value.ownBlock])
       have hb1 : Below w.heap.size w w1 := Below.grown (by go_grown) hg1 (by simp; omega) (fun k hk => by simp [Value.ownBlock] at hk; omega)
       have kc1 := kb1.cell
       have kf1 := kb1.frozen
       have hl0 := kb1.lt
       have hl1 := kb2.lt
       have hs1 := hb1.size
       clear hat1 hg1
       obtain ⟨A1, c1', hv1⟩ := slice_form hown1
       rw [hv1] at hown1 ⊢
       simp only [Nat.zero_add, List.nil_append] at hown1
       clear hv1 v1)
    | (at_builtin
       refine wpList_append_any _ rfl (.tmp 8) (.tmp 10) _ rfl w.heap.size 57 j0 _ 3 40 Tryd.underlying28 hj0 hy0 hy1 hy2 rfl (by decide) (.slice (some ⟨w1.heap.size, 0, none⟩) 0 0) 0 [] rfl (owns_empty (Blk.new' (by simp)) hb1.size) B aA an ac ys rfl (HA.out.below ((hb1.mono hB).trans (by go_grown))) HA1.out (by simp only [maxLen]; omega) (by omega) (by simp; omega) ?_
       intro v2 w2 hown2 hg2 hat2
       obtain ⟨A2, c2', hv2⟩ := slice_form hown2
       rw [hv2] at hown2 ⊢
       have kb3 : Blk w2 w.heap.size 32 _ := ((kb1.set_ 1 (.slice A1 dn c1')).alloc _).grown hg2 (by simp [Value.ownBlock]; omega)
       have kb4 : Blk w2 (w.heap.size + 1) 32 _ := ((kb2.far (p := ⟨w.heap.size, 1, none⟩) (by simp) (.slice A1 dn c1')).alloc _).grown hg2 (by simp [Value.ownBlock]; omega)
       have hb2 : Below w.heap.size w w2 := Below.grown (hb1.trans (by go_grown)) hg2 (by simp; omega) (fun k hk => by simp [Value.ownBlock] at hk; omega)
       have hown3 := own_new ((own_set hown1 kb1 (by decide) 1 (.slice A1 dn c1')).alloc (.cells #[] 57)) hg2 (own_lt hown1 (Nat.le_refl _))
       have kf3 := kb3.frozen
       have kc3 : w2.cell? ⟨w.heap.size, 2, none⟩ = some (.slice aA an ac) := by rw [kb3.cell]; simpa using c2
       have hl2 := kb3.lt
       have hl3 := kb4.lt
       simp only [Nat.zero_add, List.nil_append] at hown2
       clear kc1 kf1 hat2 hg2 hv2 v2)
    | (refine wpList_load_row rfl 32 (.tmp 1) rfl w.heap.size rfl 32 _ _ _ (kb3.set_ 2 (.slice A2 an c2')) Tryd.underlying32 rfl (by rw [node_size]; simp [HS.out]) ?_)
    | (refine wpList_store_row rfl 32 (.tmp 2) (.tmp 13) rfl (w.heap.size + 1) _ rfl rfl 32 _ (kb4.far (p := ⟨w.heap.size, 2, none⟩) (by simp) (.slice A2 an c2')) (by rw [node_size]; simp [HS.out]) (by simp [HS.out]) (re_one HO.out _ _ _ _ _ _) ?_))
  refine bodyPost_ret (results_cell_row rfl _ _ (w.heap.size + 1) 32 _ _ _ rfl (cells_setRow (kb4.far (p := ⟨w.heap.size, 2, none⟩) (by simp) (.slice A2 an c2'))) Tryd.underlying32 rfl (by rw [node_size]; simp [HS.out])) rfl ?_
  refine ⟨A1, c1', A2, c2', rfl, own_setRow (own_set hown3 kb3 (by decide) _ _) (kb4.far (p := ⟨w.heap.size, 2, none⟩) (by simp) (.slice A2 an c2')) (by decide) _, own_setRow (own_set hown2 kb3 (by decide) _ _) (kb4.far (p := ⟨w.heap.size, 2, none⟩) (by simp) (.slice A2 an c2')) (by decide) _, below_setRow' (hb2.setCell (Nat.le_refl _) _) (by omega) _⟩
end Go.Proofs.YtaojjjcaofhmcaaDoor
/- Copied, New by the program and by the reference, the clone by the program. -/
namespace Go.Proofs.YtaojjjcaofhmcaaDoor
open Go.RowKit

theorem own_mono {w : World} {base base' : Nat} {e : TypeId} {size n : Nat} {v : Value} {xs : List Value} (h : w.ownsRow base e size v n xs) (hb : base' ≤ base) : w.ownsRow base' e size v n xs :=
  ⟨h.1, h.2.imp id fun ⟨g, cap, cur, h1, h2, h3⟩ => ⟨g, cap, cur, h1, Nat.le_trans hb h2, h3⟩⟩
theorem own_below {w w' : World} {base : Nat} {e : TypeId} {size n : Nat} {v : Value} {xs : List Value} (h : w.ownsRow base e size v n xs) (hb : Below w.heap.size w w') : w'.ownsRow base e size v n xs :=
  h.kept (row := none) ⟨hb.os, hb.tape, hb.output, hb.size, fun k hk _ => hb.block k hk⟩ (by
    cases v.ownBlock <;> simp)

section
variable (cs : Array Value) (hcs : cs.size = 17) (hone : cs.all (·.oneCell') = true) (dA : Option Addr) (dn dc : Nat) (aA : Option Addr) (an ac : Nat) (c1 : cs[1]? = some (.slice dA dn dc)) (c2 : cs[2]? = some (.slice aA an ac))
    (xs ys : List Value) (B : Nat) (w : World)
    (hd : Reads w B 1 dA dn xs) (ha : Reads w B 3 aA an ys) (hd1 : ∀ u ∈ xs, u.oneCell' = true) (ha1 : ∀ u ∈ ys, u.oneCell' = true) (hB : B ≤ w.heap.size) (hdn : dn ≤ 140737488355328) (han : an * 40 ≤ 140737488355328)
include hcs hone c1 c2 hd ha hd1 ha1 hB hdn han

set_option maxRecDepth 100000 in
set_option maxHeartbeats 1000000 in
theorem copied_any :
    Calls Tryd.prog 14 #[.agg cs] w fun e w' => ∃ dA' dc' aA' ac', e = .returned (.agg (reNode cs (.slice dA' dn dc') (.slice aA' an ac'))) ∧
      w'.ownsRow w.heap.size 5 1 (.slice dA' dn dc') dn xs ∧ w'.ownsRow w.heap.size 57 3 (.slice aA' an ac') an ys ∧ Below w.heap.size w w' := by
  have HS := Lib.hid hcs
  have HO := Lib.hid hone
  have HC := fun (W : World) (h : Below w.heap.size w W) => refClone_any cs hcs hone dA dn dc aA an ac c1 c2 xs ys B W (hd.below (h.mono hB)) (ha.below (h.mono hB)) hd1 ha1 (Nat.le_trans hB h.size) hdn han
  have HCC := Lib.hid HC
  clear HC hcs hone c1 c2 hd ha hd1 ha1
  go_enter Tryd.func14, Tryd.ntmps14
  go_wp2_with (first
    | (go_at_call 44
       refine (HCC.out _ (by go_grown)).mono ?_
       rintro e w1 ⟨A1, k1, A2, k2, rfl, hown1, hown2, hb1⟩
       have kb2 : Blk w1 (w.heap.size + 1) 32 _ := (Blk.new' (by simp)).below hb1 (by simp))
    | (refine wpList_load_row rfl 32 (.tmp 1) rfl w.heap.size rfl 32 _ _ _ ((Blk.new _ _ _).alloc _) Tryd.underlying32 rfl (by rw [node_size]; simp [HS.out]) ?_)
    | (refine wpList_store_row rfl 32 (.tmp 2) (.tmp 4) rfl (w.heap.size + 1) _ rfl rfl 32 _ kb2 (by rw [node_size]; simp [reNode, HS.out]) (by simp [reNode, HS.out]) (re_one HO.out _ _ _ _ _ _) ?_))
  refine bodyPost_ret (results_cell_row rfl _ _ (w.heap.size + 1) 32 _ _ _ rfl (cells_setRow kb2) Tryd.underlying32 rfl (by rw [node_size]; simp [reNode, HS.out])) rfl ?_
  exact ⟨A1, k1, A2, k2, rfl, own_mono (own_setRow hown1 kb2 (by decide) _) (by simp; omega), own_mono (own_setRow hown2 kb2 (by decide) _) (by simp; omega), below_setRow' (Below.trans (by go_grown) (hb1.mono (by simp; omega))) (by omega) _⟩

set_option maxRecDepth 100000 in
set_option maxHeartbeats 1000000 in
theorem nclone_any (hdnil : dA = none → dn = 0 ∧ dc = 0) (hanil : aA = none → an = 0 ∧ ac = 0) :
    Calls Tryd.prog 22 #[.agg cs] w fun e w' => ∃ dA' dc' aA' ac', e = .returned (.agg (reNode cs (.slice dA' dn dc') (.slice aA' an ac'))) ∧
      w'.ownsRow w.heap.size 5 1 (.slice dA' dn dc') dn xs ∧ w'.ownsRow w.heap.size 57 3 (.slice aA' an ac') an ys ∧ Below w.heap.size w w' := by
  have HS := Lib.hid hcs
  have HO := Lib.hid hone
  have HD := fun (W : World) (h : Below w.heap.size w W) => bytesClone_any dA dn dc B xs W (hd.below (h.mono hB)) hd1 (Nat.le_trans hB h.size) (by omega) hdnil
  have HA := fun (W : World) (h : Below w.heap.size w W) => aclsClone_any aA an ac B ys W (ha.below (h.mono hB)) ha1 (Nat.le_trans hB h.size) (by omega) hanil
  have HDD := Lib.hid HD
  have HAA := Lib.hid HA
  clear HD HA hcs hone hd ha hd1 ha1 hdnil hanil
  go_enter Tryd.func22, Tryd.ntmps22
  go_wp2_with (first
    | (go_at_call 62
       refine (HDD.out _ (by go_grown)).mono ?_
       rintro e w1 ⟨A1, k1, rfl, hown1, hb1⟩
       have kb1 : Blk w1 w.heap.size 32 _ := ((Blk.new _ _ _).alloc _).below hb1 (by simp; omega)
       have kb2 : Blk w1 (w.heap.size + 1) 32 _ := (Blk.new' (by simp)).below hb1 (by simp)
       have hb1' : Below w.heap.size w w1 := Below.trans (by go_grown) (hb1.mono (by simp; omega))
       have kc1 := kb1.cell
       have kf1 := kb1.frozen
       have hl0 := kb1.lt
       have hl1 := kb2.lt
       clear hb1)
    | (go_at_call 63
       refine (HAA.out _ (hb1'.trans (by go_grown))).mono ?_
       rintro e w2 ⟨A2, k2, rfl, hown2, hb2⟩
       have kb3 : Blk w2 w.heap.size 32 _ := (kb1.set_ 1 (.slice A1 dn k1)).below hb2 (by simp; omega)
       have kb4 : Blk w2 (w.heap.size + 1) 32 _ := (kb2.far (p := ⟨w.heap.size, 1, none⟩) (by simp) (.slice A1 dn k1)).below hb2 (by simp; omega)
       have hb2' : Below w.heap.size w w2 := hb1'.trans (Below.trans (by go_grown) (hb2.mono (by simp; omega)))
       have hown3 := own_below (own_set hown1 kb1 (by decide) 1 (.slice A1 dn k1)) hb2
       have kc3 : w2.cell? ⟨w.heap.size, 2, none⟩ = some (.slice aA an ac) := by rw [kb3.cell]; simpa using c2
       have kf3 := kb3.frozen
       have hl2 := kb3.lt
       have hl3 := kb4.lt
       clear kc1 kf1 hb2)
    | (refine wpList_load_row rfl 32 (.tmp 1) rfl w.heap.size rfl 32 _ _ _ (kb3.set_ 2 (.slice A2 an k2)) Tryd.underlying32 rfl (by rw [node_size]; simp [HS.out]) ?_)
    | (refine wpList_store_row rfl 32 (.tmp 2) (.tmp 11) rfl (w.heap.size + 1) _ rfl rfl 32 _ (kb4.far (p := ⟨w.heap.size, 2, none⟩) (by simp) (.slice A2 an k2)) (by rw [node_size]; simp [HS.out]) (by simp [HS.out]) (re_one HO.out _ _ _ _ _ _) ?_))
  refine bodyPost_ret (results_cell_row rfl _ _ (w.heap.size + 1) 32 _ _ _ rfl (cells_setRow (kb4.far (p := ⟨w.heap.size, 2, none⟩) (by simp) (.slice A2 an k2))) Tryd.underlying32 rfl (by rw [node_size]; simp [HS.out])) rfl ?_
  exact ⟨A1, k1, A2, k2, rfl, own_mono (own_setRow (own_set hown3 kb3 (by decide) _ _) (kb4.far (p := ⟨w.heap.size, 2, none⟩) (by simp) (.slice A2 an k2)) (by decide) _) (by simp; omega), own_mono (own_setRow (own_set hown2 kb3 (by decide) _ _) (kb4.far (p := ⟨w.heap.size, 2, none⟩) (by simp) (.slice A2 an k2)) (by decide) _) (by simp; omega), below_setRow' (hb2'.setCell (Nat.le_refl _) _) (by omega) _⟩
end
end Go.Proofs.YtaojjjcaofhmcaaDoor
/- New by the program and by the reference. -/
namespace Go.Proofs.YtaojjjcaofhmcaaDoor
open Go.RowKit

section
variable (p : ByteArray) (dA : Option Addr) (dn dc : Nat) (aA : Option Addr) (an ac : Nat) (o z t : Int)
    (xs ys : List Value) (B : Nat) (w : World)
    (hd : Reads w B 1 dA dn xs) (ha : Reads w B 3 aA an ys) (hd1 : ∀ u ∈ xs, u.oneCell' = true) (ha1 : ∀ u ∈ ys, u.oneCell' = true) (hB : B ≤ w.heap.size) (hdn : dn ≤ 140737488355328) (han : an * 40 ≤ 140737488355328)
include hd ha hd1 ha1 hB hdn han

set_option maxRecDepth 100000 in
set_option maxHeartbeats 1000000 in
theorem new_any (hdnil : dA = none → dn = 0 ∧ dc = 0) (hanil : aA = none → an = 0 ∧ ac = 0) :
    Calls Tryd.prog 28 #[.string p, .slice dA dn dc, .slice aA an ac, .int .i64 o, .int .i64 z, .int .i64 t] w fun e w' => ∃ dA' dc' aA' ac', e = .returned (.agg #[.string p, .slice dA' dn dc', .slice aA' an ac', .int .i64 o, .int .i64 z, .int .i64 z, .int .i64 z, .int .i64 0, .int .i64 0, .int .i64 t, .int .i64 t, .int .i32 0, .int .i32 0, .int .i32 0, .bool false, .int .i64 0, .int .i64 0]) ∧
      w'.ownsRow w.heap.size 5 1 (.slice dA' dn dc') dn xs ∧ w'.ownsRow w.heap.size 57 3 (.slice aA' an ac') an ys ∧ Below w.heap.size w w' := by
  have HC := fun (W : World) (h : Below w.heap.size w W) => nclone_any #[.string p, .slice dA dn dc, .slice aA an ac, .int .i64 o, .int .i64 z, .int .i64 z, .int .i64 z, .int .i64 0, .int .i64 0, .int .i64 t, .int .i64 t, .int .i32 0, .int .i32 0, .int .i32 0, .bool false, .int .i64 0, .int .i64 0] rfl (by simp [Value.oneCell']) dA dn dc aA an ac rfl rfl xs ys B W (hd.below (h.mono hB)) (ha.below (h.mono hB)) hd1 ha1 (Nat.le_trans hB h.size) hdn han hdnil hanil
  have HCC := Lib.hid HC
  clear HC hd ha hd1 ha1 hdnil hanil
  go_enter Tryd.func28, Tryd.ntmps28
  go_wp2_with (first
    | (go_at_call 22
       refine (HCC.out _ (by go_grown)).mono ?_
       rintro e w1 ⟨A1, k1, A2, k2, rfl, hown1, hown2, hb1⟩
       have kb2 : Blk w1 w.heap.size 32 _ := (Blk.new' (by simp)).below hb1 (by simp))
    | (refine wpList_store_row rfl 32 (.tmp 12) (.tmp 23) rfl w.heap.size #[.string p, .slice A1 dn k1, .slice A2 an k2, .int .i64 o, .int .i64 z, .int .i64 z, .int .i64 z, .int .i64 0, .int .i64 0, .int .i64 t, .int .i64 t, .int .i32 0, .int .i32 0, .int .i32 0, .bool false, .int .i64 0, .int .i64 0] rfl rfl 32 _ kb2 (by rw [node_size]; rfl) rfl (by simp [Value.oneCell']) ?_))
  refine bodyPost_ret (results_cell_row rfl _ _ w.heap.size 32 #[.string p, .slice A1 dn k1, .slice A2 an k2, .int .i64 o, .int .i64 z, .int .i64 z, .int .i64 z, .int .i64 0, .int .i64 0, .int .i64 t, .int .i64 t, .int .i32 0, .int .i32 0, .int .i32 0, .bool false, .int .i64 0, .int .i64 0] _ _ rfl (cells_setRow kb2) Tryd.underlying32 rfl (by rw [node_size]; rfl)) rfl ?_
  exact ⟨A1, k1, A2, k2, rfl, own_mono (own_setRow hown1 kb2 (by decide) _) (by simp), own_mono (own_setRow hown2 kb2 (by decide) _) (by simp), below_setRow' (Below.trans (by go_grown) (hb1.mono (by simp))) (by omega) _⟩

end

theorem retbS {a b : Bool} (h : a = b) : Ending.returned (.bool a) = .returned (.bool b) := by rw [h]

/-! ### numbers of a node, each by its cells -/
def lifeOf (o : Int) : Int := if -72057594037927936 < o ∧ o ≤ -72057594037927936 + 1099511627775 then o + 72057594037927936 else 0
def agesB (o : Int) : Bool := decide (-72057594037927936 < o ∧ o ≤ -72057594037927936 + 1099511627775)
def ephB (o : Int) : Bool := o != 0 && o != -9223372036854775808 && !agesB o

section
variable (cs : Array Value) (o : Int) (ho : -9223372036854775808 ≤ o) (ho' : o ≤ 9223372036854775807) (c3 : cs[3]? = some (.int .i64 o)) (w : World)
include c3 ho ho'
end
end Go.Proofs.YtaojjjcaofhmcaaDoor
/- Are two lists of permissions the same; are two nodes the same: by the reference. -/
namespace Go.Proofs.YtaojjjcaofhmcaaDoor
open Go.RowKit

/-- a permission's cells; those of a list -/
def aclCells (L : List (Int × ByteArray × ByteArray)) : List Value := L.flatMap fun a => [.int .i32 a.1, .string a.2.1, .string a.2.2]
theorem aclCells_cons (a : Int × ByteArray × ByteArray) (L : List (Int × ByteArray × ByteArray)) : aclCells (a :: L) = .int .i32 a.1 :: .string a.2.1 :: .string a.2.2 :: aclCells L := by simp [aclCells]
theorem aclCells_length (L : List (Int × ByteArray × ByteArray)) : (aclCells L).length = L.length * 3 := by
  induction L with
  | nil => rfl
  | cons a L ih => rw [aclCells_cons]; simp only [List.length_cons, ih]; omega
theorem aclCells_get (L : List (Int × ByteArray × ByteArray)) (k : Nat) (h : k < L.length) :
    (aclCells L)[k * 3]? = some (.int .i32 L[k].1) ∧ (aclCells L)[k * 3 + 1]? = some (.string L[k].2.1) ∧ (aclCells L)[k * 3 + 2]? = some (.string L[k].2.2) := by
  induction L generalizing k with
  | nil => simp at h
  | cons a L ih =>
    rw [aclCells_cons]
    cases k with
    | zero => simp
    | succ k =>
      have h' : k < L.length := by simpa using h
      have := ih k h'
      have e1 : (k + 1) * 3 = k * 3 + 1 + 1 + 1 := by omega
      rw [e1]
      simpa using this
theorem aclCells_one (L : List (Int × ByteArray × ByteArray)) : ∀ u ∈ aclCells L, u.oneCell' = true := by
  induction L with
  | nil => simp [aclCells]
  | cons a L ih =>
    rw [aclCells_cons]
    intro u hu
    rcases List.mem_cons.1 hu with rfl | hu
    · rfl
    rcases List.mem_cons.1 hu with rfl | hu
    · rfl
    rcases List.mem_cons.1 hu with rfl | hu
    · rfl
    · exact ih u hu

set_option maxRecDepth 100000 in
set_option maxHeartbeats 1000000 in
theorem acls_same (A C : Option Addr) (n c d : Nat) (L : List (Int × ByteArray × ByteArray)) (B : Nat) (w : World) (hn : n ≤ 9223372036854775807) (hBw : B ≤ w.heap.size) (ha : Reads w B 3 A n (aclCells L)) (hc : Reads w B 3 C n (aclCells L)) :
    Calls Tryd.prog 61 #[.slice A n c, .slice C n d] w fun e w' => e = .returned (.bool true) ∧ Below w.heap.size w w' := by
  have hl : L.length = n := by have := ha.1; rw [aclCells_length] at this; omega
  have HL := Lib.hid hl
  have HA := Lib.hid ha
  have HC := Lib.hid hc
  clear hl ha hc
  go_enter Tryd.func61, Tryd.ntmps61
  go_wp2
  go_loopw [5] (fun k' wr => ∃ k : Nat, k ≤ n ∧ k' = .int .i64 k ∧ Below w.heap.size w wr) (fun k' _ => n - (intOf k').toNat)
  case atStart => exact ⟨0, Nat.zero_le _, rfl, Below.refl _ _⟩
  case round =>
    obtain ⟨k, hk, rfl, hB⟩ := hrel
    by_cases hlt : k < n
    · obtain ⟨b, off, rfl, _, hx⟩ := (HA.out.below (hB.mono hBw)).plain (by omega) (by omega)
      obtain ⟨b', off', rfl, _, hy⟩ := (HC.out.below (hB.mono hBw)).plain (by omega) (by omega)
      obtain ⟨g0, g1, g2⟩ := aclCells_get L k (by rw [HL.out]; exact hlt)
      have x0 := hx _ _ g0
      have x1 := hx _ _ g1
      have x2 := hx _ _ g2
      have y0 := hy _ _ g0
      have y1 := hy _ _ g1
      have y2 := hy _ _ g2
      simp only [← Nat.add_assoc] at x1 x2 y1 y2
      clear hx hy g0 g1 g2
      generalize (L[k]'(by rw [HL.out]; exact hlt)).1 = q0 at x0 y0
      generalize (L[k]'(by rw [HL.out]; exact hlt)).2.1 = q1 at x1 y1
      generalize (L[k]'(by rw [HL.out]; exact hlt)).2.2 = q2 at x2 y2
      go_wp2
      go_quiet (fail)
      go_wp2
      go_ways
      go_roundw
      case rel => exact ⟨k + 1, by omega, by go_num, below_drewN' hB _⟩
      case measure => simp [intOf]; omega
    · go_wp2
      go_ret
      exact ⟨rfl, hB⟩
end Go.Proofs.YtaojjjcaofhmcaaDoor
/- A node's permissions. -/
namespace Go.Proofs.YtaojjjcaofhmcaaDoor
open Go.RowKit

abbrev AclT := Int × ByteArray × ByteArray
def aclV (a : AclT) : Value := .agg #[.int .i32 a.1, .string a.2.1, .string a.2.2]
end Go.Proofs.YtaojjjcaofhmcaaDoor
