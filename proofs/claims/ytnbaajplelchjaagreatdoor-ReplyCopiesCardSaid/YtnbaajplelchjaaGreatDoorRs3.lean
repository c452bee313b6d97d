/- Are two results the same: the document's SameResult: the own fields. (printed by gen_s3.py) -/
import Derived.Test.YtnbaajplelchjaaGreatDoorRs2
import Derived.Test.YtnbaajplelchjaaGreatDoorLv3
import Derived.Lib.Strings
import Derived.WalkKit
set_option linter.unusedVariables false
set_option linter.unusedSimpArgs false
namespace Go.Proofs.YtnbaajplelchjaaGreatDoor
open Go.RowKit

theorem stat_neq (s0 s1 s2 s3 s4 s5 s6 s7 s8 s9 s10 : Int) (w : World) : (binOp .neq 24 (.agg #[.int .i64 s0, .int .i64 s1, .int .i64 s2, .int .i64 s3, .int .i32 s4, .int .i32 s5, .int .i32 s6, .int .i64 s7, .int .i32 s8, .int .i32 s9, .int .i64 s10]) (.agg #[.int .i64 s0, .int .i64 s1, .int .i64 s2, .int .i64 s3, .int .i32 s4, .int .i32 s5, .int .i32 s6, .int .i64 s7, .int .i32 s8, .int .i32 s9, .int .i64 s10])).run Tryz.prog w = .ok (.bool false) w := by
  simp [go_sem]
set_option maxRecDepth 100000 in
theorem stat_neq_b (s0 s1 s2 s3 s4 s5 s6 s7 s8 s9 s10 s0' s1' s2' s3' s4' s5' s6' s7' s8' s9' s10' : Int) (w : World) : (binOp .neq 24 (.agg #[.int .i64 s0, .int .i64 s1, .int .i64 s2, .int .i64 s3, .int .i32 s4, .int .i32 s5, .int .i32 s6, .int .i64 s7, .int .i32 s8, .int .i32 s9, .int .i64 s10]) (.agg #[.int .i64 s0', .int .i64 s1', .int .i64 s2', .int .i64 s3', .int .i32 s4', .int .i32 s5', .int .i32 s6', .int .i64 s7', .int .i32 s8', .int .i32 s9', .int .i64 s10'])).run Tryz.prog w = .ok (.bool (decide (¬ (s0 = s0' ∧ s1 = s1' ∧ s2 = s2' ∧ s3 = s3' ∧ s4 = s4' ∧ s5 = s5' ∧ s6 = s6' ∧ s7 = s7' ∧ s8 = s8' ∧ s9 = s9' ∧ s10 = s10')))) w := by
  simp only [go_sem]
  simp [go_sem]
  repeat' split
  all_goals simp_all

set_option maxRecDepth 100000 in
set_option maxHeartbeats 64000000 in
theorem res_no (t c : Int) (p : ByteArray) (s0 s1 s2 s3 s4 s5 s6 s7 s8 s9 s10 : Int) (l : List UInt8) (L : List AclT) (n id to : Int) (I : List (ByteArray × ByteArray)) (dA aA kA iA sA : Option Addr) (dn dc an ac kn kc in_ ic sn sc : Nat)
    (t' c' : Int) (p' : ByteArray) (s0' s1' s2' s3' s4' s5' s6' s7' s8' s9' s10' : Int) (l' : List UInt8) (L' : List AclT) (n' id' to' : Int) (I' : List (ByteArray × ByteArray)) (dA' aA' kA' iA' sA' : Option Addr) (dn' dc' an' ac' kn' kc' in_' ic' sn' sc' : Nat)
    (w : World) (hd : Reads w w.heap.size 1 dA dn (bcells l)) (ha : Reads w w.heap.size 3 aA an (aclCells L)) (hi : Reads w w.heap.size 2 iA in_ (idCells I)) (hz : dn ≤ 4611686018427387904 ∧ an ≤ 4611686018427387904 ∧ in_ ≤ 4611686018427387904)
    (hd' : Reads w w.heap.size 1 dA' dn' (bcells l')) (ha' : Reads w w.heap.size 3 aA' an' (aclCells L')) (hi' : Reads w w.heap.size 2 iA' in_' (idCells I')) (hz' : dn' ≤ 4611686018427387904 ∧ an' ≤ 4611686018427387904 ∧ in_' ≤ 4611686018427387904)
    (hne : ¬ (t = t' ∧ c = c' ∧ p = p' ∧ (s0 = s0' ∧ s1 = s1' ∧ s2 = s2' ∧ s3 = s3' ∧ s4 = s4' ∧ s5 = s5' ∧ s6 = s6' ∧ s7 = s7' ∧ s8 = s8' ∧ s9 = s9' ∧ s10 = s10') ∧ l = l' ∧ L = L' ∧ n = n' ∧ (id = id' ∧ to = to' ∧ I = I') ∧ kn = kn' ∧ sn = sn')) (cs ds : Array Value) (hcs : cs = #[.int .i32 t, .int .i32 c, .string p, .int .i64 s0, .int .i64 s1, .int .i64 s2, .int .i64 s3, .int .i32 s4, .int .i32 s5, .int .i32 s6, .int .i64 s7, .int .i32 s8, .int .i32 s9, .int .i64 s10, .slice dA dn dc, .slice aA an ac, .slice kA kn kc, .int .i32 n, .int .i64 id, .int .i32 to, .slice iA in_ ic, .slice sA sn sc]) (hds : ds = #[.int .i32 t', .int .i32 c', .string p', .int .i64 s0', .int .i64 s1', .int .i64 s2', .int .i64 s3', .int .i32 s4', .int .i32 s5', .int .i32 s6', .int .i64 s7', .int .i32 s8', .int .i32 s9', .int .i64 s10', .slice dA' dn' dc', .slice aA' an' ac', .slice kA' kn' kc', .int .i32 n', .int .i64 id', .int .i32 to', .slice iA' in_' ic', .slice sA' sn' sc']) :
    Calls Tryz.prog 46 #[.agg cs, .agg ds] w fun e w' => e = .returned (.bool false) ∧ Below w.heap.size w w' := by
  obtain ⟨w1, hw1⟩ : ∃ w1, (w.alloc (.cells cs 33)).alloc (.cells ds 33) = w1 := ⟨_, rfl⟩
  have hb1 : Below w.heap.size w w1 := by rw [← hw1]; exact ((Below.refl _ _).alloc (Nat.le_refl _) _).alloc (by simp) _
  have hS : Blk w1 w.heap.size 33 #[.int .i32 t, .int .i32 c, .string p, .int .i64 s0, .int .i64 s1, .int .i64 s2, .int .i64 s3, .int .i32 s4, .int .i32 s5, .int .i32 s6, .int .i64 s7, .int .i32 s8, .int .i32 s9, .int .i64 s10, .slice dA dn dc, .slice aA an ac, .slice kA kn kc, .int .i32 n, .int .i64 id, .int .i32 to, .slice iA in_ ic, .slice sA sn sc] := by rw [← hcs, ← hw1]; exact (Blk.new _ _ _).alloc _
  have hT : Blk w1 (w.heap.size + 1) 33 #[.int .i32 t', .int .i32 c', .string p', .int .i64 s0', .int .i64 s1', .int .i64 s2', .int .i64 s3', .int .i32 s4', .int .i32 s5', .int .i32 s6', .int .i64 s7', .int .i32 s8', .int .i32 s9', .int .i64 s10', .slice dA' dn' dc', .slice aA' an' ac', .slice kA' kn' kc', .int .i32 n', .int .i64 id', .int .i32 to', .slice iA' in_' ic', .slice sA' sn' sc'] := by rw [← hds, ← hw1]; exact Blk.new' (by simp)
  have hz1 : w1.heap.size = w.heap.size + 2 := by rw [← hw1]; simp
  have as0 : w1.cell? ⟨w.heap.size, 0, none⟩ = some (.int .i32 t) := lit_cell hS 0 rfl
  have at0 : w1.cell? ⟨w.heap.size + 1, 0, none⟩ = some (.int .i32 t') := lit_cell hT 0 rfl
  have as1 : w1.cell? ⟨w.heap.size, 1, none⟩ = some (.int .i32 c) := lit_cell hS 1 rfl
  have at1 : w1.cell? ⟨w.heap.size + 1, 1, none⟩ = some (.int .i32 c') := lit_cell hT 1 rfl
  have as2 : w1.cell? ⟨w.heap.size, 2, none⟩ = some (.string p) := lit_cell hS 2 rfl
  have at2 : w1.cell? ⟨w.heap.size + 1, 2, none⟩ = some (.string p') := lit_cell hT 2 rfl
  have as14 : w1.cell? ⟨w.heap.size, 14, none⟩ = some (.slice dA dn dc) := lit_cell hS 14 rfl
  have at14 : w1.cell? ⟨w.heap.size + 1, 14, none⟩ = some (.slice dA' dn' dc') := lit_cell hT 14 rfl
  have as15 : w1.cell? ⟨w.heap.size, 15, none⟩ = some (.slice aA an ac) := lit_cell hS 15 rfl
  have at15 : w1.cell? ⟨w.heap.size + 1, 15, none⟩ = some (.slice aA' an' ac') := lit_cell hT 15 rfl
  have hst := Lib.hid (blk_at hS 3 [.int .i64 s0, .int .i64 s1, .int .i64 s2, .int .i64 s3, .int .i32 s4, .int .i32 s5, .int .i32 s6, .int .i64 s7, .int .i32 s8, .int .i32 s9, .int .i64 s10] (in_lit (cs := [.int .i32 t, .int .i32 c, .string p, .int .i64 s0, .int .i64 s1, .int .i64 s2, .int .i64 s3, .int .i32 s4, .int .i32 s5, .int .i32 s6, .int .i64 s7, .int .i32 s8, .int .i32 s9, .int .i64 s10, .slice dA dn dc, .slice aA an ac, .slice kA kn kc, .int .i32 n, .int .i64 id, .int .i32 to, .slice iA in_ ic, .slice sA sn sc]) (r := [.slice dA dn dc, .slice aA an ac, .slice kA kn kc, .int .i32 n, .int .i64 id, .int .i32 to, .slice iA in_ ic, .slice sA sn sc]) 3 rfl))
  have htt := Lib.hid (blk_at hT 3 [.int .i64 s0', .int .i64 s1', .int .i64 s2', .int .i64 s3', .int .i32 s4', .int .i32 s5', .int .i32 s6', .int .i64 s7', .int .i32 s8', .int .i32 s9', .int .i64 s10'] (in_lit (cs := [.int .i32 t', .int .i32 c', .string p', .int .i64 s0', .int .i64 s1', .int .i64 s2', .int .i64 s3', .int .i32 s4', .int .i32 s5', .int .i32 s6', .int .i64 s7', .int .i32 s8', .int .i32 s9', .int .i64 s10', .slice dA' dn' dc', .slice aA' an' ac', .slice kA' kn' kc', .int .i32 n', .int .i64 id', .int .i32 to', .slice iA' in_' ic', .slice sA' sn' sc']) (r := [.slice dA' dn' dc', .slice aA' an' ac', .slice kA' kn' kc', .int .i32 n', .int .i64 id', .int .i32 to', .slice iA' in_' ic', .slice sA' sn' sc']) 3 rfl))
  have hcv := run_string_of_bytes Tryz.underlying25 Tryz.underlying5 (c := dc) (hd.below hb1) 9 Tryz.underlying9
  have hcv' := run_string_of_bytes Tryz.underlying25 Tryz.underlying5 (c := dc') (hd'.below hb1) 9 Tryz.underlying9
  have C6 : Hid (∀ W, Below w.heap.size w W → Calls Tryz.prog 97 #[.slice aA an ac, .slice aA' an' ac'] W fun e w' => e = .returned (.bool (decide (L = L'))) ∧ Below W.heap.size W w') := fun W hW => acls06_any aA aA' an an' ac ac' L L' w.heap.size W (by omega) (by omega) hW.size (ha.below hW) (ha'.below hW)
  have C8 : Hid (∀ W, Below w.heap.size w W → Calls Tryz.prog 98 #[.agg #[.int .i64 id, .int .i32 to, .slice iA in_ ic], .agg #[.int .i64 id', .int .i32 to', .slice iA' in_' ic']] W fun e w' => e = .returned (.bool (decide (id = id' ∧ to = to' ∧ I = I'))) ∧ Below W.heap.size W w') := fun W hW => sess08_any id id' to to' iA iA' in_ in_' ic ic' I I' w.heap.size W (by omega) (by omega) hW.size (hi.below hW) (hi'.below hW)
  obtain ⟨tx, htx⟩ : ∃ x : ByteArray, x = ⟨l.toArray⟩ := ⟨_, rfl⟩
  obtain ⟨ty, hty⟩ : ∃ x : ByteArray, x = ⟨l'.toArray⟩ := ⟨_, rfl⟩
  rw [← htx] at hcv
  rw [← hty] at hcv'
  have hxy : l = l' → ty = tx := fun e => by rw [htx, hty, e]
  have hxn : l ≠ l' → (tx.toList == ty.toList) = false := fun e => by
    rw [htx, hty]
    rw [Lib.toList_data, Lib.toList_data]
    simpa using e
  have HS := Lib.hid hS
  have HT := Lib.hid hT
  have HB1 := Lib.hid hb1
  clear hb1 hS hT hd hd' ha ha' hi hi' hz hz' htx hty hcs hds
  by_cases q1 : t = t'
  rotate_left
  · skip
    have hb : (t != t') = true := by simp [q1]
    clear hne hxy hxn C6 C8
    go_enter Tryz.func46, Tryz.ntmps46
    iterate 17 go_step
    simp only [List.append_eq, List.cons_append, List.nil_append]
    go_wp2
    go_ret
    exact ⟨rfl, HB1.out⟩
  subst q1
  by_cases q2 : c = c'
  rotate_left
  · skip
    have hb : (c != c') = true := by simp [q2]
    clear hne hxy hxn C6 C8
    go_enter Tryz.func46, Tryz.ntmps46
    iterate 17 go_step
    simp only [List.append_eq, List.cons_append, List.nil_append]
    go_wp2
    go_ret
    exact ⟨rfl, HB1.out⟩
  subst q2
  by_cases q3 : p = p'
  rotate_left
  · skip
    have hb : (p.toList == p'.toList) = false := by simpa using fun e => q3 ((toL_iff _ _).1 e)
    clear hne hxy hxn C6 C8
    go_enter Tryz.func46, Tryz.ntmps46
    iterate 17 go_step
    simp only [List.append_eq, List.cons_append, List.nil_append]
    go_wp2
    go_ret
    exact ⟨rfl, HB1.out⟩
  subst q3
  by_cases q4 : s0 = s0' ∧ s1 = s1' ∧ s2 = s2' ∧ s3 = s3' ∧ s4 = s4' ∧ s5 = s5' ∧ s6 = s6' ∧ s7 = s7' ∧ s8 = s8' ∧ s9 = s9' ∧ s10 = s10'
  rotate_left
  · skip
    have HSN : Hid (∀ W, (binOp .neq 24 (.agg #[.int .i64 s0, .int .i64 s1, .int .i64 s2, .int .i64 s3, .int .i32 s4, .int .i32 s5, .int .i32 s6, .int .i64 s7, .int .i32 s8, .int .i32 s9, .int .i64 s10]) (.agg #[.int .i64 s0', .int .i64 s1', .int .i64 s2', .int .i64 s3', .int .i32 s4', .int .i32 s5', .int .i32 s6', .int .i64 s7', .int .i32 s8', .int .i32 s9', .int .i64 s10'])).run Tryz.prog W = .ok (.bool true) W) := fun W => by rw [stat_neq_b, decide_eq_true q4]
    clear hne hxy hxn C6 C8 q4
    go_enter Tryz.func46, Tryz.ntmps46
    iterate 17 go_step
    simp only [List.append_eq, List.cons_append, List.nil_append]
    go_wp2_with (first
      | (with_reducible show wpList _ _ _ (Oper.mk (some 28) _ _ _ _ _ :: _) _ _
         refine wpList_load_at (by rfl) 24 (.tmp 27) rfl ⟨w.heap.size, 3, none⟩ rfl [.int .i64 s0, .int .i64 s1, .int .i64 s2, .int .i64 s3, .int .i32 s4, .int .i32 s5, .int .i32 s6, .int .i64 s7, .int .i32 s8, .int .i32 s9, .int .i64 s10] _ hst.out Tryz.underlying24 rfl stat_size ?_)
      | (with_reducible show wpList _ _ _ (Oper.mk (some 30) _ _ _ _ _ :: _) _ _
         refine wpList_load_at (by rfl) 24 (.tmp 29) rfl ⟨w.heap.size + 1, 3, none⟩ rfl [.int .i64 s0', .int .i64 s1', .int .i64 s2', .int .i64 s3', .int .i32 s4', .int .i32 s5', .int .i32 s6', .int .i64 s7', .int .i32 s8', .int .i32 s9', .int .i64 s10'] _ htt.out Tryz.underlying24 rfl stat_size ?_)
      | (with_reducible show wpList _ _ _ (Oper.mk (some 31) _ _ _ _ _ :: _) _ _
         refine wpList_neq_agg_g (by rfl) 24 (.tmp 28) (.tmp 30) 24 rfl _ _ rfl rfl (by kernel_rfl) true (HSN.out _) ?_))
    go_ret
    exact ⟨rfl, HB1.out⟩
  obtain ⟨rfl, rfl, rfl, rfl, rfl, rfl, rfl, rfl, rfl, rfl, rfl⟩ := q4
  by_cases q5 : l = l'
  rotate_left
  · skip
    have hb := hxn q5
    clear hne hxy hxn C6 C8 q5
    go_enter Tryz.func46, Tryz.ntmps46
    iterate 17 go_step
    simp only [List.append_eq, List.cons_append, List.nil_append]
    go_wp2_with (first
      | (with_reducible show wpList _ _ _ (Oper.mk (some 28) _ _ _ _ _ :: _) _ _
         refine wpList_load_at (by rfl) 24 (.tmp 27) rfl ⟨w.heap.size, 3, none⟩ rfl [.int .i64 s0, .int .i64 s1, .int .i64 s2, .int .i64 s3, .int .i32 s4, .int .i32 s5, .int .i32 s6, .int .i64 s7, .int .i32 s8, .int .i32 s9, .int .i64 s10] _ hst.out Tryz.underlying24 rfl stat_size ?_)
      | (with_reducible show wpList _ _ _ (Oper.mk (some 30) _ _ _ _ _ :: _) _ _
         refine wpList_load_at (by rfl) 24 (.tmp 29) rfl ⟨w.heap.size + 1, 3, none⟩ rfl [.int .i64 s0, .int .i64 s1, .int .i64 s2, .int .i64 s3, .int .i32 s4, .int .i32 s5, .int .i32 s6, .int .i64 s7, .int .i32 s8, .int .i32 s9, .int .i64 s10] _ htt.out Tryz.underlying24 rfl stat_size ?_)
      | (with_reducible show wpList _ _ _ (Oper.mk (some 31) _ _ _ _ _ :: _) _ _
         refine wpList_neq_agg_g (by rfl) 24 (.tmp 28) (.tmp 30) 24 rfl _ _ rfl rfl (by kernel_rfl) false (stat_neq _ _ _ _ _ _ _ _ _ _ _ _) ?_))
    go_ret
    exact ⟨rfl, HB1.out⟩
  obtain rfl : ty = tx := hxy q5
  by_cases q6 : L = L'
  rotate_left
  · skip
    rw [decide_eq_false q6] at C6
    clear hne hxy hxn C8 q6
    go_enter Tryz.func46, Tryz.ntmps46
    iterate 17 go_step
    simp only [List.append_eq, List.cons_append, List.nil_append]
    go_wp2_with (first
      | (with_reducible show wpList _ _ _ (Oper.mk (some 28) _ _ _ _ _ :: _) _ _
         refine wpList_load_at (by rfl) 24 (.tmp 27) rfl ⟨w.heap.size, 3, none⟩ rfl [.int .i64 s0, .int .i64 s1, .int .i64 s2, .int .i64 s3, .int .i32 s4, .int .i32 s5, .int .i32 s6, .int .i64 s7, .int .i32 s8, .int .i32 s9, .int .i64 s10] _ hst.out Tryz.underlying24 rfl stat_size ?_)
      | (with_reducible show wpList _ _ _ (Oper.mk (some 30) _ _ _ _ _ :: _) _ _
         refine wpList_load_at (by rfl) 24 (.tmp 29) rfl ⟨w.heap.size + 1, 3, none⟩ rfl [.int .i64 s0, .int .i64 s1, .int .i64 s2, .int .i64 s3, .int .i32 s4, .int .i32 s5, .int .i32 s6, .int .i64 s7, .int .i32 s8, .int .i32 s9, .int .i64 s10] _ htt.out Tryz.underlying24 rfl stat_size ?_)
      | (with_reducible show wpList _ _ _ (Oper.mk (some 31) _ _ _ _ _ :: _) _ _
         refine wpList_neq_agg_g (by rfl) 24 (.tmp 28) (.tmp 30) 24 rfl _ _ rfl rfl (by kernel_rfl) false (stat_neq _ _ _ _ _ _ _ _ _ _ _ _) ?_)
      | (go_at_call 97
         refine (C6.out _ HB1.out).mono ?_
         rintro e w2 ⟨rfl, hb⟩
         have hz2 := hb.size
         have HB2 := Lib.hid (HB1.out.trans (hb.mono HB1.out.size))
         have hS2 := HS.out.below hb (by omega)
         have hT2 := HT.out.below hb (by omega)
         have bs17 : w2.cell? ⟨w.heap.size, 17, none⟩ = some (.int .i32 n) := lit_cell hS2 17 rfl
         have bt17 : w2.cell? ⟨w.heap.size + 1, 17, none⟩ = some (.int .i32 n') := lit_cell hT2 17 rfl
         have hs2 := Lib.hid (blk_at hS2 18 [.int .i64 id, .int .i32 to, .slice iA in_ ic] (in_lit (cs := [.int .i32 t, .int .i32 c, .string p, .int .i64 s0, .int .i64 s1, .int .i64 s2, .int .i64 s3, .int .i32 s4, .int .i32 s5, .int .i32 s6, .int .i64 s7, .int .i32 s8, .int .i32 s9, .int .i64 s10, .slice dA dn dc, .slice aA an ac, .slice kA kn kc, .int .i32 n, .int .i64 id, .int .i32 to, .slice iA in_ ic, .slice sA sn sc]) (r := [.slice sA sn sc]) 18 rfl))
         have ht2 := Lib.hid (blk_at hT2 18 [.int .i64 id', .int .i32 to', .slice iA' in_' ic'] (in_lit (cs := [.int .i32 t, .int .i32 c, .string p, .int .i64 s0, .int .i64 s1, .int .i64 s2, .int .i64 s3, .int .i32 s4, .int .i32 s5, .int .i32 s6, .int .i64 s7, .int .i32 s8, .int .i32 s9, .int .i64 s10, .slice dA' dn' dc', .slice aA' an' ac', .slice kA' kn' kc', .int .i32 n', .int .i64 id', .int .i32 to', .slice iA' in_' ic', .slice sA' sn' sc']) (r := [.slice sA' sn' sc']) 18 rfl))
         have HS2 := Lib.hid hS2
         have HT2 := Lib.hid hT2
         clear hb hS2 hT2 as0 at0 as1 at1 as2 at2 as14 at14 as15 at15))
    go_ret
    exact ⟨rfl, HB2.out⟩
  rw [decide_eq_true q6] at C6
  by_cases q7 : n = n'
  rotate_left
  · skip
    have hb : (n != n') = true := by simp [q7]
    clear hne hxy hxn C8
    go_enter Tryz.func46, Tryz.ntmps46
    iterate 17 go_step
    simp only [List.append_eq, List.cons_append, List.nil_append]
    go_wp2_with (first
      | (with_reducible show wpList _ _ _ (Oper.mk (some 28) _ _ _ _ _ :: _) _ _
         refine wpList_load_at (by rfl) 24 (.tmp 27) rfl ⟨w.heap.size, 3, none⟩ rfl [.int .i64 s0, .int .i64 s1, .int .i64 s2, .int .i64 s3, .int .i32 s4, .int .i32 s5, .int .i32 s6, .int .i64 s7, .int .i32 s8, .int .i32 s9, .int .i64 s10] _ hst.out Tryz.underlying24 rfl stat_size ?_)
      | (with_reducible show wpList _ _ _ (Oper.mk (some 30) _ _ _ _ _ :: _) _ _
         refine wpList_load_at (by rfl) 24 (.tmp 29) rfl ⟨w.heap.size + 1, 3, none⟩ rfl [.int .i64 s0, .int .i64 s1, .int .i64 s2, .int .i64 s3, .int .i32 s4, .int .i32 s5, .int .i32 s6, .int .i64 s7, .int .i32 s8, .int .i32 s9, .int .i64 s10] _ htt.out Tryz.underlying24 rfl stat_size ?_)
      | (with_reducible show wpList _ _ _ (Oper.mk (some 31) _ _ _ _ _ :: _) _ _
         refine wpList_neq_agg_g (by rfl) 24 (.tmp 28) (.tmp 30) 24 rfl _ _ rfl rfl (by kernel_rfl) false (stat_neq _ _ _ _ _ _ _ _ _ _ _ _) ?_)
      | (go_at_call 97
         refine (C6.out _ HB1.out).mono ?_
         rintro e w2 ⟨rfl, hb⟩
         have hz2 := hb.size
         have HB2 := Lib.hid (HB1.out.trans (hb.mono HB1.out.size))
         have hS2 := HS.out.below hb (by omega)
         have hT2 := HT.out.below hb (by omega)
         have bs17 : w2.cell? ⟨w.heap.size, 17, none⟩ = some (.int .i32 n) := lit_cell hS2 17 rfl
         have bt17 : w2.cell? ⟨w.heap.size + 1, 17, none⟩ = some (.int .i32 n') := lit_cell hT2 17 rfl
         have hs2 := Lib.hid (blk_at hS2 18 [.int .i64 id, .int .i32 to, .slice iA in_ ic] (in_lit (cs := [.int .i32 t, .int .i32 c, .string p, .int .i64 s0, .int .i64 s1, .int .i64 s2, .int .i64 s3, .int .i32 s4, .int .i32 s5, .int .i32 s6, .int .i64 s7, .int .i32 s8, .int .i32 s9, .int .i64 s10, .slice dA dn dc, .slice aA an ac, .slice kA kn kc, .int .i32 n, .int .i64 id, .int .i32 to, .slice iA in_ ic, .slice sA sn sc]) (r := [.slice sA sn sc]) 18 rfl))
         have ht2 := Lib.hid (blk_at hT2 18 [.int .i64 id', .int .i32 to', .slice iA' in_' ic'] (in_lit (cs := [.int .i32 t, .int .i32 c, .string p, .int .i64 s0, .int .i64 s1, .int .i64 s2, .int .i64 s3, .int .i32 s4, .int .i32 s5, .int .i32 s6, .int .i64 s7, .int .i32 s8, .int .i32 s9, .int .i64 s10, .slice dA' dn' dc', .slice aA' an' ac', .slice kA' kn' kc', .int .i32 n', .int .i64 id', .int .i32 to', .slice iA' in_' ic', .slice sA' sn' sc']) (r := [.slice sA' sn' sc']) 18 rfl))
         have HS2 := Lib.hid hS2
         have HT2 := Lib.hid hT2
         clear hb hS2 hT2 as0 at0 as1 at1 as2 at2 as14 at14 as15 at15))
    go_ret
    exact ⟨rfl, HB2.out⟩
  subst q7
  by_cases q8 : id = id' ∧ to = to' ∧ I = I'
  rotate_left
  · skip
    rw [decide_eq_false q8] at C8
    clear hne hxy hxn q8
    go_enter Tryz.func46, Tryz.ntmps46
    iterate 17 go_step
    simp only [List.append_eq, List.cons_append, List.nil_append]
    go_wp2_with (first
      | (with_reducible show wpList _ _ _ (Oper.mk (some 28) _ _ _ _ _ :: _) _ _
         refine wpList_load_at (by rfl) 24 (.tmp 27) rfl ⟨w.heap.size, 3, none⟩ rfl [.int .i64 s0, .int .i64 s1, .int .i64 s2, .int .i64 s3, .int .i32 s4, .int .i32 s5, .int .i32 s6, .int .i64 s7, .int .i32 s8, .int .i32 s9, .int .i64 s10] _ hst.out Tryz.underlying24 rfl stat_size ?_)
      | (with_reducible show wpList _ _ _ (Oper.mk (some 30) _ _ _ _ _ :: _) _ _
         refine wpList_load_at (by rfl) 24 (.tmp 29) rfl ⟨w.heap.size + 1, 3, none⟩ rfl [.int .i64 s0, .int .i64 s1, .int .i64 s2, .int .i64 s3, .int .i32 s4, .int .i32 s5, .int .i32 s6, .int .i64 s7, .int .i32 s8, .int .i32 s9, .int .i64 s10] _ htt.out Tryz.underlying24 rfl stat_size ?_)
      | (with_reducible show wpList _ _ _ (Oper.mk (some 31) _ _ _ _ _ :: _) _ _
         refine wpList_neq_agg_g (by rfl) 24 (.tmp 28) (.tmp 30) 24 rfl _ _ rfl rfl (by kernel_rfl) false (stat_neq _ _ _ _ _ _ _ _ _ _ _ _) ?_)
      | (go_at_call 97
         refine (C6.out _ HB1.out).mono ?_
         rintro e w2 ⟨rfl, hb⟩
         have hz2 := hb.size
         have HB2 := Lib.hid (HB1.out.trans (hb.mono HB1.out.size))
         have hS2 := HS.out.below hb (by omega)
         have hT2 := HT.out.below hb (by omega)
         have bs17 : w2.cell? ⟨w.heap.size, 17, none⟩ = some (.int .i32 n) := lit_cell hS2 17 rfl
         have bt17 : w2.cell? ⟨w.heap.size + 1, 17, none⟩ = some (.int .i32 n) := lit_cell hT2 17 rfl
         have hs2 := Lib.hid (blk_at hS2 18 [.int .i64 id, .int .i32 to, .slice iA in_ ic] (in_lit (cs := [.int .i32 t, .int .i32 c, .string p, .int .i64 s0, .int .i64 s1, .int .i64 s2, .int .i64 s3, .int .i32 s4, .int .i32 s5, .int .i32 s6, .int .i64 s7, .int .i32 s8, .int .i32 s9, .int .i64 s10, .slice dA dn dc, .slice aA an ac, .slice kA kn kc, .int .i32 n, .int .i64 id, .int .i32 to, .slice iA in_ ic, .slice sA sn sc]) (r := [.slice sA sn sc]) 18 rfl))
         have ht2 := Lib.hid (blk_at hT2 18 [.int .i64 id', .int .i32 to', .slice iA' in_' ic'] (in_lit (cs := [.int .i32 t, .int .i32 c, .string p, .int .i64 s0, .int .i64 s1, .int .i64 s2, .int .i64 s3, .int .i32 s4, .int .i32 s5, .int .i32 s6, .int .i64 s7, .int .i32 s8, .int .i32 s9, .int .i64 s10, .slice dA' dn' dc', .slice aA' an' ac', .slice kA' kn' kc', .int .i32 n, .int .i64 id', .int .i32 to', .slice iA' in_' ic', .slice sA' sn' sc']) (r := [.slice sA' sn' sc']) 18 rfl))
         have HS2 := Lib.hid hS2
         have HT2 := Lib.hid hT2
         clear hb hS2 hT2 as0 at0 as1 at1 as2 at2 as14 at14 as15 at15)
      | (with_reducible show wpList _ _ _ (Oper.mk (some 59) _ _ _ _ _ :: _) _ _
         refine wpList_load_at (by rfl) 30 (.tmp 58) rfl ⟨w.heap.size, 18, none⟩ rfl [.int .i64 id, .int .i32 to, .slice iA in_ ic] _ hs2.out Tryz.underlying30 rfl ses_size ?_)
      | (with_reducible show wpList _ _ _ (Oper.mk (some 61) _ _ _ _ _ :: _) _ _
         refine wpList_load_at (by rfl) 30 (.tmp 60) rfl ⟨w.heap.size + 1, 18, none⟩ rfl [.int .i64 id', .int .i32 to', .slice iA' in_' ic'] _ ht2.out Tryz.underlying30 rfl ses_size ?_)
      | (go_at_call 98
         refine (C8.out _ HB2.out).mono ?_
         rintro e w3 ⟨rfl, hb⟩
         have HB3 := Lib.hid (HB2.out.trans (hb.mono HB2.out.size))
         have hS3 := HS2.out.below hb (by omega)
         have hT3 := HT2.out.below hb (by omega)
         have ds16 : w3.cell? ⟨w.heap.size, 16, none⟩ = some (.slice kA kn kc) := lit_cell hS3 16 rfl
         have dt16 : w3.cell? ⟨w.heap.size + 1, 16, none⟩ = some (.slice kA' kn' kc') := lit_cell hT3 16 rfl
         have ds21 : w3.cell? ⟨w.heap.size, 21, none⟩ = some (.slice sA sn sc) := lit_cell hS3 21 rfl
         have dt21 : w3.cell? ⟨w.heap.size + 1, 21, none⟩ = some (.slice sA' sn' sc') := lit_cell hT3 21 rfl
         clear hb hS3 hT3 bs17 bt17))
    go_ret
    exact ⟨rfl, HB3.out⟩
  rw [decide_eq_true q8] at C8
  obtain ⟨rfl, rfl, q8⟩ := q8
  by_cases q9 : kn = kn'
  rotate_left
  · skip
    have hb : ((kn : Int) != kn') = true := by simp only [bne_iff_ne, ne_eq]; omega
    clear hne hxy hxn
    go_enter Tryz.func46, Tryz.ntmps46
    iterate 17 go_step
    simp only [List.append_eq, List.cons_append, List.nil_append]
    go_wp2_with (first
      | (with_reducible show wpList _ _ _ (Oper.mk (some 28) _ _ _ _ _ :: _) _ _
         refine wpList_load_at (by rfl) 24 (.tmp 27) rfl ⟨w.heap.size, 3, none⟩ rfl [.int .i64 s0, .int .i64 s1, .int .i64 s2, .int .i64 s3, .int .i32 s4, .int .i32 s5, .int .i32 s6, .int .i64 s7, .int .i32 s8, .int .i32 s9, .int .i64 s10] _ hst.out Tryz.underlying24 rfl stat_size ?_)
      | (with_reducible show wpList _ _ _ (Oper.mk (some 30) _ _ _ _ _ :: _) _ _
         refine wpList_load_at (by rfl) 24 (.tmp 29) rfl ⟨w.heap.size + 1, 3, none⟩ rfl [.int .i64 s0, .int .i64 s1, .int .i64 s2, .int .i64 s3, .int .i32 s4, .int .i32 s5, .int .i32 s6, .int .i64 s7, .int .i32 s8, .int .i32 s9, .int .i64 s10] _ htt.out Tryz.underlying24 rfl stat_size ?_)
      | (with_reducible show wpList _ _ _ (Oper.mk (some 31) _ _ _ _ _ :: _) _ _
         refine wpList_neq_agg_g (by rfl) 24 (.tmp 28) (.tmp 30) 24 rfl _ _ rfl rfl (by kernel_rfl) false (stat_neq _ _ _ _ _ _ _ _ _ _ _ _) ?_)
      | (go_at_call 97
         refine (C6.out _ HB1.out).mono ?_
         rintro e w2 ⟨rfl, hb⟩
         have hz2 := hb.size
         have HB2 := Lib.hid (HB1.out.trans (hb.mono HB1.out.size))
         have hS2 := HS.out.below hb (by omega)
         have hT2 := HT.out.below hb (by omega)
         have bs17 : w2.cell? ⟨w.heap.size, 17, none⟩ = some (.int .i32 n) := lit_cell hS2 17 rfl
         have bt17 : w2.cell? ⟨w.heap.size + 1, 17, none⟩ = some (.int .i32 n) := lit_cell hT2 17 rfl
         have hs2 := Lib.hid (blk_at hS2 18 [.int .i64 id, .int .i32 to, .slice iA in_ ic] (in_lit (cs := [.int .i32 t, .int .i32 c, .string p, .int .i64 s0, .int .i64 s1, .int .i64 s2, .int .i64 s3, .int .i32 s4, .int .i32 s5, .int .i32 s6, .int .i64 s7, .int .i32 s8, .int .i32 s9, .int .i64 s10, .slice dA dn dc, .slice aA an ac, .slice kA kn kc, .int .i32 n, .int .i64 id, .int .i32 to, .slice iA in_ ic, .slice sA sn sc]) (r := [.slice sA sn sc]) 18 rfl))
         have ht2 := Lib.hid (blk_at hT2 18 [.int .i64 id, .int .i32 to, .slice iA' in_' ic'] (in_lit (cs := [.int .i32 t, .int .i32 c, .string p, .int .i64 s0, .int .i64 s1, .int .i64 s2, .int .i64 s3, .int .i32 s4, .int .i32 s5, .int .i32 s6, .int .i64 s7, .int .i32 s8, .int .i32 s9, .int .i64 s10, .slice dA' dn' dc', .slice aA' an' ac', .slice kA' kn' kc', .int .i32 n, .int .i64 id, .int .i32 to, .slice iA' in_' ic', .slice sA' sn' sc']) (r := [.slice sA' sn' sc']) 18 rfl))
         have HS2 := Lib.hid hS2
         have HT2 := Lib.hid hT2
         clear hb hS2 hT2 as0 at0 as1 at1 as2 at2 as14 at14 as15 at15)
      | (with_reducible show wpList _ _ _ (Oper.mk (some 59) _ _ _ _ _ :: _) _ _
         refine wpList_load_at (by rfl) 30 (.tmp 58) rfl ⟨w.heap.size, 18, none⟩ rfl [.int .i64 id, .int .i32 to, .slice iA in_ ic] _ hs2.out Tryz.underlying30 rfl ses_size ?_)
      | (with_reducible show wpList _ _ _ (Oper.mk (some 61) _ _ _ _ _ :: _) _ _
         refine wpList_load_at (by rfl) 30 (.tmp 60) rfl ⟨w.heap.size + 1, 18, none⟩ rfl [.int .i64 id, .int .i32 to, .slice iA' in_' ic'] _ ht2.out Tryz.underlying30 rfl ses_size ?_)
      | (go_at_call 98
         refine (C8.out _ HB2.out).mono ?_
         rintro e w3 ⟨rfl, hb⟩
         have HB3 := Lib.hid (HB2.out.trans (hb.mono HB2.out.size))
         have hS3 := HS2.out.below hb (by omega)
         have hT3 := HT2.out.below hb (by omega)
         have ds16 : w3.cell? ⟨w.heap.size, 16, none⟩ = some (.slice kA kn kc) := lit_cell hS3 16 rfl
         have dt16 : w3.cell? ⟨w.heap.size + 1, 16, none⟩ = some (.slice kA' kn' kc') := lit_cell hT3 16 rfl
         have ds21 : w3.cell? ⟨w.heap.size, 21, none⟩ = some (.slice sA sn sc) := lit_cell hS3 21 rfl
         have dt21 : w3.cell? ⟨w.heap.size + 1, 21, none⟩ = some (.slice sA' sn' sc') := lit_cell hT3 21 rfl
         clear hb hS3 hT3 bs17 bt17))
    go_ret
    exact ⟨rfl, HB3.out⟩
  subst q9
  by_cases q10 : sn = sn'
  rotate_left
  · skip
    have hb : ((sn : Int) != sn') = true := by simp only [bne_iff_ne, ne_eq]; omega
    clear hne hxy hxn
    go_enter Tryz.func46, Tryz.ntmps46
    iterate 17 go_step
    simp only [List.append_eq, List.cons_append, List.nil_append]
    go_wp2_with (first
      | (with_reducible show wpList _ _ _ (Oper.mk (some 28) _ _ _ _ _ :: _) _ _
         refine wpList_load_at (by rfl) 24 (.tmp 27) rfl ⟨w.heap.size, 3, none⟩ rfl [.int .i64 s0, .int .i64 s1, .int .i64 s2, .int .i64 s3, .int .i32 s4, .int .i32 s5, .int .i32 s6, .int .i64 s7, .int .i32 s8, .int .i32 s9, .int .i64 s10] _ hst.out Tryz.underlying24 rfl stat_size ?_)
      | (with_reducible show wpList _ _ _ (Oper.mk (some 30) _ _ _ _ _ :: _) _ _
         refine wpList_load_at (by rfl) 24 (.tmp 29) rfl ⟨w.heap.size + 1, 3, none⟩ rfl [.int .i64 s0, .int .i64 s1, .int .i64 s2, .int .i64 s3, .int .i32 s4, .int .i32 s5, .int .i32 s6, .int .i64 s7, .int .i32 s8, .int .i32 s9, .int .i64 s10] _ htt.out Tryz.underlying24 rfl stat_size ?_)
      | (with_reducible show wpList _ _ _ (Oper.mk (some 31) _ _ _ _ _ :: _) _ _
         refine wpList_neq_agg_g (by rfl) 24 (.tmp 28) (.tmp 30) 24 rfl _ _ rfl rfl (by kernel_rfl) false (stat_neq _ _ _ _ _ _ _ _ _ _ _ _) ?_)
      | (go_at_call 97
         refine (C6.out _ HB1.out).mono ?_
         rintro e w2 ⟨rfl, hb⟩
         have hz2 := hb.size
         have HB2 := Lib.hid (HB1.out.trans (hb.mono HB1.out.size))
         have hS2 := HS.out.below hb (by omega)
         have hT2 := HT.out.below hb (by omega)
         have bs17 : w2.cell? ⟨w.heap.size, 17, none⟩ = some (.int .i32 n) := lit_cell hS2 17 rfl
         have bt17 : w2.cell? ⟨w.heap.size + 1, 17, none⟩ = some (.int .i32 n) := lit_cell hT2 17 rfl
         have hs2 := Lib.hid (blk_at hS2 18 [.int .i64 id, .int .i32 to, .slice iA in_ ic] (in_lit (cs := [.int .i32 t, .int .i32 c, .string p, .int .i64 s0, .int .i64 s1, .int .i64 s2, .int .i64 s3, .int .i32 s4, .int .i32 s5, .int .i32 s6, .int .i64 s7, .int .i32 s8, .int .i32 s9, .int .i64 s10, .slice dA dn dc, .slice aA an ac, .slice kA kn kc, .int .i32 n, .int .i64 id, .int .i32 to, .slice iA in_ ic, .slice sA sn sc]) (r := [.slice sA sn sc]) 18 rfl))
         have ht2 := Lib.hid (blk_at hT2 18 [.int .i64 id, .int .i32 to, .slice iA' in_' ic'] (in_lit (cs := [.int .i32 t, .int .i32 c, .string p, .int .i64 s0, .int .i64 s1, .int .i64 s2, .int .i64 s3, .int .i32 s4, .int .i32 s5, .int .i32 s6, .int .i64 s7, .int .i32 s8, .int .i32 s9, .int .i64 s10, .slice dA' dn' dc', .slice aA' an' ac', .slice kA' kn kc', .int .i32 n, .int .i64 id, .int .i32 to, .slice iA' in_' ic', .slice sA' sn' sc']) (r := [.slice sA' sn' sc']) 18 rfl))
         have HS2 := Lib.hid hS2
         have HT2 := Lib.hid hT2
         clear hb hS2 hT2 as0 at0 as1 at1 as2 at2 as14 at14 as15 at15)
      | (with_reducible show wpList _ _ _ (Oper.mk (some 59) _ _ _ _ _ :: _) _ _
         refine wpList_load_at (by rfl) 30 (.tmp 58) rfl ⟨w.heap.size, 18, none⟩ rfl [.int .i64 id, .int .i32 to, .slice iA in_ ic] _ hs2.out Tryz.underlying30 rfl ses_size ?_)
      | (with_reducible show wpList _ _ _ (Oper.mk (some 61) _ _ _ _ _ :: _) _ _
         refine wpList_load_at (by rfl) 30 (.tmp 60) rfl ⟨w.heap.size + 1, 18, none⟩ rfl [.int .i64 id, .int .i32 to, .slice iA' in_' ic'] _ ht2.out Tryz.underlying30 rfl ses_size ?_)
      | (go_at_call 98
         refine (C8.out _ HB2.out).mono ?_
         rintro e w3 ⟨rfl, hb⟩
         have HB3 := Lib.hid (HB2.out.trans (hb.mono HB2.out.size))
         have hS3 := HS2.out.below hb (by omega)
         have hT3 := HT2.out.below hb (by omega)
         have ds16 : w3.cell? ⟨w.heap.size, 16, none⟩ = some (.slice kA kn kc) := lit_cell hS3 16 rfl
         have dt16 : w3.cell? ⟨w.heap.size + 1, 16, none⟩ = some (.slice kA' kn kc') := lit_cell hT3 16 rfl
         have ds21 : w3.cell? ⟨w.heap.size, 21, none⟩ = some (.slice sA sn sc) := lit_cell hS3 21 rfl
         have dt21 : w3.cell? ⟨w.heap.size + 1, 21, none⟩ = some (.slice sA' sn' sc') := lit_cell hT3 21 rfl
         clear hb hS3 hT3 bs17 bt17))
    go_ret
    exact ⟨rfl, HB3.out⟩
  exact absurd ⟨rfl, rfl, rfl, ⟨rfl, rfl, rfl, rfl, rfl, rfl, rfl, rfl, rfl, rfl, rfl⟩, q5, q6, rfl, ⟨rfl, rfl, q8⟩, rfl, q10⟩ hne
end Go.Proofs.YtnbaajplelchjaaGreatDoor
