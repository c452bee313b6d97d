/- What must come of one fixed reply: the document's Same: the walks. (printed by gen_l3.py) -/
import Derived.Test.YtnbaajplelchjaaGreatDoorLv1
set_option linter.unusedVariables false
set_option linter.unusedSimpArgs false
namespace Go.Proofs.YtnbaajplelchjaaGreatDoor
open Go.RowKit

/-- rows compared (not the same?), in an operation with a guard that lets it through -/
theorem wpList_neq_agg_g {P : Program} {ops : Array Oper} {rest : List Oper} {o : Oper} {a : Act} {w : World} {Q : Exit → Act → World → Prop} (hw : Region.wanted o (yielded ops a.tmps) = true) (t : TypeId) (x y : Operand) (t' : TypeId) (ho : o.op = .binOp .neq t x y t') (xs ys : Array Value) (hx : a.eval x = .agg xs) (hy : a.eval y = .agg ys)
    (hm : P.eqGuardType P.depth t = false) (b : Bool) (hr : (binOp .neq t (.agg xs) (.agg ys)).run P w = .ok (.bool b) w) (h : wpList P ops Q rest (a.put o.dst (.bool b)) w) : wpList P ops Q (o :: rest) a w :=
  wpList_step fun K hK => by
    rw [if_pos hw]
    unfold Oper.wp execOp
    simp only [ho, hx, hy, Sem.run_bind, run_eqGuard_agg w .neq t x y xs ys hm, Result.andThen_ok, hr]
    exact hK _ _ h
set_option maxRecDepth 100000 in
theorem same06_z (w : World) : Calls Tryz.prog 97 #[.slice none 0 0, .slice none 0 0] w fun e w' => e = .returned (.bool true) ∧ Below w.heap.size w w' := by
  go_enter Tryz.func97, Tryz.ntmps97
  go_wp2
  go_loopw [5] (fun i wr => i = .int .i64 0 ∧ w = wr) (fun _ _ => 0)
  case atStart => exact ⟨rfl, rfl⟩
  case round =>
    obtain ⟨rfl, rfl⟩ := hrel
    go_wp2
    go_ret
    exact ⟨rfl, Below.refl _ _⟩
set_option maxRecDepth 100000 in
set_option maxHeartbeats 4000000 in
theorem same08_z (w : World) : Calls Tryz.prog 98 #[.agg #[.int .i64 0, .int .i32 0, .slice none 0 0], .agg #[.int .i64 0, .int .i32 0, .slice none 0 0]] w fun e w' => e = .returned (.bool true) ∧ Below w.heap.size w w' := by
  obtain ⟨w1, hw1⟩ : ∃ w1, (w.alloc (.cells #[.int .i64 0, .int .i32 0, .slice none 0 0] 30)).alloc (.cells #[.int .i64 0, .int .i32 0, .slice none 0 0] 30) = w1 := ⟨_, rfl⟩
  have hb1 : Below w.heap.size w w1 := by rw [← hw1]; exact ((Below.refl _ _).alloc (Nat.le_refl _) _).alloc (by simp) _
  have hS : Blk w1 w.heap.size 30 #[.int .i64 0, .int .i32 0, .slice none 0 0] := by rw [← hw1]; exact (Blk.new _ _ _).alloc _
  have hT : Blk w1 (w.heap.size + 1) 30 #[.int .i64 0, .int .i32 0, .slice none 0 0] := by rw [← hw1]; exact Blk.new' (by simp)
  have s0 : w1.cell? ⟨w.heap.size, 0, none⟩ = some (.int .i64 0) := lit_cell hS 0 rfl
  have s1 : w1.cell? ⟨w.heap.size, 1, none⟩ = some (.int .i32 0) := lit_cell hS 1 rfl
  have s2 : w1.cell? ⟨w.heap.size, 2, none⟩ = some (.slice none 0 0) := lit_cell hS 2 rfl
  have t0 : w1.cell? ⟨w.heap.size + 1, 0, none⟩ = some (.int .i64 0) := lit_cell hT 0 rfl
  have t1 : w1.cell? ⟨w.heap.size + 1, 1, none⟩ = some (.int .i32 0) := lit_cell hT 1 rfl
  have t2 : w1.cell? ⟨w.heap.size + 1, 2, none⟩ = some (.slice none 0 0) := lit_cell hT 2 rfl
  have HB1 := Lib.hid hb1
  clear hb1 hS hT
  go_enter Tryz.func98, Tryz.ntmps98
  go_wp2
  go_loopw [5] (fun i wr => i = .int .i64 0 ∧ w1 = wr) (fun _ _ => 0)
  case atStart => exact ⟨rfl, rfl⟩
  case round =>
    obtain ⟨rfl, rfl⟩ := hrel
    go_wp2
    go_ret
    exact ⟨rfl, HB1.out⟩

set_option maxRecDepth 100000 in
set_option maxHeartbeats 16000000 in
theorem sameResult_z (w : World) : Calls Tryz.prog 46 #[.agg #[.int .i32 0, .int .i32 0, .string ⟨#[]⟩, .int .i64 0, .int .i64 0, .int .i64 0, .int .i64 0, .int .i32 0, .int .i32 0, .int .i32 0, .int .i64 0, .int .i32 0, .int .i32 0, .int .i64 0, .slice none 0 0, .slice none 0 0, .slice none 0 0, .int .i32 0, .int .i64 0, .int .i32 0, .slice none 0 0, .slice none 0 0], .agg #[.int .i32 0, .int .i32 0, .string ⟨#[]⟩, .int .i64 0, .int .i64 0, .int .i64 0, .int .i64 0, .int .i32 0, .int .i32 0, .int .i32 0, .int .i64 0, .int .i32 0, .int .i32 0, .int .i64 0, .slice none 0 0, .slice none 0 0, .slice none 0 0, .int .i32 0, .int .i64 0, .int .i32 0, .slice none 0 0, .slice none 0 0]] w fun e w' => e = .returned (.bool true) ∧ Below w.heap.size w w' := by
  obtain ⟨w1, hw1⟩ : ∃ w1, (w.alloc (.cells #[.int .i32 0, .int .i32 0, .string ⟨#[]⟩, .int .i64 0, .int .i64 0, .int .i64 0, .int .i64 0, .int .i32 0, .int .i32 0, .int .i32 0, .int .i64 0, .int .i32 0, .int .i32 0, .int .i64 0, .slice none 0 0, .slice none 0 0, .slice none 0 0, .int .i32 0, .int .i64 0, .int .i32 0, .slice none 0 0, .slice none 0 0] 33)).alloc (.cells #[.int .i32 0, .int .i32 0, .string ⟨#[]⟩, .int .i64 0, .int .i64 0, .int .i64 0, .int .i64 0, .int .i32 0, .int .i32 0, .int .i32 0, .int .i64 0, .int .i32 0, .int .i32 0, .int .i64 0, .slice none 0 0, .slice none 0 0, .slice none 0 0, .int .i32 0, .int .i64 0, .int .i32 0, .slice none 0 0, .slice none 0 0] 33) = w1 := ⟨_, rfl⟩
  have hb1 : Below w.heap.size w w1 := by rw [← hw1]; exact ((Below.refl _ _).alloc (Nat.le_refl _) _).alloc (by simp) _
  have hS : Blk w1 w.heap.size 33 #[.int .i32 0, .int .i32 0, .string ⟨#[]⟩, .int .i64 0, .int .i64 0, .int .i64 0, .int .i64 0, .int .i32 0, .int .i32 0, .int .i32 0, .int .i64 0, .int .i32 0, .int .i32 0, .int .i64 0, .slice none 0 0, .slice none 0 0, .slice none 0 0, .int .i32 0, .int .i64 0, .int .i32 0, .slice none 0 0, .slice none 0 0] := by rw [← hw1]; exact (Blk.new _ _ _).alloc _
  have hT : Blk w1 (w.heap.size + 1) 33 #[.int .i32 0, .int .i32 0, .string ⟨#[]⟩, .int .i64 0, .int .i64 0, .int .i64 0, .int .i64 0, .int .i32 0, .int .i32 0, .int .i32 0, .int .i64 0, .int .i32 0, .int .i32 0, .int .i64 0, .slice none 0 0, .slice none 0 0, .slice none 0 0, .int .i32 0, .int .i64 0, .int .i32 0, .slice none 0 0, .slice none 0 0] := by rw [← hw1]; exact Blk.new' (by simp)
  have hz1 : w1.heap.size = w.heap.size + 2 := by rw [← hw1]; simp
  have as0 : w1.cell? ⟨w.heap.size, 0, none⟩ = some (.int .i32 0) := lit_cell hS 0 rfl; have as1 : w1.cell? ⟨w.heap.size, 1, none⟩ = some (.int .i32 0) := lit_cell hS 1 rfl; have as2 : w1.cell? ⟨w.heap.size, 2, none⟩ = some (.string ⟨#[]⟩) := lit_cell hS 2 rfl; have as14 : w1.cell? ⟨w.heap.size, 14, none⟩ = some (.slice none 0 0) := lit_cell hS 14 rfl; have as15 : w1.cell? ⟨w.heap.size, 15, none⟩ = some (.slice none 0 0) := lit_cell hS 15 rfl; have at0 : w1.cell? ⟨w.heap.size + 1, 0, none⟩ = some (.int .i32 0) := lit_cell hT 0 rfl; have at1 : w1.cell? ⟨w.heap.size + 1, 1, none⟩ = some (.int .i32 0) := lit_cell hT 1 rfl; have at2 : w1.cell? ⟨w.heap.size + 1, 2, none⟩ = some (.string ⟨#[]⟩) := lit_cell hT 2 rfl; have at14 : w1.cell? ⟨w.heap.size + 1, 14, none⟩ = some (.slice none 0 0) := lit_cell hT 14 rfl; have at15 : w1.cell? ⟨w.heap.size + 1, 15, none⟩ = some (.slice none 0 0) := lit_cell hT 15 rfl
  have HS := Lib.hid hS
  have HT := Lib.hid hT
  have HB1 := Lib.hid hb1
  have hst := Lib.hid (blk_at hS 3 [.int .i64 0, .int .i64 0, .int .i64 0, .int .i64 0, .int .i32 0, .int .i32 0, .int .i32 0, .int .i64 0, .int .i32 0, .int .i32 0, .int .i64 0] (in_lit (cs := [.int .i32 0, .int .i32 0, .string ⟨#[]⟩, .int .i64 0, .int .i64 0, .int .i64 0, .int .i64 0, .int .i32 0, .int .i32 0, .int .i32 0, .int .i64 0, .int .i32 0, .int .i32 0, .int .i64 0, .slice none 0 0, .slice none 0 0, .slice none 0 0, .int .i32 0, .int .i64 0, .int .i32 0, .slice none 0 0, .slice none 0 0]) (r := [.int .i32 0, .int .i32 0, .string ⟨#[]⟩, .int .i64 0, .int .i64 0, .int .i64 0, .int .i64 0, .int .i32 0, .int .i32 0, .int .i32 0, .int .i64 0, .int .i32 0, .int .i32 0, .int .i64 0, .slice none 0 0, .slice none 0 0, .slice none 0 0, .int .i32 0, .int .i64 0, .int .i32 0, .slice none 0 0, .slice none 0 0].drop 14) 3 rfl))
  have htt := Lib.hid (blk_at hT 3 [.int .i64 0, .int .i64 0, .int .i64 0, .int .i64 0, .int .i32 0, .int .i32 0, .int .i32 0, .int .i64 0, .int .i32 0, .int .i32 0, .int .i64 0] (in_lit (cs := [.int .i32 0, .int .i32 0, .string ⟨#[]⟩, .int .i64 0, .int .i64 0, .int .i64 0, .int .i64 0, .int .i32 0, .int .i32 0, .int .i32 0, .int .i64 0, .int .i32 0, .int .i32 0, .int .i64 0, .slice none 0 0, .slice none 0 0, .slice none 0 0, .int .i32 0, .int .i64 0, .int .i32 0, .slice none 0 0, .slice none 0 0]) (r := [.int .i32 0, .int .i32 0, .string ⟨#[]⟩, .int .i64 0, .int .i64 0, .int .i64 0, .int .i64 0, .int .i32 0, .int .i32 0, .int .i32 0, .int .i64 0, .int .i32 0, .int .i32 0, .int .i64 0, .slice none 0 0, .slice none 0 0, .slice none 0 0, .int .i32 0, .int .i64 0, .int .i32 0, .slice none 0 0, .slice none 0 0].drop 14) 3 rfl))
  have HCV : ∀ W : World, (convert 25 9 (.slice none 0 0)).run Tryz.prog W = .ok (.string ⟨#[]⟩) W := fun W => run_string_of_bytes (l := []) Tryz.underlying25 Tryz.underlying5 (show Reads W W.heap.size 1 none 0 (bcells []) from Reads.none_) 9 Tryz.underlying9
  clear hb1 hS hT
  go_enter Tryz.func46, Tryz.ntmps46
  iterate 17 go_step
  simp only [List.append_eq, List.cons_append, List.nil_append]
  go_wp2_with (first
    | (refine wpList_load_at (by rfl) 24 (.tmp 27) rfl ⟨w.heap.size, 3, none⟩ rfl [.int .i64 0, .int .i64 0, .int .i64 0, .int .i64 0, .int .i32 0, .int .i32 0, .int .i32 0, .int .i64 0, .int .i32 0, .int .i32 0, .int .i64 0] _ hst.out Tryz.underlying24 rfl stat_size ?_)
    | (refine wpList_load_at (by rfl) 24 (.tmp 29) rfl ⟨w.heap.size + 1, 3, none⟩ rfl [.int .i64 0, .int .i64 0, .int .i64 0, .int .i64 0, .int .i32 0, .int .i32 0, .int .i32 0, .int .i64 0, .int .i32 0, .int .i32 0, .int .i64 0] _ htt.out Tryz.underlying24 rfl stat_size ?_)
    | (refine wpList_neq_agg_g (by rfl) 24 (.tmp 28) (.tmp 30) 24 rfl _ _ rfl rfl (by kernel_rfl) false (stat_nz _) ?_)
    | (go_at_call 97
       refine (same06_z _).mono ?_
       rintro e w2 ⟨rfl, hb⟩
       have hz2 := hb.size
       have HB2 := Lib.hid (HB1.out.trans (hb.mono HB1.out.size))
       have hS2 := HS.out.below hb (by omega)
       have hT2 := HT.out.below hb (by omega)
       have bs17 : w2.cell? ⟨w.heap.size, 17, none⟩ = some (.int .i32 0) := lit_cell hS2 17 rfl; have bt17 : w2.cell? ⟨w.heap.size + 1, 17, none⟩ = some (.int .i32 0) := lit_cell hT2 17 rfl
       have hs2 := Lib.hid (blk_at hS2 18 [.int .i64 0, .int .i32 0, .slice none 0 0] (in_lit (cs := [.int .i32 0, .int .i32 0, .string ⟨#[]⟩, .int .i64 0, .int .i64 0, .int .i64 0, .int .i64 0, .int .i32 0, .int .i32 0, .int .i32 0, .int .i64 0, .int .i32 0, .int .i32 0, .int .i64 0, .slice none 0 0, .slice none 0 0, .slice none 0 0, .int .i32 0, .int .i64 0, .int .i32 0, .slice none 0 0, .slice none 0 0]) (r := [.slice none 0 0]) 18 rfl))
       have ht2 := Lib.hid (blk_at hT2 18 [.int .i64 0, .int .i32 0, .slice none 0 0] (in_lit (cs := [.int .i32 0, .int .i32 0, .string ⟨#[]⟩, .int .i64 0, .int .i64 0, .int .i64 0, .int .i64 0, .int .i32 0, .int .i32 0, .int .i32 0, .int .i64 0, .int .i32 0, .int .i32 0, .int .i64 0, .slice none 0 0, .slice none 0 0, .slice none 0 0, .int .i32 0, .int .i64 0, .int .i32 0, .slice none 0 0, .slice none 0 0]) (r := [.slice none 0 0]) 18 rfl))
       have HS2 := Lib.hid hS2
       have HT2 := Lib.hid hT2
       clear hb hS2 hT2 as0 at0 as1 at1 as2 at2 as14 at14 as15 at15)
    | (refine wpList_load_at (by rfl) 30 (.tmp 58) rfl ⟨w.heap.size, 18, none⟩ rfl [.int .i64 0, .int .i32 0, .slice none 0 0] _ hs2.out Tryz.underlying30 rfl ses_size ?_)
    | (refine wpList_load_at (by rfl) 30 (.tmp 60) rfl ⟨w.heap.size + 1, 18, none⟩ rfl [.int .i64 0, .int .i32 0, .slice none 0 0] _ ht2.out Tryz.underlying30 rfl ses_size ?_)
    | (go_at_call 98
       refine (same08_z _).mono ?_
       rintro e w3 ⟨rfl, hb⟩
       have hz3 := hb.size
       have HB3 := Lib.hid (HB2.out.trans (hb.mono HB2.out.size))
       have hS3 := HS2.out.below hb (by omega)
       have hT3 := HT2.out.below hb (by omega)
       have ds16 : w3.cell? ⟨w.heap.size, 16, none⟩ = some (.slice none 0 0) := lit_cell hS3 16 rfl; have ds21 : w3.cell? ⟨w.heap.size, 21, none⟩ = some (.slice none 0 0) := lit_cell hS3 21 rfl; have dt16 : w3.cell? ⟨w.heap.size + 1, 16, none⟩ = some (.slice none 0 0) := lit_cell hT3 16 rfl; have dt21 : w3.cell? ⟨w.heap.size + 1, 21, none⟩ = some (.slice none 0 0) := lit_cell hT3 21 rfl
       clear hb hS3 hT3 bs17 bt17))
  go_loopw [5] (fun i wr => i = .int .i64 0 ∧ w3 = wr) (fun _ _ => 0)
  case atStart => exact ⟨rfl, rfl⟩
  case round =>
    obtain ⟨rfl, rfl⟩ := hrel
    go_wp2
    go_loopw [6] (fun i wr => i = .int .i64 0 ∧ w3 = wr) (fun _ _ => 0)
    case atStart => exact ⟨rfl, rfl⟩
    case round =>
      obtain ⟨rfl, rfl⟩ := hrel
      go_wp2
      go_ret
      exact ⟨rfl, HB3.out⟩

set_option maxRecDepth 100000 in
set_option maxHeartbeats 16000000 in
theorem refSame_live (w : World) : Calls Tryz.prog 15 #[.agg #[.int .i32 1, .int .i64 2, .int .i32 (-101), .int .i32 0, .int .i32 0, .string ⟨#[]⟩, .int .i64 0, .int .i64 0, .int .i64 0, .int .i64 0, .int .i32 0, .int .i32 0, .int .i32 0, .int .i64 0, .int .i32 0, .int .i32 0, .int .i64 0, .slice none 0 0, .slice none 0 0, .slice none 0 0, .int .i32 0, .int .i64 0, .int .i32 0, .slice none 0 0, .slice none 0 0], .agg #[.int .i32 1, .int .i64 2, .int .i32 (-101), .int .i32 0, .int .i32 0, .string ⟨#[]⟩, .int .i64 0, .int .i64 0, .int .i64 0, .int .i64 0, .int .i32 0, .int .i32 0, .int .i32 0, .int .i64 0, .int .i32 0, .int .i32 0, .int .i64 0, .slice none 0 0, .slice none 0 0, .slice none 0 0, .int .i32 0, .int .i64 0, .int .i32 0, .slice none 0 0, .slice none 0 0]] w fun e w' => e = .returned (.bool true) ∧ Below w.heap.size w w' := by
  obtain ⟨w1, hw1⟩ : ∃ w1, (w.alloc (.cells #[.int .i32 1, .int .i64 2, .int .i32 (-101), .int .i32 0, .int .i32 0, .string ⟨#[]⟩, .int .i64 0, .int .i64 0, .int .i64 0, .int .i64 0, .int .i32 0, .int .i32 0, .int .i32 0, .int .i64 0, .int .i32 0, .int .i32 0, .int .i64 0, .slice none 0 0, .slice none 0 0, .slice none 0 0, .int .i32 0, .int .i64 0, .int .i32 0, .slice none 0 0, .slice none 0 0] 35)).alloc (.cells #[.int .i32 1, .int .i64 2, .int .i32 (-101), .int .i32 0, .int .i32 0, .string ⟨#[]⟩, .int .i64 0, .int .i64 0, .int .i64 0, .int .i64 0, .int .i32 0, .int .i32 0, .int .i32 0, .int .i64 0, .int .i32 0, .int .i32 0, .int .i64 0, .slice none 0 0, .slice none 0 0, .slice none 0 0, .int .i32 0, .int .i64 0, .int .i32 0, .slice none 0 0, .slice none 0 0] 35) = w1 := ⟨_, rfl⟩
  have hb1 : Below w.heap.size w w1 := by rw [← hw1]; exact ((Below.refl _ _).alloc (Nat.le_refl _) _).alloc (by simp) _
  have hS : Blk w1 w.heap.size 35 #[.int .i32 1, .int .i64 2, .int .i32 (-101), .int .i32 0, .int .i32 0, .string ⟨#[]⟩, .int .i64 0, .int .i64 0, .int .i64 0, .int .i64 0, .int .i32 0, .int .i32 0, .int .i32 0, .int .i64 0, .int .i32 0, .int .i32 0, .int .i64 0, .slice none 0 0, .slice none 0 0, .slice none 0 0, .int .i32 0, .int .i64 0, .int .i32 0, .slice none 0 0, .slice none 0 0] := by rw [← hw1]; exact (Blk.new _ _ _).alloc _
  have hT : Blk w1 (w.heap.size + 1) 35 #[.int .i32 1, .int .i64 2, .int .i32 (-101), .int .i32 0, .int .i32 0, .string ⟨#[]⟩, .int .i64 0, .int .i64 0, .int .i64 0, .int .i64 0, .int .i32 0, .int .i32 0, .int .i32 0, .int .i64 0, .int .i32 0, .int .i32 0, .int .i64 0, .slice none 0 0, .slice none 0 0, .slice none 0 0, .int .i32 0, .int .i64 0, .int .i32 0, .slice none 0 0, .slice none 0 0] := by rw [← hw1]; exact Blk.new' (by simp)
  have hz1 : w1.heap.size = w.heap.size + 2 := by rw [← hw1]; simp
  have s0 : w1.cell? ⟨w.heap.size, 0, none⟩ = some (.int .i32 1) := lit_cell hS 0 rfl
  have s1 : w1.cell? ⟨w.heap.size, 1, none⟩ = some (.int .i64 2) := lit_cell hS 1 rfl
  have s2 : w1.cell? ⟨w.heap.size, 2, none⟩ = some (.int .i32 (-101)) := lit_cell hS 2 rfl
  have t0 : w1.cell? ⟨w.heap.size + 1, 0, none⟩ = some (.int .i32 1) := lit_cell hT 0 rfl
  have t1 : w1.cell? ⟨w.heap.size + 1, 1, none⟩ = some (.int .i64 2) := lit_cell hT 1 rfl
  have t2 : w1.cell? ⟨w.heap.size + 1, 2, none⟩ = some (.int .i32 (-101)) := lit_cell hT 2 rfl
  have HB1 := Lib.hid hb1
  have hst := Lib.hid (blk_at hS 3 [.int .i32 0, .int .i32 0, .string ⟨#[]⟩, .int .i64 0, .int .i64 0, .int .i64 0, .int .i64 0, .int .i32 0, .int .i32 0, .int .i32 0, .int .i64 0, .int .i32 0, .int .i32 0, .int .i64 0, .slice none 0 0, .slice none 0 0, .slice none 0 0, .int .i32 0, .int .i64 0, .int .i32 0, .slice none 0 0, .slice none 0 0] (in_lit (cs := [.int .i32 1, .int .i64 2, .int .i32 (-101), .int .i32 0, .int .i32 0, .string ⟨#[]⟩, .int .i64 0, .int .i64 0, .int .i64 0, .int .i64 0, .int .i32 0, .int .i32 0, .int .i32 0, .int .i64 0, .int .i32 0, .int .i32 0, .int .i64 0, .slice none 0 0, .slice none 0 0, .slice none 0 0, .int .i32 0, .int .i64 0, .int .i32 0, .slice none 0 0, .slice none 0 0]) (r := []) 3 rfl))
  have htt := Lib.hid (blk_at hT 3 [.int .i32 0, .int .i32 0, .string ⟨#[]⟩, .int .i64 0, .int .i64 0, .int .i64 0, .int .i64 0, .int .i32 0, .int .i32 0, .int .i32 0, .int .i64 0, .int .i32 0, .int .i32 0, .int .i64 0, .slice none 0 0, .slice none 0 0, .slice none 0 0, .int .i32 0, .int .i64 0, .int .i32 0, .slice none 0 0, .slice none 0 0] (in_lit (cs := [.int .i32 1, .int .i64 2, .int .i32 (-101), .int .i32 0, .int .i32 0, .string ⟨#[]⟩, .int .i64 0, .int .i64 0, .int .i64 0, .int .i64 0, .int .i32 0, .int .i32 0, .int .i32 0, .int .i64 0, .int .i32 0, .int .i32 0, .int .i64 0, .slice none 0 0, .slice none 0 0, .slice none 0 0, .int .i32 0, .int .i64 0, .int .i32 0, .slice none 0 0, .slice none 0 0]) (r := []) 3 rfl))
  clear hb1 hS hT
  go_enter Tryz.func15, Tryz.ntmps15
  go_wp2_with (first
    | (refine wpList_load_at (by rfl) 33 (.tmp 25) rfl ⟨w.heap.size, 3, none⟩ rfl [.int .i32 0, .int .i32 0, .string ⟨#[]⟩, .int .i64 0, .int .i64 0, .int .i64 0, .int .i64 0, .int .i32 0, .int .i32 0, .int .i32 0, .int .i64 0, .int .i32 0, .int .i32 0, .int .i64 0, .slice none 0 0, .slice none 0 0, .slice none 0 0, .int .i32 0, .int .i64 0, .int .i32 0, .slice none 0 0, .slice none 0 0] _ hst.out Tryz.underlying33 rfl res_size ?_)
    | (refine wpList_load_at (by rfl) 33 (.tmp 27) rfl ⟨w.heap.size + 1, 3, none⟩ rfl [.int .i32 0, .int .i32 0, .string ⟨#[]⟩, .int .i64 0, .int .i64 0, .int .i64 0, .int .i64 0, .int .i32 0, .int .i32 0, .int .i32 0, .int .i64 0, .int .i32 0, .int .i32 0, .int .i64 0, .slice none 0 0, .slice none 0 0, .slice none 0 0, .int .i32 0, .int .i64 0, .int .i32 0, .slice none 0 0, .slice none 0 0] _ htt.out Tryz.underlying33 rfl res_size ?_)
    | (go_at_call 46
       refine (sameResult_z _).mono ?_
       rintro e w2 ⟨rfl, hb⟩
       have HB2 := Lib.hid (HB1.out.trans (hb.mono HB1.out.size))
       clear hb))
  go_ret
  exact ⟨rfl, HB2.out⟩
end Go.Proofs.YtnbaajplelchjaaGreatDoor
