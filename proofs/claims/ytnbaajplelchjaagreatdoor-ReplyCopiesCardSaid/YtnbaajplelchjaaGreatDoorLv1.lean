/- What must come of one fixed reply: may it be, is it the same: the walks. (printed by gen_l1.py) -/
import Derived.Test.YtnbaajplelchjaaGreatDoorSuw
set_option linter.unusedVariables false
set_option linter.unusedSimpArgs false
namespace Go.Proofs.YtnbaajplelchjaaGreatDoor
open Go.RowKit

theorem res_size : (Tryz.prog.info? 33).map (·.size) = some 22 := by kernel_rfl
theorem rep_size : (Tryz.prog.info? 35).map (·.size) = some 25 := by kernel_rfl
theorem ses_size : (Tryz.prog.info? 30).map (·.size) = some 3 := by kernel_rfl
theorem stat_size : (Tryz.prog.info? 24).map (·.size) = some 11 := by kernel_rfl
/-- a row out of the midst of a block -/
theorem blk_at {w : World} {g : Nat} {t : TypeId} {cs : Array Value} (h : Blk w g t cs) (o : Nat) (l : List Value) (hl : ∀ j v, l[j]? = some v → cs[o + j]? = some v) : ∀ j v, l[j]? = some v → w.cell? ((⟨g, o, none⟩ : Addr).add j) = some v := fun j v hj => by
  have h1 := h.cell (o + j)
  rw [hl j v hj] at h1
  rcases j with _ | j <;> simpa [Addr.add] using h1
theorem in_lit {cs l r : List Value} (o : Nat) (h : cs.drop o = l ++ r) : ∀ j v, l[j]? = some v → cs.toArray[o + j]? = some v := fun j v hj => by
  have h1 : (cs.drop o)[j]? = some v := by
    rw [h, List.getElem?_append_left (List.getElem?_eq_some_iff.1 hj).1]
    exact hj
  simpa using h1
theorem stat_z (w : World) : (binOp .eql 24 (.agg #[.int .i64 0, .int .i64 0, .int .i64 0, .int .i64 0, .int .i32 0, .int .i32 0, .int .i32 0, .int .i64 0, .int .i32 0, .int .i32 0, .int .i64 0]) (.agg #[.int .i64 0, .int .i64 0, .int .i64 0, .int .i64 0, .int .i32 0, .int .i32 0, .int .i32 0, .int .i64 0, .int .i32 0, .int .i32 0, .int .i64 0])).run Tryz.prog w = .ok (.bool true) w := by
  simp [go_sem]
theorem stat_nz (w : World) : (binOp .neq 24 (.agg #[.int .i64 0, .int .i64 0, .int .i64 0, .int .i64 0, .int .i32 0, .int .i32 0, .int .i32 0, .int .i64 0, .int .i32 0, .int .i32 0, .int .i64 0]) (.agg #[.int .i64 0, .int .i64 0, .int .i64 0, .int .i64 0, .int .i32 0, .int .i32 0, .int .i32 0, .int .i64 0, .int .i32 0, .int .i32 0, .int .i64 0])).run Tryz.prog w = .ok (.bool false) w := by
  simp [go_sem]
theorem no_any (z : Int) (w : World) : Calls Tryz.prog 11 #[.int .i64 z] w fun e w' => e = .returned (.int .i64 z) ∧ w = w' := by
  go_enter Tryz.func11, Tryz.ntmps11
  go_wp2
  go_ret
  exact ⟨rfl, rfl⟩

set_option maxRecDepth 100000 in
set_option maxHeartbeats 4000000 in
theorem empty_z (w : World) : Calls Tryz.prog 40 #[.agg #[.int .i32 0, .int .i32 0, .string ⟨#[]⟩, .int .i64 0, .int .i64 0, .int .i64 0, .int .i64 0, .int .i32 0, .int .i32 0, .int .i32 0, .int .i64 0, .int .i32 0, .int .i32 0, .int .i64 0, .slice none 0 0, .slice none 0 0, .slice none 0 0, .int .i32 0, .int .i64 0, .int .i32 0, .slice none 0 0, .slice none 0 0]] w fun e w' => e = .returned (.bool true) ∧ Below w.heap.size w w' := by
  obtain ⟨w1, hw1⟩ : ∃ w1, w.alloc (.cells #[.int .i32 0, .int .i32 0, .string ⟨#[]⟩, .int .i64 0, .int .i64 0, .int .i64 0, .int .i64 0, .int .i32 0, .int .i32 0, .int .i32 0, .int .i64 0, .int .i32 0, .int .i32 0, .int .i64 0, .slice none 0 0, .slice none 0 0, .slice none 0 0, .int .i32 0, .int .i64 0, .int .i32 0, .slice none 0 0, .slice none 0 0] 33) = w1 := ⟨_, rfl⟩
  have hb1 : Below w.heap.size w w1 := by rw [← hw1]; exact (Below.refl _ _).alloc (Nat.le_refl _) _
  have hS : Blk w1 w.heap.size 33 #[.int .i32 0, .int .i32 0, .string ⟨#[]⟩, .int .i64 0, .int .i64 0, .int .i64 0, .int .i64 0, .int .i32 0, .int .i32 0, .int .i32 0, .int .i64 0, .int .i32 0, .int .i32 0, .int .i64 0, .slice none 0 0, .slice none 0 0, .slice none 0 0, .int .i32 0, .int .i64 0, .int .i32 0, .slice none 0 0, .slice none 0 0] := by rw [← hw1]; exact Blk.new _ _ _
  have hz1 : w1.heap.size = w.heap.size + 1 := by rw [← hw1]; simp
  have HB1 := Lib.hid hb1
  have HS := Lib.hid hS
  have hrow := blk_at hS 18 [.int .i64 0, .int .i32 0, .slice none 0 0] (in_lit (cs := [.int .i32 0, .int .i32 0, .string ⟨#[]⟩, .int .i64 0, .int .i64 0, .int .i64 0, .int .i64 0, .int .i32 0, .int .i32 0, .int .i32 0, .int .i64 0, .int .i32 0, .int .i32 0, .int .i64 0, .slice none 0 0, .slice none 0 0, .slice none 0 0, .int .i32 0, .int .i64 0, .int .i32 0, .slice none 0 0, .slice none 0 0]) (r := [.slice none 0 0]) 18 rfl)
  have HROW := Lib.hid hrow
  obtain ⟨w2, hw2⟩ : ∃ w2, w1.alloc (.cells #[.int .i64 0, .int .i32 0, .slice none 0 0] 30) = w2 := ⟨_, rfl⟩
  have hb2 : Below w1.heap.size w1 w2 := by rw [← hw2]; exact (Below.refl _ _).alloc (Nat.le_refl _) _
  have HS2 : Hid (Blk w2 (w.heap.size + 1) 30 #[.int .i64 0, .int .i32 0, .slice none 0 0]) := by unfold Hid; rw [← hw2]; exact Blk.new' (by omega)
  have HN2 := Lib.hid (hS.below hb2 (by omega))
  have HB2 := Lib.hid (hb1.trans (hb2.mono hb1.size))
  clear hb1 hS hrow hb2
  go_enter Tryz.func40, Tryz.ntmps40
  go_wp2_with (first
    | (refine wpList_load_at (by rfl) 30 (.tmp 4) rfl ⟨w.heap.size, 18, none⟩ rfl [.int .i64 0, .int .i32 0, .slice none 0 0] _ HROW.out Tryz.underlying30 rfl ses_size ?_)
    | (refine wpList_store_row rfl 30 (.tmp 3) (.tmp 5) rfl (w.heap.size + 1) #[.int .i64 0, .int .i32 0, .slice none 0 0] rfl rfl 30 _ HS2.out (by rw [ses_size]; rfl) rfl (by simp [Value.oneCell']) ?_
       generalize hww : World.setRow _ _ _ = w3
       have HB3 : Hid (Below w.heap.size w w3) := by unfold Hid; rw [← hww]; exact below_setRow' HB2.out (by omega) _
       have hS3 : Blk w3 (w.heap.size + 1) 30 #[.int .i64 0, .int .i32 0, .slice none 0 0] := by rw [← hww]; exact cells_setRow HS2.out
       have hN3 : Blk w3 w.heap.size 33 #[.int .i32 0, .int .i32 0, .string ⟨#[]⟩, .int .i64 0, .int .i64 0, .int .i64 0, .int .i64 0, .int .i32 0, .int .i32 0, .int .i32 0, .int .i64 0, .int .i32 0, .int .i32 0, .int .i64 0, .slice none 0 0, .slice none 0 0, .slice none 0 0, .int .i32 0, .int .i64 0, .int .i32 0, .slice none 0 0, .slice none 0 0] := by rw [← hww]; exact (setRow_other w2 (w.heap.size + 1) w.heap.size _ (by omega)).trans HN2.out
       have hst := blk_at hN3 3 [.int .i64 0, .int .i64 0, .int .i64 0, .int .i64 0, .int .i32 0, .int .i32 0, .int .i32 0, .int .i64 0, .int .i32 0, .int .i32 0, .int .i64 0] (in_lit (cs := [.int .i32 0, .int .i32 0, .string ⟨#[]⟩, .int .i64 0, .int .i64 0, .int .i64 0, .int .i64 0, .int .i32 0, .int .i32 0, .int .i32 0, .int .i64 0, .int .i32 0, .int .i32 0, .int .i64 0, .slice none 0 0, .slice none 0 0, .slice none 0 0, .int .i32 0, .int .i64 0, .int .i32 0, .slice none 0 0, .slice none 0 0]) (r := [.int .i32 0, .int .i32 0, .string ⟨#[]⟩, .int .i64 0, .int .i64 0, .int .i64 0, .int .i64 0, .int .i32 0, .int .i32 0, .int .i32 0, .int .i64 0, .int .i32 0, .int .i32 0, .int .i64 0, .slice none 0 0, .slice none 0 0, .slice none 0 0, .int .i32 0, .int .i64 0, .int .i32 0, .slice none 0 0, .slice none 0 0].drop 14) 3 rfl)
       have HST := Lib.hid hst
       have k1 : w3.cell? ⟨w.heap.size, 1, none⟩ = some (.int .i32 0) := lit_cell hN3 1 rfl; have k2 : w3.cell? ⟨w.heap.size, 2, none⟩ = some (.string ⟨#[]⟩) := lit_cell hN3 2 rfl; have k14 : w3.cell? ⟨w.heap.size, 14, none⟩ = some (.slice none 0 0) := lit_cell hN3 14 rfl; have k15 : w3.cell? ⟨w.heap.size, 15, none⟩ = some (.slice none 0 0) := lit_cell hN3 15 rfl; have k16 : w3.cell? ⟨w.heap.size, 16, none⟩ = some (.slice none 0 0) := lit_cell hN3 16 rfl; have k17 : w3.cell? ⟨w.heap.size, 17, none⟩ = some (.int .i32 0) := lit_cell hN3 17 rfl; have k21 : w3.cell? ⟨w.heap.size, 21, none⟩ = some (.slice none 0 0) := lit_cell hN3 21 rfl; have s0 : w3.cell? ⟨w.heap.size + 1, 0, none⟩ = some (.int .i64 0) := lit_cell hS3 0 rfl; have s1 : w3.cell? ⟨w.heap.size + 1, 1, none⟩ = some (.int .i32 0) := lit_cell hS3 1 rfl; have s2 : w3.cell? ⟨w.heap.size + 1, 2, none⟩ = some (.slice none 0 0) := lit_cell hS3 2 rfl
       clear hww hst hS3 hN3)
    | (refine wpList_load_at (by rfl) 24 (.tmp 15) rfl ⟨w.heap.size, 3, none⟩ rfl [.int .i64 0, .int .i64 0, .int .i64 0, .int .i64 0, .int .i32 0, .int .i32 0, .int .i32 0, .int .i64 0, .int .i32 0, .int .i32 0, .int .i64 0] _ HST.out Tryz.underlying24 rfl stat_size ?_)
    | (refine wpList_eql_agg_g (by rfl) 24 (.tmp 16) (.tmp 17) 24 rfl _ _ rfl rfl (by kernel_rfl) true (stat_z _) ?_))
  go_ret
  exact ⟨rfl, HB3.out⟩
end Go.Proofs.YtnbaajplelchjaaGreatDoor
