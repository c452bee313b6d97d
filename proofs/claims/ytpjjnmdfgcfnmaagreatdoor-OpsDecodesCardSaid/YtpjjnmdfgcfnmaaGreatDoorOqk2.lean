/- ops.kept: an operation with the fields of its type alone. (printed by gen_p12.py) -/
import Derived.Test.YtpjjnmdfgcfnmaaGreatDoorOqo
set_option linter.unusedVariables false
set_option linter.unusedSimpArgs false
namespace Go.Proofs.YtpjjnmdfgcfnmaaGreatDoor
open Go.RowKit

set_option maxRecDepth 100000 in
set_option maxHeartbeats 20000000 in
theorem kept_g2 (t : Int) (htt : t ∈ ([2, 13] : List Int)) (f : OpF) (d a k0 k1 k2 k3 k4 i s : Sl) (w : World) (ht : f.t = t) : Calls Tryz.prog 112 #[.agg (f.row d a k0 k1 k2 k3 k4 i s).toArray] w fun e w' => e = .returned (.agg (keptRow f d a k0 k1 k2 k3 k4 i s).toArray) ∧ Below w.heap.size w w' := by
  have HE : Hid ((keptRow f d a k0 k1 k2 k3 k4 i s).toArray = #[.int .i32 t, .string f.p, .slice none 0 0, .slice none 0 0, .int .i32 0, .int .i32 f.ve, .bool false, .int .i64 0, .int .i64 0, .int .i64 0, .int .i64 0, .slice none 0 0, .slice none 0 0, .slice none 0 0, .slice none 0 0, .slice none 0 0, .int .i32 0, .slice none 0 0, .slice none 0 0]) := by
    unfold Hid keptRow keptF kS
    rw [ht]
    simp only [List.mem_cons, List.not_mem_nil, or_false] at htt
    rcases htt with rfl | rfl <;> simp [tP, tD, tA, tF, tV, tW, tC, tL, tZ, tT, tS, OpF.row, Sl.v, nilS]
  rw [HE.out]
  obtain ⟨cs, hcs⟩ : ∃ cs : Array Value, cs = (f.row d a k0 k1 k2 k3 k4 i s).toArray := ⟨_, rfl⟩
  rw [← hcs]
  have hc0 : cs[0]? = some (.int .i32 t) := by rw [hcs, ← ht]; rfl
  have HC0 := Lib.hid hc0
  have HCS := Lib.hid hcs
  obtain ⟨w1, hw1⟩ : ∃ w1, w.alloc (.cells cs 29) = w1 := ⟨_, rfl⟩
  have hz1 : w1.heap.size = w.heap.size + 1 := by rw [← hw1]; simp
  have HN1 : Hid (Blk w1 w.heap.size 29 cs) := by unfold Hid; rw [← hw1]; exact Blk.new _ _ _
  have HB1 : Hid (Below w.heap.size w w1) := by unfold Hid; rw [← hw1]; exact (Below.refl _ _).alloc (Nat.le_refl _) _
  clear hc0 hcs ht HE
  obtain ⟨n0, n1, n2, n3, n4, n5, n6, n7, n8, n9, n10, n11, n12, n13, n14, n15, n16, n17, n18, n19, _⟩ := sw_all (cs := [14, 22, 101, (-10), (-11), 11, 107, 1, 15, 19, 21, 5, 7, 120, 3, 4, 8, 12, 106, 18]) htt rfl
  have S : ((t == 2) = true) ∨ ((t == 2) = false ∧ (t == 13) = true) := by
    simp only [List.mem_cons, List.not_mem_nil, or_false] at htt
    rcases htt with rfl | rfl <;> decide
  clear htt
  rcases S with s0 | ⟨s0, s1⟩
  all_goals
    go_enter Tryz.func112, Tryz.ntmps112
    go_wp2_with (first
      | (refine wpList_new rfl 29 rfl zer_op ?_
         intro old hold
         obtain ⟨w2, hw2⟩ : ∃ w2, w1.alloc (.cells old 29) = w2 := ⟨_, rfl⟩
         rw [hw2]
         have hz2 : w2.heap.size = w.heap.size + 2 := (by rw [← hw2]; simp [hz1])
         have HN2 : Hid (Blk w2 w.heap.size 29 cs) := (by unfold Hid; rw [← hw2]; exact HN1.out.alloc _)
         have HZ2 : Hid (Blk w2 (w.heap.size + 1) 29 old) := (by unfold Hid; rw [← hw2]; exact Blk.new' hz1.symm)
         have HB2 : Hid (Below w.heap.size w w2) := (by unfold Hid; rw [← hw2]; exact HB1.out.alloc (by omega) _)
         have HOLD := Lib.hid hold
         have c0 := blk_cell HN2.out 0 HC0.out
         clear hw2 hold)
      | (refine wpList_newrow rfl rfl 29 rfl 3 rfl (.tmp 6) rfl rfl #[.int .i32 t, .string ⟨#[]⟩, .slice none 0 0, .slice none 0 0, .int .i32 0, .int .i32 0, .bool false, .int .i64 0, .int .i64 0, .int .i64 0, .int .i64 0, .slice none 0 0, .slice none 0 0, .slice none 0 0, .slice none 0 0, .slice none 0 0, .int .i32 0, .slice none 0 0, .slice none 0 0] (fun _ => rfl) (show 3 < 116 by decide) zer_op isz_29 (by simp [Value.oneCell']) ?_
         obtain ⟨w3, hw3⟩ : ∃ w3, w2.alloc (.cells #[.int .i32 t, .string ⟨#[]⟩, .slice none 0 0, .slice none 0 0, .int .i32 0, .int .i32 0, .bool false, .int .i64 0, .int .i64 0, .int .i64 0, .int .i64 0, .slice none 0 0, .slice none 0 0, .slice none 0 0, .slice none 0 0, .slice none 0 0, .int .i32 0, .slice none 0 0, .slice none 0 0] 29) = w3 := ⟨_, rfl⟩
         rw [hw3]
         have hz3 : w3.heap.size = w.heap.size + 3 := (by rw [← hw3]; simp [hz2])
         have HN3 : Hid (Blk w3 w.heap.size 29 cs) := (by unfold Hid; rw [← hw3]; exact HN2.out.alloc _)
         have HZ3 : Hid (Blk w3 (w.heap.size + 1) 29 old) := (by unfold Hid; rw [← hw3]; exact HZ2.out.alloc _)
         have HP3 : Hid (Blk w3 (w.heap.size + 2) 29 #[.int .i32 t, .string ⟨#[]⟩, .slice none 0 0, .slice none 0 0, .int .i32 0, .int .i32 0, .bool false, .int .i64 0, .int .i64 0, .int .i64 0, .int .i64 0, .slice none 0 0, .slice none 0 0, .slice none 0 0, .slice none 0 0, .slice none 0 0, .int .i32 0, .slice none 0 0, .slice none 0 0]) := (by unfold Hid; rw [← hw3]; exact Blk.new' hz2.symm)
         have HB3 : Hid (Below w.heap.size w w3) := (by unfold Hid; rw [← hw3]; exact HB2.out.alloc (by omega) _)
         have d0 := blk_cell HN3.out 0 HC0.out
         have d1 := blk_cell HN3.out 1 (by rw [HCS.out]; rfl : cs[1]? = some (.string f.p))
         clear hw3 c0 HN2 HZ2 HB2)
      | (with_reducible show wpList _ _ _ (Oper.mk none (.store _ (.tmp 41) _) _ _ _ _ :: _) _ _
         refine wpList_store_mid rfl 9 (.tmp 41) (.tmp 40) rfl (w.heap.size + 2) 1 (.string f.p) rfl rfl HP3.out (news := [.string f.p]) rfl isz_9 (by simp) (by simp [Value.oneCell']) ?_
         intro w4 cn hBn hxn hgn hzn
         have hz4 : w4.heap.size = w.heap.size + 3 := (by rw [hzn, hz3])
         have HN4 : Hid (Blk w4 w.heap.size 29 cs) := HN3.out.grown hgn (by simp)
         have HZ4 : Hid (Blk w4 (w.heap.size + 1) 29 old) := HZ3.out.grown hgn (by simp)
         have HP4 : Hid (Blk w4 (w.heap.size + 2) 29 #[.int .i32 t, .string f.p, .slice none 0 0, .slice none 0 0, .int .i32 0, .int .i32 0, .bool false, .int .i64 0, .int .i64 0, .int .i64 0, .int .i64 0, .slice none 0 0, .slice none 0 0, .slice none 0 0, .slice none 0 0, .slice none 0 0, .int .i32 0, .slice none 0 0, .slice none 0 0]) := (by
           have e : cn = #[.int .i32 t, .string f.p, .slice none 0 0, .slice none 0 0, .int .i32 0, .int .i32 0, .bool false, .int .i64 0, .int .i64 0, .int .i64 0, .int .i64 0, .slice none 0 0, .slice none 0 0, .slice none 0 0, .slice none 0 0, .slice none 0 0, .int .i32 0, .slice none 0 0, .slice none 0 0] := Array.ext' hxn
           unfold Hid; rw [← e]; exact hBn)
         have HB4 : Hid (Below w.heap.size w w4) := HB3.out.grown hgn (by omega) (fun k hk => by injection hk with hk; omega)
         have e0 := blk_cell HN4.out 0 HC0.out
         have e5 := blk_cell HN4.out 5 (by rw [HCS.out]; rfl : cs[5]? = some (.int .i32 f.ve))
         clear d0 d1
         clear hBn hxn hgn hzn)
      | (with_reducible show wpList _ _ _ (Oper.mk none (.store _ (.tmp 76) _) _ _ _ _ :: _) _ _
         refine wpList_store_mid rfl 21 (.tmp 76) (.tmp 75) rfl (w.heap.size + 2) 5 (.int .i32 f.ve) rfl rfl HP4.out (news := [.int .i32 f.ve]) rfl isz_21 (by simp) (by simp [Value.oneCell']) ?_
         intro w5 cn hBn hxn hgn hzn
         have hz5 : w5.heap.size = w.heap.size + 3 := (by rw [hzn, hz4])
         have HN5 : Hid (Blk w5 w.heap.size 29 cs) := HN4.out.grown hgn (by simp)
         have HZ5 : Hid (Blk w5 (w.heap.size + 1) 29 old) := HZ4.out.grown hgn (by simp)
         have HP5 : Hid (Blk w5 (w.heap.size + 2) 29 #[.int .i32 t, .string f.p, .slice none 0 0, .slice none 0 0, .int .i32 0, .int .i32 f.ve, .bool false, .int .i64 0, .int .i64 0, .int .i64 0, .int .i64 0, .slice none 0 0, .slice none 0 0, .slice none 0 0, .slice none 0 0, .slice none 0 0, .int .i32 0, .slice none 0 0, .slice none 0 0]) := (by
           have e : cn = #[.int .i32 t, .string f.p, .slice none 0 0, .slice none 0 0, .int .i32 0, .int .i32 f.ve, .bool false, .int .i64 0, .int .i64 0, .int .i64 0, .int .i64 0, .slice none 0 0, .slice none 0 0, .slice none 0 0, .slice none 0 0, .slice none 0 0, .int .i32 0, .slice none 0 0, .slice none 0 0] := Array.ext' hxn
           unfold Hid; rw [← e]; exact hBn)
         have HB5 : Hid (Below w.heap.size w w5) := HB4.out.grown hgn (by omega) (fun k hk => by injection hk with hk; omega)
         clear hBn hxn hgn hzn)
      | (with_reducible show wpList _ _ _ (Oper.mk (some 115) _ _ _ _ _ :: _) _ _
         refine wpList_load_row rfl 29 (.tmp 3) rfl (w.heap.size + 2) rfl 29 _ _ _ HP5.out Tryz.underlying29 rfl isz_29 ?_)
      | (with_reducible show wpList _ _ _ (Oper.mk none (.store _ (.tmp 2) _) _ _ _ _ :: _) _ _
         refine wpList_store_row rfl 29 (.tmp 2) (.tmp 115) rfl (w.heap.size + 1) #[.int .i32 t, .string f.p, .slice none 0 0, .slice none 0 0, .int .i32 0, .int .i32 f.ve, .bool false, .int .i64 0, .int .i64 0, .int .i64 0, .int .i64 0, .slice none 0 0, .slice none 0 0, .slice none 0 0, .slice none 0 0, .slice none 0 0, .int .i32 0, .slice none 0 0, .slice none 0 0] rfl rfl 29 _ HZ5.out isz_29 (by rw [HOLD.out]; rfl) (by simp [Value.oneCell']) ?_
         generalize hww : World.setRow _ _ _ = wz
         have HBZ : Hid (Blk wz (w.heap.size + 1) 29 #[.int .i32 t, .string f.p, .slice none 0 0, .slice none 0 0, .int .i32 0, .int .i32 f.ve, .bool false, .int .i64 0, .int .i64 0, .int .i64 0, .int .i64 0, .slice none 0 0, .slice none 0 0, .slice none 0 0, .slice none 0 0, .slice none 0 0, .int .i32 0, .slice none 0 0, .slice none 0 0]) := (by unfold Hid; rw [← hww]; exact cells_setRow HZ5.out)
         have HBB : Hid (Below w.heap.size w wz) := (by unfold Hid; rw [← hww]; exact below_setRow' HB5.out (by omega) _)
         clear hww))
    refine bodyPost_ret (results_cell_row rfl _ _ (w.heap.size + 1) 29 _ _ _ rfl HBZ.out Tryz.underlying29 rfl isz_29) rfl ?_
    exact ⟨rfl, HBB.out⟩
end Go.Proofs.YtpjjnmdfgcfnmaaGreatDoor
