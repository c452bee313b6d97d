/- ops.kept: an operation with the fields of its type alone. (printed by gen_p12.py) -/
import Derived.Test.YtpjjnmdfgcfnmaaGreatDoorOqo
set_option linter.unusedVariables false
set_option linter.unusedSimpArgs false
namespace Go.Proofs.YtpjjnmdfgcfnmaaGreatDoor
open Go.RowKit

set_option maxRecDepth 100000 in
set_option maxHeartbeats 20000000 in
theorem kept_g2 (t : Int) (htt : t ∈ ([2, 13] : List Int)) (f : OpF) (d a k0 k1 k2 k3 k4 i s : Sl) (w : World) (ht : f.t = t) : Calls Tryz.prog 112 #[.agg (f.row d a k0 k1 k2 k3 k4 i s).toArray] w fun e w' => e = .returned (.agg (keptRow f d a k0 k1 k2 k3 k4 i s).toArray) ∧ Below w.heap.size w w' := by
  have HE : Hid ((keptRow f d a k0 k1 k2 k3 k4 i s).toArray = #[.int .i32 t, .string f.p, .slice none 0 0, .slice none 0 0, .int .i32 0, .int .i32 f.ve, .bool false, .int .i64 0, .int .i64 0, .int .i64 0, .int .i64 0, .slice none 0 0, .slice none 0 0, .slice none 0 0, .slice none 0 0, .slice none 0 0, .int .i32 0, .slice none 0 0, .slice none 0 0]) := by
    unfold Hid keptRow keptF kS
    rw [ht]
    simp only [List.mem_cons, List.not_mem_nil, or_false] at htt
    rcases htt with rfl | rfl <;> simp [tP, tD, tA, tF, tV, tW, tC, tL, tZ, tT, tS, OpF.row, Sl.v, nilS]
  rw [HE.out]
  obtain ⟨cs, hcs⟩ : ∃ cs : Array Value, cs = (f.row d a k0 k1 k2 k3 k4 i s).toArray := ⟨_, rfl⟩
  rw [← hcs]
  have hc0 : cs[0]? = some (.int .i32 t) := by rw [hcs, ← ht]; rfl
  have HC0 := Lib.hid hc0
  have HCS := Lib.hid hcs
  obtain ⟨w1, hw1⟩ : ∃ w1, w.alloc (.cells cs 29) = w1 := ⟨_, rfl⟩
  have hz1 : w1.heap.size = w.heap.size + 1 := by rw [← hw1]; simp
  have HN1 : Hid (Blk w1 w.heap.size 29 cs) := by unfold Hid; rw [← hw1]; exact Blk.new _ _ _
  have HB1 : Hid (Below w.heap.size w w1) := by unfold Hid; rw [← hw1]; exact (Below.refl _ _).alloc (Nat.le_refl _) _
  clear hc0 hcs ht HE
  obtain ⟨n0, n1, n2, n3, n4, n5, n6, n7, n8, n9, n10, n11, n12, n13, n14, n15, n16, n17, n18, n19, _⟩ := sw_all (cs := [14, 22, 101, (-10), (-11), 11, 107, 1, 15, 19, 21, 5, 7, 120, 3, 4, 8, 12, 106, 18]) htt rfl
  have S : ((t == 2) = true) ∨ ((t == 2) = false ∧ (t == 13) = true) := by
    simp only [List.mem_cons, List.not_mem_nil, or_false] at htt
    rcases htt with rfl | rfl <;> decide
  clear htt
  rcases S with s0 | ⟨s0, s1⟩
  all_goals
    go_enter Tryz.func112, Tryz.ntmps112
    go_wp2_with (first
      | (refine wpList_new rfl 29 rfl zer_op ?_
         intro old hold
         obtain ⟨w2, hw2⟩ : ∃ w2, w1.alloc (.cells old 29) = w2 := ⟨_, rfl⟩
         rw [hw2]
         have hz2 : w2.heap.size = w.heap.size + 2 := (by rw [← hw2]; simp [hz1])
         have HN2 : Hid (Blk w2 w.heap.size 29 cs) := (by unfold Hid; rw [← hw2]; exact HN1.out.alloc _)
         have HZ2 : Hid (Blk w2 (w.heap.size + 1) 29 old) := (by unfold Hid; rw [← hw2]; exact Blk.new' hz1.symm)
         have HB2 : Hid (Below w.heap.size w w2) := (by unfold Hid; rw [← hw2]; exact HB1.out.alloc (by omega) _)
         have HOLD := Lib.hid hold
         have c0 := blk_cell HN2.out 0 HC0.out
         clear hw2 hold)
      | (refine wpList_newrow rfl rfl 29 rfl 3 rfl (.tmp 6) rfl rfl #[.int .i32 t, .string ⟨#[]⟩, .slice none 0 0, .slice none 0 0, .int .i32 0, .int .i32 0, .bool false, .int .i64 0, .int .i64 0, .int .i64 0, .int .i64 0, .slice none 0 0, .slice none 0 0, .slice none 0 0, .slice none 0 0, .slice none 0 0, .int .i32 0, .slice none 0 0, .slice none 0 0] (fun _ => rfl) (show 3 < 116 by decide) zer_op isz_29 (by simp [Value.oneCell']) ?_
         obtain ⟨w3, hw3⟩ : ∃ w3, w2.alloc (.cells #[.int .i32 t, .string ⟨#[]⟩, .slice none 0 0, .slice none 0 0, .int .i32 0, .int .i32 0, .bool false, .int .i64 0, .int .i64 0, .int .i64 0, .int .i64 0, .slice none 0 0, .slice none 0 0, .slice none 0 0, .slice none 0 0, .slice none 0 0, .int .i32 0, .slice none 0 0, .slice none 0 0] 29) = w3 := ⟨_, rfl⟩
         rw [hw3]
         have hz3 : w3.heap.size = w.heap.size + 3 := (by rw [← hw3]; simp [hz2])
         have HN3 : Hid (Blk w3 w.heap.size 29 cs) := (by unfold Hid; rw [← hw3]; exact HN2.out.alloc _)
         have HZ3 : Hid (Blk w3 (w.heap.size + 1) 29 old) := (by unfold Hid; rw [← hw3]; exact HZ2.out.alloc _)
         have HP3 : Hid (Blk w3 (w.heap.size + 2) 29 #[.int .i32 t, .string ⟨#[]⟩, .slice none 0 0, .slice none 0 0, .int .i32 0, .int .i32 0, .bool false, .int .i64 0, .int .i64 0, .int .i64 0, .int .i64 0, .slice none 0 0, .slice none 0 0, .slice none 0 0, .slice none 0 0, .slice none 0 0, .int .i32 0, .slice none 0 0, .slice none 0 0]) := (by unfold Hid; rw [← hw3]; exact Blk.new' hz2.symm)
         have HB3 : Hid (Below w.heap.size w w3) := (by unfold Hid; rw [← hw3]; exact HB2.out.alloc (by omega) _)
         have d0 := blk_cell HN3.out 0 HC0.out
         have d1 := blk_cell HN3.out 1 (by rw [HCS.out]; rfl : cs[1]? = some (.string f.p))
         clear hw3 c0 HN2 HZ2 HB2)
      | (with_reducible show wpList _ _ _ (Oper.mk none (.store _ (.tmp 41) _) _ _ _ _ :: _) _ _
         refine wpList_store_mid rfl 9 (.tmp 41) (.tmp 40) rfl (w.heap.size + 2) 1 (.string f.p) rfl rfl HP3.out (news := [.string f.p]) rfl isz_9 (by simp) (by simp [Value.oneCell']) ?_
         intro w4 cn hBn hxn hgn hzn
         have hz4 : w4.heap.size = w.heap.size + 3 := (by rw [hzn, hz3])
         have HN4 : Hid (Blk w4 w.heap.size 29 cs) := HN3.out.grown hgn (by simp)
         have HZ4 : Hid (Blk w4 (w.heap.size + 1) 29 old) := HZ3.out.grown hgn (by simp)
         have HP4 : Hid (Blk w4 (w.heap.size + 2) 29 #[.int .i32 t, .string f.p, .slice none 0 0, .slice none 0 0, .int .i32 0, .int .i32 0, .bool false, .int .i64 0, .int .i64 0, .int .i64 0, .int .i64 0, .slice none 0 0, .slice none 0 0, .slice none 0 0, .slice none 0 0, .slice none 0 0, .int .i32 0, .slice none 0 0, .slice none 0 0]) := (by
           have e : cn = #[.int .i32 t, .string f.p, .slice none 0 0, .slice none 0 0, .int .i32 0, .int .i32 0, .bool false, .int .i64 0, .int .i64 0, .int .i64 0, .int .i64 0, .slice none 0 0, .slice none 0 0, .slice none 0 0, .slice none 0 0, .slice none 0 0, .int .i32 0, .slice none 0 0, .slice none 0 0] := Array.ext' hxn
           unfold Hid; rw [← e]; exact hBn)
         have HB4 : Hid (Below w.heap.size w w4) := HB3.out.grown hgn (by omega) (fun k hk => by injection hk with hk; omega)
         have e0 := blk_cell HN4.out 0 HC0.out
         have e5 := blk_cell HN4.out 5 (by rw [HCS.out]; rfl : cs[5]? = some (.int .i32 f.ve))
         clear d0 d1
         clear hBn hxn hgn hzn)
      | (with_reducible show wpList _ _ _ (Oper.mk none (.store _ (.tmp 76) _) _ _ _ _ :: _) _ _
         refine wpList_store_mid rfl 21 (.tmp 76) (.tmp 75) rfl (w.heap.size + 2) 5 (.int .i32 f.ve) rfl rfl HP4.out (news := [.int .i32 f.ve]) rfl isz_21 (by simp) (by simp [Value.oneCell']) ?_
         intro w5 cn hBn hxn hgn hzn
         have hz5 : w5.heap.size = w.heap.size + 3 := (by rw [hzn, hz4])
         have HN5 : Hid (Blk w5 w.heap.size 29 cs) := HN4.out.grown hgn (by simp)
         have HZ5 : Hid (Blk w5 (w.heap.size + 1) 29 old) := HZ4.out.grown hgn (by simp)
         have HP5 : Hid (Blk w5 (w.heap.size + 2) 29 #[.int .i32 t, .string f.p, .slice none 0 0, .slice none 0 0, .int .i32 0, .int .i32 f.ve, .bool false, .int .i64 0, .int .i64 0, .int .i64 0, .int .i64 0, .slice none 0 0, .slice none 0 0, .slice none 0 0, .slice none 0 0, .slice none 0 0, .int .i32 0, .slice none 0 0, .slice none 0 0]) := (by
           have e : cn = #[.int .i32 t, .string f.p, .slice none 0 0, .slice none 0 0, .int .i32 0, .int .i32 f.ve, .bool false, .int .i64 0, .int .i64 0, .int .i64 0, .int .i64 0, .slice none 0 0, .slice none 0 0, .slice none 0 0, .slice none 0 0, .slice none 0 0, .int .i32 0, .slice none 0 0, .slice none 0 0] := Array.ext' hxn
           unfold Hid; rw [← e]; exact hBn)
         have HB5 : Hid (Below w.heap.size w w5) := HB4.out.grown hgn (by omega) (fun k hk => by injection hk with hk; omega)
         clear hBn hxn hgn hzn)
      | (with_reducible show wpList _ _ _ (Oper.mk (some 115) _ _ _ _ _ :: _) _ _
         refine wpList_load_row rfl 29 (.tmp 3) rfl (w.heap.size + 2) rfl 29 _ _ _ HP5.out Tryz.underlying29 rfl isz_29 ?_)
      | (with_reducible show wpList _ _ _ (Oper.mk none (.store _ (.tmp 2) _) _ _ _ _ :: _) _ _
         refine wpList_store_row rfl 29 (.tmp 2) (.tmp 115) rfl (w.heap.size + 1) #[.int .i32 t, .string f.p, .slice none 0 0, .slice none 0 0, .int .i32 0, .int .i32 f.ve, .bool false, .int .i64 0, .int .i64 0, .int .i64 0, .int .i64 0, .slice none 0 0, .slice none 0 0, .slice none 0 0, .slice none 0 0, .slice none 0 0, .int .i32 0, .slice none 0 0, .slice none 0 0] rfl rfl 29 _ HZ5.out isz_29 (by rw [HOLD.out]; rfl) (by simp [Value.oneCell']) ?_
         generalize hww : World.setRow _ _ _ = wz
         have HBZ : Hid (Blk wz (w.heap.size + 1) 29 #[.int .i32 t, .string f.p, .slice none 0 0, .slice none 0 0, .int .i32 0, .int .i32 f.ve, .bool false, .int .i64 0, .int .i64 0, .int .i64 0, .int .i64 0, .slice none 0 0, .slice none 0 0, .slice none 0 0, .slice none 0 0, .slice none 0 0, .int .i32 0, .slice none 0 0, .slice none 0 0]) := (by unfold Hid; rw [← hww]; exact cells_setRow HZ5.out)
         have HBB : Hid (Below w.heap.size w wz) := (by unfold Hid; rw [← hww]; exact below_setRow' HB5.out (by omega) _)
         clear hww))
    refine bodyPost_ret (results_cell_row rfl _ _ (w.heap.size + 1) 29 _ _ _ rfl HBZ.out Tryz.underlying29 rfl isz_29) rfl ?_
    exact ⟨rfl, HBB.out⟩
set_option maxRecDepth 100000 in
set_option maxHeartbeats 20000000 in
theorem kept_g3 (t : Int) (htt : t ∈ ([5] : List Int)) (f : OpF) (d a k0 k1 k2 k3 k4 i s : Sl) (w : World) (ht : f.t = t) : Calls Tryz.prog 112 #[.agg (f.row d a k0 k1 k2 k3 k4 i s).toArray] w fun e w' => e = .returned (.agg (keptRow f d a k0 k1 k2 k3 k4 i s).toArray) ∧ Below w.heap.size w w' := by
  have HE : Hid ((keptRow f d a k0 k1 k2 k3 k4 i s).toArray = #[.int .i32 t, .string f.p, .slice d.A d.n d.c, .slice none 0 0, .int .i32 0, .int .i32 f.ve, .bool false, .int .i64 0, .int .i64 0, .int .i64 0, .int .i64 0, .slice none 0 0, .slice none 0 0, .slice none 0 0, .slice none 0 0, .slice none 0 0, .int .i32 0, .slice none 0 0, .slice none 0 0]) := by
    unfold Hid keptRow keptF kS
    rw [ht]
    simp only [List.mem_cons, List.not_mem_nil, or_false] at htt
    rcases htt with rfl <;> simp [tP, tD, tA, tF, tV, tW, tC, tL, tZ, tT, tS, OpF.row, Sl.v, nilS]
  rw [HE.out]
  obtain ⟨cs, hcs⟩ : ∃ cs : Array Value, cs = (f.row d a k0 k1 k2 k3 k4 i s).toArray := ⟨_, rfl⟩
  rw [← hcs]
  have hc0 : cs[0]? = some (.int .i32 t) := by rw [hcs, ← ht]; rfl
  have HC0 := Lib.hid hc0
  have HCS := Lib.hid hcs
  obtain ⟨w1, hw1⟩ : ∃ w1, w.alloc (.cells cs 29) = w1 := ⟨_, rfl⟩
  have hz1 : w1.heap.size = w.heap.size + 1 := by rw [← hw1]; simp
  have HN1 : Hid (Blk w1 w.heap.size 29 cs) := by unfold Hid; rw [← hw1]; exact Blk.new _ _ _
  have HB1 : Hid (Below w.heap.size w w1) := by unfold Hid; rw [← hw1]; exact (Below.refl _ _).alloc (Nat.le_refl _) _
  clear hc0 hcs ht HE
  obtain ⟨n0, n1, n2, n3, n4, n5, n6, n7, n8, n9, n10, n11, n12, n13, n14, n15, n16, n17, n18, n19, n20, _⟩ := sw_all (cs := [14, 22, 101, (-10), (-11), 11, 107, 1, 15, 19, 21, 2, 13, 7, 120, 3, 4, 8, 12, 106, 18]) htt rfl
  have S : ((t == 5) = true) := by
    simp only [List.mem_cons, List.not_mem_nil, or_false] at htt
    rcases htt with rfl <;> decide
  clear htt
  go_enter Tryz.func112, Tryz.ntmps112
  go_wp2_with (first
    | (refine wpList_new rfl 29 rfl zer_op ?_
       intro old hold
       obtain ⟨w2, hw2⟩ : ∃ w2, w1.alloc (.cells old 29) = w2 := ⟨_, rfl⟩
       rw [hw2]
       have hz2 : w2.heap.size = w.heap.size + 2 := (by rw [← hw2]; simp [hz1])
       have HN2 : Hid (Blk w2 w.heap.size 29 cs) := (by unfold Hid; rw [← hw2]; exact HN1.out.alloc _)
       have HZ2 : Hid (Blk w2 (w.heap.size + 1) 29 old) := (by unfold Hid; rw [← hw2]; exact Blk.new' hz1.symm)
       have HB2 : Hid (Below w.heap.size w w2) := (by unfold Hid; rw [← hw2]; exact HB1.out.alloc (by omega) _)
       have HOLD := Lib.hid hold
       have c0 := blk_cell HN2.out 0 HC0.out
       clear hw2 hold)
    | (refine wpList_newrow rfl rfl 29 rfl 3 rfl (.tmp 6) rfl rfl #[.int .i32 t, .string ⟨#[]⟩, .slice none 0 0, .slice none 0 0, .int .i32 0, .int .i32 0, .bool false, .int .i64 0, .int .i64 0, .int .i64 0, .int .i64 0, .slice none 0 0, .slice none 0 0, .slice none 0 0, .slice none 0 0, .slice none 0 0, .int .i32 0, .slice none 0 0, .slice none 0 0] (fun _ => rfl) (show 3 < 116 by decide) zer_op isz_29 (by simp [Value.oneCell']) ?_
       obtain ⟨w3, hw3⟩ : ∃ w3, w2.alloc (.cells #[.int .i32 t, .string ⟨#[]⟩, .slice none 0 0, .slice none 0 0, .int .i32 0, .int .i32 0, .bool false, .int .i64 0, .int .i64 0, .int .i64 0, .int .i64 0, .slice none 0 0, .slice none 0 0, .slice none 0 0, .slice none 0 0, .slice none 0 0, .int .i32 0, .slice none 0 0, .slice none 0 0] 29) = w3 := ⟨_, rfl⟩
       rw [hw3]
       have hz3 : w3.heap.size = w.heap.size + 3 := (by rw [← hw3]; simp [hz2])
       have HN3 : Hid (Blk w3 w.heap.size 29 cs) := (by unfold Hid; rw [← hw3]; exact HN2.out.alloc _)
       have HZ3 : Hid (Blk w3 (w.heap.size + 1) 29 old) := (by unfold Hid; rw [← hw3]; exact HZ2.out.alloc _)
       have HP3 : Hid (Blk w3 (w.heap.size + 2) 29 #[.int .i32 t, .string ⟨#[]⟩, .slice none 0 0, .slice none 0 0, .int .i32 0, .int .i32 0, .bool false, .int .i64 0, .int .i64 0, .int .i64 0, .int .i64 0, .slice none 0 0, .slice none 0 0, .slice none 0 0, .slice none 0 0, .slice none 0 0, .int .i32 0, .slice none 0 0, .slice none 0 0]) := (by unfold Hid; rw [← hw3]; exact Blk.new' hz2.symm)
       have HB3 : Hid (Below w.heap.size w w3) := (by unfold Hid; rw [← hw3]; exact HB2.out.alloc (by omega) _)
       have d0 := blk_cell HN3.out 0 HC0.out
       have d1 := blk_cell HN3.out 1 (by rw [HCS.out]; rfl : cs[1]? = some (.string f.p))
       clear hw3 c0 HN2 HZ2 HB2)
    | (with_reducible show wpList _ _ _ (Oper.mk none (.store _ (.tmp 41) _) _ _ _ _ :: _) _ _
       refine wpList_store_mid rfl 9 (.tmp 41) (.tmp 40) rfl (w.heap.size + 2) 1 (.string f.p) rfl rfl HP3.out (news := [.string f.p]) rfl isz_9 (by simp) (by simp [Value.oneCell']) ?_
       intro w4 cn hBn hxn hgn hzn
       have hz4 : w4.heap.size = w.heap.size + 3 := (by rw [hzn, hz3])
       have HN4 : Hid (Blk w4 w.heap.size 29 cs) := HN3.out.grown hgn (by simp)
       have HZ4 : Hid (Blk w4 (w.heap.size + 1) 29 old) := HZ3.out.grown hgn (by simp)
       have HP4 : Hid (Blk w4 (w.heap.size + 2) 29 #[.int .i32 t, .string f.p, .slice none 0 0, .slice none 0 0, .int .i32 0, .int .i32 0, .bool false, .int .i64 0, .int .i64 0, .int .i64 0, .int .i64 0, .slice none 0 0, .slice none 0 0, .slice none 0 0, .slice none 0 0, .slice none 0 0, .int .i32 0, .slice none 0 0, .slice none 0 0]) := (by
         have e : cn = #[.int .i32 t, .string f.p, .slice none 0 0, .slice none 0 0, .int .i32 0, .int .i32 0, .bool false, .int .i64 0, .int .i64 0, .int .i64 0, .int .i64 0, .slice none 0 0, .slice none 0 0, .slice none 0 0, .slice none 0 0, .slice none 0 0, .int .i32 0, .slice none 0 0, .slice none 0 0] := Array.ext' hxn
         unfold Hid; rw [← e]; exact hBn)
       have HB4 : Hid (Below w.heap.size w w4) := HB3.out.grown hgn (by omega) (fun k hk => by injection hk with hk; omega)
       have e0 := blk_cell HN4.out 0 HC0.out
       clear d0 d1
       clear hBn hxn hgn hzn))
  have HROW : Hid (Blk w4 w.heap.size 29 (f.row d a k0 k1 k2 k3 k4 i s).toArray) := by unfold Hid; rw [← HCS.out]; exact HN4.out
  have HPS : Hid ((#[.int .i32 t, .string f.p, .slice none 0 0, .slice none 0 0, .int .i32 0, .int .i32 0, .bool false, .int .i64 0, .int .i64 0, .int .i64 0, .int .i64 0, .slice none 0 0, .slice none 0 0, .slice none 0 0, .slice none 0 0, .slice none 0 0, .int .i32 0, .slice none 0 0, .slice none 0 0] : Array Value).size = 19) := rfl
  clear e0
  obtain ⟨x79, H79⟩ : ∃ x : Value, Hid (x = .pointer (some ⟨w.heap.size, 2, none⟩)) := ⟨_, rfl⟩
  obtain ⟨x80, H80⟩ : ∃ x : Value, Hid (x = .slice d.A d.n d.c) := ⟨_, rfl⟩
  obtain ⟨x81, H81⟩ : ∃ x : Value, Hid (x = .pointer (some ⟨w.heap.size, 5, none⟩)) := ⟨_, rfl⟩
  obtain ⟨x82, H82⟩ : ∃ x : Value, Hid (x = .int .i32 f.ve) := ⟨_, rfl⟩
  obtain ⟨x83, H83⟩ : ∃ x : Value, Hid (x = .pointer (some ⟨(w.heap.size + 2), 2, none⟩)) := ⟨_, rfl⟩
  obtain ⟨x84, H84⟩ : ∃ x : Value, Hid (x = .pointer (some ⟨(w.heap.size + 2), 5, none⟩)) := ⟨_, rfl⟩
  refine wp_region_copy (w0 := w4) (w.heap.size + 2) 29 [(2, .slice d.A d.n d.c), (5, .int .i32 f.ve)] (.inl x79 ::
      .inl x80 ::
      .inl x81 ::
      .inl x82 ::
      .inl x83 ::
      .inr (fun _ W => (∃ cur, Blk W (w.heap.size + 2) 29 cur) ∧ ∀ z9 u9, ([.slice d.A d.n d.c] : List Value)[z9]? = some u9 → W.cell? ⟨(w.heap.size + 2), 2 + z9, none⟩ = some u9) ::
      .inl x84 ::
      .inr (fun _ W => (∃ cur, Blk W (w.heap.size + 2) 29 cur) ∧ ∀ z9 u9, ([.int .i32 f.ve] : List Value)[z9]? = some u9 → W.cell? ⟨(w.heap.size + 2), 5 + z9, none⟩ = some u9) :: []) rfl (by as_aux_lemma => kernel_rfl) (by as_aux_lemma => kernel_rfl) (by as_aux_lemma => kernel_rfl) (by as_aux_lemma => kernel_rfl) ?_ ⟨fun ac W hC hold hdep K hK => op_u (u := .pointer (some ⟨w.heap.size, 2, none⟩)) rfl (r_field 29 _ 2 rfl (eval_tmp ((hold 1 (free_slot (by as_aux_lemma => kernel_rfl))).trans rfl)) Tryz.underlying29 rfl (n := 0) isz_22 rfl) (hK _ _ H79.out.symm (Cp.refl _)),
    fun ac W hC hold hdep K hK => op_u (u := .slice d.A d.n d.c) rfl (r_load 22 _ rfl (eval_tmp ((left_dep (hdep ⟨0, .data⟩ (by simp) rfl (by decide)) rfl (fun v h => h)).trans (congrArg some H79.out))) (blk_cell (HROW.out.grown hC.grown (by simp)) 2 rfl) Tryz.underlying22 rfl) (hK _ _ H80.out.symm (Cp.refl _)),
    fun ac W hC hold hdep K hK => op_u (u := .pointer (some ⟨w.heap.size, 5, none⟩)) rfl (r_field 29 _ 5 rfl (eval_tmp ((hold 1 (free_slot (by as_aux_lemma => kernel_rfl))).trans rfl)) Tryz.underlying29 rfl (n := 0) isz_21 rfl) (hK _ _ H81.out.symm (Cp.refl _)),
    fun ac W hC hold hdep K hK => op_u (u := .int .i32 f.ve) rfl (r_load 21 _ rfl (eval_tmp ((left_dep (hdep ⟨2, .data⟩ (by simp) rfl (by decide)) rfl (fun v h => h)).trans (congrArg some H81.out))) (blk_cell (HROW.out.grown hC.grown (by simp)) 5 rfl) Tryz.underlying21 rfl) (hK _ _ H82.out.symm (Cp.refl _)),
    fun ac W hC hold hdep K hK => op_u (u := .pointer (some ⟨(w.heap.size + 2), 2, none⟩)) rfl (r_field 29 _ 2 rfl (eval_tmp ((hold 3 (free_slot (by as_aux_lemma => kernel_rfl))).trans rfl)) Tryz.underlying29 rfl (n := 0) isz_22 rfl) (hK _ _ H83.out.symm (Cp.refl _)),
    by
      intro ac W hC hold hdep K hK
      obtain ⟨cur, hcur, hcs, _⟩ := hC.blk _ HP4.out
      exact op_store rfl 22 (.tmp 83) (.tmp 80) rfl 2 (.slice d.A d.n d.c) (eval_tmp ((left_dep (hdep ⟨4, .data⟩ (by simp) rfl (by decide)) rfl (fun v h => h)).trans (congrArg some H83.out))) (eval_tmp ((left_dep (hdep ⟨1, .data⟩ (by simp) rfl (by decide)) rfl (fun v h => h)).trans (congrArg some H80.out))) (news := [.slice d.A d.n d.c]) hcur rfl isz_22 (by rw [hcs, HPS.out]; exact (by decide : 2 + 1 ≤ 19)) (by simp [Value.oneCell']) (fun z9 u9 hu => by rcases z9 with _ | z9 <;> simp at hu; subst hu; simp) (fnB_of (by simp)) (fun w' h1 h2 => hK undef w' ⟨by obtain ⟨c2, h3, _⟩ := h2.blk _ hcur; exact ⟨c2, h3⟩, h1⟩ h2),
    fun ac W hC hold hdep K hK => op_u (u := .pointer (some ⟨(w.heap.size + 2), 5, none⟩)) rfl (r_field 29 _ 5 rfl (eval_tmp ((hold 3 (free_slot (by as_aux_lemma => kernel_rfl))).trans rfl)) Tryz.underlying29 rfl (n := 0) isz_21 rfl) (hK _ _ H84.out.symm (Cp.refl _)),
    by
      intro ac W hC hold hdep K hK
      obtain ⟨cur, hcur, hcs, _⟩ := hC.blk _ HP4.out
      exact op_store rfl 21 (.tmp 84) (.tmp 82) rfl 5 (.int .i32 f.ve) (eval_tmp ((left_dep (hdep ⟨6, .data⟩ (by simp) rfl (by decide)) rfl (fun v h => h)).trans (congrArg some H84.out))) (eval_tmp ((left_dep (hdep ⟨3, .data⟩ (by simp) rfl (by decide)) rfl (fun v h => h)).trans (congrArg some H82.out))) (news := [.int .i32 f.ve]) hcur rfl isz_21 (by rw [hcs, HPS.out]; exact (by decide : 5 + 1 ≤ 19)) (by simp [Value.oneCell']) (fun z9 u9 hu => by rcases z9 with _ | z9 <;> simp at hu; subst hu; simp) (fnB_of (by simp)) (fun w' h1 h2 => hK undef w' ⟨by obtain ⟨c2, h3, _⟩ := h2.blk _ hcur; exact ⟨c2, h3⟩, h1⟩ h2), trivial⟩ ?_
  · intro p hp v W W' h hC
    simp only [List.mem_cons, reduceCtorEq, Sum.inr.injEq, List.not_mem_nil, or_false, false_or] at hp
    rcases hp with rfl | rfl
    all_goals
      obtain ⟨⟨cur, h1⟩, h2⟩ := h
      obtain ⟨c2, h3, _⟩ := hC.blk _ h1
      refine ⟨⟨c2, h3⟩, fun z9 u9 hu => hC.keep h1 ?_ (h2 z9 u9 hu)⟩
      rcases z9 with _ | _ | _ | _ | _ | z9 <;> simp at hu <;> subst hu <;> simp
  intro wc hC
  simp only [FinC, Act.put, List.setIfInBounds_toArray, List.set_cons_zero, List.set_cons_succ]
  rintro ⟨_, _, g0⟩ ⟨_, _, g1⟩
  clear H79 H80 H81 H82 H83 H84
  have HFO : ([(2, .slice d.A d.n d.c), (5, .int .i32 f.ve)] : List (Nat × Value)).foldl (fun ps x => ps.setIfInBounds x.1 x.2) #[.int .i32 t, .string f.p, .slice none 0 0, .slice none 0 0, .int .i32 0, .int .i32 0, .bool false, .int .i64 0, .int .i64 0, .int .i64 0, .int .i64 0, .slice none 0 0, .slice none 0 0, .slice none 0 0, .slice none 0 0, .slice none 0 0, .int .i32 0, .slice none 0 0, .slice none 0 0] = #[.int .i32 t, .string f.p, .slice d.A d.n d.c, .slice none 0 0, .int .i32 0, .int .i32 f.ve, .bool false, .int .i64 0, .int .i64 0, .int .i64 0, .int .i64 0, .slice none 0 0, .slice none 0 0, .slice none 0 0, .slice none 0 0, .slice none 0 0, .int .i32 0, .slice none 0 0, .slice none 0 0] := by kernel_rfl
  have HPC : Hid (Blk wc (w.heap.size + 2) 29 #[.int .i32 t, .string f.p, .slice d.A d.n d.c, .slice none 0 0, .int .i32 0, .int .i32 f.ve, .bool false, .int .i64 0, .int .i64 0, .int .i64 0, .int .i64 0, .slice none 0 0, .slice none 0 0, .slice none 0 0, .slice none 0 0, .slice none 0 0, .int .i32 0, .slice none 0 0, .slice none 0 0]) := by
    unfold Hid
    rw [← HFO]
    refine hC.done HP4.out (fnB_of (by simp)) (fun k v hkv => ?_) (fun k v hkv => ?_)
    · simp only [List.mem_cons, Prod.mk.injEq, List.not_mem_nil, or_false] at hkv
      have : k ≤ 18 := by omega
      exact Nat.lt_of_le_of_lt this (by decide : 18 < 19)
    · simp only [List.mem_cons, Prod.mk.injEq, List.not_mem_nil, or_false] at hkv
      rcases hkv with ⟨rfl, rfl⟩ | ⟨rfl, rfl⟩
      · exact g0 0 _ rfl
      · exact g1 0 _ rfl
  have HZC : Hid (Blk wc (w.heap.size + 1) 29 old) := HZ4.out.grown hC.grown (by simp)
  have HBC : Hid (Below w.heap.size w wc) := HB4.out.grown hC.grown (by omega) (fun k hk => by injection hk with hk; omega)
  have hzc : wc.heap.size = w.heap.size + 3 := by rw [hC.size, hz4]
  clear hC HFO g0 g1
  go_wp2_with (first
    | (with_reducible show wpList _ _ _ (Oper.mk (some 115) _ _ _ _ _ :: _) _ _
       refine wpList_load_row rfl 29 (.tmp 3) rfl (w.heap.size + 2) rfl 29 _ _ _ HPC.out Tryz.underlying29 rfl isz_29 ?_)
    | (with_reducible show wpList _ _ _ (Oper.mk none (.store _ (.tmp 2) _) _ _ _ _ :: _) _ _
       refine wpList_store_row rfl 29 (.tmp 2) (.tmp 115) rfl (w.heap.size + 1) #[.int .i32 t, .string f.p, .slice d.A d.n d.c, .slice none 0 0, .int .i32 0, .int .i32 f.ve, .bool false, .int .i64 0, .int .i64 0, .int .i64 0, .int .i64 0, .slice none 0 0, .slice none 0 0, .slice none 0 0, .slice none 0 0, .slice none 0 0, .int .i32 0, .slice none 0 0, .slice none 0 0] rfl rfl 29 _ HZC.out isz_29 (by rw [HOLD.out]; rfl) (by simp [Value.oneCell']) ?_
       generalize hww : World.setRow _ _ _ = wz
       have HBZ : Hid (Blk wz (w.heap.size + 1) 29 #[.int .i32 t, .string f.p, .slice d.A d.n d.c, .slice none 0 0, .int .i32 0, .int .i32 f.ve, .bool false, .int .i64 0, .int .i64 0, .int .i64 0, .int .i64 0, .slice none 0 0, .slice none 0 0, .slice none 0 0, .slice none 0 0, .slice none 0 0, .int .i32 0, .slice none 0 0, .slice none 0 0]) := (by unfold Hid; rw [← hww]; exact cells_setRow HZC.out)
       have HBB : Hid (Below w.heap.size w wz) := (by unfold Hid; rw [← hww]; exact below_setRow' HBC.out (by omega) _)
       clear hww))
  refine bodyPost_ret (results_cell_row rfl _ _ (w.heap.size + 1) 29 _ _ _ rfl HBZ.out Tryz.underlying29 rfl isz_29) rfl ?_
  exact ⟨rfl, HBB.out⟩
set_option maxRecDepth 100000 in
set_option maxHeartbeats 20000000 in
theorem kept_g5 (t : Int) (htt : t ∈ ([120] : List Int)) (f : OpF) (d a k0 k1 k2 k3 k4 i s : Sl) (w : World) (ht : f.t = t) : Calls Tryz.prog 112 #[.agg (f.row d a k0 k1 k2 k3 k4 i s).toArray] w fun e w' => e = .returned (.agg (keptRow f d a k0 k1 k2 k3 k4 i s).toArray) ∧ Below w.heap.size w w' := by
  have HE : Hid ((keptRow f d a k0 k1 k2 k3 k4 i s).toArray = #[.int .i32 t, .string f.p, .slice none 0 0, .slice none 0 0, .int .i32 0, .int .i32 0, .bool false, .int .i64 f.ct, .int .i64 f.by_, .int .i64 0, .int .i64 0, .slice none 0 0, .slice none 0 0, .slice none 0 0, .slice none 0 0, .slice none 0 0, .int .i32 0, .slice none 0 0, .slice none 0 0]) := by
    unfold Hid keptRow keptF kS
    rw [ht]
    simp only [List.mem_cons, List.not_mem_nil, or_false] at htt
    rcases htt with rfl <;> simp [tP, tD, tA, tF, tV, tW, tC, tL, tZ, tT, tS, OpF.row, Sl.v, nilS]
  rw [HE.out]
  obtain ⟨cs, hcs⟩ : ∃ cs : Array Value, cs = (f.row d a k0 k1 k2 k3 k4 i s).toArray := ⟨_, rfl⟩
  rw [← hcs]
  have hc0 : cs[0]? = some (.int .i32 t) := by rw [hcs, ← ht]; rfl
  have HC0 := Lib.hid hc0
  have HCS := Lib.hid hcs
  obtain ⟨w1, hw1⟩ : ∃ w1, w.alloc (.cells cs 29) = w1 := ⟨_, rfl⟩
  have hz1 : w1.heap.size = w.heap.size + 1 := by rw [← hw1]; simp
  have HN1 : Hid (Blk w1 w.heap.size 29 cs) := by unfold Hid; rw [← hw1]; exact Blk.new _ _ _
  have HB1 : Hid (Below w.heap.size w w1) := by unfold Hid; rw [← hw1]; exact (Below.refl _ _).alloc (Nat.le_refl _) _
  clear hc0 hcs ht HE
  obtain ⟨n0, n1, n2, n3, n4, n5, n6, n7, n8, n9, n10, n11, n12, n13, n14, n15, n16, n17, n18, n19, n20, _⟩ := sw_all (cs := [14, 22, 101, (-10), (-11), 11, 107, 1, 15, 19, 21, 2, 13, 5, 7, 3, 4, 8, 12, 106, 18]) htt rfl
  have S : ((t == 120) = true) := by
    simp only [List.mem_cons, List.not_mem_nil, or_false] at htt
    rcases htt with rfl <;> decide
  clear htt
  go_enter Tryz.func112, Tryz.ntmps112
  go_wp2_with (first
    | (refine wpList_new rfl 29 rfl zer_op ?_
       intro old hold
       obtain ⟨w2, hw2⟩ : ∃ w2, w1.alloc (.cells old 29) = w2 := ⟨_, rfl⟩
       rw [hw2]
       have hz2 : w2.heap.size = w.heap.size + 2 := (by rw [← hw2]; simp [hz1])
       have HN2 : Hid (Blk w2 w.heap.size 29 cs) := (by unfold Hid; rw [← hw2]; exact HN1.out.alloc _)
       have HZ2 : Hid (Blk w2 (w.heap.size + 1) 29 old) := (by unfold Hid; rw [← hw2]; exact Blk.new' hz1.symm)
       have HB2 : Hid (Below w.heap.size w w2) := (by unfold Hid; rw [← hw2]; exact HB1.out.alloc (by omega) _)
       have HOLD := Lib.hid hold
       have c0 := blk_cell HN2.out 0 HC0.out
       clear hw2 hold)
    | (refine wpList_newrow rfl rfl 29 rfl 3 rfl (.tmp 6) rfl rfl #[.int .i32 t, .string ⟨#[]⟩, .slice none 0 0, .slice none 0 0, .int .i32 0, .int .i32 0, .bool false, .int .i64 0, .int .i64 0, .int .i64 0, .int .i64 0, .slice none 0 0, .slice none 0 0, .slice none 0 0, .slice none 0 0, .slice none 0 0, .int .i32 0, .slice none 0 0, .slice none 0 0] (fun _ => rfl) (show 3 < 116 by decide) zer_op isz_29 (by simp [Value.oneCell']) ?_
       obtain ⟨w3, hw3⟩ : ∃ w3, w2.alloc (.cells #[.int .i32 t, .string ⟨#[]⟩, .slice none 0 0, .slice none 0 0, .int .i32 0, .int .i32 0, .bool false, .int .i64 0, .int .i64 0, .int .i64 0, .int .i64 0, .slice none 0 0, .slice none 0 0, .slice none 0 0, .slice none 0 0, .slice none 0 0, .int .i32 0, .slice none 0 0, .slice none 0 0] 29) = w3 := ⟨_, rfl⟩
       rw [hw3]
       have hz3 : w3.heap.size = w.heap.size + 3 := (by rw [← hw3]; simp [hz2])
       have HN3 : Hid (Blk w3 w.heap.size 29 cs) := (by unfold Hid; rw [← hw3]; exact HN2.out.alloc _)
       have HZ3 : Hid (Blk w3 (w.heap.size + 1) 29 old) := (by unfold Hid; rw [← hw3]; exact HZ2.out.alloc _)
       have HP3 : Hid (Blk w3 (w.heap.size + 2) 29 #[.int .i32 t, .string ⟨#[]⟩, .slice none 0 0, .slice none 0 0, .int .i32 0, .int .i32 0, .bool false, .int .i64 0, .int .i64 0, .int .i64 0, .int .i64 0, .slice none 0 0, .slice none 0 0, .slice none 0 0, .slice none 0 0, .slice none 0 0, .int .i32 0, .slice none 0 0, .slice none 0 0]) := (by unfold Hid; rw [← hw3]; exact Blk.new' hz2.symm)
       have HB3 : Hid (Below w.heap.size w w3) := (by unfold Hid; rw [← hw3]; exact HB2.out.alloc (by omega) _)
       have d0 := blk_cell HN3.out 0 HC0.out
       have d1 := blk_cell HN3.out 1 (by rw [HCS.out]; rfl : cs[1]? = some (.string f.p))
       clear hw3 c0 HN2 HZ2 HB2)
    | (with_reducible show wpList _ _ _ (Oper.mk none (.store _ (.tmp 41) _) _ _ _ _ :: _) _ _
       refine wpList_store_mid rfl 9 (.tmp 41) (.tmp 40) rfl (w.heap.size + 2) 1 (.string f.p) rfl rfl HP3.out (news := [.string f.p]) rfl isz_9 (by simp) (by simp [Value.oneCell']) ?_
       intro w4 cn hBn hxn hgn hzn
       have hz4 : w4.heap.size = w.heap.size + 3 := (by rw [hzn, hz3])
       have HN4 : Hid (Blk w4 w.heap.size 29 cs) := HN3.out.grown hgn (by simp)
       have HZ4 : Hid (Blk w4 (w.heap.size + 1) 29 old) := HZ3.out.grown hgn (by simp)
       have HP4 : Hid (Blk w4 (w.heap.size + 2) 29 #[.int .i32 t, .string f.p, .slice none 0 0, .slice none 0 0, .int .i32 0, .int .i32 0, .bool false, .int .i64 0, .int .i64 0, .int .i64 0, .int .i64 0, .slice none 0 0, .slice none 0 0, .slice none 0 0, .slice none 0 0, .slice none 0 0, .int .i32 0, .slice none 0 0, .slice none 0 0]) := (by
         have e : cn = #[.int .i32 t, .string f.p, .slice none 0 0, .slice none 0 0, .int .i32 0, .int .i32 0, .bool false, .int .i64 0, .int .i64 0, .int .i64 0, .int .i64 0, .slice none 0 0, .slice none 0 0, .slice none 0 0, .slice none 0 0, .slice none 0 0, .int .i32 0, .slice none 0 0, .slice none 0 0] := Array.ext' hxn
         unfold Hid; rw [← e]; exact hBn)
       have HB4 : Hid (Below w.heap.size w w4) := HB3.out.grown hgn (by omega) (fun k hk => by injection hk with hk; omega)
       have e0 := blk_cell HN4.out 0 HC0.out
       clear d0 d1
       clear hBn hxn hgn hzn))
  have HROW : Hid (Blk w4 w.heap.size 29 (f.row d a k0 k1 k2 k3 k4 i s).toArray) := by unfold Hid; rw [← HCS.out]; exact HN4.out
  have HPS : Hid ((#[.int .i32 t, .string f.p, .slice none 0 0, .slice none 0 0, .int .i32 0, .int .i32 0, .bool false, .int .i64 0, .int .i64 0, .int .i64 0, .int .i64 0, .slice none 0 0, .slice none 0 0, .slice none 0 0, .slice none 0 0, .slice none 0 0, .int .i32 0, .slice none 0 0, .slice none 0 0] : Array Value).size = 19) := rfl
  clear e0
  obtain ⟨x95, H95⟩ : ∃ x : Value, Hid (x = .pointer (some ⟨w.heap.size, 7, none⟩)) := ⟨_, rfl⟩
  obtain ⟨x96, H96⟩ : ∃ x : Value, Hid (x = .int .i64 f.ct) := ⟨_, rfl⟩
  obtain ⟨x97, H97⟩ : ∃ x : Value, Hid (x = .pointer (some ⟨w.heap.size, 8, none⟩)) := ⟨_, rfl⟩
  obtain ⟨x98, H98⟩ : ∃ x : Value, Hid (x = .int .i64 f.by_) := ⟨_, rfl⟩
  obtain ⟨x99, H99⟩ : ∃ x : Value, Hid (x = .pointer (some ⟨(w.heap.size + 2), 7, none⟩)) := ⟨_, rfl⟩
  obtain ⟨x100, H100⟩ : ∃ x : Value, Hid (x = .pointer (some ⟨(w.heap.size + 2), 8, none⟩)) := ⟨_, rfl⟩
  refine wp_region_copy (w0 := w4) (w.heap.size + 2) 29 [(7, .int .i64 f.ct), (8, .int .i64 f.by_)] (.inl x95 ::
      .inl x96 ::
      .inl x97 ::
      .inl x98 ::
      .inl x99 ::
      .inr (fun _ W => (∃ cur, Blk W (w.heap.size + 2) 29 cur) ∧ ∀ z9 u9, ([.int .i64 f.ct] : List Value)[z9]? = some u9 → W.cell? ⟨(w.heap.size + 2), 7 + z9, none⟩ = some u9) ::
      .inl x100 ::
      .inr (fun _ W => (∃ cur, Blk W (w.heap.size + 2) 29 cur) ∧ ∀ z9 u9, ([.int .i64 f.by_] : List Value)[z9]? = some u9 → W.cell? ⟨(w.heap.size + 2), 8 + z9, none⟩ = some u9) :: []) rfl (by as_aux_lemma => kernel_rfl) (by as_aux_lemma => kernel_rfl) (by as_aux_lemma => kernel_rfl) (by as_aux_lemma => kernel_rfl) ?_ ⟨fun ac W hC hold hdep K hK => op_u (u := .pointer (some ⟨w.heap.size, 7, none⟩)) rfl (r_field 29 _ 7 rfl (eval_tmp ((hold 1 (free_slot (by as_aux_lemma => kernel_rfl))).trans rfl)) Tryz.underlying29 rfl (n := 0) isz_2 rfl) (hK _ _ H95.out.symm (Cp.refl _)),
    fun ac W hC hold hdep K hK => op_u (u := .int .i64 f.ct) rfl (r_load 2 _ rfl (eval_tmp ((left_dep (hdep ⟨0, .data⟩ (by simp) rfl (by decide)) rfl (fun v h => h)).trans (congrArg some H95.out))) (blk_cell (HROW.out.grown hC.grown (by simp)) 7 rfl) Tryz.underlying2 rfl) (hK _ _ H96.out.symm (Cp.refl _)),
    fun ac W hC hold hdep K hK => op_u (u := .pointer (some ⟨w.heap.size, 8, none⟩)) rfl (r_field 29 _ 8 rfl (eval_tmp ((hold 1 (free_slot (by as_aux_lemma => kernel_rfl))).trans rfl)) Tryz.underlying29 rfl (n := 0) isz_2 rfl) (hK _ _ H97.out.symm (Cp.refl _)),
    fun ac W hC hold hdep K hK => op_u (u := .int .i64 f.by_) rfl (r_load 2 _ rfl (eval_tmp ((left_dep (hdep ⟨2, .data⟩ (by simp) rfl (by decide)) rfl (fun v h => h)).trans (congrArg some H97.out))) (blk_cell (HROW.out.grown hC.grown (by simp)) 8 rfl) Tryz.underlying2 rfl) (hK _ _ H98.out.symm (Cp.refl _)),
    fun ac W hC hold hdep K hK => op_u (u := .pointer (some ⟨(w.heap.size + 2), 7, none⟩)) rfl (r_field 29 _ 7 rfl (eval_tmp ((hold 3 (free_slot (by as_aux_lemma => kernel_rfl))).trans rfl)) Tryz.underlying29 rfl (n := 0) isz_2 rfl) (hK _ _ H99.out.symm (Cp.refl _)),
    by
      intro ac W hC hold hdep K hK
      obtain ⟨cur, hcur, hcs, _⟩ := hC.blk _ HP4.out
      exact op_store rfl 2 (.tmp 99) (.tmp 96) rfl 7 (.int .i64 f.ct) (eval_tmp ((left_dep (hdep ⟨4, .data⟩ (by simp) rfl (by decide)) rfl (fun v h => h)).trans (congrArg some H99.out))) (eval_tmp ((left_dep (hdep ⟨1, .data⟩ (by simp) rfl (by decide)) rfl (fun v h => h)).trans (congrArg some H96.out))) (news := [.int .i64 f.ct]) hcur rfl isz_2 (by rw [hcs, HPS.out]; exact (by decide : 7 + 1 ≤ 19)) (by simp [Value.oneCell']) (fun z9 u9 hu => by rcases z9 with _ | z9 <;> simp at hu; subst hu; simp) (fnB_of (by simp)) (fun w' h1 h2 => hK undef w' ⟨by obtain ⟨c2, h3, _⟩ := h2.blk _ hcur; exact ⟨c2, h3⟩, h1⟩ h2),
    fun ac W hC hold hdep K hK => op_u (u := .pointer (some ⟨(w.heap.size + 2), 8, none⟩)) rfl (r_field 29 _ 8 rfl (eval_tmp ((hold 3 (free_slot (by as_aux_lemma => kernel_rfl))).trans rfl)) Tryz.underlying29 rfl (n := 0) isz_2 rfl) (hK _ _ H100.out.symm (Cp.refl _)),
    by
      intro ac W hC hold hdep K hK
      obtain ⟨cur, hcur, hcs, _⟩ := hC.blk _ HP4.out
      exact op_store rfl 2 (.tmp 100) (.tmp 98) rfl 8 (.int .i64 f.by_) (eval_tmp ((left_dep (hdep ⟨6, .data⟩ (by simp) rfl (by decide)) rfl (fun v h => h)).trans (congrArg some H100.out))) (eval_tmp ((left_dep (hdep ⟨3, .data⟩ (by simp) rfl (by decide)) rfl (fun v h => h)).trans (congrArg some H98.out))) (news := [.int .i64 f.by_]) hcur rfl isz_2 (by rw [hcs, HPS.out]; exact (by decide : 8 + 1 ≤ 19)) (by simp [Value.oneCell']) (fun z9 u9 hu => by rcases z9 with _ | z9 <;> simp at hu; subst hu; simp) (fnB_of (by simp)) (fun w' h1 h2 => hK undef w' ⟨by obtain ⟨c2, h3, _⟩ := h2.blk _ hcur; exact ⟨c2, h3⟩, h1⟩ h2), trivial⟩ ?_
  · intro p hp v W W' h hC
    simp only [List.mem_cons, reduceCtorEq, Sum.inr.injEq, List.not_mem_nil, or_false, false_or] at hp
    rcases hp with rfl | rfl
    all_goals
      obtain ⟨⟨cur, h1⟩, h2⟩ := h
      obtain ⟨c2, h3, _⟩ := hC.blk _ h1
      refine ⟨⟨c2, h3⟩, fun z9 u9 hu => hC.keep h1 ?_ (h2 z9 u9 hu)⟩
      rcases z9 with _ | _ | _ | _ | _ | z9 <;> simp at hu <;> subst hu <;> simp
  intro wc hC
  simp only [FinC, Act.put, List.setIfInBounds_toArray, List.set_cons_zero, List.set_cons_succ]
  rintro ⟨_, _, g0⟩ ⟨_, _, g1⟩
  clear H95 H96 H97 H98 H99 H100
  have HFO : ([(7, .int .i64 f.ct), (8, .int .i64 f.by_)] : List (Nat × Value)).foldl (fun ps x => ps.setIfInBounds x.1 x.2) #[.int .i32 t, .string f.p, .slice none 0 0, .slice none 0 0, .int .i32 0, .int .i32 0, .bool false, .int .i64 0, .int .i64 0, .int .i64 0, .int .i64 0, .slice none 0 0, .slice none 0 0, .slice none 0 0, .slice none 0 0, .slice none 0 0, .int .i32 0, .slice none 0 0, .slice none 0 0] = #[.int .i32 t, .string f.p, .slice none 0 0, .slice none 0 0, .int .i32 0, .int .i32 0, .bool false, .int .i64 f.ct, .int .i64 f.by_, .int .i64 0, .int .i64 0, .slice none 0 0, .slice none 0 0, .slice none 0 0, .slice none 0 0, .slice none 0 0, .int .i32 0, .slice none 0 0, .slice none 0 0] := by kernel_rfl
  have HPC : Hid (Blk wc (w.heap.size + 2) 29 #[.int .i32 t, .string f.p, .slice none 0 0, .slice none 0 0, .int .i32 0, .int .i32 0, .bool false, .int .i64 f.ct, .int .i64 f.by_, .int .i64 0, .int .i64 0, .slice none 0 0, .slice none 0 0, .slice none 0 0, .slice none 0 0, .slice none 0 0, .int .i32 0, .slice none 0 0, .slice none 0 0]) := by
    unfold Hid
    rw [← HFO]
    refine hC.done HP4.out (fnB_of (by simp)) (fun k v hkv => ?_) (fun k v hkv => ?_)
    · simp only [List.mem_cons, Prod.mk.injEq, List.not_mem_nil, or_false] at hkv
      have : k ≤ 18 := by omega
      exact Nat.lt_of_le_of_lt this (by decide : 18 < 19)
    · simp only [List.mem_cons, Prod.mk.injEq, List.not_mem_nil, or_false] at hkv
      rcases hkv with ⟨rfl, rfl⟩ | ⟨rfl, rfl⟩
      · exact g0 0 _ rfl
      · exact g1 0 _ rfl
  have HZC : Hid (Blk wc (w.heap.size + 1) 29 old) := HZ4.out.grown hC.grown (by simp)
  have HBC : Hid (Below w.heap.size w wc) := HB4.out.grown hC.grown (by omega) (fun k hk => by injection hk with hk; omega)
  have hzc : wc.heap.size = w.heap.size + 3 := by rw [hC.size, hz4]
  clear hC HFO g0 g1
  go_wp2_with (first
    | (with_reducible show wpList _ _ _ (Oper.mk (some 115) _ _ _ _ _ :: _) _ _
       refine wpList_load_row rfl 29 (.tmp 3) rfl (w.heap.size + 2) rfl 29 _ _ _ HPC.out Tryz.underlying29 rfl isz_29 ?_)
    | (with_reducible show wpList _ _ _ (Oper.mk none (.store _ (.tmp 2) _) _ _ _ _ :: _) _ _
       refine wpList_store_row rfl 29 (.tmp 2) (.tmp 115) rfl (w.heap.size + 1) #[.int .i32 t, .string f.p, .slice none 0 0, .slice none 0 0, .int .i32 0, .int .i32 0, .bool false, .int .i64 f.ct, .int .i64 f.by_, .int .i64 0, .int .i64 0, .slice none 0 0, .slice none 0 0, .slice none 0 0, .slice none 0 0, .slice none 0 0, .int .i32 0, .slice none 0 0, .slice none 0 0] rfl rfl 29 _ HZC.out isz_29 (by rw [HOLD.out]; rfl) (by simp [Value.oneCell']) ?_
       generalize hww : World.setRow _ _ _ = wz
       have HBZ : Hid (Blk wz (w.heap.size + 1) 29 #[.int .i32 t, .string f.p, .slice none 0 0, .slice none 0 0, .int .i32 0, .int .i32 0, .bool false, .int .i64 f.ct, .int .i64 f.by_, .int .i64 0, .int .i64 0, .slice none 0 0, .slice none 0 0, .slice none 0 0, .slice none 0 0, .slice none 0 0, .int .i32 0, .slice none 0 0, .slice none 0 0]) := (by unfold Hid; rw [← hww]; exact cells_setRow HZC.out)
       have HBB : Hid (Below w.heap.size w wz) := (by unfold Hid; rw [← hww]; exact below_setRow' HBC.out (by omega) _)
       clear hww))
  refine bodyPost_ret (results_cell_row rfl _ _ (w.heap.size + 1) 29 _ _ _ rfl HBZ.out Tryz.underlying29 rfl isz_29) rfl ?_
  exact ⟨rfl, HBB.out⟩
set_option maxRecDepth 100000 in
set_option maxHeartbeats 20000000 in
theorem kept_g8 (t : Int) (htt : t ∈ ([106, 18] : List Int)) (f : OpF) (d a k0 k1 k2 k3 k4 i s : Sl) (w : World) (ht : f.t = t) : Calls Tryz.prog 112 #[.agg (f.row d a k0 k1 k2 k3 k4 i s).toArray] w fun e w' => e = .returned (.agg (keptRow f d a k0 k1 k2 k3 k4 i s).toArray) ∧ Below w.heap.size w w' := by
  have HE : Hid ((keptRow f d a k0 k1 k2 k3 k4 i s).toArray = #[.int .i32 t, .string f.p, .slice none 0 0, .slice none 0 0, .int .i32 f.fl, .int .i32 0, .bool false, .int .i64 0, .int .i64 0, .int .i64 0, .int .i64 0, .slice none 0 0, .slice none 0 0, .slice none 0 0, .slice none 0 0, .slice none 0 0, .int .i32 0, .slice none 0 0, .slice none 0 0]) := by
    unfold Hid keptRow keptF kS
    rw [ht]
    simp only [List.mem_cons, List.not_mem_nil, or_false] at htt
    rcases htt with rfl | rfl <;> simp [tP, tD, tA, tF, tV, tW, tC, tL, tZ, tT, tS, OpF.row, Sl.v, nilS]
  rw [HE.out]
  obtain ⟨cs, hcs⟩ : ∃ cs : Array Value, cs = (f.row d a k0 k1 k2 k3 k4 i s).toArray := ⟨_, rfl⟩
  rw [← hcs]
  have hc0 : cs[0]? = some (.int .i32 t) := by rw [hcs, ← ht]; rfl
  have HC0 := Lib.hid hc0
  have HCS := Lib.hid hcs
  obtain ⟨w1, hw1⟩ : ∃ w1, w.alloc (.cells cs 29) = w1 := ⟨_, rfl⟩
  have hz1 : w1.heap.size = w.heap.size + 1 := by rw [← hw1]; simp
  have HN1 : Hid (Blk w1 w.heap.size 29 cs) := by unfold Hid; rw [← hw1]; exact Blk.new _ _ _
  have HB1 : Hid (Below w.heap.size w w1) := by unfold Hid; rw [← hw1]; exact (Below.refl _ _).alloc (Nat.le_refl _) _
  clear hc0 hcs ht HE
  obtain ⟨n0, n1, n2, n3, n4, n5, n6, n7, n8, n9, n10, n11, n12, n13, n14, n15, n16, n17, n18, n19, _⟩ := sw_all (cs := [14, 22, 101, (-10), (-11), 11, 107, 1, 15, 19, 21, 2, 13, 5, 7, 120, 3, 4, 8, 12]) htt rfl
  have S : ((t == 106) = true) ∨ ((t == 106) = false ∧ (t == 18) = true) := by
    simp only [List.mem_cons, List.not_mem_nil, or_false] at htt
    rcases htt with rfl | rfl <;> decide
  clear htt
  rcases S with s0 | ⟨s0, s1⟩
  all_goals
    go_enter Tryz.func112, Tryz.ntmps112
    go_wp2_with (first
      | (refine wpList_new rfl 29 rfl zer_op ?_
         intro old hold
         obtain ⟨w2, hw2⟩ : ∃ w2, w1.alloc (.cells old 29) = w2 := ⟨_, rfl⟩
         rw [hw2]
         have hz2 : w2.heap.size = w.heap.size + 2 := (by rw [← hw2]; simp [hz1])
         have HN2 : Hid (Blk w2 w.heap.size 29 cs) := (by unfold Hid; rw [← hw2]; exact HN1.out.alloc _)
         have HZ2 : Hid (Blk w2 (w.heap.size + 1) 29 old) := (by unfold Hid; rw [← hw2]; exact Blk.new' hz1.symm)
         have HB2 : Hid (Below w.heap.size w w2) := (by unfold Hid; rw [← hw2]; exact HB1.out.alloc (by omega) _)
         have HOLD := Lib.hid hold
         have c0 := blk_cell HN2.out 0 HC0.out
         clear hw2 hold)
      | (refine wpList_newrow rfl rfl 29 rfl 3 rfl (.tmp 6) rfl rfl #[.int .i32 t, .string ⟨#[]⟩, .slice none 0 0, .slice none 0 0, .int .i32 0, .int .i32 0, .bool false, .int .i64 0, .int .i64 0, .int .i64 0, .int .i64 0, .slice none 0 0, .slice none 0 0, .slice none 0 0, .slice none 0 0, .slice none 0 0, .int .i32 0, .slice none 0 0, .slice none 0 0] (fun _ => rfl) (show 3 < 116 by decide) zer_op isz_29 (by simp [Value.oneCell']) ?_
         obtain ⟨w3, hw3⟩ : ∃ w3, w2.alloc (.cells #[.int .i32 t, .string ⟨#[]⟩, .slice none 0 0, .slice none 0 0, .int .i32 0, .int .i32 0, .bool false, .int .i64 0, .int .i64 0, .int .i64 0, .int .i64 0, .slice none 0 0, .slice none 0 0, .slice none 0 0, .slice none 0 0, .slice none 0 0, .int .i32 0, .slice none 0 0, .slice none 0 0] 29) = w3 := ⟨_, rfl⟩
         rw [hw3]
         have hz3 : w3.heap.size = w.heap.size + 3 := (by rw [← hw3]; simp [hz2])
         have HN3 : Hid (Blk w3 w.heap.size 29 cs) := (by unfold Hid; rw [← hw3]; exact HN2.out.alloc _)
         have HZ3 : Hid (Blk w3 (w.heap.size + 1) 29 old) := (by unfold Hid; rw [← hw3]; exact HZ2.out.alloc _)
         have HP3 : Hid (Blk w3 (w.heap.size + 2) 29 #[.int .i32 t, .string ⟨#[]⟩, .slice none 0 0, .slice none 0 0, .int .i32 0, .int .i32 0, .bool false, .int .i64 0, .int .i64 0, .int .i64 0, .int .i64 0, .slice none 0 0, .slice none 0 0, .slice none 0 0, .slice none 0 0, .slice none 0 0, .int .i32 0, .slice none 0 0, .slice none 0 0]) := (by unfold Hid; rw [← hw3]; exact Blk.new' hz2.symm)
         have HB3 : Hid (Below w.heap.size w w3) := (by unfold Hid; rw [← hw3]; exact HB2.out.alloc (by omega) _)
         have d0 := blk_cell HN3.out 0 HC0.out
         have d1 := blk_cell HN3.out 1 (by rw [HCS.out]; rfl : cs[1]? = some (.string f.p))
         clear hw3 c0 HN2 HZ2 HB2)
      | (with_reducible show wpList _ _ _ (Oper.mk none (.store _ (.tmp 41) _) _ _ _ _ :: _) _ _
         refine wpList_store_mid rfl 9 (.tmp 41) (.tmp 40) rfl (w.heap.size + 2) 1 (.string f.p) rfl rfl HP3.out (news := [.string f.p]) rfl isz_9 (by simp) (by simp [Value.oneCell']) ?_
         intro w4 cn hBn hxn hgn hzn
         have hz4 : w4.heap.size = w.heap.size + 3 := (by rw [hzn, hz3])
         have HN4 : Hid (Blk w4 w.heap.size 29 cs) := HN3.out.grown hgn (by simp)
         have HZ4 : Hid (Blk w4 (w.heap.size + 1) 29 old) := HZ3.out.grown hgn (by simp)
         have HP4 : Hid (Blk w4 (w.heap.size + 2) 29 #[.int .i32 t, .string f.p, .slice none 0 0, .slice none 0 0, .int .i32 0, .int .i32 0, .bool false, .int .i64 0, .int .i64 0, .int .i64 0, .int .i64 0, .slice none 0 0, .slice none 0 0, .slice none 0 0, .slice none 0 0, .slice none 0 0, .int .i32 0, .slice none 0 0, .slice none 0 0]) := (by
           have e : cn = #[.int .i32 t, .string f.p, .slice none 0 0, .slice none 0 0, .int .i32 0, .int .i32 0, .bool false, .int .i64 0, .int .i64 0, .int .i64 0, .int .i64 0, .slice none 0 0, .slice none 0 0, .slice none 0 0, .slice none 0 0, .slice none 0 0, .int .i32 0, .slice none 0 0, .slice none 0 0] := Array.ext' hxn
           unfold Hid; rw [← e]; exact hBn)
         have HB4 : Hid (Below w.heap.size w w4) := HB3.out.grown hgn (by omega) (fun k hk => by injection hk with hk; omega)
         have e0 := blk_cell HN4.out 0 HC0.out
         have e4 := blk_cell HN4.out 4 (by rw [HCS.out]; rfl : cs[4]? = some (.int .i32 f.fl))
         clear d0 d1
         clear hBn hxn hgn hzn)
      | (with_reducible show wpList _ _ _ (Oper.mk none (.store _ (.tmp 114) _) _ _ _ _ :: _) _ _
         refine wpList_store_mid rfl 21 (.tmp 114) (.tmp 113) rfl (w.heap.size + 2) 4 (.int .i32 f.fl) rfl rfl HP4.out (news := [.int .i32 f.fl]) rfl isz_21 (by simp) (by simp [Value.oneCell']) ?_
         intro w5 cn hBn hxn hgn hzn
         have hz5 : w5.heap.size = w.heap.size + 3 := (by rw [hzn, hz4])
         have HN5 : Hid (Blk w5 w.heap.size 29 cs) := HN4.out.grown hgn (by simp)
         have HZ5 : Hid (Blk w5 (w.heap.size + 1) 29 old) := HZ4.out.grown hgn (by simp)
         have HP5 : Hid (Blk w5 (w.heap.size + 2) 29 #[.int .i32 t, .string f.p, .slice none 0 0, .slice none 0 0, .int .i32 f.fl, .int .i32 0, .bool false, .int .i64 0, .int .i64 0, .int .i64 0, .int .i64 0, .slice none 0 0, .slice none 0 0, .slice none 0 0, .slice none 0 0, .slice none 0 0, .int .i32 0, .slice none 0 0, .slice none 0 0]) := (by
           have e : cn = #[.int .i32 t, .string f.p, .slice none 0 0, .slice none 0 0, .int .i32 f.fl, .int .i32 0, .bool false, .int .i64 0, .int .i64 0, .int .i64 0, .int .i64 0, .slice none 0 0, .slice none 0 0, .slice none 0 0, .slice none 0 0, .slice none 0 0, .int .i32 0, .slice none 0 0, .slice none 0 0] := Array.ext' hxn
           unfold Hid; rw [← e]; exact hBn)
         have HB5 : Hid (Below w.heap.size w w5) := HB4.out.grown hgn (by omega) (fun k hk => by injection hk with hk; omega)
         clear hBn hxn hgn hzn)
      | (with_reducible show wpList _ _ _ (Oper.mk (some 115) _ _ _ _ _ :: _) _ _
         refine wpList_load_row rfl 29 (.tmp 3) rfl (w.heap.size + 2) rfl 29 _ _ _ HP5.out Tryz.underlying29 rfl isz_29 ?_)
      | (with_reducible show wpList _ _ _ (Oper.mk none (.store _ (.tmp 2) _) _ _ _ _ :: _) _ _
         refine wpList_store_row rfl 29 (.tmp 2) (.tmp 115) rfl (w.heap.size + 1) #[.int .i32 t, .string f.p, .slice none 0 0, .slice none 0 0, .int .i32 f.fl, .int .i32 0, .bool false, .int .i64 0, .int .i64 0, .int .i64 0, .int .i64 0, .slice none 0 0, .slice none 0 0, .slice none 0 0, .slice none 0 0, .slice none 0 0, .int .i32 0, .slice none 0 0, .slice none 0 0] rfl rfl 29 _ HZ5.out isz_29 (by rw [HOLD.out]; rfl) (by simp [Value.oneCell']) ?_
         generalize hww : World.setRow _ _ _ = wz
         have HBZ : Hid (Blk wz (w.heap.size + 1) 29 #[.int .i32 t, .string f.p, .slice none 0 0, .slice none 0 0, .int .i32 f.fl, .int .i32 0, .bool false, .int .i64 0, .int .i64 0, .int .i64 0, .int .i64 0, .slice none 0 0, .slice none 0 0, .slice none 0 0, .slice none 0 0, .slice none 0 0, .int .i32 0, .slice none 0 0, .slice none 0 0]) := (by unfold Hid; rw [← hww]; exact cells_setRow HZ5.out)
         have HBB : Hid (Below w.heap.size w wz) := (by unfold Hid; rw [← hww]; exact below_setRow' HB5.out (by omega) _)
         clear hww))
    refine bodyPost_ret (results_cell_row rfl _ _ (w.heap.size + 1) 29 _ _ _ rfl HBZ.out Tryz.underlying29 rfl isz_29) rfl ?_
    exact ⟨rfl, HBB.out⟩
end Go.Proofs.YtpjjnmdfgcfnmaaGreatDoor
