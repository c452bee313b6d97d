/- Replies: Clone and Same of both, Failed. (printed by gen_rb4.py) -/
import Derived.Test.YtnbaajplelchjaaGreatDoorRb3
import Derived.Test.YtnbaajplelchjaaGreatDoorRb1
import Derived.Test.YtnbaajplelchjaaGreatDoorRs7
import Derived.Test.YtnbaajplelchjaaGreatDoorLv5
set_option linter.unusedVariables false
set_option linter.unusedSimpArgs false
namespace Go.Proofs.YtnbaajplelchjaaGreatDoor
open Go.RowKit

theorem zer_rep : ((Tryz.prog.info? 35).bind (·.zero)).map (·.cells.size) = some 25 := by kernel_rfl
/-- a reply's cells -/
def rp (a z c : Int) (cs : List Value) : List Value := .int .i32 a :: .int .i64 z :: .int .i32 c :: cs
section
variable {w W : World} {lo : Option Nat} {x : ResC} {cs : List Value} (h : At w lo x cs) (a z c : Int)
include h
theorem At.rlen : (rp a z c cs).toArray.size = 25 := by rw [List.size_toArray]; unfold rp; rw [List.length_cons, List.length_cons, List.length_cons, h.len]
theorem At.rinfo : (Tryz.prog.info? 35).map (·.size) = some (rp a z c cs).toArray.size := by rw [h.rlen]; exact rep_size
theorem At.rinfoL : (Tryz.prog.info? 35).map (·.size) = some (rp a z c cs).length := by have := h.rlen a z c; rw [List.size_toArray] at this; rw [this]; exact rep_size
theorem At.rzero : ((Tryz.prog.info? 35).bind (·.zero)).map (·.cells.size) = some (rp a z c cs).toArray.size := by rw [h.rlen]; exact zer_rep
theorem At.oneL : ∀ v ∈ cs, v.oneCell' = true := fun v hv => by
  have := h.one
  rw [Array.all_eq_true_iff_forall_mem] at this
  exact this v (by simpa using hv)
theorem At.rone : (rp a z c cs).toArray.all (·.oneCell') = true := by
  rw [Array.all_eq_true_iff_forall_mem]
  intro v hv
  simp only [rp, List.mem_toArray, List.mem_cons] at hv
  rcases hv with rfl | rfl | rfl | hv
  · rfl
  · rfl
  · rfl
  · exact h.oneL v hv
end
theorem rp_row {w : World} {g : Nat} {t : TypeId} {a z c : Int} {cs : List Value} (h : Blk w g t (rp a z c cs).toArray) : ∀ j v, cs[j]? = some v → w.cell? ((⟨g, 3, none⟩ : Addr).add j) = some v := fun j v hv => by
  rw [Go.WideShapes.add_plain, Nat.add_comm]
  exact blk_cell h (j + 3) (by simpa [rp] using hv)
theorem rp_all {w : World} {g : Nat} {t : TypeId} {l : List Value} (h : Blk w g t l.toArray) : ∀ j v, l[j]? = some v → w.cell? ((⟨g, 0, none⟩ : Addr).add j) = some v := cellsB h
theorem rp_set {a z c : Int} {cs cs' : List Value} (h : cs.length = 22) (h' : cs'.length = 22) : (rp a z c cs).toArray.toList.take 3 ++ cs' ++ (rp a z c cs).toArray.toList.drop (3 + cs'.length) = rp a z c cs' := by
  rw [h']
  unfold rp
  simp [h]
theorem wpList_bld {P : Program} {ops : Array Oper} {rest : List Oper} {o : Oper} {a : Act} {w : World} {Q : Exit → Act → World → Prop} (hg : o.guard = none) (t : TypeId) (parts : Array (Nat × Operand)) (ho : o.op = .build t parts) (v : Value)
    (hr : ∀ w, (Instr.build t (parts.map fun (i, x) => (i, a.eval x))).run P w = .ok v w) (h : wpList P ops Q rest (a.put o.dst v) w) : wpList P ops Q (o :: rest) a w :=
  wpList_plain hg fun _ hK => by
    unfold Oper.wp execOp
    simp only [ho, Sem.run_bind, hr, Result.andThen_ok]
    exact hK _ _ h
theorem SlAt.zero (W : World) (e : TypeId) (size bytes : Nat) : SlAt W none e size bytes ⟨none, 0, 0⟩ 0 [] :=
  ⟨fun _ => ⟨rfl, rfl⟩, Nat.le_refl _, Nat.zero_le _, by rw [Nat.zero_mul]; exact Nat.zero_le _, rfl, ⟨(Nat.zero_mul _).symm, fun h => absurd h (Nat.lt_irrefl _)⟩, fun _ h => nomatch h⟩
set_option maxRecDepth 100000 in
set_option maxHeartbeats 4000000 in
theorem repClone_any {w : World} {lo : Option Nat} {x : ResC} {cs : List Value} (h : At w lo x cs) (a z c : Int) : ∀ W, Below w.heap.size w W → Calls Tryz.prog 23 #[.agg (rp a z c cs).toArray] W fun e w' => ∃ cs', e = .returned (.agg (rp a z c cs').toArray) ∧ At w' (some W.heap.size) x cs' ∧ Below W.heap.size W w' := by
  intro W hW
  have HCL := Lib.hid (fun U (hU : Below W.heap.size W U) => resClone_any h U (hW.trans (hU.mono hW.size)))
  have HLN : Hid (cs.length = 22) := h.len
  have HI := Lib.hid h.infoL
  have HRI := Lib.hid (h.rinfo a z c)
  have HSZ := Lib.hid (h.rlen a z c)
  obtain ⟨cq, hcq⟩ : ∃ v, v = (rp a z c cs).toArray := ⟨_, rfl⟩
  have HCQ := Lib.hid hcq
  rw [← hcq] at HRI HSZ ⊢
  obtain ⟨w1, hw1⟩ : ∃ v, W.alloc (.cells cq 35) = v := ⟨_, rfl⟩
  have HB1 := Lib.hid (newB hw1)
  have HK1 := Lib.hid (newK hw1)
  have hz1 : w1.heap.size = W.heap.size + 1 := by rw [← hw1]; simp
  clear hcq h hW
  go_enter Tryz.func23, Tryz.ntmps23
  go_wp2_with (first
    | (refine wpList_new rfl 35 rfl zer_rep ?_
       intro old hold
       obtain ⟨w2, hw2⟩ : ∃ w2, w1.alloc (.cells old 35) = w2 := ⟨_, rfl⟩
       rw [hw2]
       have hb2 := newB hw2
       have HB2 := hidT HB1 hb2
       have HK2 := Lib.hid (HK1.out.below hb2 HK1.out.lt)
       have HR2 : Hid (Blk w2 (W.heap.size + 1) 35 old) := by have := newK hw2; rwa [hz1] at this
       have HROW : Hid (∀ j v, cs[j]? = some v → w2.cell? ((⟨W.heap.size, 3, none⟩ : Addr).add j) = some v) := rp_row (by rw [← HCQ.out]; exact HK2.out)
       have hz2 : w2.heap.size = W.heap.size + 2 := by rw [← hw2]; simp [hz1]
       clear hw2 hb2)
    | ((with_reducible refine wpAt 4 ?_); refine wpList_load_at (by rfl) 33 (.tmp 3) rfl ⟨W.heap.size, 3, none⟩ rfl cs _ HROW.out Tryz.underlying33 rfl HI.out ?_)
    | (go_at_call 69
       refine (HCL.out _ HB2.out).mono ?_
       rintro e w3 ⟨cs', rfl, hat, hb⟩
       have HAT := Lib.hid hat
       have HB3 := hidT HB2 hb
       have HK3 := Lib.hid (HK2.out.below hb HK2.out.lt)
       have HR3 := Lib.hid (HR2.out.below hb HR2.out.lt)
       have HL' : Hid (cs'.length = 22) := hat.len
       have HO' := Lib.hid hat.oneL
       have HI' := Lib.hid hat.infoL
       have HRI' := Lib.hid (hat.rinfo a z c)
       have HSZ' := Lib.hid (hat.rlen a z c)
       have HRO' := Lib.hid (hat.rone a z c)
       have hz3 := hb.size
       clear hb hat)
    | (with_reducible show wpList _ _ _ (Oper.mk none (.store _ (.tmp 6) _) _ _ _ _ :: _) _ _
       refine wpList_store_mid rfl 33 (.tmp 6) (.tmp 5) rfl W.heap.size 3 (.agg cs'.toArray) rfl rfl HK3.out (news := cs') rfl HI'.out (by rw [HSZ.out, HL'.out]; exact (by decide : 3 + 22 ≤ 25)) HO'.out ?_
       intro wn cn hBn hxn hgn hzn
       have HKn : Hid (Blk wn W.heap.size 35 (rp a z c cs').toArray) := by
         have e : cn = (rp a z c cs').toArray := by
           rw [← Array.toList_inj, hxn, HCQ.out, rp_set HLN.out HL'.out]
         rw [← e]
         exact hBn
       have HRn := Lib.hid (HR3.out.grown hgn (by simp))
       have HATn := Lib.hid (HAT.out.grown rfl hgn (by omega))
       have HBn : Hid (Below W.heap.size W wn) := HB3.out.grown hgn (by omega) (fun k hk => by injection hk with hk; omega)
       have hzn' : wn.heap.size = w3.heap.size := hzn
       clear hBn hxn hgn hzn)
    | (refine wpList_load_row rfl 35 (.tmp 1) rfl W.heap.size rfl 35 _ _ _ HKn.out Tryz.underlying35 rfl HRI'.out ?_)
    | (refine wpList_store_row rfl 35 (.tmp 2) (.tmp 7) rfl (W.heap.size + 1) _ rfl rfl 35 _ HRn.out HRI'.out (by rw [HSZ'.out]; exact hold) HRO'.out ?_
       generalize hww : World.setRow _ _ _ = wz
       have HGZ : Hid (wn.grownBy wz (some (W.heap.size + 1))) := by unfold Hid; rw [← hww]; exact only_setRow' _ _ _
       have HBZ : Hid (Blk wz (W.heap.size + 1) 35 (rp a z c cs').toArray) := by unfold Hid; rw [← hww]; exact cells_setRow HRn.out
       clear hww))
  refine bodyPost_ret (results_cell_row rfl _ _ (W.heap.size + 1) 35 _ _ _ rfl HBZ.out Tryz.underlying35 rfl HRI'.out) rfl ?_
  exact ⟨_, rfl, (HATn.out.grown rfl HGZ.out (by omega)).lo rfl (by omega), HBn.out.grown HGZ.out (by omega) (fun k hk => by injection hk with hk; omega)⟩
set_option maxRecDepth 100000 in
set_option maxHeartbeats 4000000 in
theorem refRepClone_any {w : World} {lo : Option Nat} {x : ResC} {cs : List Value} (h : At w lo x cs) (a z c : Int) : ∀ W, Below w.heap.size w W → Calls Tryz.prog 8 #[.agg (rp a z c cs).toArray] W fun e w' => ∃ cs', e = .returned (.agg (rp a z c cs').toArray) ∧ At w' (some W.heap.size) x cs' ∧ Below W.heap.size W w' := by
  intro W hW
  have HCL := Lib.hid (fun U (hU : Below W.heap.size W U) => refResClone_any h U (hW.trans (hU.mono hW.size)))
  have HLN : Hid (cs.length = 22) := h.len
  have HI := Lib.hid h.infoL
  have HRI := Lib.hid (h.rinfo a z c)
  have HSZ := Lib.hid (h.rlen a z c)
  obtain ⟨cq, hcq⟩ : ∃ v, v = (rp a z c cs).toArray := ⟨_, rfl⟩
  have HCQ := Lib.hid hcq
  rw [← hcq] at HRI HSZ ⊢
  obtain ⟨w1, hw1⟩ : ∃ v, W.alloc (.cells cq 35) = v := ⟨_, rfl⟩
  have HB1 := Lib.hid (newB hw1)
  have HK1 := Lib.hid (newK hw1)
  have hz1 : w1.heap.size = W.heap.size + 1 := by rw [← hw1]; simp
  clear hcq h hW
  go_enter Tryz.func8, Tryz.ntmps8
  go_wp2_with (first
    | (refine wpList_new rfl 35 rfl zer_rep ?_
       intro old hold
       obtain ⟨w2, hw2⟩ : ∃ w2, w1.alloc (.cells old 35) = w2 := ⟨_, rfl⟩
       rw [hw2]
       have hb2 := newB hw2
       have HB2 := hidT HB1 hb2
       have HK2 := Lib.hid (HK1.out.below hb2 HK1.out.lt)
       have HR2 : Hid (Blk w2 (W.heap.size + 1) 35 old) := by have := newK hw2; rwa [hz1] at this
       have HROW : Hid (∀ j v, cs[j]? = some v → w2.cell? ((⟨W.heap.size, 3, none⟩ : Addr).add j) = some v) := rp_row (by rw [← HCQ.out]; exact HK2.out)
       have hz2 : w2.heap.size = W.heap.size + 2 := by rw [← hw2]; simp [hz1]
       clear hw2 hb2)
    | ((with_reducible refine wpAt 4 ?_); refine wpList_load_at (by rfl) 33 (.tmp 3) rfl ⟨W.heap.size, 3, none⟩ rfl cs _ HROW.out Tryz.underlying33 rfl HI.out ?_)
    | (go_at_call 31
       refine (HCL.out _ HB2.out).mono ?_
       rintro e w3 ⟨cs', rfl, hat, hb⟩
       have HAT := Lib.hid hat
       have HB3 := hidT HB2 hb
       have HK3 := Lib.hid (HK2.out.below hb HK2.out.lt)
       have HR3 := Lib.hid (HR2.out.below hb HR2.out.lt)
       have HL' : Hid (cs'.length = 22) := hat.len
       have HO' := Lib.hid hat.oneL
       have HI' := Lib.hid hat.infoL
       have HRI' := Lib.hid (hat.rinfo a z c)
       have HSZ' := Lib.hid (hat.rlen a z c)
       have HRO' := Lib.hid (hat.rone a z c)
       have hz3 := hb.size
       clear hb hat)
    | (with_reducible show wpList _ _ _ (Oper.mk none (.store _ (.tmp 6) _) _ _ _ _ :: _) _ _
       refine wpList_store_mid rfl 33 (.tmp 6) (.tmp 5) rfl W.heap.size 3 (.agg cs'.toArray) rfl rfl HK3.out (news := cs') rfl HI'.out (by rw [HSZ.out, HL'.out]; exact (by decide : 3 + 22 ≤ 25)) HO'.out ?_
       intro wn cn hBn hxn hgn hzn
       have HKn : Hid (Blk wn W.heap.size 35 (rp a z c cs').toArray) := by
         have e : cn = (rp a z c cs').toArray := by
           rw [← Array.toList_inj, hxn, HCQ.out, rp_set HLN.out HL'.out]
         rw [← e]
         exact hBn
       have HRn := Lib.hid (HR3.out.grown hgn (by simp))
       have HATn := Lib.hid (HAT.out.grown rfl hgn (by omega))
       have HBn : Hid (Below W.heap.size W wn) := HB3.out.grown hgn (by omega) (fun k hk => by injection hk with hk; omega)
       have hzn' : wn.heap.size = w3.heap.size := hzn
       clear hBn hxn hgn hzn)
    | (refine wpList_load_row rfl 35 (.tmp 1) rfl W.heap.size rfl 35 _ _ _ HKn.out Tryz.underlying35 rfl HRI'.out ?_)
    | (refine wpList_store_row rfl 35 (.tmp 2) (.tmp 7) rfl (W.heap.size + 1) _ rfl rfl 35 _ HRn.out HRI'.out (by rw [HSZ'.out]; exact hold) HRO'.out ?_
       generalize hww : World.setRow _ _ _ = wz
       have HGZ : Hid (wn.grownBy wz (some (W.heap.size + 1))) := by unfold Hid; rw [← hww]; exact only_setRow' _ _ _
       have HBZ : Hid (Blk wz (W.heap.size + 1) 35 (rp a z c cs').toArray) := by unfold Hid; rw [← hww]; exact cells_setRow HRn.out
       clear hww))
  refine bodyPost_ret (results_cell_row rfl _ _ (W.heap.size + 1) 35 _ _ _ rfl HBZ.out Tryz.underlying35 rfl HRI'.out) rfl ?_
  exact ⟨_, rfl, (HATn.out.grown rfl HGZ.out (by omega)).lo rfl (by omega), HBn.out.grown HGZ.out (by omega) (fun k hk => by injection hk with hk; omega)⟩
set_option maxRecDepth 100000 in
set_option maxHeartbeats 4000000 in
theorem repSame_any {w : World} {lo lo' : Option Nat} {x y : ResC} {cs ds : List Value} (h : At w lo x cs) (h' : At w lo' y ds) (a z c a' z' c' : Int) :
    ∃ b : Bool, (b = true ↔ a = a' ∧ z = z' ∧ c = c' ∧ x = y) ∧ ∀ W, Below w.heap.size w W → Calls Tryz.prog 25 #[.agg (rp a z c cs).toArray, .agg (rp a' z' c' ds).toArray] W fun e w' => e = .returned (.bool b) ∧ Below W.heap.size W w' := by
  obtain ⟨bx, hbx, hc⟩ := resSame_any h h'
  refine ⟨(((((a : Int) == a') && ((z : Int) == z')) && ((c : Int) == c')) && bx), by simp only [Bool.and_eq_true, beq_iff_eq, hbx, and_assoc], fun V hW => ?_⟩
  have HC := Lib.hid (fun U (hU : Below V.heap.size V U) => hc U (hW.trans (hU.mono hW.size)))
  have HI0 := Lib.hid h.infoL
  have HI1 := Lib.hid h'.infoL
  obtain ⟨cq, hcq⟩ : ∃ v, v = (rp a z c cs).toArray := ⟨_, rfl⟩
  obtain ⟨dq, hdq⟩ : ∃ v, v = (rp a' z' c' ds).toArray := ⟨_, rfl⟩
  rw [← hcq, ← hdq]
  obtain ⟨w1, hw1⟩ : ∃ w1, (V.alloc (.cells cq 35)).alloc (.cells dq 35) = w1 := ⟨_, rfl⟩
  have HB1 : Hid (Below V.heap.size V w1) := by unfold Hid; rw [← hw1]; exact ((Below.refl _ _).alloc (Nat.le_refl _) _).alloc (by simp) _
  have HS : Hid (Blk w1 V.heap.size 35 (rp a z c cs).toArray) := by unfold Hid; rw [← hcq, ← hw1]; exact (Blk.new _ _ _).alloc _
  have HT : Hid (Blk w1 (V.heap.size + 1) 35 (rp a' z' c' ds).toArray) := by unfold Hid; rw [← hdq, ← hw1]; exact Blk.new' (by simp)
  clear hcq hdq h h' hW hc hbx
  go_enter Tryz.func25, Tryz.ntmps25
  go_upto_region 1 with (fail)
  refine wp_region_lit ?_
  obtain ⟨x5, H5⟩ : ∃ x : Value, Hid (x = .pointer (some ⟨V.heap.size, 0, none⟩)) := ⟨_, rfl⟩
  obtain ⟨x6, H6⟩ : ∃ x : Value, Hid (x = .int .i32 a) := ⟨_, rfl⟩
  obtain ⟨x7, H7⟩ : ∃ x : Value, Hid (x = .pointer (some ⟨(V.heap.size + 1), 0, none⟩)) := ⟨_, rfl⟩
  obtain ⟨x8, H8⟩ : ∃ x : Value, Hid (x = .int .i32 a') := ⟨_, rfl⟩
  obtain ⟨x9, H9⟩ : ∃ x : Value, Hid (x = .bool ((a : Int) == a')) := ⟨_, rfl⟩
  obtain ⟨x10, H10⟩ : ∃ x : Value, Hid (x = .bool ((a : Int) == a')) := ⟨_, rfl⟩
  obtain ⟨x11, H11⟩ : ∃ x : Value, Hid (x = bif (((a : Int) == a') == true) then .pointer (some ⟨V.heap.size, 1, none⟩) else undef) := ⟨_, rfl⟩
  obtain ⟨x12, H12⟩ : ∃ x : Value, Hid (x = bif (((a : Int) == a') == true) then .int .i64 z else undef) := ⟨_, rfl⟩
  obtain ⟨x13, H13⟩ : ∃ x : Value, Hid (x = bif (((a : Int) == a') == true) then .pointer (some ⟨(V.heap.size + 1), 1, none⟩) else undef) := ⟨_, rfl⟩
  obtain ⟨x14, H14⟩ : ∃ x : Value, Hid (x = bif (((a : Int) == a') == true) then .int .i64 z' else undef) := ⟨_, rfl⟩
  obtain ⟨x15, H15⟩ : ∃ x : Value, Hid (x = bif (((a : Int) == a') == true) then .bool ((z : Int) == z') else undef) := ⟨_, rfl⟩
  obtain ⟨x16, H16⟩ : ∃ x : Value, Hid (x = .bool (((a : Int) == a') && ((z : Int) == z'))) := ⟨_, rfl⟩
  obtain ⟨x17, H17⟩ : ∃ x : Value, Hid (x = .bool (((a : Int) == a') && ((z : Int) == z'))) := ⟨_, rfl⟩
  obtain ⟨x18, H18⟩ : ∃ x : Value, Hid (x = bif ((((a : Int) == a') && ((z : Int) == z')) == true) then .pointer (some ⟨V.heap.size, 2, none⟩) else undef) := ⟨_, rfl⟩
  obtain ⟨x19, H19⟩ : ∃ x : Value, Hid (x = bif ((((a : Int) == a') && ((z : Int) == z')) == true) then .int .i32 c else undef) := ⟨_, rfl⟩
  obtain ⟨x20, H20⟩ : ∃ x : Value, Hid (x = bif ((((a : Int) == a') && ((z : Int) == z')) == true) then .pointer (some ⟨(V.heap.size + 1), 2, none⟩) else undef) := ⟨_, rfl⟩
  obtain ⟨x21, H21⟩ : ∃ x : Value, Hid (x = bif ((((a : Int) == a') && ((z : Int) == z')) == true) then .int .i32 c' else undef) := ⟨_, rfl⟩
  obtain ⟨x22, H22⟩ : ∃ x : Value, Hid (x = bif ((((a : Int) == a') && ((z : Int) == z')) == true) then .bool ((c : Int) == c') else undef) := ⟨_, rfl⟩
  obtain ⟨x23, H23⟩ : ∃ x : Value, Hid (x = .bool ((((a : Int) == a') && ((z : Int) == z')) && ((c : Int) == c'))) := ⟨_, rfl⟩
  obtain ⟨x24, H24⟩ : ∃ x : Value, Hid (x = .bool ((((a : Int) == a') && ((z : Int) == z')) && ((c : Int) == c'))) := ⟨_, rfl⟩
  obtain ⟨x25, H25⟩ : ∃ x : Value, Hid (x = bif (((((a : Int) == a') && ((z : Int) == z')) && ((c : Int) == c')) == true) then .pointer (some ⟨V.heap.size, 3, none⟩) else undef) := ⟨_, rfl⟩
  obtain ⟨x26, H26⟩ : ∃ x : Value, Hid (x = bif (((((a : Int) == a') && ((z : Int) == z')) && ((c : Int) == c')) == true) then .agg cs.toArray else undef) := ⟨_, rfl⟩
  obtain ⟨x27, H27⟩ : ∃ x : Value, Hid (x = bif (((((a : Int) == a') && ((z : Int) == z')) && ((c : Int) == c')) == true) then .pointer (some ⟨(V.heap.size + 1), 3, none⟩) else undef) := ⟨_, rfl⟩
  obtain ⟨x28, H28⟩ : ∃ x : Value, Hid (x = bif (((((a : Int) == a') && ((z : Int) == z')) && ((c : Int) == c')) == true) then .agg ds.toArray else undef) := ⟨_, rfl⟩
  obtain ⟨x29, H29⟩ : ∃ x : Value, Hid (x = bif (((((a : Int) == a') && ((z : Int) == z')) && ((c : Int) == c')) == true) then .bool bx else undef) := ⟨_, rfl⟩
  obtain ⟨x30, H30⟩ : ∃ x : Value, Hid (x = .bool (((((a : Int) == a') && ((z : Int) == z')) && ((c : Int) == c')) && bx)) := ⟨_, rfl⟩
  refine wpList_seq (w0 := w1) (.inl x5 ::
    .inl x6 ::
    .inl x7 ::
    .inl x8 ::
    .inl x9 ::
    .inl x10 ::
    .inl x11 ::
    .inl x12 ::
    .inl x13 ::
    .inl x14 ::
    .inl x15 ::
    .inl x16 ::
    .inl x17 ::
    .inl x18 ::
    .inl x19 ::
    .inl x20 ::
    .inl x21 ::
    .inl x22 ::
    .inl x23 ::
    .inl x24 ::
    .inl x25 ::
    .inl x26 ::
    .inl x27 ::
    .inl x28 ::
    .inl x29 ::
    .inl x30 ::
    .inl (.bool (((((a : Int) == a') && ((z : Int) == z')) && ((c : Int) == c')) && bx)) :: []) rfl (by as_aux_lemma => kernel_rfl) (by as_aux_lemma => kernel_rfl) (nomono rfl) ⟨fun ac W hb hold hdep K hK => op_u (u := .pointer (some ⟨V.heap.size, 0, none⟩)) rfl (r_field 35 _ 0 rfl (eval_tmp ((hold 2 (free_slot (by as_aux_lemma => kernel_rfl))).trans rfl)) Tryz.underlying35 rfl (n := 0) isz_21 rfl) (hK _ _ H5.out.symm (Below.refl _ _)),
    fun ac W hb hold hdep K hK => op_u (u := .int .i32 a) rfl (r_load 21 _ rfl (eval_tmp ((dep_val (hdep 0 5 (by decide) rfl)).trans (congrArg some H5.out))) (blk_cell (HS.out.below hb HS.out.lt) 0 rfl) Tryz.underlying21 rfl) (hK _ _ H6.out.symm (Below.refl _ _)),
    fun ac W hb hold hdep K hK => op_u (u := .pointer (some ⟨(V.heap.size + 1), 0, none⟩)) rfl (r_field 35 _ 0 rfl (eval_tmp ((hold 3 (free_slot (by as_aux_lemma => kernel_rfl))).trans rfl)) Tryz.underlying35 rfl (n := 0) isz_21 rfl) (hK _ _ H7.out.symm (Below.refl _ _)),
    fun ac W hb hold hdep K hK => op_u (u := .int .i32 a') rfl (r_load 21 _ rfl (eval_tmp ((dep_val (hdep 2 7 (by decide) rfl)).trans (congrArg some H7.out))) (blk_cell (HT.out.below hb HT.out.lt) 0 rfl) Tryz.underlying21 rfl) (hK _ _ H8.out.symm (Below.refl _ _)),
    fun ac W hb hold hdep K hK => op_u (u := .bool ((a : Int) == a')) rfl (r_ieq 21 _ _ _ rfl (eval_tmp ((dep_val (hdep 1 6 (by decide) rfl)).trans (congrArg some H6.out))) (eval_tmp ((dep_val (hdep 3 8 (by decide) rfl)).trans (congrArg some H8.out)))) (hK _ _ H9.out.symm (Below.refl _ _)),
    fun ac W hb hold hdep K hK => op_u (u := .bool ((a : Int) == a')) rfl (r_move _ rfl (eval_tmp ((dep_val (hdep 4 9 (by decide) rfl)).trans (congrArg some H9.out)))) (hK _ _ H10.out.symm (Below.refl _ _)),
    fun ac W hb hold hdep K hK => op_g (u := .pointer (some ⟨V.heap.size, 1, none⟩)) (want_all rfl rfl ((dep_val (hdep 5 10 (by decide) rfl)).trans (congrArg some H10.out))) (fun hc => r_field 35 _ 1 rfl (eval_tmp ((hold 2 (free_slot (by as_aux_lemma => kernel_rfl))).trans rfl)) Tryz.underlying35 rfl (n := 0) isz_2 rfl) (hK _ _ H11.out.symm (Below.refl _ _)),
    fun ac W hb hold hdep K hK => op_g (u := .int .i64 z) (want_all rfl rfl ((dep_val (hdep 5 10 (by decide) rfl)).trans (congrArg some H10.out))) (fun hc => r_load 2 _ rfl (eval_if ((dep_val (hdep 6 11 (by decide) rfl)).trans (congrArg some H11.out)) hc) (blk_cell (HS.out.below hb HS.out.lt) 1 rfl) Tryz.underlying2 rfl) (hK _ _ H12.out.symm (Below.refl _ _)),
    fun ac W hb hold hdep K hK => op_g (u := .pointer (some ⟨(V.heap.size + 1), 1, none⟩)) (want_all rfl rfl ((dep_val (hdep 5 10 (by decide) rfl)).trans (congrArg some H10.out))) (fun hc => r_field 35 _ 1 rfl (eval_tmp ((hold 3 (free_slot (by as_aux_lemma => kernel_rfl))).trans rfl)) Tryz.underlying35 rfl (n := 0) isz_2 rfl) (hK _ _ H13.out.symm (Below.refl _ _)),
    fun ac W hb hold hdep K hK => op_g (u := .int .i64 z') (want_all rfl rfl ((dep_val (hdep 5 10 (by decide) rfl)).trans (congrArg some H10.out))) (fun hc => r_load 2 _ rfl (eval_if ((dep_val (hdep 8 13 (by decide) rfl)).trans (congrArg some H13.out)) hc) (blk_cell (HT.out.below hb HT.out.lt) 1 rfl) Tryz.underlying2 rfl) (hK _ _ H14.out.symm (Below.refl _ _)),
    fun ac W hb hold hdep K hK => op_g (u := .bool ((z : Int) == z')) (want_all rfl rfl ((dep_val (hdep 5 10 (by decide) rfl)).trans (congrArg some H10.out))) (fun hc => r_ieq 2 _ _ _ rfl (eval_if ((dep_val (hdep 7 12 (by decide) rfl)).trans (congrArg some H12.out)) hc) (eval_if ((dep_val (hdep 9 14 (by decide) rfl)).trans (congrArg some H14.out)) hc)) (hK _ _ H15.out.symm (Below.refl _ _)),
    fun ac W hb hold hdep K hK => op_u (u := .bool (((a : Int) == a') && ((z : Int) == z'))) rfl (r_and _ _ _ rfl (eval_tmp ((dep_val (hdep 5 10 (by decide) rfl)).trans (congrArg some H10.out))) (fun hb => eval_if ((dep_val (hdep 10 15 (by decide) rfl)).trans (congrArg some H15.out)) (by simp [hb])) rfl) (hK _ _ H16.out.symm (Below.refl _ _)),
    fun ac W hb hold hdep K hK => op_u (u := .bool (((a : Int) == a') && ((z : Int) == z'))) rfl (r_move _ rfl (eval_tmp ((dep_val (hdep 11 16 (by decide) rfl)).trans (congrArg some H16.out)))) (hK _ _ H17.out.symm (Below.refl _ _)),
    fun ac W hb hold hdep K hK => op_g (u := .pointer (some ⟨V.heap.size, 2, none⟩)) (want_all rfl rfl ((dep_val (hdep 12 17 (by decide) rfl)).trans (congrArg some H17.out))) (fun hc => r_field 35 _ 2 rfl (eval_tmp ((hold 2 (free_slot (by as_aux_lemma => kernel_rfl))).trans rfl)) Tryz.underlying35 rfl (n := 0) isz_22 rfl) (hK _ _ H18.out.symm (Below.refl _ _)),
    fun ac W hb hold hdep K hK => op_g (u := .int .i32 c) (want_all rfl rfl ((dep_val (hdep 12 17 (by decide) rfl)).trans (congrArg some H17.out))) (fun hc => r_load 22 _ rfl (eval_if ((dep_val (hdep 13 18 (by decide) rfl)).trans (congrArg some H18.out)) hc) (blk_cell (HS.out.below hb HS.out.lt) 2 rfl) Tryz.underlying22 rfl) (hK _ _ H19.out.symm (Below.refl _ _)),
    fun ac W hb hold hdep K hK => op_g (u := .pointer (some ⟨(V.heap.size + 1), 2, none⟩)) (want_all rfl rfl ((dep_val (hdep 12 17 (by decide) rfl)).trans (congrArg some H17.out))) (fun hc => r_field 35 _ 2 rfl (eval_tmp ((hold 3 (free_slot (by as_aux_lemma => kernel_rfl))).trans rfl)) Tryz.underlying35 rfl (n := 0) isz_22 rfl) (hK _ _ H20.out.symm (Below.refl _ _)),
    fun ac W hb hold hdep K hK => op_g (u := .int .i32 c') (want_all rfl rfl ((dep_val (hdep 12 17 (by decide) rfl)).trans (congrArg some H17.out))) (fun hc => r_load 22 _ rfl (eval_if ((dep_val (hdep 15 20 (by decide) rfl)).trans (congrArg some H20.out)) hc) (blk_cell (HT.out.below hb HT.out.lt) 2 rfl) Tryz.underlying22 rfl) (hK _ _ H21.out.symm (Below.refl _ _)),
    fun ac W hb hold hdep K hK => op_g (u := .bool ((c : Int) == c')) (want_all rfl rfl ((dep_val (hdep 12 17 (by decide) rfl)).trans (congrArg some H17.out))) (fun hc => r_ieq 22 _ _ _ rfl (eval_if ((dep_val (hdep 14 19 (by decide) rfl)).trans (congrArg some H19.out)) hc) (eval_if ((dep_val (hdep 16 21 (by decide) rfl)).trans (congrArg some H21.out)) hc)) (hK _ _ H22.out.symm (Below.refl _ _)),
    fun ac W hb hold hdep K hK => op_u (u := .bool ((((a : Int) == a') && ((z : Int) == z')) && ((c : Int) == c'))) rfl (r_and _ _ _ rfl (eval_tmp ((dep_val (hdep 12 17 (by decide) rfl)).trans (congrArg some H17.out))) (fun hb => eval_if ((dep_val (hdep 17 22 (by decide) rfl)).trans (congrArg some H22.out)) (by simp [hb])) rfl) (hK _ _ H23.out.symm (Below.refl _ _)),
    fun ac W hb hold hdep K hK => op_u (u := .bool ((((a : Int) == a') && ((z : Int) == z')) && ((c : Int) == c'))) rfl (r_move _ rfl (eval_tmp ((dep_val (hdep 18 23 (by decide) rfl)).trans (congrArg some H23.out)))) (hK _ _ H24.out.symm (Below.refl _ _)),
    fun ac W hb hold hdep K hK => op_g (u := .pointer (some ⟨V.heap.size, 3, none⟩)) (want_all rfl rfl ((dep_val (hdep 19 24 (by decide) rfl)).trans (congrArg some H24.out))) (fun hc => r_field 35 _ 3 rfl (eval_tmp ((hold 2 (free_slot (by as_aux_lemma => kernel_rfl))).trans rfl)) Tryz.underlying35 rfl (n := 21) isz_33 rfl) (hK _ _ H25.out.symm (Below.refl _ _)),
    fun ac W hb hold hdep K hK => op_g (u := .agg cs.toArray) (want_all rfl rfl ((dep_val (hdep 19 24 (by decide) rfl)).trans (congrArg some H24.out))) (fun hc => r_load_row 33 _ rfl (eval_if ((dep_val (hdep 20 25 (by decide) rfl)).trans (congrArg some H25.out)) hc) cs (rp_row (HS.out.below hb HS.out.lt)) Tryz.underlying33 rfl HI0.out) (hK _ _ H26.out.symm (Below.refl _ _)),
    fun ac W hb hold hdep K hK => op_g (u := .pointer (some ⟨(V.heap.size + 1), 3, none⟩)) (want_all rfl rfl ((dep_val (hdep 19 24 (by decide) rfl)).trans (congrArg some H24.out))) (fun hc => r_field 35 _ 3 rfl (eval_tmp ((hold 3 (free_slot (by as_aux_lemma => kernel_rfl))).trans rfl)) Tryz.underlying35 rfl (n := 21) isz_33 rfl) (hK _ _ H27.out.symm (Below.refl _ _)),
    fun ac W hb hold hdep K hK => op_g (u := .agg ds.toArray) (want_all rfl rfl ((dep_val (hdep 19 24 (by decide) rfl)).trans (congrArg some H24.out))) (fun hc => r_load_row 33 _ rfl (eval_if ((dep_val (hdep 22 27 (by decide) rfl)).trans (congrArg some H27.out)) hc) ds (rp_row (HT.out.below hb HT.out.lt)) Tryz.underlying33 rfl HI1.out) (hK _ _ H28.out.symm (Below.refl _ _)),
    fun ac W hb hold hdep K hK => op_call (u := .bool bx) (want_all rfl rfl ((dep_val (hdep 19 24 (by decide) rfl)).trans (congrArg some H24.out))) 70 _ _ rfl (#[.agg cs.toArray, .agg ds.toArray]) (fun hc => by simp [(eval_if ((dep_val (hdep 21 26 (by decide) rfl)).trans (congrArg some H26.out)) hc), (eval_if ((dep_val (hdep 23 28 (by decide) rfl)).trans (congrArg some H28.out)) hc)]) Tryz.func70 (by as_aux_lemma => kernel_rfl) (by as_aux_lemma => kernel_rfl) (fun hc => HC.out W (HB1.out.trans (hb.mono HB1.out.size))) (fun w' hbl => hK _ _ H29.out.symm hbl),
    fun ac W hb hold hdep K hK => op_u (u := .bool (((((a : Int) == a') && ((z : Int) == z')) && ((c : Int) == c')) && bx)) rfl (r_and _ _ _ rfl (eval_tmp ((dep_val (hdep 19 24 (by decide) rfl)).trans (congrArg some H24.out))) (fun hb => eval_if ((dep_val (hdep 24 29 (by decide) rfl)).trans (congrArg some H29.out)) (by simp [hb])) rfl) (hK _ _ H30.out.symm (Below.refl _ _)),
    fun ac W hb hold hdep K hK => op_u (u := .bool (((((a : Int) == a') && ((z : Int) == z')) && ((c : Int) == c')) && bx)) rfl (r_assign _ rfl (eval_tmp ((dep_val (hdep 25 30 (by decide) rfl)).trans (congrArg some H30.out)))) (hK _ _ rfl (Below.refl _ _)), trivial⟩ ?_
  intro w2 hb2
  simp only [Fin, Act.put, List.setIfInBounds_toArray, List.set_cons_zero, List.set_cons_succ]
  clear H5 H6 H7 H8 H9 H10 H11 H12 H13 H14 H15 H16 H17 H18 H19 H20 H21 H22 H23 H24 H25 H26 H27 H28 H29 H30
  have HB2 := hidT HB1 hb2
  clear hb2
  go_wp2
  go_ret
  exact ⟨rfl, HB2.out⟩
set_option maxRecDepth 100000 in
set_option maxHeartbeats 4000000 in
theorem refRepSame_any {w : World} {lo lo' : Option Nat} {x y : ResC} {cs ds : List Value} (h : At w lo x cs) (h' : At w lo' y ds) (a z c a' z' c' : Int) :
    ∃ b : Bool, (b = true ↔ a = a' ∧ z = z' ∧ c = c' ∧ x = y) ∧ ∀ W, Below w.heap.size w W → Calls Tryz.prog 15 #[.agg (rp a z c cs).toArray, .agg (rp a' z' c' ds).toArray] W fun e w' => e = .returned (.bool b) ∧ Below W.heap.size W w' := by
  obtain ⟨bx, hbx, hc⟩ := sameRes_any h h'
  refine ⟨(((((a : Int) == a') && ((z : Int) == z')) && ((c : Int) == c')) && bx), by simp only [Bool.and_eq_true, beq_iff_eq, hbx, and_assoc], fun V hW => ?_⟩
  have HC := Lib.hid (fun U (hU : Below V.heap.size V U) => hc U (hW.trans (hU.mono hW.size)))
  have HI0 := Lib.hid h.infoL
  have HI1 := Lib.hid h'.infoL
  obtain ⟨cq, hcq⟩ : ∃ v, v = (rp a z c cs).toArray := ⟨_, rfl⟩
  obtain ⟨dq, hdq⟩ : ∃ v, v = (rp a' z' c' ds).toArray := ⟨_, rfl⟩
  rw [← hcq, ← hdq]
  obtain ⟨w1, hw1⟩ : ∃ w1, (V.alloc (.cells cq 35)).alloc (.cells dq 35) = w1 := ⟨_, rfl⟩
  have HB1 : Hid (Below V.heap.size V w1) := by unfold Hid; rw [← hw1]; exact ((Below.refl _ _).alloc (Nat.le_refl _) _).alloc (by simp) _
  have HS : Hid (Blk w1 V.heap.size 35 (rp a z c cs).toArray) := by unfold Hid; rw [← hcq, ← hw1]; exact (Blk.new _ _ _).alloc _
  have HT : Hid (Blk w1 (V.heap.size + 1) 35 (rp a' z' c' ds).toArray) := by unfold Hid; rw [← hdq, ← hw1]; exact Blk.new' (by simp)
  clear hcq hdq h h' hW hc hbx
  go_enter Tryz.func15, Tryz.ntmps15
  go_upto_region 1 with (fail)
  refine wp_region_lit ?_
  obtain ⟨x5, H5⟩ : ∃ x : Value, Hid (x = .pointer (some ⟨V.heap.size, 0, none⟩)) := ⟨_, rfl⟩
  obtain ⟨x6, H6⟩ : ∃ x : Value, Hid (x = .int .i32 a) := ⟨_, rfl⟩
  obtain ⟨x7, H7⟩ : ∃ x : Value, Hid (x = .pointer (some ⟨(V.heap.size + 1), 0, none⟩)) := ⟨_, rfl⟩
  obtain ⟨x8, H8⟩ : ∃ x : Value, Hid (x = .int .i32 a') := ⟨_, rfl⟩
  obtain ⟨x9, H9⟩ : ∃ x : Value, Hid (x = .bool ((a : Int) == a')) := ⟨_, rfl⟩
  obtain ⟨x10, H10⟩ : ∃ x : Value, Hid (x = .bool ((a : Int) == a')) := ⟨_, rfl⟩
  obtain ⟨x11, H11⟩ : ∃ x : Value, Hid (x = bif (((a : Int) == a') == true) then .pointer (some ⟨V.heap.size, 1, none⟩) else undef) := ⟨_, rfl⟩
  obtain ⟨x12, H12⟩ : ∃ x : Value, Hid (x = bif (((a : Int) == a') == true) then .int .i64 z else undef) := ⟨_, rfl⟩
  obtain ⟨x13, H13⟩ : ∃ x : Value, Hid (x = bif (((a : Int) == a') == true) then .pointer (some ⟨(V.heap.size + 1), 1, none⟩) else undef) := ⟨_, rfl⟩
  obtain ⟨x14, H14⟩ : ∃ x : Value, Hid (x = bif (((a : Int) == a') == true) then .int .i64 z' else undef) := ⟨_, rfl⟩
  obtain ⟨x15, H15⟩ : ∃ x : Value, Hid (x = bif (((a : Int) == a') == true) then .bool ((z : Int) == z') else undef) := ⟨_, rfl⟩
  obtain ⟨x16, H16⟩ : ∃ x : Value, Hid (x = .bool (((a : Int) == a') && ((z : Int) == z'))) := ⟨_, rfl⟩
  obtain ⟨x17, H17⟩ : ∃ x : Value, Hid (x = .bool (((a : Int) == a') && ((z : Int) == z'))) := ⟨_, rfl⟩
  obtain ⟨x18, H18⟩ : ∃ x : Value, Hid (x = bif ((((a : Int) == a') && ((z : Int) == z')) == true) then .pointer (some ⟨V.heap.size, 2, none⟩) else undef) := ⟨_, rfl⟩
  obtain ⟨x19, H19⟩ : ∃ x : Value, Hid (x = bif ((((a : Int) == a') && ((z : Int) == z')) == true) then .int .i32 c else undef) := ⟨_, rfl⟩
  obtain ⟨x20, H20⟩ : ∃ x : Value, Hid (x = bif ((((a : Int) == a') && ((z : Int) == z')) == true) then .pointer (some ⟨(V.heap.size + 1), 2, none⟩) else undef) := ⟨_, rfl⟩
  obtain ⟨x21, H21⟩ : ∃ x : Value, Hid (x = bif ((((a : Int) == a') && ((z : Int) == z')) == true) then .int .i32 c' else undef) := ⟨_, rfl⟩
  obtain ⟨x22, H22⟩ : ∃ x : Value, Hid (x = bif ((((a : Int) == a') && ((z : Int) == z')) == true) then .bool ((c : Int) == c') else undef) := ⟨_, rfl⟩
  obtain ⟨x23, H23⟩ : ∃ x : Value, Hid (x = .bool ((((a : Int) == a') && ((z : Int) == z')) && ((c : Int) == c'))) := ⟨_, rfl⟩
  obtain ⟨x24, H24⟩ : ∃ x : Value, Hid (x = .bool ((((a : Int) == a') && ((z : Int) == z')) && ((c : Int) == c'))) := ⟨_, rfl⟩
  obtain ⟨x25, H25⟩ : ∃ x : Value, Hid (x = bif (((((a : Int) == a') && ((z : Int) == z')) && ((c : Int) == c')) == true) then .pointer (some ⟨V.heap.size, 3, none⟩) else undef) := ⟨_, rfl⟩
  obtain ⟨x26, H26⟩ : ∃ x : Value, Hid (x = bif (((((a : Int) == a') && ((z : Int) == z')) && ((c : Int) == c')) == true) then .agg cs.toArray else undef) := ⟨_, rfl⟩
  obtain ⟨x27, H27⟩ : ∃ x : Value, Hid (x = bif (((((a : Int) == a') && ((z : Int) == z')) && ((c : Int) == c')) == true) then .pointer (some ⟨(V.heap.size + 1), 3, none⟩) else undef) := ⟨_, rfl⟩
  obtain ⟨x28, H28⟩ : ∃ x : Value, Hid (x = bif (((((a : Int) == a') && ((z : Int) == z')) && ((c : Int) == c')) == true) then .agg ds.toArray else undef) := ⟨_, rfl⟩
  obtain ⟨x29, H29⟩ : ∃ x : Value, Hid (x = bif (((((a : Int) == a') && ((z : Int) == z')) && ((c : Int) == c')) == true) then .bool bx else undef) := ⟨_, rfl⟩
  obtain ⟨x30, H30⟩ : ∃ x : Value, Hid (x = .bool (((((a : Int) == a') && ((z : Int) == z')) && ((c : Int) == c')) && bx)) := ⟨_, rfl⟩
  refine wpList_seq (w0 := w1) (.inl x5 ::
    .inl x6 ::
    .inl x7 ::
    .inl x8 ::
    .inl x9 ::
    .inl x10 ::
    .inl x11 ::
    .inl x12 ::
    .inl x13 ::
    .inl x14 ::
    .inl x15 ::
    .inl x16 ::
    .inl x17 ::
    .inl x18 ::
    .inl x19 ::
    .inl x20 ::
    .inl x21 ::
    .inl x22 ::
    .inl x23 ::
    .inl x24 ::
    .inl x25 ::
    .inl x26 ::
    .inl x27 ::
    .inl x28 ::
    .inl x29 ::
    .inl x30 ::
    .inl (.bool (((((a : Int) == a') && ((z : Int) == z')) && ((c : Int) == c')) && bx)) :: []) rfl (by as_aux_lemma => kernel_rfl) (by as_aux_lemma => kernel_rfl) (nomono rfl) ⟨fun ac W hb hold hdep K hK => op_u (u := .pointer (some ⟨V.heap.size, 0, none⟩)) rfl (r_field 35 _ 0 rfl (eval_tmp ((hold 2 (free_slot (by as_aux_lemma => kernel_rfl))).trans rfl)) Tryz.underlying35 rfl (n := 0) isz_21 rfl) (hK _ _ H5.out.symm (Below.refl _ _)),
    fun ac W hb hold hdep K hK => op_u (u := .int .i32 a) rfl (r_load 21 _ rfl (eval_tmp ((dep_val (hdep 0 5 (by decide) rfl)).trans (congrArg some H5.out))) (blk_cell (HS.out.below hb HS.out.lt) 0 rfl) Tryz.underlying21 rfl) (hK _ _ H6.out.symm (Below.refl _ _)),
    fun ac W hb hold hdep K hK => op_u (u := .pointer (some ⟨(V.heap.size + 1), 0, none⟩)) rfl (r_field 35 _ 0 rfl (eval_tmp ((hold 3 (free_slot (by as_aux_lemma => kernel_rfl))).trans rfl)) Tryz.underlying35 rfl (n := 0) isz_21 rfl) (hK _ _ H7.out.symm (Below.refl _ _)),
    fun ac W hb hold hdep K hK => op_u (u := .int .i32 a') rfl (r_load 21 _ rfl (eval_tmp ((dep_val (hdep 2 7 (by decide) rfl)).trans (congrArg some H7.out))) (blk_cell (HT.out.below hb HT.out.lt) 0 rfl) Tryz.underlying21 rfl) (hK _ _ H8.out.symm (Below.refl _ _)),
    fun ac W hb hold hdep K hK => op_u (u := .bool ((a : Int) == a')) rfl (r_ieq 21 _ _ _ rfl (eval_tmp ((dep_val (hdep 1 6 (by decide) rfl)).trans (congrArg some H6.out))) (eval_tmp ((dep_val (hdep 3 8 (by decide) rfl)).trans (congrArg some H8.out)))) (hK _ _ H9.out.symm (Below.refl _ _)),
    fun ac W hb hold hdep K hK => op_u (u := .bool ((a : Int) == a')) rfl (r_move _ rfl (eval_tmp ((dep_val (hdep 4 9 (by decide) rfl)).trans (congrArg some H9.out)))) (hK _ _ H10.out.symm (Below.refl _ _)),
    fun ac W hb hold hdep K hK => op_g (u := .pointer (some ⟨V.heap.size, 1, none⟩)) (want_all rfl rfl ((dep_val (hdep 5 10 (by decide) rfl)).trans (congrArg some H10.out))) (fun hc => r_field 35 _ 1 rfl (eval_tmp ((hold 2 (free_slot (by as_aux_lemma => kernel_rfl))).trans rfl)) Tryz.underlying35 rfl (n := 0) isz_2 rfl) (hK _ _ H11.out.symm (Below.refl _ _)),
    fun ac W hb hold hdep K hK => op_g (u := .int .i64 z) (want_all rfl rfl ((dep_val (hdep 5 10 (by decide) rfl)).trans (congrArg some H10.out))) (fun hc => r_load 2 _ rfl (eval_if ((dep_val (hdep 6 11 (by decide) rfl)).trans (congrArg some H11.out)) hc) (blk_cell (HS.out.below hb HS.out.lt) 1 rfl) Tryz.underlying2 rfl) (hK _ _ H12.out.symm (Below.refl _ _)),
    fun ac W hb hold hdep K hK => op_g (u := .pointer (some ⟨(V.heap.size + 1), 1, none⟩)) (want_all rfl rfl ((dep_val (hdep 5 10 (by decide) rfl)).trans (congrArg some H10.out))) (fun hc => r_field 35 _ 1 rfl (eval_tmp ((hold 3 (free_slot (by as_aux_lemma => kernel_rfl))).trans rfl)) Tryz.underlying35 rfl (n := 0) isz_2 rfl) (hK _ _ H13.out.symm (Below.refl _ _)),
    fun ac W hb hold hdep K hK => op_g (u := .int .i64 z') (want_all rfl rfl ((dep_val (hdep 5 10 (by decide) rfl)).trans (congrArg some H10.out))) (fun hc => r_load 2 _ rfl (eval_if ((dep_val (hdep 8 13 (by decide) rfl)).trans (congrArg some H13.out)) hc) (blk_cell (HT.out.below hb HT.out.lt) 1 rfl) Tryz.underlying2 rfl) (hK _ _ H14.out.symm (Below.refl _ _)),
    fun ac W hb hold hdep K hK => op_g (u := .bool ((z : Int) == z')) (want_all rfl rfl ((dep_val (hdep 5 10 (by decide) rfl)).trans (congrArg some H10.out))) (fun hc => r_ieq 2 _ _ _ rfl (eval_if ((dep_val (hdep 7 12 (by decide) rfl)).trans (congrArg some H12.out)) hc) (eval_if ((dep_val (hdep 9 14 (by decide) rfl)).trans (congrArg some H14.out)) hc)) (hK _ _ H15.out.symm (Below.refl _ _)),
    fun ac W hb hold hdep K hK => op_u (u := .bool (((a : Int) == a') && ((z : Int) == z'))) rfl (r_and _ _ _ rfl (eval_tmp ((dep_val (hdep 5 10 (by decide) rfl)).trans (congrArg some H10.out))) (fun hb => eval_if ((dep_val (hdep 10 15 (by decide) rfl)).trans (congrArg some H15.out)) (by simp [hb])) rfl) (hK _ _ H16.out.symm (Below.refl _ _)),
    fun ac W hb hold hdep K hK => op_u (u := .bool (((a : Int) == a') && ((z : Int) == z'))) rfl (r_move _ rfl (eval_tmp ((dep_val (hdep 11 16 (by decide) rfl)).trans (congrArg some H16.out)))) (hK _ _ H17.out.symm (Below.refl _ _)),
    fun ac W hb hold hdep K hK => op_g (u := .pointer (some ⟨V.heap.size, 2, none⟩)) (want_all rfl rfl ((dep_val (hdep 12 17 (by decide) rfl)).trans (congrArg some H17.out))) (fun hc => r_field 35 _ 2 rfl (eval_tmp ((hold 2 (free_slot (by as_aux_lemma => kernel_rfl))).trans rfl)) Tryz.underlying35 rfl (n := 0) isz_22 rfl) (hK _ _ H18.out.symm (Below.refl _ _)),
    fun ac W hb hold hdep K hK => op_g (u := .int .i32 c) (want_all rfl rfl ((dep_val (hdep 12 17 (by decide) rfl)).trans (congrArg some H17.out))) (fun hc => r_load 22 _ rfl (eval_if ((dep_val (hdep 13 18 (by decide) rfl)).trans (congrArg some H18.out)) hc) (blk_cell (HS.out.below hb HS.out.lt) 2 rfl) Tryz.underlying22 rfl) (hK _ _ H19.out.symm (Below.refl _ _)),
    fun ac W hb hold hdep K hK => op_g (u := .pointer (some ⟨(V.heap.size + 1), 2, none⟩)) (want_all rfl rfl ((dep_val (hdep 12 17 (by decide) rfl)).trans (congrArg some H17.out))) (fun hc => r_field 35 _ 2 rfl (eval_tmp ((hold 3 (free_slot (by as_aux_lemma => kernel_rfl))).trans rfl)) Tryz.underlying35 rfl (n := 0) isz_22 rfl) (hK _ _ H20.out.symm (Below.refl _ _)),
    fun ac W hb hold hdep K hK => op_g (u := .int .i32 c') (want_all rfl rfl ((dep_val (hdep 12 17 (by decide) rfl)).trans (congrArg some H17.out))) (fun hc => r_load 22 _ rfl (eval_if ((dep_val (hdep 15 20 (by decide) rfl)).trans (congrArg some H20.out)) hc) (blk_cell (HT.out.below hb HT.out.lt) 2 rfl) Tryz.underlying22 rfl) (hK _ _ H21.out.symm (Below.refl _ _)),
    fun ac W hb hold hdep K hK => op_g (u := .bool ((c : Int) == c')) (want_all rfl rfl ((dep_val (hdep 12 17 (by decide) rfl)).trans (congrArg some H17.out))) (fun hc => r_ieq 22 _ _ _ rfl (eval_if ((dep_val (hdep 14 19 (by decide) rfl)).trans (congrArg some H19.out)) hc) (eval_if ((dep_val (hdep 16 21 (by decide) rfl)).trans (congrArg some H21.out)) hc)) (hK _ _ H22.out.symm (Below.refl _ _)),
    fun ac W hb hold hdep K hK => op_u (u := .bool ((((a : Int) == a') && ((z : Int) == z')) && ((c : Int) == c'))) rfl (r_and _ _ _ rfl (eval_tmp ((dep_val (hdep 12 17 (by decide) rfl)).trans (congrArg some H17.out))) (fun hb => eval_if ((dep_val (hdep 17 22 (by decide) rfl)).trans (congrArg some H22.out)) (by simp [hb])) rfl) (hK _ _ H23.out.symm (Below.refl _ _)),
    fun ac W hb hold hdep K hK => op_u (u := .bool ((((a : Int) == a') && ((z : Int) == z')) && ((c : Int) == c'))) rfl (r_move _ rfl (eval_tmp ((dep_val (hdep 18 23 (by decide) rfl)).trans (congrArg some H23.out)))) (hK _ _ H24.out.symm (Below.refl _ _)),
    fun ac W hb hold hdep K hK => op_g (u := .pointer (some ⟨V.heap.size, 3, none⟩)) (want_all rfl rfl ((dep_val (hdep 19 24 (by decide) rfl)).trans (congrArg some H24.out))) (fun hc => r_field 35 _ 3 rfl (eval_tmp ((hold 2 (free_slot (by as_aux_lemma => kernel_rfl))).trans rfl)) Tryz.underlying35 rfl (n := 21) isz_33 rfl) (hK _ _ H25.out.symm (Below.refl _ _)),
    fun ac W hb hold hdep K hK => op_g (u := .agg cs.toArray) (want_all rfl rfl ((dep_val (hdep 19 24 (by decide) rfl)).trans (congrArg some H24.out))) (fun hc => r_load_row 33 _ rfl (eval_if ((dep_val (hdep 20 25 (by decide) rfl)).trans (congrArg some H25.out)) hc) cs (rp_row (HS.out.below hb HS.out.lt)) Tryz.underlying33 rfl HI0.out) (hK _ _ H26.out.symm (Below.refl _ _)),
    fun ac W hb hold hdep K hK => op_g (u := .pointer (some ⟨(V.heap.size + 1), 3, none⟩)) (want_all rfl rfl ((dep_val (hdep 19 24 (by decide) rfl)).trans (congrArg some H24.out))) (fun hc => r_field 35 _ 3 rfl (eval_tmp ((hold 3 (free_slot (by as_aux_lemma => kernel_rfl))).trans rfl)) Tryz.underlying35 rfl (n := 21) isz_33 rfl) (hK _ _ H27.out.symm (Below.refl _ _)),
    fun ac W hb hold hdep K hK => op_g (u := .agg ds.toArray) (want_all rfl rfl ((dep_val (hdep 19 24 (by decide) rfl)).trans (congrArg some H24.out))) (fun hc => r_load_row 33 _ rfl (eval_if ((dep_val (hdep 22 27 (by decide) rfl)).trans (congrArg some H27.out)) hc) ds (rp_row (HT.out.below hb HT.out.lt)) Tryz.underlying33 rfl HI1.out) (hK _ _ H28.out.symm (Below.refl _ _)),
    fun ac W hb hold hdep K hK => op_call (u := .bool bx) (want_all rfl rfl ((dep_val (hdep 19 24 (by decide) rfl)).trans (congrArg some H24.out))) 46 _ _ rfl (#[.agg cs.toArray, .agg ds.toArray]) (fun hc => by simp [(eval_if ((dep_val (hdep 21 26 (by decide) rfl)).trans (congrArg some H26.out)) hc), (eval_if ((dep_val (hdep 23 28 (by decide) rfl)).trans (congrArg some H28.out)) hc)]) Tryz.func46 (by as_aux_lemma => kernel_rfl) (by as_aux_lemma => kernel_rfl) (fun hc => HC.out W (HB1.out.trans (hb.mono HB1.out.size))) (fun w' hbl => hK _ _ H29.out.symm hbl),
    fun ac W hb hold hdep K hK => op_u (u := .bool (((((a : Int) == a') && ((z : Int) == z')) && ((c : Int) == c')) && bx)) rfl (r_and _ _ _ rfl (eval_tmp ((dep_val (hdep 19 24 (by decide) rfl)).trans (congrArg some H24.out))) (fun hb => eval_if ((dep_val (hdep 24 29 (by decide) rfl)).trans (congrArg some H29.out)) (by simp [hb])) rfl) (hK _ _ H30.out.symm (Below.refl _ _)),
    fun ac W hb hold hdep K hK => op_u (u := .bool (((((a : Int) == a') && ((z : Int) == z')) && ((c : Int) == c')) && bx)) rfl (r_assign _ rfl (eval_tmp ((dep_val (hdep 25 30 (by decide) rfl)).trans (congrArg some H30.out)))) (hK _ _ rfl (Below.refl _ _)), trivial⟩ ?_
  intro w2 hb2
  simp only [Fin, Act.put, List.setIfInBounds_toArray, List.set_cons_zero, List.set_cons_succ]
  clear H5 H6 H7 H8 H9 H10 H11 H12 H13 H14 H15 H16 H17 H18 H19 H20 H21 H22 H23 H24 H25 H26 H27 H28 H29 H30
  have HB2 := hidT HB1 hb2
  clear hb2
  go_wp2
  go_ret
  exact ⟨rfl, HB2.out⟩
def zF : ResF := ⟨0, 0, ByteArray.empty, ⟨0, 0, 0, 0, 0, 0, 0, 0, 0, 0, 0⟩, [], [], [], 0, 0, 0, []⟩
theorem zAt (W : World) : At W none (.mk zF []) resZero.toList :=
  .mk zF ⟨none, 0, 0⟩ ⟨none, 0, 0⟩ ⟨none, 0, 0⟩ ⟨none, 0, 0⟩ ⟨none, 0, 0⟩ [] ⟨⟨rfl, rfl, rfl, rfl, rfl⟩, ⟨rfl, rfl, rfl, rfl, rfl, rfl, rfl, rfl, rfl, rfl, rfl⟩, Nat.zero_le _, (fun _ h => nomatch h), (fun _ h => nomatch h), fun _ h => nomatch h⟩
    (SlAt.zero W _ _ _) (SlAt.zero W _ _ _) (SlAt.zero W _ _ _) (SlAt.zero W _ _ _) (SlAt.zero W _ _ _) (fun _ h => nomatch h)
theorem run_build_rep (a z c : Int) (w : World) : (Instr.build 35 #[(0, .int .i32 a), (1, .int .i64 z), (2, .int .i32 c)]).run Tryz.prog w = .ok (.agg (rp a z c resZero.toList).toArray) w := by kernel_rfl
set_option maxRecDepth 100000 in
theorem failed_any (a z c : Int) (W : World) : Calls Tryz.prog 24 #[.int .i32 a, .int .i64 z, .int .i32 c] W fun e w' => e = .returned (.agg (rp a z c resZero.toList).toArray) ∧ Below W.heap.size W w' := by
  have HRI := Lib.hid ((zAt W).rinfo a z c)
  have HSZ := Lib.hid ((zAt W).rlen a z c)
  have HRO := Lib.hid ((zAt W).rone a z c)
  obtain ⟨cq, hcq⟩ : ∃ v, v = (rp a z c resZero.toList).toArray := ⟨_, rfl⟩
  have HBD : Hid (∀ W, (Instr.build 35 #[(0, .int .i32 a), (1, .int .i64 z), (2, .int .i32 c)]).run Tryz.prog W = .ok (.agg cq) W) := by rw [hcq]; exact run_build_rep a z c
  rw [← hcq] at HRI HSZ HRO ⊢
  clear hcq
  go_enter Tryz.func24, Tryz.ntmps24
  go_wp2_with (first
    | (refine wpList_new rfl 35 rfl zer_rep ?_
       intro old hold
       obtain ⟨w2, hw2⟩ : ∃ w2, W.alloc (.cells old 35) = w2 := ⟨_, rfl⟩
       rw [hw2]
       have HB2 := Lib.hid (newB hw2)
       have HR2 := Lib.hid (newK hw2)
       clear hw2)
    | ((with_reducible refine wpAt 10 ?_)
       refine wpList_bld rfl 35 #[(0, .tmp 7), (1, .tmp 8), (2, .tmp 9)] rfl (.agg cq) (fun W => by simp only [List.map_toArray, List.map_cons, List.map_nil]; exact HBD.out W) ?_)
    | (refine wpList_store_row rfl 35 (.tmp 6) (.tmp 10) rfl W.heap.size _ rfl rfl 35 _ HR2.out HRI.out (by rw [HSZ.out]; exact hold) HRO.out ?_
       generalize hww : World.setRow _ _ _ = wz
       have HGZ : Hid (w2.grownBy wz (some W.heap.size)) := by unfold Hid; rw [← hww]; exact only_setRow' _ _ _
       have HBZ : Hid (Blk wz W.heap.size 35 cq) := by unfold Hid; rw [← hww]; exact cells_setRow HR2.out
       clear hww))
  refine bodyPost_ret (results_cell_row rfl _ _ W.heap.size 35 _ _ _ rfl HBZ.out Tryz.underlying35 rfl HRI.out) rfl ?_
  exact ⟨rfl, HB2.out.grown HGZ.out HB2.out.size (fun k hk => by injection hk with hk; omega)⟩
end Go.Proofs.YtnbaajplelchjaaGreatDoor
