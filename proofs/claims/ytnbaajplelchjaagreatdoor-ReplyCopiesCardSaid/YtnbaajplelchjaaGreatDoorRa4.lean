/- reply.same: are two results the same? (printed by gen_ra4.py) -/
import Derived.Test.YtnbaajplelchjaaGreatDoorRa3
import Derived.Test.YtnbaajplelchjaaGreatDoorLine
set_option linter.unusedVariables false
set_option linter.unusedSimpArgs false
namespace Go.Proofs.YtnbaajplelchjaaGreatDoor
open Go.RowKit

theorem r_aeq {P : Program} {o : Oper} {ρ : Operand → Value} {w : World} (t : TypeId) (x y : Operand) (t' : TypeId) (ho : o.op = .binOp .eql t x y t') {xs ys : Array Value} (hx : ρ x = .agg xs) (hy : ρ y = .agg ys) (hm : P.eqGuardType P.depth t = false) {b : Bool} (hr : (binOp .eql t (.agg xs) (.agg ys)).run P w = .ok (.bool b) w) : (execOp ρ o).run P w = .ok (.value (.bool b)) w := by
  unfold execOp
  simp only [ho, hx, hy, Sem.run_bind, run_eqGuard_agg w .eql t x y xs ys hm, Result.andThen_ok, hr]
  rfl
set_option maxRecDepth 100000 in
theorem stat_eq_b (s0 s1 s2 s3 s4 s5 s6 s7 s8 s9 s10 s0' s1' s2' s3' s4' s5' s6' s7' s8' s9' s10' : Int) (w : World) : (binOp .eql 24 (.agg #[.int .i64 s0, .int .i64 s1, .int .i64 s2, .int .i64 s3, .int .i32 s4, .int .i32 s5, .int .i32 s6, .int .i64 s7, .int .i32 s8, .int .i32 s9, .int .i64 s10]) (.agg #[.int .i64 s0', .int .i64 s1', .int .i64 s2', .int .i64 s3', .int .i32 s4', .int .i32 s5', .int .i32 s6', .int .i64 s7', .int .i32 s8', .int .i32 s9', .int .i64 s10'])).run Tryz.prog w = .ok (.bool (decide (s0 = s0' ∧ s1 = s1' ∧ s2 = s2' ∧ s3 = s3' ∧ s4 = s4' ∧ s5 = s5' ∧ s6 = s6' ∧ s7 = s7' ∧ s8 = s8' ∧ s9 = s9' ∧ s10 = s10'))) w := by
  simp only [go_sem]
  simp [go_sem]
  repeat' split
  all_goals simp_all
def stB (x y : StT) : Bool := decide (x.s0 = y.s0 ∧ x.s1 = y.s1 ∧ x.s2 = y.s2 ∧ x.s3 = y.s3 ∧ x.s4 = y.s4 ∧ x.s5 = y.s5 ∧ x.s6 = y.s6 ∧ x.s7 = y.s7 ∧ x.s8 = y.s8 ∧ x.s9 = y.s9 ∧ x.s10 = y.s10)
theorem stB_iff {x y : StT} : stB x y = true ↔ x = y := by
  obtain ⟨s0, s1, s2, s3, s4, s5, s6, s7, s8, s9, s10⟩ := x
  obtain ⟨r0, r1, r2, r3, r4, r5, r6, r7, r8, r9, r10⟩ := y
  unfold stB
  simp only [decide_eq_true_eq, StT.mk.injEq]
theorem in_row (f : ResF) {d a k i s : Sl} : ∀ j v, f.st.row[j]? = some v → (f.row d a k i s).toArray[3 + j]? = some v := fun j v h => by
  have hj : j < 11 := (List.getElem?_eq_some_iff.1 h).1
  rcases (by omega : j = 0 ∨ j = 1 ∨ j = 2 ∨ j = 3 ∨ j = 4 ∨ j = 5 ∨ j = 6 ∨ j = 7 ∨ j = 8 ∨ j = 9 ∨ j = 10) with rfl | rfl | rfl | rfl | rfl | rfl | rfl | rfl | rfl | rfl | rfl <;> exact h
set_option maxRecDepth 100000 in
set_option maxHeartbeats 8000000 in
theorem same_walk {w : World} {lo lo' : Option Nat} (f g : ResF) (d a k i s d' a' k' i' s' : Sl)
    (hd : SlAt w lo 5 1 1 d f.l.length (bcells f.l)) (ha : SlAt w lo 115 3 40 a f.L.length (aclCells f.L)) (hk : SlAt w lo 9 1 16 k f.K.length (strCells f.K)) (hi : SlAt w lo 113 2 32 i f.I.length (idCells f.I))
    (hd' : SlAt w lo' 5 1 1 d' g.l.length (bcells g.l)) (ha' : SlAt w lo' 115 3 40 a' g.L.length (aclCells g.L)) (hk' : SlAt w lo' 9 1 16 k' g.K.length (strCells g.K)) (hi' : SlAt w lo' 113 2 32 i' g.I.length (idCells g.I))
    (be : Bool) (hE : ∀ W, Below w.heap.size w W → Calls Tryz.prog 130 #[.slice s.A s.n s.c, .slice s'.A s'.n s'.c, .func (.func 70) #[] #[]] W fun e w' => e = .returned (.bool be) ∧ Below W.heap.size W w')
    (b : Bool) (hbb : b = (((((((((((((decide (f.l = g.l) && decide (f.L = g.L)) && decide (f.K = g.K)) && be)) && ((f.t : Int) == g.t)) && ((f.c : Int) == g.c)) && (f.p.toList == g.p.toList)) && stB f.st g.st) && ((f.n : Int) == g.n)) && ((f.id : Int) == g.id)) && ((f.to : Int) == g.to)) && decide (f.I = g.I)))) (cs ds : Array Value) (hcs : cs = (f.row d a k i s).toArray) (hds : ds = (g.row d' a' k' i' s').toArray) :
    Calls Tryz.prog 70 #[.agg cs, .agg ds] w fun e w' => e = .returned (.bool b) ∧ Below w.heap.size w w' := by
  obtain ⟨w1, hw1⟩ : ∃ w1, (w.alloc (.cells cs 33)).alloc (.cells ds 33) = w1 := ⟨_, rfl⟩
  have hb1 : Below w.heap.size w w1 := by rw [← hw1]; exact ((Below.refl _ _).alloc (Nat.le_refl _) _).alloc (by simp) _
  have hS : Blk w1 w.heap.size 33 (f.row d a k i s).toArray := by rw [← hcs, ← hw1]; exact (Blk.new _ _ _).alloc _
  have hT : Blk w1 (w.heap.size + 1) 33 (g.row d' a' k' i' s').toArray := by rw [← hds, ← hw1]; exact Blk.new' (by simp)
  have CD : Hid (∀ W, Below w.heap.size w W → Calls Tryz.prog 127 #[.slice d.A d.n d.c, .slice d'.A d'.n d'.c] W fun e w' => e = .returned (.bool (decide (f.l = g.l))) ∧ Below W.heap.size W w') := fun W hW => bytesEq_any _ _ _ _ _ _ _ _ w.heap.size W (Nat.le_trans (hd.bd (by decide)) (by decide)) (Nat.le_trans (hd'.bd (by decide)) (by decide)) hW.size (hd.reads.below hW) (hd'.reads.below hW)
  generalize decide (f.l = g.l) = ed at CD hbb
  have CA : Hid (∀ W, Below w.heap.size w W → Calls Tryz.prog 128 #[.slice a.A a.n a.c, .slice a'.A a'.n a'.c] W fun e w' => e = .returned (.bool (decide (f.L = g.L))) ∧ Below W.heap.size W w') := fun W hW => aclsEq_any _ _ _ _ _ _ _ _ w.heap.size W (Nat.le_trans (ha.bd (by decide)) (by decide)) (Nat.le_trans (ha'.bd (by decide)) (by decide)) hW.size (ha.reads.below hW) (ha'.reads.below hW)
  generalize decide (f.L = g.L) = ea at CA hbb
  have CK : Hid (∀ W, Below w.heap.size w W → Calls Tryz.prog 129 #[.slice k.A k.n k.c, .slice k'.A k'.n k'.c] W fun e w' => e = .returned (.bool (decide (f.K = g.K))) ∧ Below W.heap.size W w') := fun W hW => strsEq_any _ _ _ _ _ _ _ _ w.heap.size W (Nat.le_trans (hk.bd (by decide)) (by decide)) (Nat.le_trans (hk'.bd (by decide)) (by decide)) hW.size (hk.reads.below hW) (hk'.reads.below hW)
  generalize decide (f.K = g.K) = ek at CK hbb
  have CI : Hid (∀ W, Below w.heap.size w W → Calls Tryz.prog 131 #[.slice i.A i.n i.c, .slice i'.A i'.n i'.c] W fun e w' => e = .returned (.bool (decide (f.I = g.I))) ∧ Below W.heap.size W w') := fun W hW => idsEq_any _ _ _ _ _ _ _ _ w.heap.size W (Nat.le_trans (hi.bd (by decide)) (by decide)) (Nat.le_trans (hi'.bd (by decide)) (by decide)) hW.size (hi.reads.below hW) (hi'.reads.below hW)
  generalize decide (f.I = g.I) = ei at CI hbb
  have CS : Hid (∀ W, (binOp .eql 24 (.agg f.st.row.toArray) (.agg g.st.row.toArray)).run Tryz.prog W = .ok (.bool (stB f.st g.st)) W) := fun W => by
    exact stat_eq_b _ _ _ _ _ _ _ _ _ _ _ _ _ _ _ _ _ _ _ _ _ _ W
  generalize stB f.st g.st = es at CS hbb
  have CE := Lib.hid hE
  have HBB := Lib.hid hbb
  have HS := Lib.hid hS
  have HT := Lib.hid hT
  have HB1 := Lib.hid hb1
  clear hb1 hS hT hcs hds hd ha hk hi hd' ha' hk' hi' hE hbb
  go_enter Tryz.func70, Tryz.ntmps70
  go_upto_region 1 with (fail)
  refine wp_region_lit ?_
  obtain ⟨x8, H8⟩ : ∃ x : Value, Hid (x = .pointer (some ⟨w.heap.size, 14, none⟩)) := ⟨_, rfl⟩
  obtain ⟨x9, H9⟩ : ∃ x : Value, Hid (x = .slice d.A d.n d.c) := ⟨_, rfl⟩
  obtain ⟨x10, H10⟩ : ∃ x : Value, Hid (x = .pointer (some ⟨(w.heap.size + 1), 14, none⟩)) := ⟨_, rfl⟩
  obtain ⟨x11, H11⟩ : ∃ x : Value, Hid (x = .slice d'.A d'.n d'.c) := ⟨_, rfl⟩
  obtain ⟨x12, H12⟩ : ∃ x : Value, Hid (x = .bool ed) := ⟨_, rfl⟩
  obtain ⟨x13, H13⟩ : ∃ x : Value, Hid (x = .bool ed) := ⟨_, rfl⟩
  obtain ⟨x14, H14⟩ : ∃ x : Value, Hid (x = bif (ed == true) then .pointer (some ⟨w.heap.size, 15, none⟩) else undef) := ⟨_, rfl⟩
  obtain ⟨x15, H15⟩ : ∃ x : Value, Hid (x = bif (ed == true) then .slice a.A a.n a.c else undef) := ⟨_, rfl⟩
  obtain ⟨x16, H16⟩ : ∃ x : Value, Hid (x = bif (ed == true) then .pointer (some ⟨(w.heap.size + 1), 15, none⟩) else undef) := ⟨_, rfl⟩
  obtain ⟨x17, H17⟩ : ∃ x : Value, Hid (x = bif (ed == true) then .slice a'.A a'.n a'.c else undef) := ⟨_, rfl⟩
  obtain ⟨x18, H18⟩ : ∃ x : Value, Hid (x = bif (ed == true) then .bool ea else undef) := ⟨_, rfl⟩
  obtain ⟨x19, H19⟩ : ∃ x : Value, Hid (x = .bool (ed && ea)) := ⟨_, rfl⟩
  obtain ⟨x20, H20⟩ : ∃ x : Value, Hid (x = .bool (ed && ea)) := ⟨_, rfl⟩
  obtain ⟨x21, H21⟩ : ∃ x : Value, Hid (x = bif ((ed && ea) == true) then .pointer (some ⟨w.heap.size, 16, none⟩) else undef) := ⟨_, rfl⟩
  obtain ⟨x22, H22⟩ : ∃ x : Value, Hid (x = bif ((ed && ea) == true) then .slice k.A k.n k.c else undef) := ⟨_, rfl⟩
  obtain ⟨x23, H23⟩ : ∃ x : Value, Hid (x = bif ((ed && ea) == true) then .pointer (some ⟨(w.heap.size + 1), 16, none⟩) else undef) := ⟨_, rfl⟩
  obtain ⟨x24, H24⟩ : ∃ x : Value, Hid (x = bif ((ed && ea) == true) then .slice k'.A k'.n k'.c else undef) := ⟨_, rfl⟩
  obtain ⟨x25, H25⟩ : ∃ x : Value, Hid (x = bif ((ed && ea) == true) then .bool ek else undef) := ⟨_, rfl⟩
  obtain ⟨x26, H26⟩ : ∃ x : Value, Hid (x = .bool ((ed && ea) && ek)) := ⟨_, rfl⟩
  obtain ⟨x27, H27⟩ : ∃ x : Value, Hid (x = .bool ((ed && ea) && ek)) := ⟨_, rfl⟩
  obtain ⟨x28, H28⟩ : ∃ x : Value, Hid (x = bif (((ed && ea) && ek) == true) then .pointer (some ⟨w.heap.size, 21, none⟩) else undef) := ⟨_, rfl⟩
  obtain ⟨x29, H29⟩ : ∃ x : Value, Hid (x = bif (((ed && ea) && ek) == true) then .slice s.A s.n s.c else undef) := ⟨_, rfl⟩
  obtain ⟨x30, H30⟩ : ∃ x : Value, Hid (x = bif (((ed && ea) && ek) == true) then .pointer (some ⟨(w.heap.size + 1), 21, none⟩) else undef) := ⟨_, rfl⟩
  obtain ⟨x31, H31⟩ : ∃ x : Value, Hid (x = bif (((ed && ea) && ek) == true) then .slice s'.A s'.n s'.c else undef) := ⟨_, rfl⟩
  obtain ⟨x32, H32⟩ : ∃ x : Value, Hid (x = bif (((ed && ea) && ek) == true) then .bool be else undef) := ⟨_, rfl⟩
  obtain ⟨x33, H33⟩ : ∃ x : Value, Hid (x = .bool (((ed && ea) && ek) && be)) := ⟨_, rfl⟩
  refine wpList_seq (w0 := w1) (.inl x8 ::
    .inl x9 ::
    .inl x10 ::
    .inl x11 ::
    .inl x12 ::
    .inl x13 ::
    .inl x14 ::
    .inl x15 ::
    .inl x16 ::
    .inl x17 ::
    .inl x18 ::
    .inl x19 ::
    .inl x20 ::
    .inl x21 ::
    .inl x22 ::
    .inl x23 ::
    .inl x24 ::
    .inl x25 ::
    .inl x26 ::
    .inl x27 ::
    .inl x28 ::
    .inl x29 ::
    .inl x30 ::
    .inl x31 ::
    .inl x32 ::
    .inl x33 ::
    .inl (.bool (((ed && ea) && ek) && be)) :: []) rfl (by as_aux_lemma => kernel_rfl) (by as_aux_lemma => kernel_rfl) (nomono rfl) ⟨fun ac W hb hold hdep K hK => op_u (u := .pointer (some ⟨w.heap.size, 14, none⟩)) rfl (r_field 33 _ 4 rfl (eval_tmp ((hold 2 (free_slot (by as_aux_lemma => kernel_rfl))).trans rfl)) Tryz.underlying33 rfl (n := 0) isz_25 rfl) (hK _ _ H8.out.symm (Below.refl _ _)),
    fun ac W hb hold hdep K hK => op_u (u := .slice d.A d.n d.c) rfl (r_load 25 _ rfl (eval_tmp ((dep_val (hdep 0 8 (by decide) rfl)).trans (congrArg some H8.out))) (blk_cell (HS.out.below hb HS.out.lt) 14 rfl) Tryz.underlying25 rfl) (hK _ _ H9.out.symm (Below.refl _ _)),
    fun ac W hb hold hdep K hK => op_u (u := .pointer (some ⟨(w.heap.size + 1), 14, none⟩)) rfl (r_field 33 _ 4 rfl (eval_tmp ((hold 3 (free_slot (by as_aux_lemma => kernel_rfl))).trans rfl)) Tryz.underlying33 rfl (n := 0) isz_25 rfl) (hK _ _ H10.out.symm (Below.refl _ _)),
    fun ac W hb hold hdep K hK => op_u (u := .slice d'.A d'.n d'.c) rfl (r_load 25 _ rfl (eval_tmp ((dep_val (hdep 2 10 (by decide) rfl)).trans (congrArg some H10.out))) (blk_cell (HT.out.below hb HT.out.lt) 14 rfl) Tryz.underlying25 rfl) (hK _ _ H11.out.symm (Below.refl _ _)),
    fun ac W hb hold hdep K hK => op_call (u := .bool ed) (c := true) (want_free rfl) 127 _ _ rfl (#[.slice d.A d.n d.c, .slice d'.A d'.n d'.c]) (fun hc => by simp [(eval_tmp ((dep_val (hdep 1 9 (by decide) rfl)).trans (congrArg some H9.out))), (eval_tmp ((dep_val (hdep 3 11 (by decide) rfl)).trans (congrArg some H11.out)))]) Tryz.func127 (by as_aux_lemma => kernel_rfl) (by as_aux_lemma => kernel_rfl) (fun hc => CD.out W (HB1.out.trans (hb.mono HB1.out.size))) (fun w' hbl => hK _ _ H12.out.symm hbl),
    fun ac W hb hold hdep K hK => op_u (u := .bool ed) rfl (r_move _ rfl (eval_tmp ((dep_val (hdep 4 12 (by decide) rfl)).trans (congrArg some H12.out)))) (hK _ _ H13.out.symm (Below.refl _ _)),
    fun ac W hb hold hdep K hK => op_g (u := .pointer (some ⟨w.heap.size, 15, none⟩)) (want_all rfl rfl ((dep_val (hdep 5 13 (by decide) rfl)).trans (congrArg some H13.out))) (fun hc => r_field 33 _ 5 rfl (eval_tmp ((hold 2 (free_slot (by as_aux_lemma => kernel_rfl))).trans rfl)) Tryz.underlying33 rfl (n := 0) isz_26 rfl) (hK _ _ H14.out.symm (Below.refl _ _)),
    fun ac W hb hold hdep K hK => op_g (u := .slice a.A a.n a.c) (want_all rfl rfl ((dep_val (hdep 5 13 (by decide) rfl)).trans (congrArg some H13.out))) (fun hc => r_load 26 _ rfl (eval_if ((dep_val (hdep 6 14 (by decide) rfl)).trans (congrArg some H14.out)) hc) (blk_cell (HS.out.below hb HS.out.lt) 15 rfl) Tryz.underlying26 rfl) (hK _ _ H15.out.symm (Below.refl _ _)),
    fun ac W hb hold hdep K hK => op_g (u := .pointer (some ⟨(w.heap.size + 1), 15, none⟩)) (want_all rfl rfl ((dep_val (hdep 5 13 (by decide) rfl)).trans (congrArg some H13.out))) (fun hc => r_field 33 _ 5 rfl (eval_tmp ((hold 3 (free_slot (by as_aux_lemma => kernel_rfl))).trans rfl)) Tryz.underlying33 rfl (n := 0) isz_26 rfl) (hK _ _ H16.out.symm (Below.refl _ _)),
    fun ac W hb hold hdep K hK => op_g (u := .slice a'.A a'.n a'.c) (want_all rfl rfl ((dep_val (hdep 5 13 (by decide) rfl)).trans (congrArg some H13.out))) (fun hc => r_load 26 _ rfl (eval_if ((dep_val (hdep 8 16 (by decide) rfl)).trans (congrArg some H16.out)) hc) (blk_cell (HT.out.below hb HT.out.lt) 15 rfl) Tryz.underlying26 rfl) (hK _ _ H17.out.symm (Below.refl _ _)),
    fun ac W hb hold hdep K hK => op_call (u := .bool ea) (want_all rfl rfl ((dep_val (hdep 5 13 (by decide) rfl)).trans (congrArg some H13.out))) 128 _ _ rfl (#[.slice a.A a.n a.c, .slice a'.A a'.n a'.c]) (fun hc => by simp [(eval_if ((dep_val (hdep 7 15 (by decide) rfl)).trans (congrArg some H15.out)) hc), (eval_if ((dep_val (hdep 9 17 (by decide) rfl)).trans (congrArg some H17.out)) hc)]) Tryz.func128 (by as_aux_lemma => kernel_rfl) (by as_aux_lemma => kernel_rfl) (fun hc => CA.out W (HB1.out.trans (hb.mono HB1.out.size))) (fun w' hbl => hK _ _ H18.out.symm hbl),
    fun ac W hb hold hdep K hK => op_u (u := .bool (ed && ea)) rfl (r_and _ _ _ rfl (eval_tmp ((dep_val (hdep 5 13 (by decide) rfl)).trans (congrArg some H13.out))) (fun hb => eval_if ((dep_val (hdep 10 18 (by decide) rfl)).trans (congrArg some H18.out)) (by simp [hb])) rfl) (hK _ _ H19.out.symm (Below.refl _ _)),
    fun ac W hb hold hdep K hK => op_u (u := .bool (ed && ea)) rfl (r_move _ rfl (eval_tmp ((dep_val (hdep 11 19 (by decide) rfl)).trans (congrArg some H19.out)))) (hK _ _ H20.out.symm (Below.refl _ _)),
    fun ac W hb hold hdep K hK => op_g (u := .pointer (some ⟨w.heap.size, 16, none⟩)) (want_all rfl rfl ((dep_val (hdep 12 20 (by decide) rfl)).trans (congrArg some H20.out))) (fun hc => r_field 33 _ 6 rfl (eval_tmp ((hold 2 (free_slot (by as_aux_lemma => kernel_rfl))).trans rfl)) Tryz.underlying33 rfl (n := 0) isz_27 rfl) (hK _ _ H21.out.symm (Below.refl _ _)),
    fun ac W hb hold hdep K hK => op_g (u := .slice k.A k.n k.c) (want_all rfl rfl ((dep_val (hdep 12 20 (by decide) rfl)).trans (congrArg some H20.out))) (fun hc => r_load 27 _ rfl (eval_if ((dep_val (hdep 13 21 (by decide) rfl)).trans (congrArg some H21.out)) hc) (blk_cell (HS.out.below hb HS.out.lt) 16 rfl) Tryz.underlying27 rfl) (hK _ _ H22.out.symm (Below.refl _ _)),
    fun ac W hb hold hdep K hK => op_g (u := .pointer (some ⟨(w.heap.size + 1), 16, none⟩)) (want_all rfl rfl ((dep_val (hdep 12 20 (by decide) rfl)).trans (congrArg some H20.out))) (fun hc => r_field 33 _ 6 rfl (eval_tmp ((hold 3 (free_slot (by as_aux_lemma => kernel_rfl))).trans rfl)) Tryz.underlying33 rfl (n := 0) isz_27 rfl) (hK _ _ H23.out.symm (Below.refl _ _)),
    fun ac W hb hold hdep K hK => op_g (u := .slice k'.A k'.n k'.c) (want_all rfl rfl ((dep_val (hdep 12 20 (by decide) rfl)).trans (congrArg some H20.out))) (fun hc => r_load 27 _ rfl (eval_if ((dep_val (hdep 15 23 (by decide) rfl)).trans (congrArg some H23.out)) hc) (blk_cell (HT.out.below hb HT.out.lt) 16 rfl) Tryz.underlying27 rfl) (hK _ _ H24.out.symm (Below.refl _ _)),
    fun ac W hb hold hdep K hK => op_call (u := .bool ek) (want_all rfl rfl ((dep_val (hdep 12 20 (by decide) rfl)).trans (congrArg some H20.out))) 129 _ _ rfl (#[.slice k.A k.n k.c, .slice k'.A k'.n k'.c]) (fun hc => by simp [(eval_if ((dep_val (hdep 14 22 (by decide) rfl)).trans (congrArg some H22.out)) hc), (eval_if ((dep_val (hdep 16 24 (by decide) rfl)).trans (congrArg some H24.out)) hc)]) Tryz.func129 (by as_aux_lemma => kernel_rfl) (by as_aux_lemma => kernel_rfl) (fun hc => CK.out W (HB1.out.trans (hb.mono HB1.out.size))) (fun w' hbl => hK _ _ H25.out.symm hbl),
    fun ac W hb hold hdep K hK => op_u (u := .bool ((ed && ea) && ek)) rfl (r_and _ _ _ rfl (eval_tmp ((dep_val (hdep 12 20 (by decide) rfl)).trans (congrArg some H20.out))) (fun hb => eval_if ((dep_val (hdep 17 25 (by decide) rfl)).trans (congrArg some H25.out)) (by simp [hb])) rfl) (hK _ _ H26.out.symm (Below.refl _ _)),
    fun ac W hb hold hdep K hK => op_u (u := .bool ((ed && ea) && ek)) rfl (r_move _ rfl (eval_tmp ((dep_val (hdep 18 26 (by decide) rfl)).trans (congrArg some H26.out)))) (hK _ _ H27.out.symm (Below.refl _ _)),
    fun ac W hb hold hdep K hK => op_g (u := .pointer (some ⟨w.heap.size, 21, none⟩)) (want_all rfl rfl ((dep_val (hdep 19 27 (by decide) rfl)).trans (congrArg some H27.out))) (fun hc => r_field 33 _ 9 rfl (eval_tmp ((hold 2 (free_slot (by as_aux_lemma => kernel_rfl))).trans rfl)) Tryz.underlying33 rfl (n := 0) isz_31 rfl) (hK _ _ H28.out.symm (Below.refl _ _)),
    fun ac W hb hold hdep K hK => op_g (u := .slice s.A s.n s.c) (want_all rfl rfl ((dep_val (hdep 19 27 (by decide) rfl)).trans (congrArg some H27.out))) (fun hc => r_load 31 _ rfl (eval_if ((dep_val (hdep 20 28 (by decide) rfl)).trans (congrArg some H28.out)) hc) (blk_cell (HS.out.below hb HS.out.lt) 21 rfl) Tryz.underlying31 rfl) (hK _ _ H29.out.symm (Below.refl _ _)),
    fun ac W hb hold hdep K hK => op_g (u := .pointer (some ⟨(w.heap.size + 1), 21, none⟩)) (want_all rfl rfl ((dep_val (hdep 19 27 (by decide) rfl)).trans (congrArg some H27.out))) (fun hc => r_field 33 _ 9 rfl (eval_tmp ((hold 3 (free_slot (by as_aux_lemma => kernel_rfl))).trans rfl)) Tryz.underlying33 rfl (n := 0) isz_31 rfl) (hK _ _ H30.out.symm (Below.refl _ _)),
    fun ac W hb hold hdep K hK => op_g (u := .slice s'.A s'.n s'.c) (want_all rfl rfl ((dep_val (hdep 19 27 (by decide) rfl)).trans (congrArg some H27.out))) (fun hc => r_load 31 _ rfl (eval_if ((dep_val (hdep 22 30 (by decide) rfl)).trans (congrArg some H30.out)) hc) (blk_cell (HT.out.below hb HT.out.lt) 21 rfl) Tryz.underlying31 rfl) (hK _ _ H31.out.symm (Below.refl _ _)),
    fun ac W hb hold hdep K hK => op_call (u := .bool be) (want_all rfl rfl ((dep_val (hdep 19 27 (by decide) rfl)).trans (congrArg some H27.out))) 130 _ _ rfl (#[.slice s.A s.n s.c, .slice s'.A s'.n s'.c, .func (.func 70) #[] #[]]) (fun hc => by simp [(eval_if ((dep_val (hdep 21 29 (by decide) rfl)).trans (congrArg some H29.out)) hc), (eval_if ((dep_val (hdep 23 31 (by decide) rfl)).trans (congrArg some H31.out)) hc), (show ac.eval (.func 70) = .func (.func 70) #[] #[] from rfl)]) Tryz.func130 (by as_aux_lemma => kernel_rfl) (by as_aux_lemma => kernel_rfl) (fun hc => CE.out W (HB1.out.trans (hb.mono HB1.out.size))) (fun w' hbl => hK _ _ H32.out.symm hbl),
    fun ac W hb hold hdep K hK => op_u (u := .bool (((ed && ea) && ek) && be)) rfl (r_and _ _ _ rfl (eval_tmp ((dep_val (hdep 19 27 (by decide) rfl)).trans (congrArg some H27.out))) (fun hb => eval_if ((dep_val (hdep 24 32 (by decide) rfl)).trans (congrArg some H32.out)) (by simp [hb])) rfl) (hK _ _ H33.out.symm (Below.refl _ _)),
    fun ac W hb hold hdep K hK => op_u (u := .bool (((ed && ea) && ek) && be)) rfl (r_assign _ rfl (eval_tmp ((dep_val (hdep 25 33 (by decide) rfl)).trans (congrArg some H33.out)))) (hK _ _ rfl (Below.refl _ _)), trivial⟩ ?_
  intro w2 hb2
  simp only [Fin, Act.put, List.setIfInBounds_toArray, List.set_cons_zero, List.set_cons_succ]
  clear H8 H9 H10 H11 H12 H13 H14 H15 H16 H17 H18 H19 H20 H21 H22 H23 H24 H25 H26 H27 H28 H29 H30 H31 H32 H33 CD CA CK CE
  have HB2 := Lib.hid (HB1.out.trans (hb2.mono HB1.out.size))
  have HS2 := Lib.hid (HS.out.below hb2 HS.out.lt)
  have HT2 := Lib.hid (HT.out.below hb2 HT.out.lt)
  clear hb2 HS HT HB1
  obtain ⟨b1, hb1⟩ : ∃ b, b = ((((ed && ea) && ek) && be)) := ⟨_, rfl⟩
  rw [← hb1] at HBB ⊢
  clear hb1
  have a18 : w2.cell? ⟨w.heap.size, 18, none⟩ = some (.int .i64 f.id) := blk_cell HS2.out 18 rfl
  have a19 : w2.cell? ⟨w.heap.size, 19, none⟩ = some (.int .i32 f.to) := blk_cell HS2.out 19 rfl
  have a20 : w2.cell? ⟨w.heap.size, 20, none⟩ = some (.slice i.A i.n i.c) := blk_cell HS2.out 20 rfl
  have b18 : w2.cell? ⟨w.heap.size + 1, 18, none⟩ = some (.int .i64 g.id) := blk_cell HT2.out 18 rfl
  have b19 : w2.cell? ⟨w.heap.size + 1, 19, none⟩ = some (.int .i32 g.to) := blk_cell HT2.out 19 rfl
  have b20 : w2.cell? ⟨w.heap.size + 1, 20, none⟩ = some (.slice i'.A i'.n i'.c) := blk_cell HT2.out 20 rfl
  have hl0 : w.heap.size < w2.heap.size := HS2.out.lt
  have hl1 : w.heap.size + 1 < w2.heap.size := HT2.out.lt
  go_wp2
  go_region
  obtain ⟨w3, hw3⟩ : ∃ x, ((w2.alloc (.cells #[.int .i64 f.id, .int .i32 f.to, .slice i.A i.n i.c] 30)).alloc (.cells #[.int .i64 g.id, .int .i32 g.to, .slice i'.A i'.n i'.c] 30)).drew = x := ⟨_, rfl⟩
  have hb3 : Below w2.heap.size w2 w3 := by rw [← hw3]; exact (((Below.refl _ _).alloc (Nat.le_refl _) _).alloc (by simp) _).drew
  have HU3 : Hid (Blk w3 w2.heap.size 30 #[.int .i64 f.id, .int .i32 f.to, .slice i.A i.n i.c]) := by unfold Hid; rw [← hw3]; exact ((Blk.new _ _ _).alloc _).drew
  have HV3 : Hid (Blk w3 (w2.heap.size + 1) 30 #[.int .i64 g.id, .int .i32 g.to, .slice i'.A i'.n i'.c]) := by unfold Hid; rw [← hw3]; exact (Blk.new' (by simp)).drew
  rw [hw3]
  obtain ⟨g6, h1⟩ : ∃ x, x = w2.heap.size := ⟨_, rfl⟩
  obtain ⟨g7, h2⟩ : ∃ x, x = w2.heap.size + 1 := ⟨_, rfl⟩
  rw [← h2, ← h1]
  rw [← h1] at HU3
  rw [← h2] at HV3
  have HS3 := Lib.hid (HS2.out.below hb3 HS2.out.lt)
  have HT3 := Lib.hid (HT2.out.below hb3 HT2.out.lt)
  have HB3 := Lib.hid (HB2.out.trans (hb3.mono HB2.out.size))
  clear hw3 hb3 h1 h2 a18 a19 a20 b18 b19 b20 hl0 hl1 HS2 HT2 HB2
  rotate_left
  obtain ⟨w3, hw3⟩ : ∃ x, ((w2.alloc (.cells #[.int .i64 g.id, .int .i32 g.to, .slice i'.A i'.n i'.c] 30)).alloc (.cells #[.int .i64 f.id, .int .i32 f.to, .slice i.A i.n i.c] 30)).drew = x := ⟨_, rfl⟩
  have hb3 : Below w2.heap.size w2 w3 := by rw [← hw3]; exact (((Below.refl _ _).alloc (Nat.le_refl _) _).alloc (by simp) _).drew
  have HV3 : Hid (Blk w3 w2.heap.size 30 #[.int .i64 g.id, .int .i32 g.to, .slice i'.A i'.n i'.c]) := by unfold Hid; rw [← hw3]; exact ((Blk.new _ _ _).alloc _).drew
  have HU3 : Hid (Blk w3 (w2.heap.size + 1) 30 #[.int .i64 f.id, .int .i32 f.to, .slice i.A i.n i.c]) := by unfold Hid; rw [← hw3]; exact (Blk.new' (by simp)).drew
  rw [hw3]
  obtain ⟨g7, h1⟩ : ∃ x, x = w2.heap.size := ⟨_, rfl⟩
  obtain ⟨g6, h2⟩ : ∃ x, x = w2.heap.size + 1 := ⟨_, rfl⟩
  rw [← h2, ← h1]
  rw [← h1] at HV3
  rw [← h2] at HU3
  have HS3 := Lib.hid (HS2.out.below hb3 HS2.out.lt)
  have HT3 := Lib.hid (HT2.out.below hb3 HT2.out.lt)
  have HB3 := Lib.hid (HB2.out.trans (hb3.mono HB2.out.size))
  clear hw3 hb3 h1 h2 a18 a19 a20 b18 b19 b20 hl0 hl1 HS2 HT2 HB2
  all_goals
    go_upto_region 3 with (fail)
    refine wp_region_lit ?_
    obtain ⟨x38, H38⟩ : ∃ x : Value, Hid (x = .bool b1) := ⟨_, rfl⟩
    obtain ⟨x39, H39⟩ : ∃ x : Value, Hid (x = .bool b1) := ⟨_, rfl⟩
    obtain ⟨x40, H40⟩ : ∃ x : Value, Hid (x = bif (b1 == true) then .pointer (some ⟨w.heap.size, 0, none⟩) else undef) := ⟨_, rfl⟩
    obtain ⟨x41, H41⟩ : ∃ x : Value, Hid (x = bif (b1 == true) then .int .i32 f.t else undef) := ⟨_, rfl⟩
    obtain ⟨x42, H42⟩ : ∃ x : Value, Hid (x = bif (b1 == true) then .pointer (some ⟨(w.heap.size + 1), 0, none⟩) else undef) := ⟨_, rfl⟩
    obtain ⟨x43, H43⟩ : ∃ x : Value, Hid (x = bif (b1 == true) then .int .i32 g.t else undef) := ⟨_, rfl⟩
    obtain ⟨x44, H44⟩ : ∃ x : Value, Hid (x = bif (b1 == true) then .bool ((f.t : Int) == g.t) else undef) := ⟨_, rfl⟩
    obtain ⟨x45, H45⟩ : ∃ x : Value, Hid (x = .bool (b1 && ((f.t : Int) == g.t))) := ⟨_, rfl⟩
    obtain ⟨x46, H46⟩ : ∃ x : Value, Hid (x = .bool (b1 && ((f.t : Int) == g.t))) := ⟨_, rfl⟩
    obtain ⟨x47, H47⟩ : ∃ x : Value, Hid (x = bif ((b1 && ((f.t : Int) == g.t)) == true) then .pointer (some ⟨w.heap.size, 1, none⟩) else undef) := ⟨_, rfl⟩
    obtain ⟨x48, H48⟩ : ∃ x : Value, Hid (x = bif ((b1 && ((f.t : Int) == g.t)) == true) then .int .i32 f.c else undef) := ⟨_, rfl⟩
    obtain ⟨x49, H49⟩ : ∃ x : Value, Hid (x = bif ((b1 && ((f.t : Int) == g.t)) == true) then .pointer (some ⟨(w.heap.size + 1), 1, none⟩) else undef) := ⟨_, rfl⟩
    obtain ⟨x50, H50⟩ : ∃ x : Value, Hid (x = bif ((b1 && ((f.t : Int) == g.t)) == true) then .int .i32 g.c else undef) := ⟨_, rfl⟩
    obtain ⟨x51, H51⟩ : ∃ x : Value, Hid (x = bif ((b1 && ((f.t : Int) == g.t)) == true) then .bool ((f.c : Int) == g.c) else undef) := ⟨_, rfl⟩
    obtain ⟨x52, H52⟩ : ∃ x : Value, Hid (x = .bool ((b1 && ((f.t : Int) == g.t)) && ((f.c : Int) == g.c))) := ⟨_, rfl⟩
    obtain ⟨x53, H53⟩ : ∃ x : Value, Hid (x = .bool ((b1 && ((f.t : Int) == g.t)) && ((f.c : Int) == g.c))) := ⟨_, rfl⟩
    obtain ⟨x54, H54⟩ : ∃ x : Value, Hid (x = bif (((b1 && ((f.t : Int) == g.t)) && ((f.c : Int) == g.c)) == true) then .pointer (some ⟨w.heap.size, 2, none⟩) else undef) := ⟨_, rfl⟩
    obtain ⟨x55, H55⟩ : ∃ x : Value, Hid (x = bif (((b1 && ((f.t : Int) == g.t)) && ((f.c : Int) == g.c)) == true) then .string f.p else undef) := ⟨_, rfl⟩
    obtain ⟨x56, H56⟩ : ∃ x : Value, Hid (x = bif (((b1 && ((f.t : Int) == g.t)) && ((f.c : Int) == g.c)) == true) then .pointer (some ⟨(w.heap.size + 1), 2, none⟩) else undef) := ⟨_, rfl⟩
    obtain ⟨x57, H57⟩ : ∃ x : Value, Hid (x = bif (((b1 && ((f.t : Int) == g.t)) && ((f.c : Int) == g.c)) == true) then .string g.p else undef) := ⟨_, rfl⟩
    obtain ⟨x58, H58⟩ : ∃ x : Value, Hid (x = bif (((b1 && ((f.t : Int) == g.t)) && ((f.c : Int) == g.c)) == true) then .bool (f.p.toList == g.p.toList) else undef) := ⟨_, rfl⟩
    obtain ⟨x59, H59⟩ : ∃ x : Value, Hid (x = .bool (((b1 && ((f.t : Int) == g.t)) && ((f.c : Int) == g.c)) && (f.p.toList == g.p.toList))) := ⟨_, rfl⟩
    obtain ⟨x60, H60⟩ : ∃ x : Value, Hid (x = .bool (((b1 && ((f.t : Int) == g.t)) && ((f.c : Int) == g.c)) && (f.p.toList == g.p.toList))) := ⟨_, rfl⟩
    obtain ⟨x61, H61⟩ : ∃ x : Value, Hid (x = bif ((((b1 && ((f.t : Int) == g.t)) && ((f.c : Int) == g.c)) && (f.p.toList == g.p.toList)) == true) then .pointer (some ⟨w.heap.size, 3, none⟩) else undef) := ⟨_, rfl⟩
    obtain ⟨x62, H62⟩ : ∃ x : Value, Hid (x = bif ((((b1 && ((f.t : Int) == g.t)) && ((f.c : Int) == g.c)) && (f.p.toList == g.p.toList)) == true) then .agg f.st.row.toArray else undef) := ⟨_, rfl⟩
    obtain ⟨x63, H63⟩ : ∃ x : Value, Hid (x = bif ((((b1 && ((f.t : Int) == g.t)) && ((f.c : Int) == g.c)) && (f.p.toList == g.p.toList)) == true) then .pointer (some ⟨(w.heap.size + 1), 3, none⟩) else undef) := ⟨_, rfl⟩
    obtain ⟨x64, H64⟩ : ∃ x : Value, Hid (x = bif ((((b1 && ((f.t : Int) == g.t)) && ((f.c : Int) == g.c)) && (f.p.toList == g.p.toList)) == true) then .agg g.st.row.toArray else undef) := ⟨_, rfl⟩
    obtain ⟨x65, H65⟩ : ∃ x : Value, Hid (x = bif ((((b1 && ((f.t : Int) == g.t)) && ((f.c : Int) == g.c)) && (f.p.toList == g.p.toList)) == true) then .bool es else undef) := ⟨_, rfl⟩
    obtain ⟨x66, H66⟩ : ∃ x : Value, Hid (x = .bool ((((b1 && ((f.t : Int) == g.t)) && ((f.c : Int) == g.c)) && (f.p.toList == g.p.toList)) && es)) := ⟨_, rfl⟩
    obtain ⟨x67, H67⟩ : ∃ x : Value, Hid (x = .bool ((((b1 && ((f.t : Int) == g.t)) && ((f.c : Int) == g.c)) && (f.p.toList == g.p.toList)) && es)) := ⟨_, rfl⟩
    obtain ⟨x68, H68⟩ : ∃ x : Value, Hid (x = bif (((((b1 && ((f.t : Int) == g.t)) && ((f.c : Int) == g.c)) && (f.p.toList == g.p.toList)) && es) == true) then .pointer (some ⟨w.heap.size, 17, none⟩) else undef) := ⟨_, rfl⟩
    obtain ⟨x69, H69⟩ : ∃ x : Value, Hid (x = bif (((((b1 && ((f.t : Int) == g.t)) && ((f.c : Int) == g.c)) && (f.p.toList == g.p.toList)) && es) == true) then .int .i32 f.n else undef) := ⟨_, rfl⟩
    obtain ⟨x70, H70⟩ : ∃ x : Value, Hid (x = bif (((((b1 && ((f.t : Int) == g.t)) && ((f.c : Int) == g.c)) && (f.p.toList == g.p.toList)) && es) == true) then .pointer (some ⟨(w.heap.size + 1), 17, none⟩) else undef) := ⟨_, rfl⟩
    obtain ⟨x71, H71⟩ : ∃ x : Value, Hid (x = bif (((((b1 && ((f.t : Int) == g.t)) && ((f.c : Int) == g.c)) && (f.p.toList == g.p.toList)) && es) == true) then .int .i32 g.n else undef) := ⟨_, rfl⟩
    obtain ⟨x72, H72⟩ : ∃ x : Value, Hid (x = bif (((((b1 && ((f.t : Int) == g.t)) && ((f.c : Int) == g.c)) && (f.p.toList == g.p.toList)) && es) == true) then .bool ((f.n : Int) == g.n) else undef) := ⟨_, rfl⟩
    obtain ⟨x73, H73⟩ : ∃ x : Value, Hid (x = .bool (((((b1 && ((f.t : Int) == g.t)) && ((f.c : Int) == g.c)) && (f.p.toList == g.p.toList)) && es) && ((f.n : Int) == g.n))) := ⟨_, rfl⟩
    obtain ⟨x74, H74⟩ : ∃ x : Value, Hid (x = .bool (((((b1 && ((f.t : Int) == g.t)) && ((f.c : Int) == g.c)) && (f.p.toList == g.p.toList)) && es) && ((f.n : Int) == g.n))) := ⟨_, rfl⟩
    obtain ⟨x75, H75⟩ : ∃ x : Value, Hid (x = bif ((((((b1 && ((f.t : Int) == g.t)) && ((f.c : Int) == g.c)) && (f.p.toList == g.p.toList)) && es) && ((f.n : Int) == g.n)) == true) then .pointer (some ⟨g6, 0, none⟩) else undef) := ⟨_, rfl⟩
    obtain ⟨x76, H76⟩ : ∃ x : Value, Hid (x = bif ((((((b1 && ((f.t : Int) == g.t)) && ((f.c : Int) == g.c)) && (f.p.toList == g.p.toList)) && es) && ((f.n : Int) == g.n)) == true) then .int .i64 f.id else undef) := ⟨_, rfl⟩
    obtain ⟨x77, H77⟩ : ∃ x : Value, Hid (x = bif ((((((b1 && ((f.t : Int) == g.t)) && ((f.c : Int) == g.c)) && (f.p.toList == g.p.toList)) && es) && ((f.n : Int) == g.n)) == true) then .pointer (some ⟨g7, 0, none⟩) else undef) := ⟨_, rfl⟩
    obtain ⟨x78, H78⟩ : ∃ x : Value, Hid (x = bif ((((((b1 && ((f.t : Int) == g.t)) && ((f.c : Int) == g.c)) && (f.p.toList == g.p.toList)) && es) && ((f.n : Int) == g.n)) == true) then .int .i64 g.id else undef) := ⟨_, rfl⟩
    obtain ⟨x79, H79⟩ : ∃ x : Value, Hid (x = bif ((((((b1 && ((f.t : Int) == g.t)) && ((f.c : Int) == g.c)) && (f.p.toList == g.p.toList)) && es) && ((f.n : Int) == g.n)) == true) then .bool ((f.id : Int) == g.id) else undef) := ⟨_, rfl⟩
    obtain ⟨x80, H80⟩ : ∃ x : Value, Hid (x = .bool ((((((b1 && ((f.t : Int) == g.t)) && ((f.c : Int) == g.c)) && (f.p.toList == g.p.toList)) && es) && ((f.n : Int) == g.n)) && ((f.id : Int) == g.id))) := ⟨_, rfl⟩
    obtain ⟨x81, H81⟩ : ∃ x : Value, Hid (x = .bool ((((((b1 && ((f.t : Int) == g.t)) && ((f.c : Int) == g.c)) && (f.p.toList == g.p.toList)) && es) && ((f.n : Int) == g.n)) && ((f.id : Int) == g.id))) := ⟨_, rfl⟩
    obtain ⟨x82, H82⟩ : ∃ x : Value, Hid (x = bif (((((((b1 && ((f.t : Int) == g.t)) && ((f.c : Int) == g.c)) && (f.p.toList == g.p.toList)) && es) && ((f.n : Int) == g.n)) && ((f.id : Int) == g.id)) == true) then .pointer (some ⟨g6, 1, none⟩) else undef) := ⟨_, rfl⟩
    obtain ⟨x83, H83⟩ : ∃ x : Value, Hid (x = bif (((((((b1 && ((f.t : Int) == g.t)) && ((f.c : Int) == g.c)) && (f.p.toList == g.p.toList)) && es) && ((f.n : Int) == g.n)) && ((f.id : Int) == g.id)) == true) then .int .i32 f.to else undef) := ⟨_, rfl⟩
    obtain ⟨x84, H84⟩ : ∃ x : Value, Hid (x = bif (((((((b1 && ((f.t : Int) == g.t)) && ((f.c : Int) == g.c)) && (f.p.toList == g.p.toList)) && es) && ((f.n : Int) == g.n)) && ((f.id : Int) == g.id)) == true) then .pointer (some ⟨g7, 1, none⟩) else undef) := ⟨_, rfl⟩
    obtain ⟨x85, H85⟩ : ∃ x : Value, Hid (x = bif (((((((b1 && ((f.t : Int) == g.t)) && ((f.c : Int) == g.c)) && (f.p.toList == g.p.toList)) && es) && ((f.n : Int) == g.n)) && ((f.id : Int) == g.id)) == true) then .int .i32 g.to else undef) := ⟨_, rfl⟩
    obtain ⟨x86, H86⟩ : ∃ x : Value, Hid (x = bif (((((((b1 && ((f.t : Int) == g.t)) && ((f.c : Int) == g.c)) && (f.p.toList == g.p.toList)) && es) && ((f.n : Int) == g.n)) && ((f.id : Int) == g.id)) == true) then .bool ((f.to : Int) == g.to) else undef) := ⟨_, rfl⟩
    obtain ⟨x87, H87⟩ : ∃ x : Value, Hid (x = .bool (((((((b1 && ((f.t : Int) == g.t)) && ((f.c : Int) == g.c)) && (f.p.toList == g.p.toList)) && es) && ((f.n : Int) == g.n)) && ((f.id : Int) == g.id)) && ((f.to : Int) == g.to))) := ⟨_, rfl⟩
    obtain ⟨x88, H88⟩ : ∃ x : Value, Hid (x = .bool (((((((b1 && ((f.t : Int) == g.t)) && ((f.c : Int) == g.c)) && (f.p.toList == g.p.toList)) && es) && ((f.n : Int) == g.n)) && ((f.id : Int) == g.id)) && ((f.to : Int) == g.to))) := ⟨_, rfl⟩
    obtain ⟨x89, H89⟩ : ∃ x : Value, Hid (x = bif ((((((((b1 && ((f.t : Int) == g.t)) && ((f.c : Int) == g.c)) && (f.p.toList == g.p.toList)) && es) && ((f.n : Int) == g.n)) && ((f.id : Int) == g.id)) && ((f.to : Int) == g.to)) == true) then .pointer (some ⟨g6, 2, none⟩) else undef) := ⟨_, rfl⟩
    obtain ⟨x90, H90⟩ : ∃ x : Value, Hid (x = bif ((((((((b1 && ((f.t : Int) == g.t)) && ((f.c : Int) == g.c)) && (f.p.toList == g.p.toList)) && es) && ((f.n : Int) == g.n)) && ((f.id : Int) == g.id)) && ((f.to : Int) == g.to)) == true) then .slice i.A i.n i.c else undef) := ⟨_, rfl⟩
    obtain ⟨x91, H91⟩ : ∃ x : Value, Hid (x = bif ((((((((b1 && ((f.t : Int) == g.t)) && ((f.c : Int) == g.c)) && (f.p.toList == g.p.toList)) && es) && ((f.n : Int) == g.n)) && ((f.id : Int) == g.id)) && ((f.to : Int) == g.to)) == true) then .pointer (some ⟨g7, 2, none⟩) else undef) := ⟨_, rfl⟩
    obtain ⟨x92, H92⟩ : ∃ x : Value, Hid (x = bif ((((((((b1 && ((f.t : Int) == g.t)) && ((f.c : Int) == g.c)) && (f.p.toList == g.p.toList)) && es) && ((f.n : Int) == g.n)) && ((f.id : Int) == g.id)) && ((f.to : Int) == g.to)) == true) then .slice i'.A i'.n i'.c else undef) := ⟨_, rfl⟩
    obtain ⟨x93, H93⟩ : ∃ x : Value, Hid (x = bif ((((((((b1 && ((f.t : Int) == g.t)) && ((f.c : Int) == g.c)) && (f.p.toList == g.p.toList)) && es) && ((f.n : Int) == g.n)) && ((f.id : Int) == g.id)) && ((f.to : Int) == g.to)) == true) then .bool ei else undef) := ⟨_, rfl⟩
    obtain ⟨x94, H94⟩ : ∃ x : Value, Hid (x = .bool ((((((((b1 && ((f.t : Int) == g.t)) && ((f.c : Int) == g.c)) && (f.p.toList == g.p.toList)) && es) && ((f.n : Int) == g.n)) && ((f.id : Int) == g.id)) && ((f.to : Int) == g.to)) && ei)) := ⟨_, rfl⟩
    refine wpList_seq (w0 := w3) (.inl x38 ::
    .inl x39 ::
    .inl x40 ::
    .inl x41 ::
    .inl x42 ::
    .inl x43 ::
    .inl x44 ::
    .inl x45 ::
    .inl x46 ::
    .inl x47 ::
    .inl x48 ::
    .inl x49 ::
    .inl x50 ::
    .inl x51 ::
    .inl x52 ::
    .inl x53 ::
    .inl x54 ::
    .inl x55 ::
    .inl x56 ::
    .inl x57 ::
    .inl x58 ::
    .inl x59 ::
    .inl x60 ::
    .inl x61 ::
    .inl x62 ::
    .inl x63 ::
    .inl x64 ::
    .inl x65 ::
    .inl x66 ::
    .inl x67 ::
    .inl x68 ::
    .inl x69 ::
    .inl x70 ::
    .inl x71 ::
    .inl x72 ::
    .inl x73 ::
    .inl x74 ::
    .inl x75 ::
    .inl x76 ::
    .inl x77 ::
    .inl x78 ::
    .inl x79 ::
    .inl x80 ::
    .inl x81 ::
    .inl x82 ::
    .inl x83 ::
    .inl x84 ::
    .inl x85 ::
    .inl x86 ::
    .inl x87 ::
    .inl x88 ::
    .inl x89 ::
    .inl x90 ::
    .inl x91 ::
    .inl x92 ::
    .inl x93 ::
    .inl x94 ::
    .inl (.bool ((((((((b1 && ((f.t : Int) == g.t)) && ((f.c : Int) == g.c)) && (f.p.toList == g.p.toList)) && es) && ((f.n : Int) == g.n)) && ((f.id : Int) == g.id)) && ((f.to : Int) == g.to)) && ei)) :: []) rfl (by as_aux_lemma => kernel_rfl) (by as_aux_lemma => kernel_rfl) (nomono rfl) ⟨fun ac W hb hold hdep K hK => op_u (u := .bool b1) rfl (r_move _ rfl (eval_tmp ((hold 5 (free_slot (by as_aux_lemma => kernel_rfl))).trans rfl))) (hK _ _ H38.out.symm (Below.refl _ _)),
      fun ac W hb hold hdep K hK => op_u (u := .bool b1) rfl (r_move _ rfl (eval_tmp ((dep_val (hdep 0 38 (by decide) rfl)).trans (congrArg some H38.out)))) (hK _ _ H39.out.symm (Below.refl _ _)),
      fun ac W hb hold hdep K hK => op_g (u := .pointer (some ⟨w.heap.size, 0, none⟩)) (want_all rfl rfl ((dep_val (hdep 1 39 (by decide) rfl)).trans (congrArg some H39.out))) (fun hc => r_field 33 _ 0 rfl (eval_tmp ((hold 2 (free_slot (by as_aux_lemma => kernel_rfl))).trans rfl)) Tryz.underlying33 rfl (n := 0) isz_21 rfl) (hK _ _ H40.out.symm (Below.refl _ _)),
      fun ac W hb hold hdep K hK => op_g (u := .int .i32 f.t) (want_all rfl rfl ((dep_val (hdep 1 39 (by decide) rfl)).trans (congrArg some H39.out))) (fun hc => r_load 21 _ rfl (eval_if ((dep_val (hdep 2 40 (by decide) rfl)).trans (congrArg some H40.out)) hc) (blk_cell (HS3.out.below hb HS3.out.lt) 0 rfl) Tryz.underlying21 rfl) (hK _ _ H41.out.symm (Below.refl _ _)),
      fun ac W hb hold hdep K hK => op_g (u := .pointer (some ⟨(w.heap.size + 1), 0, none⟩)) (want_all rfl rfl ((dep_val (hdep 1 39 (by decide) rfl)).trans (congrArg some H39.out))) (fun hc => r_field 33 _ 0 rfl (eval_tmp ((hold 3 (free_slot (by as_aux_lemma => kernel_rfl))).trans rfl)) Tryz.underlying33 rfl (n := 0) isz_21 rfl) (hK _ _ H42.out.symm (Below.refl _ _)),
      fun ac W hb hold hdep K hK => op_g (u := .int .i32 g.t) (want_all rfl rfl ((dep_val (hdep 1 39 (by decide) rfl)).trans (congrArg some H39.out))) (fun hc => r_load 21 _ rfl (eval_if ((dep_val (hdep 4 42 (by decide) rfl)).trans (congrArg some H42.out)) hc) (blk_cell (HT3.out.below hb HT3.out.lt) 0 rfl) Tryz.underlying21 rfl) (hK _ _ H43.out.symm (Below.refl _ _)),
      fun ac W hb hold hdep K hK => op_g (u := .bool ((f.t : Int) == g.t)) (want_all rfl rfl ((dep_val (hdep 1 39 (by decide) rfl)).trans (congrArg some H39.out))) (fun hc => r_ieq 21 _ _ _ rfl (eval_if ((dep_val (hdep 3 41 (by decide) rfl)).trans (congrArg some H41.out)) hc) (eval_if ((dep_val (hdep 5 43 (by decide) rfl)).trans (congrArg some H43.out)) hc)) (hK _ _ H44.out.symm (Below.refl _ _)),
      fun ac W hb hold hdep K hK => op_u (u := .bool (b1 && ((f.t : Int) == g.t))) rfl (r_and _ _ _ rfl (eval_tmp ((dep_val (hdep 1 39 (by decide) rfl)).trans (congrArg some H39.out))) (fun hb => eval_if ((dep_val (hdep 6 44 (by decide) rfl)).trans (congrArg some H44.out)) (by simp [hb])) rfl) (hK _ _ H45.out.symm (Below.refl _ _)),
      fun ac W hb hold hdep K hK => op_u (u := .bool (b1 && ((f.t : Int) == g.t))) rfl (r_move _ rfl (eval_tmp ((dep_val (hdep 7 45 (by decide) rfl)).trans (congrArg some H45.out)))) (hK _ _ H46.out.symm (Below.refl _ _)),
      fun ac W hb hold hdep K hK => op_g (u := .pointer (some ⟨w.heap.size, 1, none⟩)) (want_all rfl rfl ((dep_val (hdep 8 46 (by decide) rfl)).trans (congrArg some H46.out))) (fun hc => r_field 33 _ 1 rfl (eval_tmp ((hold 2 (free_slot (by as_aux_lemma => kernel_rfl))).trans rfl)) Tryz.underlying33 rfl (n := 0) isz_22 rfl) (hK _ _ H47.out.symm (Below.refl _ _)),
      fun ac W hb hold hdep K hK => op_g (u := .int .i32 f.c) (want_all rfl rfl ((dep_val (hdep 8 46 (by decide) rfl)).trans (congrArg some H46.out))) (fun hc => r_load 22 _ rfl (eval_if ((dep_val (hdep 9 47 (by decide) rfl)).trans (congrArg some H47.out)) hc) (blk_cell (HS3.out.below hb HS3.out.lt) 1 rfl) Tryz.underlying22 rfl) (hK _ _ H48.out.symm (Below.refl _ _)),
      fun ac W hb hold hdep K hK => op_g (u := .pointer (some ⟨(w.heap.size + 1), 1, none⟩)) (want_all rfl rfl ((dep_val (hdep 8 46 (by decide) rfl)).trans (congrArg some H46.out))) (fun hc => r_field 33 _ 1 rfl (eval_tmp ((hold 3 (free_slot (by as_aux_lemma => kernel_rfl))).trans rfl)) Tryz.underlying33 rfl (n := 0) isz_22 rfl) (hK _ _ H49.out.symm (Below.refl _ _)),
      fun ac W hb hold hdep K hK => op_g (u := .int .i32 g.c) (want_all rfl rfl ((dep_val (hdep 8 46 (by decide) rfl)).trans (congrArg some H46.out))) (fun hc => r_load 22 _ rfl (eval_if ((dep_val (hdep 11 49 (by decide) rfl)).trans (congrArg some H49.out)) hc) (blk_cell (HT3.out.below hb HT3.out.lt) 1 rfl) Tryz.underlying22 rfl) (hK _ _ H50.out.symm (Below.refl _ _)),
      fun ac W hb hold hdep K hK => op_g (u := .bool ((f.c : Int) == g.c)) (want_all rfl rfl ((dep_val (hdep 8 46 (by decide) rfl)).trans (congrArg some H46.out))) (fun hc => r_ieq 22 _ _ _ rfl (eval_if ((dep_val (hdep 10 48 (by decide) rfl)).trans (congrArg some H48.out)) hc) (eval_if ((dep_val (hdep 12 50 (by decide) rfl)).trans (congrArg some H50.out)) hc)) (hK _ _ H51.out.symm (Below.refl _ _)),
      fun ac W hb hold hdep K hK => op_u (u := .bool ((b1 && ((f.t : Int) == g.t)) && ((f.c : Int) == g.c))) rfl (r_and _ _ _ rfl (eval_tmp ((dep_val (hdep 8 46 (by decide) rfl)).trans (congrArg some H46.out))) (fun hb => eval_if ((dep_val (hdep 13 51 (by decide) rfl)).trans (congrArg some H51.out)) (by simp [hb])) rfl) (hK _ _ H52.out.symm (Below.refl _ _)),
      fun ac W hb hold hdep K hK => op_u (u := .bool ((b1 && ((f.t : Int) == g.t)) && ((f.c : Int) == g.c))) rfl (r_move _ rfl (eval_tmp ((dep_val (hdep 14 52 (by decide) rfl)).trans (congrArg some H52.out)))) (hK _ _ H53.out.symm (Below.refl _ _)),
      fun ac W hb hold hdep K hK => op_g (u := .pointer (some ⟨w.heap.size, 2, none⟩)) (want_all rfl rfl ((dep_val (hdep 15 53 (by decide) rfl)).trans (congrArg some H53.out))) (fun hc => r_field 33 _ 2 rfl (eval_tmp ((hold 2 (free_slot (by as_aux_lemma => kernel_rfl))).trans rfl)) Tryz.underlying33 rfl (n := 0) isz_9 rfl) (hK _ _ H54.out.symm (Below.refl _ _)),
      fun ac W hb hold hdep K hK => op_g (u := .string f.p) (want_all rfl rfl ((dep_val (hdep 15 53 (by decide) rfl)).trans (congrArg some H53.out))) (fun hc => r_load 9 _ rfl (eval_if ((dep_val (hdep 16 54 (by decide) rfl)).trans (congrArg some H54.out)) hc) (blk_cell (HS3.out.below hb HS3.out.lt) 2 rfl) Tryz.underlying9 rfl) (hK _ _ H55.out.symm (Below.refl _ _)),
      fun ac W hb hold hdep K hK => op_g (u := .pointer (some ⟨(w.heap.size + 1), 2, none⟩)) (want_all rfl rfl ((dep_val (hdep 15 53 (by decide) rfl)).trans (congrArg some H53.out))) (fun hc => r_field 33 _ 2 rfl (eval_tmp ((hold 3 (free_slot (by as_aux_lemma => kernel_rfl))).trans rfl)) Tryz.underlying33 rfl (n := 0) isz_9 rfl) (hK _ _ H56.out.symm (Below.refl _ _)),
      fun ac W hb hold hdep K hK => op_g (u := .string g.p) (want_all rfl rfl ((dep_val (hdep 15 53 (by decide) rfl)).trans (congrArg some H53.out))) (fun hc => r_load 9 _ rfl (eval_if ((dep_val (hdep 18 56 (by decide) rfl)).trans (congrArg some H56.out)) hc) (blk_cell (HT3.out.below hb HT3.out.lt) 2 rfl) Tryz.underlying9 rfl) (hK _ _ H57.out.symm (Below.refl _ _)),
      fun ac W hb hold hdep K hK => op_g (u := .bool (f.p.toList == g.p.toList)) (want_all rfl rfl ((dep_val (hdep 15 53 (by decide) rfl)).trans (congrArg some H53.out))) (fun hc => r_seq 9 _ _ _ rfl (eval_if ((dep_val (hdep 17 55 (by decide) rfl)).trans (congrArg some H55.out)) hc) (eval_if ((dep_val (hdep 19 57 (by decide) rfl)).trans (congrArg some H57.out)) hc)) (hK _ _ H58.out.symm (Below.refl _ _)),
      fun ac W hb hold hdep K hK => op_u (u := .bool (((b1 && ((f.t : Int) == g.t)) && ((f.c : Int) == g.c)) && (f.p.toList == g.p.toList))) rfl (r_and _ _ _ rfl (eval_tmp ((dep_val (hdep 15 53 (by decide) rfl)).trans (congrArg some H53.out))) (fun hb => eval_if ((dep_val (hdep 20 58 (by decide) rfl)).trans (congrArg some H58.out)) (by simp [hb])) rfl) (hK _ _ H59.out.symm (Below.refl _ _)),
      fun ac W hb hold hdep K hK => op_u (u := .bool (((b1 && ((f.t : Int) == g.t)) && ((f.c : Int) == g.c)) && (f.p.toList == g.p.toList))) rfl (r_move _ rfl (eval_tmp ((dep_val (hdep 21 59 (by decide) rfl)).trans (congrArg some H59.out)))) (hK _ _ H60.out.symm (Below.refl _ _)),
      fun ac W hb hold hdep K hK => op_g (u := .pointer (some ⟨w.heap.size, 3, none⟩)) (want_all rfl rfl ((dep_val (hdep 22 60 (by decide) rfl)).trans (congrArg some H60.out))) (fun hc => r_field 33 _ 3 rfl (eval_tmp ((hold 2 (free_slot (by as_aux_lemma => kernel_rfl))).trans rfl)) Tryz.underlying33 rfl (n := 10) isz_24 rfl) (hK _ _ H61.out.symm (Below.refl _ _)),
      fun ac W hb hold hdep K hK => op_g (u := .agg f.st.row.toArray) (want_all rfl rfl ((dep_val (hdep 22 60 (by decide) rfl)).trans (congrArg some H60.out))) (fun hc => r_load_row 24 _ rfl (eval_if ((dep_val (hdep 23 61 (by decide) rfl)).trans (congrArg some H61.out)) hc) f.st.row (blk_at (HS3.out.below hb HS3.out.lt) 3 f.st.row (in_row f)) Tryz.underlying24 rfl isz_24) (hK _ _ H62.out.symm (Below.refl _ _)),
      fun ac W hb hold hdep K hK => op_g (u := .pointer (some ⟨(w.heap.size + 1), 3, none⟩)) (want_all rfl rfl ((dep_val (hdep 22 60 (by decide) rfl)).trans (congrArg some H60.out))) (fun hc => r_field 33 _ 3 rfl (eval_tmp ((hold 3 (free_slot (by as_aux_lemma => kernel_rfl))).trans rfl)) Tryz.underlying33 rfl (n := 10) isz_24 rfl) (hK _ _ H63.out.symm (Below.refl _ _)),
      fun ac W hb hold hdep K hK => op_g (u := .agg g.st.row.toArray) (want_all rfl rfl ((dep_val (hdep 22 60 (by decide) rfl)).trans (congrArg some H60.out))) (fun hc => r_load_row 24 _ rfl (eval_if ((dep_val (hdep 25 63 (by decide) rfl)).trans (congrArg some H63.out)) hc) g.st.row (blk_at (HT3.out.below hb HT3.out.lt) 3 g.st.row (in_row g)) Tryz.underlying24 rfl isz_24) (hK _ _ H64.out.symm (Below.refl _ _)),
      fun ac W hb hold hdep K hK => op_g (u := .bool es) (want_all rfl rfl ((dep_val (hdep 22 60 (by decide) rfl)).trans (congrArg some H60.out))) (fun hc => r_aeq 24 _ _ _ rfl (eval_if ((dep_val (hdep 24 62 (by decide) rfl)).trans (congrArg some H62.out)) hc) (eval_if ((dep_val (hdep 26 64 (by decide) rfl)).trans (congrArg some H64.out)) hc) (by as_aux_lemma => kernel_rfl) (CS.out W)) (hK _ _ H65.out.symm (Below.refl _ _)),
      fun ac W hb hold hdep K hK => op_u (u := .bool ((((b1 && ((f.t : Int) == g.t)) && ((f.c : Int) == g.c)) && (f.p.toList == g.p.toList)) && es)) rfl (r_and _ _ _ rfl (eval_tmp ((dep_val (hdep 22 60 (by decide) rfl)).trans (congrArg some H60.out))) (fun hb => eval_if ((dep_val (hdep 27 65 (by decide) rfl)).trans (congrArg some H65.out)) (by simp [hb])) rfl) (hK _ _ H66.out.symm (Below.refl _ _)),
      fun ac W hb hold hdep K hK => op_u (u := .bool ((((b1 && ((f.t : Int) == g.t)) && ((f.c : Int) == g.c)) && (f.p.toList == g.p.toList)) && es)) rfl (r_move _ rfl (eval_tmp ((dep_val (hdep 28 66 (by decide) rfl)).trans (congrArg some H66.out)))) (hK _ _ H67.out.symm (Below.refl _ _)),
      fun ac W hb hold hdep K hK => op_g (u := .pointer (some ⟨w.heap.size, 17, none⟩)) (want_all rfl rfl ((dep_val (hdep 29 67 (by decide) rfl)).trans (congrArg some H67.out))) (fun hc => r_field 33 _ 7 rfl (eval_tmp ((hold 2 (free_slot (by as_aux_lemma => kernel_rfl))).trans rfl)) Tryz.underlying33 rfl (n := 0) isz_21 rfl) (hK _ _ H68.out.symm (Below.refl _ _)),
      fun ac W hb hold hdep K hK => op_g (u := .int .i32 f.n) (want_all rfl rfl ((dep_val (hdep 29 67 (by decide) rfl)).trans (congrArg some H67.out))) (fun hc => r_load 21 _ rfl (eval_if ((dep_val (hdep 30 68 (by decide) rfl)).trans (congrArg some H68.out)) hc) (blk_cell (HS3.out.below hb HS3.out.lt) 17 rfl) Tryz.underlying21 rfl) (hK _ _ H69.out.symm (Below.refl _ _)),
      fun ac W hb hold hdep K hK => op_g (u := .pointer (some ⟨(w.heap.size + 1), 17, none⟩)) (want_all rfl rfl ((dep_val (hdep 29 67 (by decide) rfl)).trans (congrArg some H67.out))) (fun hc => r_field 33 _ 7 rfl (eval_tmp ((hold 3 (free_slot (by as_aux_lemma => kernel_rfl))).trans rfl)) Tryz.underlying33 rfl (n := 0) isz_21 rfl) (hK _ _ H70.out.symm (Below.refl _ _)),
      fun ac W hb hold hdep K hK => op_g (u := .int .i32 g.n) (want_all rfl rfl ((dep_val (hdep 29 67 (by decide) rfl)).trans (congrArg some H67.out))) (fun hc => r_load 21 _ rfl (eval_if ((dep_val (hdep 32 70 (by decide) rfl)).trans (congrArg some H70.out)) hc) (blk_cell (HT3.out.below hb HT3.out.lt) 17 rfl) Tryz.underlying21 rfl) (hK _ _ H71.out.symm (Below.refl _ _)),
      fun ac W hb hold hdep K hK => op_g (u := .bool ((f.n : Int) == g.n)) (want_all rfl rfl ((dep_val (hdep 29 67 (by decide) rfl)).trans (congrArg some H67.out))) (fun hc => r_ieq 21 _ _ _ rfl (eval_if ((dep_val (hdep 31 69 (by decide) rfl)).trans (congrArg some H69.out)) hc) (eval_if ((dep_val (hdep 33 71 (by decide) rfl)).trans (congrArg some H71.out)) hc)) (hK _ _ H72.out.symm (Below.refl _ _)),
      fun ac W hb hold hdep K hK => op_u (u := .bool (((((b1 && ((f.t : Int) == g.t)) && ((f.c : Int) == g.c)) && (f.p.toList == g.p.toList)) && es) && ((f.n : Int) == g.n))) rfl (r_and _ _ _ rfl (eval_tmp ((dep_val (hdep 29 67 (by decide) rfl)).trans (congrArg some H67.out))) (fun hb => eval_if ((dep_val (hdep 34 72 (by decide) rfl)).trans (congrArg some H72.out)) (by simp [hb])) rfl) (hK _ _ H73.out.symm (Below.refl _ _)),
      fun ac W hb hold hdep K hK => op_u (u := .bool (((((b1 && ((f.t : Int) == g.t)) && ((f.c : Int) == g.c)) && (f.p.toList == g.p.toList)) && es) && ((f.n : Int) == g.n))) rfl (r_move _ rfl (eval_tmp ((dep_val (hdep 35 73 (by decide) rfl)).trans (congrArg some H73.out)))) (hK _ _ H74.out.symm (Below.refl _ _)),
      fun ac W hb hold hdep K hK => op_g (u := .pointer (some ⟨g6, 0, none⟩)) (want_all rfl rfl ((dep_val (hdep 36 74 (by decide) rfl)).trans (congrArg some H74.out))) (fun hc => r_field 30 _ 0 rfl (eval_tmp ((hold 6 (free_slot (by as_aux_lemma => kernel_rfl))).trans rfl)) Tryz.underlying30 rfl (n := 0) isz_2 rfl) (hK _ _ H75.out.symm (Below.refl _ _)),
      fun ac W hb hold hdep K hK => op_g (u := .int .i64 f.id) (want_all rfl rfl ((dep_val (hdep 36 74 (by decide) rfl)).trans (congrArg some H74.out))) (fun hc => r_load 2 _ rfl (eval_if ((dep_val (hdep 37 75 (by decide) rfl)).trans (congrArg some H75.out)) hc) (blk_cell (HU3.out.below hb HU3.out.lt) 0 rfl) Tryz.underlying2 rfl) (hK _ _ H76.out.symm (Below.refl _ _)),
      fun ac W hb hold hdep K hK => op_g (u := .pointer (some ⟨g7, 0, none⟩)) (want_all rfl rfl ((dep_val (hdep 36 74 (by decide) rfl)).trans (congrArg some H74.out))) (fun hc => r_field 30 _ 0 rfl (eval_tmp ((hold 7 (free_slot (by as_aux_lemma => kernel_rfl))).trans rfl)) Tryz.underlying30 rfl (n := 0) isz_2 rfl) (hK _ _ H77.out.symm (Below.refl _ _)),
      fun ac W hb hold hdep K hK => op_g (u := .int .i64 g.id) (want_all rfl rfl ((dep_val (hdep 36 74 (by decide) rfl)).trans (congrArg some H74.out))) (fun hc => r_load 2 _ rfl (eval_if ((dep_val (hdep 39 77 (by decide) rfl)).trans (congrArg some H77.out)) hc) (blk_cell (HV3.out.below hb HV3.out.lt) 0 rfl) Tryz.underlying2 rfl) (hK _ _ H78.out.symm (Below.refl _ _)),
      fun ac W hb hold hdep K hK => op_g (u := .bool ((f.id : Int) == g.id)) (want_all rfl rfl ((dep_val (hdep 36 74 (by decide) rfl)).trans (congrArg some H74.out))) (fun hc => r_ieq 2 _ _ _ rfl (eval_if ((dep_val (hdep 38 76 (by decide) rfl)).trans (congrArg some H76.out)) hc) (eval_if ((dep_val (hdep 40 78 (by decide) rfl)).trans (congrArg some H78.out)) hc)) (hK _ _ H79.out.symm (Below.refl _ _)),
      fun ac W hb hold hdep K hK => op_u (u := .bool ((((((b1 && ((f.t : Int) == g.t)) && ((f.c : Int) == g.c)) && (f.p.toList == g.p.toList)) && es) && ((f.n : Int) == g.n)) && ((f.id : Int) == g.id))) rfl (r_and _ _ _ rfl (eval_tmp ((dep_val (hdep 36 74 (by decide) rfl)).trans (congrArg some H74.out))) (fun hb => eval_if ((dep_val (hdep 41 79 (by decide) rfl)).trans (congrArg some H79.out)) (by simp [hb])) rfl) (hK _ _ H80.out.symm (Below.refl _ _)),
      fun ac W hb hold hdep K hK => op_u (u := .bool ((((((b1 && ((f.t : Int) == g.t)) && ((f.c : Int) == g.c)) && (f.p.toList == g.p.toList)) && es) && ((f.n : Int) == g.n)) && ((f.id : Int) == g.id))) rfl (r_move _ rfl (eval_tmp ((dep_val (hdep 42 80 (by decide) rfl)).trans (congrArg some H80.out)))) (hK _ _ H81.out.symm (Below.refl _ _)),
      fun ac W hb hold hdep K hK => op_g (u := .pointer (some ⟨g6, 1, none⟩)) (want_all rfl rfl ((dep_val (hdep 43 81 (by decide) rfl)).trans (congrArg some H81.out))) (fun hc => r_field 30 _ 1 rfl (eval_tmp ((hold 6 (free_slot (by as_aux_lemma => kernel_rfl))).trans rfl)) Tryz.underlying30 rfl (n := 0) isz_21 rfl) (hK _ _ H82.out.symm (Below.refl _ _)),
      fun ac W hb hold hdep K hK => op_g (u := .int .i32 f.to) (want_all rfl rfl ((dep_val (hdep 43 81 (by decide) rfl)).trans (congrArg some H81.out))) (fun hc => r_load 21 _ rfl (eval_if ((dep_val (hdep 44 82 (by decide) rfl)).trans (congrArg some H82.out)) hc) (blk_cell (HU3.out.below hb HU3.out.lt) 1 rfl) Tryz.underlying21 rfl) (hK _ _ H83.out.symm (Below.refl _ _)),
      fun ac W hb hold hdep K hK => op_g (u := .pointer (some ⟨g7, 1, none⟩)) (want_all rfl rfl ((dep_val (hdep 43 81 (by decide) rfl)).trans (congrArg some H81.out))) (fun hc => r_field 30 _ 1 rfl (eval_tmp ((hold 7 (free_slot (by as_aux_lemma => kernel_rfl))).trans rfl)) Tryz.underlying30 rfl (n := 0) isz_21 rfl) (hK _ _ H84.out.symm (Below.refl _ _)),
      fun ac W hb hold hdep K hK => op_g (u := .int .i32 g.to) (want_all rfl rfl ((dep_val (hdep 43 81 (by decide) rfl)).trans (congrArg some H81.out))) (fun hc => r_load 21 _ rfl (eval_if ((dep_val (hdep 46 84 (by decide) rfl)).trans (congrArg some H84.out)) hc) (blk_cell (HV3.out.below hb HV3.out.lt) 1 rfl) Tryz.underlying21 rfl) (hK _ _ H85.out.symm (Below.refl _ _)),
      fun ac W hb hold hdep K hK => op_g (u := .bool ((f.to : Int) == g.to)) (want_all rfl rfl ((dep_val (hdep 43 81 (by decide) rfl)).trans (congrArg some H81.out))) (fun hc => r_ieq 21 _ _ _ rfl (eval_if ((dep_val (hdep 45 83 (by decide) rfl)).trans (congrArg some H83.out)) hc) (eval_if ((dep_val (hdep 47 85 (by decide) rfl)).trans (congrArg some H85.out)) hc)) (hK _ _ H86.out.symm (Below.refl _ _)),
      fun ac W hb hold hdep K hK => op_u (u := .bool (((((((b1 && ((f.t : Int) == g.t)) && ((f.c : Int) == g.c)) && (f.p.toList == g.p.toList)) && es) && ((f.n : Int) == g.n)) && ((f.id : Int) == g.id)) && ((f.to : Int) == g.to))) rfl (r_and _ _ _ rfl (eval_tmp ((dep_val (hdep 43 81 (by decide) rfl)).trans (congrArg some H81.out))) (fun hb => eval_if ((dep_val (hdep 48 86 (by decide) rfl)).trans (congrArg some H86.out)) (by simp [hb])) rfl) (hK _ _ H87.out.symm (Below.refl _ _)),
      fun ac W hb hold hdep K hK => op_u (u := .bool (((((((b1 && ((f.t : Int) == g.t)) && ((f.c : Int) == g.c)) && (f.p.toList == g.p.toList)) && es) && ((f.n : Int) == g.n)) && ((f.id : Int) == g.id)) && ((f.to : Int) == g.to))) rfl (r_move _ rfl (eval_tmp ((dep_val (hdep 49 87 (by decide) rfl)).trans (congrArg some H87.out)))) (hK _ _ H88.out.symm (Below.refl _ _)),
      fun ac W hb hold hdep K hK => op_g (u := .pointer (some ⟨g6, 2, none⟩)) (want_all rfl rfl ((dep_val (hdep 50 88 (by decide) rfl)).trans (congrArg some H88.out))) (fun hc => r_field 30 _ 2 rfl (eval_tmp ((hold 6 (free_slot (by as_aux_lemma => kernel_rfl))).trans rfl)) Tryz.underlying30 rfl (n := 0) isz_28 rfl) (hK _ _ H89.out.symm (Below.refl _ _)),
      fun ac W hb hold hdep K hK => op_g (u := .slice i.A i.n i.c) (want_all rfl rfl ((dep_val (hdep 50 88 (by decide) rfl)).trans (congrArg some H88.out))) (fun hc => r_load 28 _ rfl (eval_if ((dep_val (hdep 51 89 (by decide) rfl)).trans (congrArg some H89.out)) hc) (blk_cell (HU3.out.below hb HU3.out.lt) 2 rfl) Tryz.underlying28 rfl) (hK _ _ H90.out.symm (Below.refl _ _)),
      fun ac W hb hold hdep K hK => op_g (u := .pointer (some ⟨g7, 2, none⟩)) (want_all rfl rfl ((dep_val (hdep 50 88 (by decide) rfl)).trans (congrArg some H88.out))) (fun hc => r_field 30 _ 2 rfl (eval_tmp ((hold 7 (free_slot (by as_aux_lemma => kernel_rfl))).trans rfl)) Tryz.underlying30 rfl (n := 0) isz_28 rfl) (hK _ _ H91.out.symm (Below.refl _ _)),
      fun ac W hb hold hdep K hK => op_g (u := .slice i'.A i'.n i'.c) (want_all rfl rfl ((dep_val (hdep 50 88 (by decide) rfl)).trans (congrArg some H88.out))) (fun hc => r_load 28 _ rfl (eval_if ((dep_val (hdep 53 91 (by decide) rfl)).trans (congrArg some H91.out)) hc) (blk_cell (HV3.out.below hb HV3.out.lt) 2 rfl) Tryz.underlying28 rfl) (hK _ _ H92.out.symm (Below.refl _ _)),
      fun ac W hb hold hdep K hK => op_call (u := .bool ei) (want_all rfl rfl ((dep_val (hdep 50 88 (by decide) rfl)).trans (congrArg some H88.out))) 131 _ _ rfl (#[.slice i.A i.n i.c, .slice i'.A i'.n i'.c]) (fun hc => by simp [(eval_if ((dep_val (hdep 52 90 (by decide) rfl)).trans (congrArg some H90.out)) hc), (eval_if ((dep_val (hdep 54 92 (by decide) rfl)).trans (congrArg some H92.out)) hc)]) Tryz.func131 (by as_aux_lemma => kernel_rfl) (by as_aux_lemma => kernel_rfl) (fun hc => CI.out W (HB3.out.trans (hb.mono HB3.out.size))) (fun w' hbl => hK _ _ H93.out.symm hbl),
      fun ac W hb hold hdep K hK => op_u (u := .bool ((((((((b1 && ((f.t : Int) == g.t)) && ((f.c : Int) == g.c)) && (f.p.toList == g.p.toList)) && es) && ((f.n : Int) == g.n)) && ((f.id : Int) == g.id)) && ((f.to : Int) == g.to)) && ei)) rfl (r_and _ _ _ rfl (eval_tmp ((dep_val (hdep 50 88 (by decide) rfl)).trans (congrArg some H88.out))) (fun hb => eval_if ((dep_val (hdep 55 93 (by decide) rfl)).trans (congrArg some H93.out)) (by simp [hb])) rfl) (hK _ _ H94.out.symm (Below.refl _ _)),
      fun ac W hb hold hdep K hK => op_u (u := .bool ((((((((b1 && ((f.t : Int) == g.t)) && ((f.c : Int) == g.c)) && (f.p.toList == g.p.toList)) && es) && ((f.n : Int) == g.n)) && ((f.id : Int) == g.id)) && ((f.to : Int) == g.to)) && ei)) rfl (r_assign _ rfl (eval_tmp ((dep_val (hdep 56 94 (by decide) rfl)).trans (congrArg some H94.out)))) (hK _ _ rfl (Below.refl _ _)), trivial⟩ ?_
    intro w4 hb4
    simp only [Fin, Act.put, List.setIfInBounds_toArray, List.set_cons_zero, List.set_cons_succ]
    clear H38 H39 H40 H41 H42 H43 H44 H45 H46 H47 H48 H49 H50 H51 H52 H53 H54 H55 H56 H57 H58 H59 H60 H61 H62 H63 H64 H65 H66 H67 H68 H69 H70 H71 H72 H73 H74 H75 H76 H77 H78 H79 H80 H81 H82 H83 H84 H85 H86 H87 H88 H89 H90 H91 H92 H93 H94
    have HB4 := Lib.hid (HB3.out.trans (hb4.mono HB3.out.size))
    clear hb4
    go_wp2
    go_ret
    exact ⟨by rw [HBB.out]; rfl, HB4.out⟩
end Go.Proofs.YtnbaajplelchjaaGreatDoor
