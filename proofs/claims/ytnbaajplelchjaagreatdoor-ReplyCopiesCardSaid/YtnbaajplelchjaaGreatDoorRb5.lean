/- ReplyCopies: the walk. (printed by gen_rb5.py) -/
import Derived.Test.YtnbaajplelchjaaGreatDoorRb4
set_option linter.unusedVariables false
set_option linter.unusedSimpArgs false
namespace Go.Proofs.YtnbaajplelchjaaGreatDoor
open Go.RowKit

theorem r_bneS {P : Program} {o : Oper} {ρ : Operand → Value} {w : World} (t : TypeId) (x y : Operand) (t' : TypeId) (ho : o.op = .binOp .neq t x y t') (ht : P.underlying t = some .bool) {m : Bool} (hx : ρ x = .bool m) (hy : ρ y = .bool m) : (execOp ρ o).run P w = .ok (.value (.bool false)) w :=
  (r_bne t x y t' ho ht hx hy).trans (by cases m <;> rfl)
theorem r_bld {P : Program} {o : Oper} {ρ : Operand → Value} {w : World} (t : TypeId) (parts : Array (Nat × Operand)) (ho : o.op = .build t parts) {v : Value} (hr : (Instr.build t (parts.map fun (i, x) => (i, ρ x))).run P w = .ok v w) : (execOp ρ o).run P w = .ok (.value v) w := by
  unfold execOp
  simp only [ho, Sem.run_bind, hr, Result.andThen_ok]
  rfl
set_option maxRecDepth 100000 in
set_option maxHeartbeats 16000000 in
theorem copiesLaw_walk {W0 : World} {x y : ResC} {xs ys : List Value} (hx : At W0 none x xs) (hy : At W0 none y ys) (a z c a' z' c' : Int) (E : Env W0) :
    Calls Tryz.prog 6 #[.agg (rp a z c xs).toArray, .agg (rp a' z' c' ys).toArray] W0 fun e w' => e = .returned (.bool true) ∧ Below W0.heap.size W0 w' := by
  have HX : Hid (∀ W, Below W0.heap.size W0 W → At W none x xs) := fun W hW => hx.later hW
  have HY : Hid (∀ W, Below W0.heap.size W0 W → At W none y ys) := fun W hW => hy.later hW
  have HE : Hid (∀ W, Below W0.heap.size W0 W → Env W) := fun W hW => E.below hW
  have HIX := Lib.hid (hx.rinfoL a z c)
  have HIY := Lib.hid (hy.rinfoL a' z' c')
  have HIZ := Lib.hid ((zAt W0).rinfoL a z c)
  have HAX := Lib.hid (hx.rinfo a z c)
  have HZZ := Lib.hid ((zAt W0).rzero a z c)
  have HZA := Lib.hid ((zAt W0).rinfo a z c)
  have HZO := Lib.hid ((zAt W0).rone a z c)
  have HAY := Lib.hid (hy.rinfo a' z' c')
  obtain ⟨w1, hw1⟩ : ∃ w1, (W0.alloc (.cells (rp a z c xs).toArray 35)).alloc (.cells (rp a' z' c' ys).toArray 35) = w1 := ⟨_, rfl⟩
  have HB1 : Hid (Below W0.heap.size W0 w1) := by unfold Hid; rw [← hw1]; exact ((Below.refl _ _).alloc (Nat.le_refl _) _).alloc (by simp) _
  have H0 : Hid (Blk w1 W0.heap.size 35 (rp a z c xs).toArray) := by unfold Hid; rw [← hw1]; exact (Blk.new _ _ _).alloc _
  have H1 : Hid (Blk w1 (W0.heap.size + 1) 35 (rp a' z' c' ys).toArray) := by unfold Hid; rw [← hw1]; exact Blk.new' (by simp)
  clear hx hy E
  obtain ⟨xa, hxa⟩ : ∃ v, v = (rp a z c xs).toArray := ⟨_, rfl⟩
  obtain ⟨ya, hya⟩ : ∃ v, v = (rp a' z' c' ys).toArray := ⟨_, rfl⟩
  rw [← hxa, ← hya] at hw1 ⊢
  rw [← hxa] at H0 HAX
  rw [← hya] at H1 HAY
  have HXA := Lib.hid hxa
  have HYA := Lib.hid hya
  clear hxa hya
  go_enter Tryz.func6, Tryz.ntmps6
  go_wp2_with (first
    | ((with_reducible refine wpAt 8 ?_)
       refine wpList_load_row rfl 35 (.tmp 2) rfl W0.heap.size rfl 35 _ _ _ H0.out Tryz.underlying35 rfl HAX.out ?_
       rw [HXA.out])
    | (go_at_call 8
       refine (refRepClone_any (HX.out _ HB1.out) a z c _ (Below.refl _ _)).mono ?_
       rintro e w2 ⟨os, rfl, hat, hb⟩
       have HB2 := hidT HB1 hb
       have HO2 := Lib.hid hat.any
       have H02 := Lib.hid (H0.out.below hb H0.out.lt)
       have H12 := Lib.hid (H1.out.below hb H1.out.lt)
       have HIO := Lib.hid (hat.rinfoL a z c)
       have HAO := Lib.hid (hat.rinfo a z c)
       have HOZ := Lib.hid (hat.rzero a z c)
       have HOO := Lib.hid (hat.rone a z c)
       clear hb hat)
    | ((with_reducible refine wpAt 5 ?_)
       refine wpList_newrow rfl rfl 35 rfl 5 rfl (.tmp 9) rfl rfl (rp a z c os).toArray (fun _ => rfl) (show 5 < 60 by decide) HOZ.out HAO.out HOO.out ?_
       obtain ⟨w3, hw3⟩ : ∃ v, w2.alloc (.cells (rp a z c os).toArray 35) = v := ⟨_, rfl⟩
       rw [hw3]
       have hb3 := newB hw3
       have HB3 := hidT HB2 hb3
       have HO3 := Lib.hid (HO2.out.later hb3)
       have H03 := Lib.hid (H02.out.below hb3 H02.out.lt)
       have H13 := Lib.hid (H12.out.below hb3 H12.out.lt)
       have H23 := Lib.hid (newK hw3)
       have hz3 : w2.heap.size < w3.heap.size := (newK hw3).lt
       clear hw3 hb3)
    | ((with_reducible refine wpAt 10 ?_)
       refine wpList_load_row rfl 35 (.tmp 5) rfl w2.heap.size rfl 35 _ _ _ H23.out Tryz.underlying35 rfl HAO.out ?_)
    | (go_at_call 23
       refine (repClone_any HO3.out a z c _ (Below.refl _ _)).mono ?_
       rintro e w4 ⟨cc, rfl, hat, hb⟩
       have HB34 := Lib.hid hb
       have HB4 := hidT HB3 hb
       have HC4 := Lib.hid hat
       have HO4 := Lib.hid (HO3.out.later hb)
       have H04 := Lib.hid (H03.out.below hb H03.out.lt)
       have H14 := Lib.hid (H13.out.below hb H13.out.lt)
       have H24 := Lib.hid (H23.out.below hb H23.out.lt)
       have HIC := Lib.hid (hat.rinfoL a z c)
       have HAC := Lib.hid (hat.rinfo a z c)
       have HCZ := Lib.hid (hat.rzero a z c)
       have HCO := Lib.hid (hat.rone a z c)
       clear hb hat)
    | ((with_reducible refine wpAt 6 ?_)
       refine wpList_newrow rfl rfl 35 rfl 6 rfl (.tmp 11) rfl rfl (rp a z c cc).toArray (fun _ => rfl) (show 6 < 60 by decide) HCZ.out HAC.out HCO.out ?_
       obtain ⟨w5, hw5⟩ : ∃ v, w4.alloc (.cells (rp a z c cc).toArray 35) = v := ⟨_, rfl⟩
       rw [hw5]
       have hb5 := newB hw5
       have HB45 := Lib.hid hb5
       have HB5 := hidT HB4 hb5
       have HO5 := Lib.hid (HO4.out.later hb5)
       have H05 := Lib.hid (H04.out.below hb5 H04.out.lt)
       have H15 := Lib.hid (H14.out.below hb5 H14.out.lt)
       have H25 := Lib.hid (H24.out.below hb5 H24.out.lt)
       have H35 := Lib.hid (newK hw5)
       have q0 : w5.cell? ⟨W0.heap.size, 0, none⟩ = some (.int .i32 a) := blk_cell H05.out 0 (by rw [HXA.out]; rfl)
       have q1 : w5.cell? ⟨W0.heap.size, 1, none⟩ = some (.int .i64 z) := blk_cell H05.out 1 (by rw [HXA.out]; rfl)
       have q2 : w5.cell? ⟨W0.heap.size, 2, none⟩ = some (.int .i32 c) := blk_cell H05.out 2 (by rw [HXA.out]; rfl)
       clear hw5 hb5)
    | (go_at_call 24
       refine (failed_any a z c _).mono ?_
       rintro e w6 ⟨rfl, hb⟩
       have HB46 := hidT HB45 hb
       have HB6 := hidT HB5 hb
       have HO6 := Lib.hid (HO5.out.later hb)
       have H06 := Lib.hid (H05.out.below hb H05.out.lt)
       have H16 := Lib.hid (H15.out.below hb H15.out.lt)
       have H26 := Lib.hid (H25.out.below hb H25.out.lt)
       have H36 := Lib.hid (H35.out.below hb H35.out.lt)
       clear hb q0 q1 q2)
    | ((with_reducible refine wpAt 7 ?_)
       refine wpList_newrow rfl rfl 35 rfl 7 rfl (.tmp 18) rfl rfl (rp a z c resZero.toList).toArray (fun _ => rfl) (show 7 < 60 by decide) HZZ.out HZA.out HZO.out ?_
       obtain ⟨w7, hw7⟩ : ∃ v, w6.alloc (.cells (rp a z c resZero.toList).toArray 35) = v := ⟨_, rfl⟩
       rw [hw7]
       have hb7 := newB hw7
       have HB47 := hidT HB46 hb7
       have HB7 := hidT HB6 hb7
       have HO7 := Lib.hid (HO6.out.later hb7)
       have HG0 : Hid (Blk w7 W0.heap.size 35 (rp a z c xs).toArray) := (by unfold Hid; rw [← HXA.out]; exact H06.out.below hb7 H06.out.lt)
       have HG1 : Hid (Blk w7 (W0.heap.size + 1) 35 (rp a' z' c' ys).toArray) := (by unfold Hid; rw [← HYA.out]; exact H16.out.below hb7 H16.out.lt)
       have HG2 := Lib.hid (H26.out.below hb7 H26.out.lt)
       have HG3 := Lib.hid (H36.out.below hb7 H36.out.lt)
       have HG4 := Lib.hid (newK hw7)
       clear hw7 hb7 H0 H1 H02 H12 H03 H13 H23 H04 H14 H24 H05 H15 H25 H35 H06 H16 H26 H36))
  have HX7 := Lib.hid (HX.out _ HB7.out)
  have HY7 := Lib.hid (HY.out _ HB7.out)
  have HC7 : Hid (At w7 (some w3.heap.size) x cc) := HC4.out.later HB47.out
  have HAL : Hid (∀ W, Below w7.heap.size w7 W → Calls Tryz.prog 16 #[] W fun e w' => e = .returned (.bool true) ∧ Below W.heap.size W w') := fun W hW => live_any W (HE.out W (HB7.out.trans (hW.mono HB7.out.size)))
  have HCL : Hid (∀ W, Below w7.heap.size w7 W → Calls Tryz.prog 8 #[.agg (rp a z c xs).toArray] W fun e w' => ∃ cs', e = .returned (.agg (rp a z c cs').toArray) ∧ At w' (some W.heap.size) x cs' ∧ Below W.heap.size W w') := fun W hW => refRepClone_any HX7.out a z c W hW
  obtain ⟨bb, hb1, hc1⟩ := repSame_any HO7.out HY7.out a z c a' z' c'
  have HS1 : Hid (∀ W, Below w7.heap.size w7 W → Calls Tryz.prog 25 #[.agg (rp a z c os).toArray, .agg (rp a' z' c' ys).toArray] W fun e w' => e = .returned (.bool bb) ∧ Below W.heap.size W w') := hc1
  obtain ⟨b2, hb2, hc2⟩ := refRepSame_any HX7.out HY7.out a z c a' z' c'
  obtain rfl : b2 = bb := by rw [Bool.eq_iff_iff, hb1, hb2]
  have HS2 : Hid (∀ W, Below w7.heap.size w7 W → Calls Tryz.prog 15 #[.agg (rp a z c xs).toArray, .agg (rp a' z' c' ys).toArray] W fun e w' => e = .returned (.bool b2) ∧ Below W.heap.size W w') := hc2
  have HS3 : Hid (∀ W, Below w7.heap.size w7 W → ∀ cs', At W none x cs' → Calls Tryz.prog 25 #[.agg (rp a z c os).toArray, .agg (rp a z c cs').toArray] W fun e w' => e = .returned (.bool true) ∧ Below W.heap.size W w') := fun W hW cs' hat => by
    obtain ⟨b3, h3, c3⟩ := repSame_any (HO7.out.later hW) hat a z c a z c
    obtain rfl : b3 = true := h3.2 ⟨rfl, rfl, rfl, rfl⟩
    exact c3 W (Below.refl _ _)
  have HS4 : Hid (∀ W, Below w7.heap.size w7 W → Calls Tryz.prog 15 #[.agg (rp a z c cc).toArray, .agg (rp a z c xs).toArray] W fun e w' => e = .returned (.bool true) ∧ Below W.heap.size W w') := by
    obtain ⟨b3, h3, c3⟩ := refRepSame_any HC7.out HX7.out a z c a z c
    obtain rfl : b3 = true := h3.2 ⟨rfl, rfl, rfl, rfl⟩
    exact c3
  have HS5 : Hid (∀ W, Below w7.heap.size w7 W → Calls Tryz.prog 15 #[.agg (rp a z c resZero.toList).toArray, .agg (rp a z c resZero.toList).toArray] W fun e w' => e = .returned (.bool true) ∧ Below W.heap.size W w') := by
    obtain ⟨b3, h3, c3⟩ := refRepSame_any (zAt w7) (zAt w7) a z c a z c
    obtain rfl : b3 = true := h3.2 ⟨rfl, rfl, rfl, rfl⟩
    exact c3
  clear hb1 hc1 hb2 hc2
  obtain ⟨x19, H19⟩ : ∃ x : Value, Hid (x = .agg (rp a z c os).toArray) := ⟨_, rfl⟩
  obtain ⟨x20, H20⟩ : ∃ x : Value, Hid (x = .agg (rp a' z' c' ys).toArray) := ⟨_, rfl⟩
  obtain ⟨x21, H21⟩ : ∃ x : Value, Hid (x = .bool b2) := ⟨_, rfl⟩
  obtain ⟨x22, H22⟩ : ∃ x : Value, Hid (x = .agg (rp a z c xs).toArray) := ⟨_, rfl⟩
  obtain ⟨x23, H23⟩ : ∃ x : Value, Hid (x = .agg (rp a' z' c' ys).toArray) := ⟨_, rfl⟩
  obtain ⟨x24, H24⟩ : ∃ x : Value, Hid (x = .bool b2) := ⟨_, rfl⟩
  obtain ⟨x25, H25⟩ : ∃ x : Value, Hid (x = .bool false) := ⟨_, rfl⟩
  obtain ⟨x26, H26⟩ : ∃ x : Value, Hid (x = .bool false) := ⟨_, rfl⟩
  obtain ⟨x27, H27⟩ : ∃ x : Value, Hid (x = .agg (rp a z c os).toArray) := ⟨_, rfl⟩
  obtain ⟨x28, H28⟩ : ∃ x : Value, Hid (x = .agg (rp a z c xs).toArray) := ⟨_, rfl⟩
  obtain ⟨x31, H31⟩ : ∃ x : Value, Hid (x = .bool false) := ⟨_, rfl⟩
  obtain ⟨x32, H32⟩ : ∃ x : Value, Hid (x = .bool false) := ⟨_, rfl⟩
  obtain ⟨x33, H33⟩ : ∃ x : Value, Hid (x = .bool false) := ⟨_, rfl⟩
  obtain ⟨x34, H34⟩ : ∃ x : Value, Hid (x = .agg (rp a z c cc).toArray) := ⟨_, rfl⟩
  obtain ⟨x35, H35⟩ : ∃ x : Value, Hid (x = .agg (rp a z c xs).toArray) := ⟨_, rfl⟩
  obtain ⟨x36, H36⟩ : ∃ x : Value, Hid (x = .bool true) := ⟨_, rfl⟩
  obtain ⟨x37, H37⟩ : ∃ x : Value, Hid (x = .bool false) := ⟨_, rfl⟩
  obtain ⟨x38, H38⟩ : ∃ x : Value, Hid (x = .bool false) := ⟨_, rfl⟩
  obtain ⟨x39, H39⟩ : ∃ x : Value, Hid (x = .bool false) := ⟨_, rfl⟩
  obtain ⟨x40, H40⟩ : ∃ x : Value, Hid (x = .agg (rp a z c resZero.toList).toArray) := ⟨_, rfl⟩
  obtain ⟨x41, H41⟩ : ∃ x : Value, Hid (x = .pointer (some ⟨W0.heap.size, 0, none⟩)) := ⟨_, rfl⟩
  obtain ⟨x42, H42⟩ : ∃ x : Value, Hid (x = .int .i32 a) := ⟨_, rfl⟩
  obtain ⟨x43, H43⟩ : ∃ x : Value, Hid (x = .pointer (some ⟨W0.heap.size, 1, none⟩)) := ⟨_, rfl⟩
  obtain ⟨x44, H44⟩ : ∃ x : Value, Hid (x = .int .i64 z) := ⟨_, rfl⟩
  obtain ⟨x45, H45⟩ : ∃ x : Value, Hid (x = .pointer (some ⟨W0.heap.size, 2, none⟩)) := ⟨_, rfl⟩
  obtain ⟨x46, H46⟩ : ∃ x : Value, Hid (x = .int .i32 c) := ⟨_, rfl⟩
  obtain ⟨x48, H48⟩ : ∃ x : Value, Hid (x = .bool true) := ⟨_, rfl⟩
  obtain ⟨x49, H49⟩ : ∃ x : Value, Hid (x = .bool false) := ⟨_, rfl⟩
  obtain ⟨x50, H50⟩ : ∃ x : Value, Hid (x = .bool false) := ⟨_, rfl⟩
  obtain ⟨x51, H51⟩ : ∃ x : Value, Hid (x = .bool false) := ⟨_, rfl⟩
  obtain ⟨x52, H52⟩ : ∃ x : Value, Hid (x = .bool true) := ⟨_, rfl⟩
  obtain ⟨x53, H53⟩ : ∃ x : Value, Hid (x = .bool false) := ⟨_, rfl⟩
  refine wp_region_ord (w0 := w7) (.inl x19 ::
    .inl x20 ::
    .inl x21 ::
    .inl x22 ::
    .inl x23 ::
    .inl x24 ::
    .inl x25 ::
    .inl x26 ::
    .inl x27 ::
    .inl x28 ::
    .inr (fun v W => ∃ cs' : List Value, v = .agg (rp a z c cs').toArray ∧ At W none x cs') ::
    .inl (.bool true) ::
    .inl x31 ::
    .inl x32 ::
    .inl x33 ::
    .inl x34 ::
    .inl x35 ::
    .inl x36 ::
    .inl x37 ::
    .inl x38 ::
    .inl x39 ::
    .inl x40 ::
    .inl x41 ::
    .inl x42 ::
    .inl x43 ::
    .inl x44 ::
    .inl x45 ::
    .inl x46 ::
    .inl (.agg (rp a z c resZero.toList).toArray) ::
    .inl x48 ::
    .inl x49 ::
    .inl x50 ::
    .inl x51 ::
    .inl x52 ::
    .inl x53 ::
    .inl (.bool false) :: []) rfl (by as_aux_lemma => kernel_rfl) (by as_aux_lemma => kernel_rfl) (by as_aux_lemma => kernel_rfl) (by as_aux_lemma => kernel_rfl) (by
    intro p hp
    simp only [List.mem_cons, reduceCtorEq, Sum.inr.injEq, List.not_mem_nil, or_false, false_or] at hp
    subst hp
    rintro v W W' ⟨cs', h1, h2⟩ hb
    exact ⟨cs', h1, h2.later hb⟩) ⟨fun ac W hb hold hdep K hK => step_val (v := .agg (rp a z c os).toArray) (want_free rfl) (r_load_row 35 _ rfl (eval_tmp ((hold 5 (free_slot (by as_aux_lemma => kernel_rfl))).trans rfl)) (rp a z c os) (rp_all (HG2.out.below hb HG2.out.lt)) Tryz.underlying35 rfl HIO.out) (hK _ _ H19.out.symm (Below.refl _ _)),
    fun ac W hb hold hdep K hK => step_val (v := .agg (rp a' z' c' ys).toArray) (want_free rfl) (r_load_row 35 _ rfl (eval_tmp ((hold 3 (free_slot (by as_aux_lemma => kernel_rfl))).trans rfl)) (rp a' z' c' ys) (rp_all (HG1.out.below hb HG1.out.lt)) Tryz.underlying35 rfl HIY.out) (hK _ _ H20.out.symm (Below.refl _ _)),
    fun ac W hb hold hdep K hK => step_call (want_free rfl) 25 _ _ rfl #[.agg (rp a z c os).toArray, .agg (rp a' z' c' ys).toArray] (mapA2 (show ac.eval _ = .agg (rp a z c os).toArray from (eval_tmp ((dep_val (hdep ⟨0, .data⟩ (by simp) rfl 19 rfl)).trans (congrArg some H19.out)))) (show ac.eval _ = .agg (rp a' z' c' ys).toArray from (eval_tmp ((dep_val (hdep ⟨1, .data⟩ (by simp) rfl 20 rfl)).trans (congrArg some H20.out))))) Tryz.func25 (by as_aux_lemma => kernel_rfl) (by as_aux_lemma => kernel_rfl) (HS1.out W hb) (fun e w' ⟨he, hbl⟩ => ⟨_, he, hK _ _ H21.out.symm hbl⟩),
    fun ac W hb hold hdep K hK => step_val (v := .agg (rp a z c xs).toArray) (want_free rfl) (r_load_row 35 _ rfl (eval_tmp ((hold 2 (free_slot (by as_aux_lemma => kernel_rfl))).trans rfl)) (rp a z c xs) (rp_all (HG0.out.below hb HG0.out.lt)) Tryz.underlying35 rfl HIX.out) (hK _ _ H22.out.symm (Below.refl _ _)),
    fun ac W hb hold hdep K hK => step_val (v := .agg (rp a' z' c' ys).toArray) (want_free rfl) (r_load_row 35 _ rfl (eval_tmp ((hold 3 (free_slot (by as_aux_lemma => kernel_rfl))).trans rfl)) (rp a' z' c' ys) (rp_all (HG1.out.below hb HG1.out.lt)) Tryz.underlying35 rfl HIY.out) (hK _ _ H23.out.symm (Below.refl _ _)),
    fun ac W hb hold hdep K hK => step_call (want_free rfl) 15 _ _ rfl #[.agg (rp a z c xs).toArray, .agg (rp a' z' c' ys).toArray] (mapA2 (show ac.eval _ = .agg (rp a z c xs).toArray from (eval_tmp ((dep_val (hdep ⟨3, .data⟩ (by simp) rfl 22 rfl)).trans (congrArg some H22.out)))) (show ac.eval _ = .agg (rp a' z' c' ys).toArray from (eval_tmp ((dep_val (hdep ⟨4, .data⟩ (by simp) rfl 23 rfl)).trans (congrArg some H23.out))))) Tryz.func15 (by as_aux_lemma => kernel_rfl) (by as_aux_lemma => kernel_rfl) (HS2.out W hb) (fun e w' ⟨he, hbl⟩ => ⟨_, he, hK _ _ H24.out.symm hbl⟩),
    fun ac W hb hold hdep K hK => step_val (v := .bool false) (want_free rfl) (r_bneS 4 _ _ _ rfl Tryz.underlying4 (eval_tmp ((dep_val (hdep ⟨2, .data⟩ (by simp) rfl 21 rfl)).trans (congrArg some H21.out))) (eval_tmp ((dep_val (hdep ⟨5, .data⟩ (by simp) rfl 24 rfl)).trans (congrArg some H24.out)))) (hK _ _ H25.out.symm (Below.refl _ _)),
    fun ac W hb hold hdep K hK => step_val (v := .bool false) (want_free rfl) (r_move _ rfl (eval_tmp ((dep_val (hdep ⟨6, .data⟩ (by simp) rfl 25 rfl)).trans (congrArg some H25.out)))) (hK _ _ H26.out.symm (Below.refl _ _)),
    fun ac W hb hold hdep K hK => step_val (v := .agg (rp a z c os).toArray) (want_guard rfl rfl ((dep_val (hdep ⟨7, .guard⟩ (by simp) rfl 26 rfl)).trans (congrArg some H26.out))) (r_load_row 35 _ rfl (eval_tmp ((hold 5 (free_slot (by as_aux_lemma => kernel_rfl))).trans rfl)) (rp a z c os) (rp_all (HG2.out.below hb HG2.out.lt)) Tryz.underlying35 rfl HIO.out) (hK _ _ H27.out.symm (Below.refl _ _)),
    fun ac W hb hold hdep K hK => step_val (v := .agg (rp a z c xs).toArray) (want_guard rfl rfl ((dep_val (hdep ⟨7, .guard⟩ (by simp) rfl 26 rfl)).trans (congrArg some H26.out))) (r_load_row 35 _ rfl (eval_tmp ((hold 2 (free_slot (by as_aux_lemma => kernel_rfl))).trans rfl)) (rp a z c xs) (rp_all (HG0.out.below hb HG0.out.lt)) Tryz.underlying35 rfl HIX.out) (hK _ _ H28.out.symm (Below.refl _ _)),
    fun ac W hb hold hdep K hK => by
      have e28 : ac.eval (.tmp 28) = .agg (rp a z c xs).toArray := eval_tmp ((dep_val (hdep ⟨9, .data⟩ (by simp) rfl 28 rfl)).trans (congrArg some H28.out))
      refine step_call (want_guard rfl rfl ((dep_val (hdep ⟨7, .guard⟩ (by simp) rfl 26 rfl)).trans (congrArg some H26.out))) 8 _ _ rfl #[.agg (rp a z c xs).toArray] (mapA1 e28) Tryz.func8 (by as_aux_lemma => kernel_rfl) (by as_aux_lemma => kernel_rfl) (HCL.out W hb) ?_
      rintro e w' ⟨cs', rfl, hat, hbl⟩
      exact ⟨_, rfl, hK _ _ ⟨cs', rfl, hat.any⟩ hbl⟩,
    fun ac W hb hold hdep K hK => by
      obtain ⟨v29, h29, cs', rfl, hat⟩ := hdep ⟨10, .data⟩ (by simp) rfl 29 rfl
      have e29 : ac.eval (.tmp 29) = .agg (rp a z c cs').toArray := eval_tmp h29
      have e27 : ac.eval (.tmp 27) = .agg (rp a z c os).toArray := eval_tmp ((dep_val (hdep ⟨8, .data⟩ (by simp) rfl 27 rfl)).trans (congrArg some H27.out))
      refine step_call (want_guard rfl rfl ((dep_val (hdep ⟨7, .guard⟩ (by simp) rfl 26 rfl)).trans (congrArg some H26.out))) 25 _ _ rfl #[.agg (rp a z c os).toArray, .agg (rp a z c cs').toArray] (mapA2 e27 e29) Tryz.func25 (by as_aux_lemma => kernel_rfl) (by as_aux_lemma => kernel_rfl) (HS3.out W hb cs' hat) ?_
      rintro e w' ⟨rfl, hbl⟩
      exact ⟨_, rfl, hK _ _ rfl hbl⟩,
    fun ac W hb hold hdep K hK => step_val (v := .bool false) (want_guard rfl rfl ((dep_val (hdep ⟨7, .guard⟩ (by simp) rfl 26 rfl)).trans (congrArg some H26.out))) (r_not _ _ rfl (eval_tmp (dep_val (hdep ⟨11, .data⟩ (by simp) rfl 30 rfl)))) (hK _ _ H31.out.symm (Below.refl _ _)),
    fun ac W hb hold hdep K hK => step_val (v := .bool false) (want_free rfl) (r_or _ _ _ rfl (eval_tmp ((dep_val (hdep ⟨7, .data⟩ (by simp) rfl 26 rfl)).trans (congrArg some H26.out))) rfl (fun _ => (eval_tmp ((dep_val (hdep ⟨12, .data⟩ (by simp) rfl 31 rfl)).trans (congrArg some H31.out))))) (hK _ _ H32.out.symm (Below.refl _ _)),
    fun ac W hb hold hdep K hK => step_val (v := .bool false) (want_free rfl) (r_move _ rfl (eval_tmp ((dep_val (hdep ⟨13, .data⟩ (by simp) rfl 32 rfl)).trans (congrArg some H32.out)))) (hK _ _ H33.out.symm (Below.refl _ _)),
    fun ac W hb hold hdep K hK => step_val (v := .agg (rp a z c cc).toArray) (want_guard rfl rfl ((dep_val (hdep ⟨14, .guard⟩ (by simp) rfl 33 rfl)).trans (congrArg some H33.out))) (r_load_row 35 _ rfl (eval_tmp ((hold 6 (free_slot (by as_aux_lemma => kernel_rfl))).trans rfl)) (rp a z c cc) (rp_all (HG3.out.below hb HG3.out.lt)) Tryz.underlying35 rfl HIC.out) (hK _ _ H34.out.symm (Below.refl _ _)),
    fun ac W hb hold hdep K hK => step_val (v := .agg (rp a z c xs).toArray) (want_guard rfl rfl ((dep_val (hdep ⟨14, .guard⟩ (by simp) rfl 33 rfl)).trans (congrArg some H33.out))) (r_load_row 35 _ rfl (eval_tmp ((hold 2 (free_slot (by as_aux_lemma => kernel_rfl))).trans rfl)) (rp a z c xs) (rp_all (HG0.out.below hb HG0.out.lt)) Tryz.underlying35 rfl HIX.out) (hK _ _ H35.out.symm (Below.refl _ _)),
    fun ac W hb hold hdep K hK => step_call (want_guard rfl rfl ((dep_val (hdep ⟨14, .guard⟩ (by simp) rfl 33 rfl)).trans (congrArg some H33.out))) 15 _ _ rfl #[.agg (rp a z c cc).toArray, .agg (rp a z c xs).toArray] (mapA2 (show ac.eval _ = .agg (rp a z c cc).toArray from (eval_tmp ((dep_val (hdep ⟨15, .data⟩ (by simp) rfl 34 rfl)).trans (congrArg some H34.out)))) (show ac.eval _ = .agg (rp a z c xs).toArray from (eval_tmp ((dep_val (hdep ⟨16, .data⟩ (by simp) rfl 35 rfl)).trans (congrArg some H35.out))))) Tryz.func15 (by as_aux_lemma => kernel_rfl) (by as_aux_lemma => kernel_rfl) (HS4.out W hb) (fun e w' ⟨he, hbl⟩ => ⟨_, he, hK _ _ H36.out.symm hbl⟩),
    fun ac W hb hold hdep K hK => step_val (v := .bool false) (want_guard rfl rfl ((dep_val (hdep ⟨14, .guard⟩ (by simp) rfl 33 rfl)).trans (congrArg some H33.out))) (r_not _ _ rfl (eval_tmp ((dep_val (hdep ⟨17, .data⟩ (by simp) rfl 36 rfl)).trans (congrArg some H36.out)))) (hK _ _ H37.out.symm (Below.refl _ _)),
    fun ac W hb hold hdep K hK => step_val (v := .bool false) (want_free rfl) (r_or _ _ _ rfl (eval_tmp ((dep_val (hdep ⟨14, .data⟩ (by simp) rfl 33 rfl)).trans (congrArg some H33.out))) rfl (fun _ => (eval_tmp ((dep_val (hdep ⟨18, .data⟩ (by simp) rfl 37 rfl)).trans (congrArg some H37.out))))) (hK _ _ H38.out.symm (Below.refl _ _)),
    fun ac W hb hold hdep K hK => step_val (v := .bool false) (want_free rfl) (r_move _ rfl (eval_tmp ((dep_val (hdep ⟨19, .data⟩ (by simp) rfl 38 rfl)).trans (congrArg some H38.out)))) (hK _ _ H39.out.symm (Below.refl _ _)),
    fun ac W hb hold hdep K hK => step_val (v := .agg (rp a z c resZero.toList).toArray) (want_guard rfl rfl ((dep_val (hdep ⟨20, .guard⟩ (by simp) rfl 39 rfl)).trans (congrArg some H39.out))) (r_load_row 35 _ rfl (eval_tmp ((hold 7 (free_slot (by as_aux_lemma => kernel_rfl))).trans rfl)) (rp a z c resZero.toList) (rp_all (HG4.out.below hb HG4.out.lt)) Tryz.underlying35 rfl HIZ.out) (hK _ _ H40.out.symm (Below.refl _ _)),
    fun ac W hb hold hdep K hK => step_val (v := .pointer (some ⟨W0.heap.size, 0, none⟩)) (want_guard rfl rfl ((dep_val (hdep ⟨20, .guard⟩ (by simp) rfl 39 rfl)).trans (congrArg some H39.out))) (r_field 35 _ 0 rfl (eval_tmp ((hold 2 (free_slot (by as_aux_lemma => kernel_rfl))).trans rfl)) Tryz.underlying35 rfl (n := 0) isz_21 rfl) (hK _ _ H41.out.symm (Below.refl _ _)),
    fun ac W hb hold hdep K hK => step_val (v := .int .i32 a) (want_guard rfl rfl ((dep_val (hdep ⟨20, .guard⟩ (by simp) rfl 39 rfl)).trans (congrArg some H39.out))) (r_load 21 _ rfl (eval_tmp ((dep_val (hdep ⟨22, .data⟩ (by simp) rfl 41 rfl)).trans (congrArg some H41.out))) (blk_cell (HG0.out.below hb HG0.out.lt) 0 rfl) Tryz.underlying21 rfl) (hK _ _ H42.out.symm (Below.refl _ _)),
    fun ac W hb hold hdep K hK => step_val (v := .pointer (some ⟨W0.heap.size, 1, none⟩)) (want_guard rfl rfl ((dep_val (hdep ⟨20, .guard⟩ (by simp) rfl 39 rfl)).trans (congrArg some H39.out))) (r_field 35 _ 1 rfl (eval_tmp ((hold 2 (free_slot (by as_aux_lemma => kernel_rfl))).trans rfl)) Tryz.underlying35 rfl (n := 0) isz_2 rfl) (hK _ _ H43.out.symm (Below.refl _ _)),
    fun ac W hb hold hdep K hK => step_val (v := .int .i64 z) (want_guard rfl rfl ((dep_val (hdep ⟨20, .guard⟩ (by simp) rfl 39 rfl)).trans (congrArg some H39.out))) (r_load 2 _ rfl (eval_tmp ((dep_val (hdep ⟨24, .data⟩ (by simp) rfl 43 rfl)).trans (congrArg some H43.out))) (blk_cell (HG0.out.below hb HG0.out.lt) 1 rfl) Tryz.underlying2 rfl) (hK _ _ H44.out.symm (Below.refl _ _)),
    fun ac W hb hold hdep K hK => step_val (v := .pointer (some ⟨W0.heap.size, 2, none⟩)) (want_guard rfl rfl ((dep_val (hdep ⟨20, .guard⟩ (by simp) rfl 39 rfl)).trans (congrArg some H39.out))) (r_field 35 _ 2 rfl (eval_tmp ((hold 2 (free_slot (by as_aux_lemma => kernel_rfl))).trans rfl)) Tryz.underlying35 rfl (n := 0) isz_22 rfl) (hK _ _ H45.out.symm (Below.refl _ _)),
    fun ac W hb hold hdep K hK => step_val (v := .int .i32 c) (want_guard rfl rfl ((dep_val (hdep ⟨20, .guard⟩ (by simp) rfl 39 rfl)).trans (congrArg some H39.out))) (r_load 22 _ rfl (eval_tmp ((dep_val (hdep ⟨26, .data⟩ (by simp) rfl 45 rfl)).trans (congrArg some H45.out))) (blk_cell (HG0.out.below hb HG0.out.lt) 2 rfl) Tryz.underlying22 rfl) (hK _ _ H46.out.symm (Below.refl _ _)),
    fun ac W hb hold hdep K hK => by
      have e42 : ac.eval (.tmp 42) = .int .i32 a := eval_tmp ((dep_val (hdep ⟨23, .data⟩ (by simp) rfl 42 rfl)).trans (congrArg some H42.out))
      have e44 : ac.eval (.tmp 44) = .int .i64 z := eval_tmp ((dep_val (hdep ⟨25, .data⟩ (by simp) rfl 44 rfl)).trans (congrArg some H44.out))
      have e46 : ac.eval (.tmp 46) = .int .i32 c := eval_tmp ((dep_val (hdep ⟨27, .data⟩ (by simp) rfl 46 rfl)).trans (congrArg some H46.out))
      refine step_val (v := .agg (rp a z c resZero.toList).toArray) (want_guard rfl rfl ((dep_val (hdep ⟨20, .guard⟩ (by simp) rfl 39 rfl)).trans (congrArg some H39.out))) (r_bld 35 #[(0, .tmp 42), (1, .tmp 44), (2, .tmp 46)] rfl ?_) (hK _ _ rfl (Below.refl _ _))
      simp only [List.map_toArray, List.map_cons, List.map_nil, e42, e44, e46]
      exact run_build_rep a z c W,
    fun ac W hb hold hdep K hK => step_call (want_guard rfl rfl ((dep_val (hdep ⟨20, .guard⟩ (by simp) rfl 39 rfl)).trans (congrArg some H39.out))) 15 _ _ rfl #[.agg (rp a z c resZero.toList).toArray, .agg (rp a z c resZero.toList).toArray] (mapA2 (show ac.eval _ = .agg (rp a z c resZero.toList).toArray from (eval_tmp ((dep_val (hdep ⟨21, .data⟩ (by simp) rfl 40 rfl)).trans (congrArg some H40.out)))) (show ac.eval _ = .agg (rp a z c resZero.toList).toArray from (eval_tmp (dep_val (hdep ⟨28, .data⟩ (by simp) rfl 47 rfl))))) Tryz.func15 (by as_aux_lemma => kernel_rfl) (by as_aux_lemma => kernel_rfl) (HS5.out W hb) (fun e w' ⟨he, hbl⟩ => ⟨_, he, hK _ _ H48.out.symm hbl⟩),
    fun ac W hb hold hdep K hK => step_val (v := .bool false) (want_guard rfl rfl ((dep_val (hdep ⟨20, .guard⟩ (by simp) rfl 39 rfl)).trans (congrArg some H39.out))) (r_not _ _ rfl (eval_tmp ((dep_val (hdep ⟨29, .data⟩ (by simp) rfl 48 rfl)).trans (congrArg some H48.out)))) (hK _ _ H49.out.symm (Below.refl _ _)),
    fun ac W hb hold hdep K hK => step_val (v := .bool false) (want_free rfl) (r_or _ _ _ rfl (eval_tmp ((dep_val (hdep ⟨20, .data⟩ (by simp) rfl 39 rfl)).trans (congrArg some H39.out))) rfl (fun _ => (eval_tmp ((dep_val (hdep ⟨30, .data⟩ (by simp) rfl 49 rfl)).trans (congrArg some H49.out))))) (hK _ _ H50.out.symm (Below.refl _ _)),
    fun ac W hb hold hdep K hK => step_val (v := .bool false) (want_free rfl) (r_move _ rfl (eval_tmp ((dep_val (hdep ⟨31, .data⟩ (by simp) rfl 50 rfl)).trans (congrArg some H50.out)))) (hK _ _ H51.out.symm (Below.refl _ _)),
    fun ac W hb hold hdep K hK => step_call (want_guard rfl rfl ((dep_val (hdep ⟨32, .guard⟩ (by simp) rfl 51 rfl)).trans (congrArg some H51.out))) 16 _ _ rfl #[] (mapA0) Tryz.func16 (by as_aux_lemma => kernel_rfl) (by as_aux_lemma => kernel_rfl) (HAL.out W hb) (fun e w' ⟨he, hbl⟩ => ⟨_, he, hK _ _ H52.out.symm hbl⟩),
    fun ac W hb hold hdep K hK => step_val (v := .bool false) (want_guard rfl rfl ((dep_val (hdep ⟨32, .guard⟩ (by simp) rfl 51 rfl)).trans (congrArg some H51.out))) (r_not _ _ rfl (eval_tmp ((dep_val (hdep ⟨33, .data⟩ (by simp) rfl 52 rfl)).trans (congrArg some H52.out)))) (hK _ _ H53.out.symm (Below.refl _ _)),
    fun ac W hb hold hdep K hK => step_val (v := .bool false) (want_free rfl) (r_or _ _ _ rfl (eval_tmp ((dep_val (hdep ⟨32, .data⟩ (by simp) rfl 51 rfl)).trans (congrArg some H51.out))) rfl (fun _ => (eval_tmp ((dep_val (hdep ⟨34, .data⟩ (by simp) rfl 53 rfl)).trans (congrArg some H53.out))))) (hK _ _ rfl (Below.refl _ _)), trivial⟩ ?_
  intro w8 hb8
  simp only [Fin, Act.put, List.setIfInBounds_toArray, List.set_cons_zero, List.set_cons_succ]
  rintro v29 -
  clear H19 H20 H21 H22 H23 H24 H25 H26 H27 H28 H31 H32 H33 H34 H35 H36 H37 H38 H39 H40 H41 H42 H43 H44 H45 H46 H48 H49 H50 H51 H52 H53
  have HB8 := hidT HB7 hb8
  have HB48 := hidT HB47 hb8
  have HB78 := Lib.hid hb8
  have HSP : Hid (Calls Tryz.prog 26 #[.pointer (some ⟨w4.heap.size, 3, none⟩)] w8 fun e w' => e = .returned (.tuple #[]) ∧ SplB w3.heap.size w8 w') :=
    spoil_any HC4.out rfl HB34.out.size w8 w4.heap.size 3 35 _ (SplB.of_below HB48.out HB34.out.size) (HG3.out.below hb8 HG3.out.lt) (fun j v hv => ⟨v, by rw [Nat.add_comm]; simpa [rp] using hv, LikeV.refl v⟩)
  clear hb8 HAL HCL HS1 HS2 HS3 HS4 HS5
  go_wp2_with (first
      | (go_at_call 26
         refine HSP.out.mono ?_
         rintro e w9 ⟨rfl, hsp⟩
         have hb39 : Below w3.heap.size w3 w9 := (HB34.out.trans (HB48.out.mono HB34.out.size)).trans hsp.below
         have HB9 := hidT HB3 hb39
         have HO9 := Lib.hid (HO3.out.later hb39)
         have HX9 := Lib.hid (HX.out _ HB9.out)
         have hl2 : w2.heap.size < w3.heap.size := hz3
         have HK2 : Hid (Blk w9 w2.heap.size 35 (rp a z c os).toArray) := ((HG2.out.below HB78.out HG2.out.lt).below hsp.below hl2)
         have HK0 : Hid (Blk w9 W0.heap.size 35 (rp a z c xs).toArray) := ((HG0.out.below HB78.out HG0.out.lt).below hsp.below (Nat.lt_of_le_of_lt HB2.out.size hl2))
         have HSF : Hid (Calls Tryz.prog 15 #[.agg (rp a z c os).toArray, .agg (rp a z c xs).toArray] w9 fun e w' => e = .returned (.bool true) ∧ Below w9.heap.size w9 w') := (by
           obtain ⟨b3, h3, c3⟩ := refRepSame_any HO9.out HX9.out a z c a z c
           obtain rfl : b3 = true := h3.2 ⟨rfl, rfl, rfl, rfl⟩
           exact c3 w9 (Below.refl _ _))
         clear hsp hb39 hl2)
      | ((with_reducible refine wpAt 57 ?_)
         refine wpList_load_row rfl 35 (.tmp 5) rfl w2.heap.size rfl 35 _ _ _ HK2.out Tryz.underlying35 rfl HAO.out ?_)
      | ((with_reducible refine wpAt 58 ?_)
         refine wpList_load_row rfl 35 (.tmp 2) rfl W0.heap.size rfl 35 _ _ _ HK0.out Tryz.underlying35 rfl (by rw [← HXA.out]; exact HAX.out) ?_)
      | (go_at_call 15
         refine HSF.out.mono ?_
         rintro e w10 ⟨rfl, hb⟩
         have HB10 := hidT HB9 hb
         clear hb))
  go_ret
  exact ⟨rfl, HB10.out⟩
end Go.Proofs.YtnbaajplelchjaaGreatDoor
