/- The law StatOne: the walk, by what its calls come to. (printed by gen_o2.py) -/
import Derived.Test.YtaojjjcaofhmcaaDoorSe2
import Derived.Test.YtaojjjcaofhmcaaDoorInv
set_option linter.unusedVariables false
set_option linter.unusedSimpArgs false
namespace Go.Proofs.YtaojjjcaofhmcaaDoor
open Go.RowKit


set_option maxRecDepth 100000 in
set_option maxHeartbeats 4000000 in
theorem one_walk0 (nc mc sc tc : Array Value) (nb mb : List UInt8) (E : Int) (sm q : Bool) (w : World) (ra rb ta tb : ByteArray) (hsm : (nb == mb) = sm)
    (ZN : Hid ((Tryd.prog.info? 32).map (·.size) = some nc.size)) (ZM : Hid ((Tryd.prog.info? 32).map (·.size) = some mc.size)) (ZS : Hid ((Tryd.prog.info? 23).map (·.size) = some sc.size)) (ZT : Hid ((Tryd.prog.info? 23).map (·.size) = some tc.size))
    (AL : Hid (∀ W, Below w.heap.size w W → Calls Tryd.prog 27 #[] W fun e w' => e = .returned (.bool true) ∧ Below W.heap.size W w'))
    (EN : Hid (∀ W, Below w.heap.size w W → Calls Tryd.prog 15 #[.agg nc] W fun e w' => ∃ A n k, e = .returned (.tuple #[.slice A n k, .int .i64 0]) ∧ Got w' A n k nb ∧ Below W.heap.size W w'))
    (EM : Hid (∀ W, Below w.heap.size w W → Calls Tryd.prog 15 #[.agg mc] W fun e w' => ∃ A n k, e = .returned (.tuple #[.slice A n k, .int .i64 0]) ∧ Got w' A n k mb ∧ Below W.heap.size W w'))
    (SM : Hid (∀ W, Below w.heap.size w W → Calls Tryd.prog 20 #[.agg nc, .agg mc] W fun e w' => e = .returned (.bool sm) ∧ Below W.heap.size W w'))
    (RA : Hid (∀ W, Calls Tryd.prog 10 #[.agg sc] W fun e w' => ∃ A k, e = .returned (.slice A 68 k) ∧ (∀ W', Below w'.heap.size w' W' → (convert 24 9 (.slice A 68 k)).run Tryd.prog W' = .ok (.string ra) W') ∧ Below W.heap.size W w'))
    (RB : Hid (∀ W, Calls Tryd.prog 10 #[.agg tc] W fun e w' => ∃ A k, e = .returned (.slice A 68 k) ∧ (∀ W', Below w'.heap.size w' W' → (convert 24 9 (.slice A 68 k)).run Tryd.prog W' = .ok (.string rb) W') ∧ Below W.heap.size W w'))
    (TA : Hid (∀ W, Below w.heap.size w W → Calls Tryd.prog 12 #[.agg sc] W fun e w' => e = .returned (.string ta) ∧ Below W.heap.size W w'))
    (TB : Hid (∀ W, Below w.heap.size w W → Calls Tryd.prog 12 #[.agg tc] W fun e w' => e = .returned (.string tb) ∧ Below W.heap.size W w'))
    (QR : Hid (∀ W, (binOp .eql 9 (.string ra) (.string rb)).run Tryd.prog W = .ok (.bool q) W)) (QT : Hid (∀ W, (binOp .eql 9 (.string ta) (.string tb)).run Tryd.prog W = .ok (.bool q) W)) (QE : Hid (∀ W, (binOp .eql 23 (.agg sc) (.agg tc)).run Tryd.prog W = .ok (.bool q) W)) :
    Calls Tryd.prog 9 #[.agg nc, .agg mc, .agg sc, .agg tc] w fun e w' => e = .returned (.bool true) ∧ Below w.heap.size w w' := by
  obtain ⟨w1, hw1⟩ : ∃ w1, w.alloc (.cells nc 32) = w1 := ⟨_, rfl⟩
  obtain ⟨w2, hw2⟩ : ∃ w2, w1.alloc (.cells mc 32) = w2 := ⟨_, rfl⟩
  obtain ⟨w3, hw3⟩ : ∃ w3, w2.alloc (.cells sc 23) = w3 := ⟨_, rfl⟩
  obtain ⟨w4, hw4⟩ : ∃ w4, w3.alloc (.cells tc 23) = w4 := ⟨_, rfl⟩
  have hz1 : w1.heap.size = w.heap.size + 1 := by rw [← hw1]; simp
  have hz2 : w2.heap.size = w.heap.size + 2 := by rw [← hw2]; simp [hz1]
  have hz3 : w3.heap.size = w.heap.size + 3 := by rw [← hw3]; simp [hz2]
  have hz4 : w4.heap.size = w.heap.size + 4 := by rw [← hw4]; simp [hz3]
  have hb1 : Below w.heap.size w w1 := by rw [← hw1]; exact (Below.refl _ _).alloc (Nat.le_refl _) _
  have hb2 : Below w.heap.size w w2 := by rw [← hw2]; exact hb1.alloc (by omega) _
  have hb3 : Below w.heap.size w w3 := by rw [← hw3]; exact hb2.alloc (by omega) _
  have HB4 : Hid (Below w.heap.size w w4) := by unfold Hid; rw [← hw4]; exact hb3.alloc (by omega) _
  have HN4 : Hid (Blk w4 w.heap.size 32 nc) := by unfold Hid; rw [← hw4, ← hw3, ← hw2, ← hw1]; exact (((Blk.new _ _ _).alloc _).alloc _).alloc _
  have HM4 : Hid (Blk w4 (w.heap.size + 1) 32 mc) := by unfold Hid; rw [← hw4, ← hw3, ← hw2]; exact ((Blk.new' hz1.symm).alloc _).alloc _
  have HS4 : Hid (Blk w4 (w.heap.size + 2) 23 sc) := by unfold Hid; rw [← hw4, ← hw3]; exact (Blk.new' hz2.symm).alloc _
  have HT4 : Hid (Blk w4 (w.heap.size + 3) 23 tc) := by unfold Hid; rw [← hw4]; exact Blk.new' hz3.symm
  clear hb1 hb2 hb3
  go_enter Tryd.func9, Tryd.ntmps9
  go_wp2_with (first
    | (go_at_call 27
       refine (AL.out _ HB4.out).mono ?_
       clear AL
       rintro e w5 ⟨rfl, hb3⟩
       have hz5 := hb3.size
       have HB5 := Lib.hid (HB4.out.trans (hb3.mono HB4.out.size))
       have HN5 := Lib.hid (HN4.out.below hb3 HN4.out.lt)
       have HM5 := Lib.hid (HM4.out.below hb3 HM4.out.lt)
       have HS5 := Lib.hid (HS4.out.below hb3 HS4.out.lt)
       have HT5 := Lib.hid (HT4.out.below hb3 HT4.out.lt)
       clear hb3)
    | (refine wpList_load_row rfl 32 (.tmp 4) rfl w.heap.size rfl 32 _ _ _ HN5.out Tryd.underlying32 rfl ZN.out ?_)
    | (go_at_call 15
       refine (EN.out _ HB5.out).mono ?_
       clear EN
       rintro e w6 ⟨X, xn, xk, rfl, hg, hb3⟩
       have hz6 := hb3.size
       have HB6 := Lib.hid (HB5.out.trans (hb3.mono HB5.out.size))
       have HN6 := Lib.hid (HN5.out.below hb3 HN5.out.lt)
       have HM6 := Lib.hid (HM5.out.below hb3 HM5.out.lt)
       have HS6 := Lib.hid (HS5.out.below hb3 HS5.out.lt)
       have HT6 := Lib.hid (HT5.out.below hb3 HT5.out.lt)
       have HG := Lib.hid hg
       clear hg
       clear hb3)
    | (refine wpList_load_row rfl 32 (.tmp 5) rfl (w.heap.size + 1) rfl 32 _ _ _ HM6.out Tryd.underlying32 rfl ZM.out ?_)
    | (go_at_call 15
       refine (EM.out _ HB6.out).mono ?_
       clear EM
       rintro e w7 ⟨Y, yn, yk, rfl, hg2, hb3⟩
       have hz7 := hb3.size
       have HB7 := Lib.hid (HB6.out.trans (hb3.mono HB6.out.size))
       have HN7 := Lib.hid (HN6.out.below hb3 HN6.out.lt)
       have HM7 := Lib.hid (HM6.out.below hb3 HM6.out.lt)
       have HS7 := Lib.hid (HS6.out.below hb3 HS6.out.lt)
       have HT7 := Lib.hid (HT6.out.below hb3 HT6.out.lt)
       have HG2 := Lib.hid hg2
       clear hg2
       have HG1 := Lib.hid (HG.out.later hb3)
       clear HG
       clear hb3))
  have qn' : ∀ W, Below w7.heap.size w7 W → Blk W w.heap.size 32 nc := fun W h => HN7.out.below h HN7.out.lt
  have qm' : ∀ W, Below w7.heap.size w7 W → Blk W (w.heap.size + 1) 32 mc := fun W h => HM7.out.below h HM7.out.lt
  have c4' : ∀ W, Below w7.heap.size w7 W → Calls Tryd.prog 20 #[.agg nc, .agg mc] W fun e w'' => e = .returned (.bool sm) ∧ Below w7.heap.size w7 w'' := fun W h => to_class h (SM.out W (HB7.out.trans (h.mono HB7.out.size)))
  have x1' : ∀ W, Below w7.heap.size w7 W → (convert 24 9 (.slice X xn xk)).run Tryd.prog W = .ok (.string ⟨nb.toArray⟩) W := fun W h => run_string_of_bytes Tryd.underlying24 Tryd.underlying5 (HG1.out.1.below h) 9 Tryd.underlying9
  have x2' : ∀ W, Below w7.heap.size w7 W → (convert 24 9 (.slice Y yn yk)).run Tryd.prog W = .ok (.string ⟨mb.toArray⟩) W := fun W h => run_string_of_bytes Tryd.underlying24 Tryd.underlying5 (HG2.out.1.below h) 9 Tryd.underlying9
  have Qn := Lib.hid qn'
  have Qm := Lib.hid qm'
  have C4 := Lib.hid c4'
  have X1 := Lib.hid x1'
  have X2 := Lib.hid x2'
  clear qn' qm' c4' x1' x2' SM HG1 HG2
  refine wp_region_past (by as_aux_lemma => kernel_rfl) (by as_aux_lemma => kernel_rfl) ?_
  repeat (first
    | go_big_quiet_skip
    | (go_big_quiet_want
       first
         | (refine quiet_load_blk 32 (.tmp 4) rfl w.heap.size rfl 32 nc _ Qn.out Tryd.underlying32 rfl ZN.out ?_; simp only [Act.put, List.setIfInBounds_toArray, List.set_cons_zero, List.set_cons_succ])
         | (refine quiet_load_blk 32 (.tmp 5) rfl (w.heap.size + 1) rfl 32 mc _ Qm.out Tryd.underlying32 rfl ZM.out ?_; simp only [Act.put, List.setIfInBounds_toArray, List.set_cons_zero, List.set_cons_succ])
         | (refine quiet_call 20 _ _ rfl (#[.agg nc, .agg mc]) rfl Tryd.func20 (by as_aux_lemma => kernel_rfl) (by as_aux_lemma => kernel_rfl) (.bool sm) C4.out ?_; simp only [Act.put, List.setIfInBounds_toArray, List.set_cons_zero, List.set_cons_succ])
         | (refine quiet_conv 24 9 _ rfl (.slice X xn xk) (.string ⟨nb.toArray⟩) rfl X1.out ?_; simp only [Act.put, List.setIfInBounds_toArray, List.set_cons_zero, List.set_cons_succ])
         | (refine quiet_conv 24 9 _ rfl (.slice Y yn yk) (.string ⟨mb.toArray⟩) rfl X2.out ?_; simp only [Act.put, List.setIfInBounds_toArray, List.set_cons_zero, List.set_cons_succ])
         | go_big_quiet_op
       go_big_quiet_on))
  refine wpQuiet_nil ?_
  intro nq
  obtain ⟨w8, hw8⟩ : ∃ W, W = nq.val := ⟨_, rfl⟩
  rw [← hw8]
  have hb8 : Below w7.heap.size w7 w8 := by rw [hw8]; exact nq.prop
  clear hw8 nq
  have HB8 := Lib.hid (HB7.out.trans (hb8.mono HB7.out.size))
  have HS8 := Lib.hid (HS7.out.below hb8 HS7.out.lt)
  have HT8 := Lib.hid (HT7.out.below hb8 HT7.out.lt)
  clear hb8
  go_wp2_with fail
  refine wp_region_steps [.inl (.agg sc), .inr (fun v W => ∃ A k, v = .slice A 68 k ∧ ∀ W', Below W.heap.size W W' → (convert 24 9 (.slice A 68 k)).run Tryd.prog W' = .ok (.string ra) W'), .inl (.string ra), .inl (.agg tc), .inr (fun v W => ∃ A k, v = .slice A 68 k ∧ ∀ W', Below W.heap.size W W' → (convert 24 9 (.slice A 68 k)).run Tryd.prog W' = .ok (.string rb) W'), .inl (.string rb), .inl (.bool q), .inl (.agg sc), .inl (.agg tc), .inl (.bool q), .inl (.bool true), .inl (.bool true), .inl (.agg sc), .inl (.string ta), .inl (.agg tc), .inl (.string tb), .inl (.bool q), .inl (.agg sc), .inl (.agg tc), .inl (.bool q), .inl (.bool true), .inl (.bool true), .inl (.bool true)] (by as_aux_lemma => kernel_rfl) (by as_aux_lemma => kernel_rfl) (by as_aux_lemma => kernel_rfl) (by as_aux_lemma => kernel_rfl) ?_ ⟨?_, ?_, ?_, ?_, ?_, ?_, ?_, ?_, ?_, ?_, ?_, ?_, ?_, ?_, ?_, ?_, ?_, ?_, ?_, ?_, ?_, ?_, ?_, trivial⟩ ?_
  · intro p hp v W W' h hb
    simp only [List.mem_cons, reduceCtorEq, Sum.inr.injEq, List.not_mem_nil, or_false, false_or] at hp
    rcases hp with rfl | rfl
    all_goals
      obtain ⟨A, k, h1, h2⟩ := h
      exact ⟨A, k, h1, fun W2 hb2 => h2 W2 (hb.trans (hb2.mono hb.size))⟩
  · exact fun a W hb hold hdep K hK => step_load_row (want_free rfl) 23 (.tmp 6) rfl (w.heap.size + 2) (eval_tmp ((hold 6 (free_slot (by as_aux_lemma => kernel_rfl))).trans rfl)) 23 sc _ (HS8.out.below hb HS8.out.lt) Tryd.underlying23 rfl ZS.out (hK _ _ rfl (Below.refl _ _))
  · intro a W hb hold hdep K hK
    refine step_call (want_free rfl) 10 _ _ rfl (#[.agg sc]) (by simp [(eval_tmp (dep_val (hdep ⟨0, .data⟩ (by simp) rfl 42 rfl)))]) Tryd.func10 (by as_aux_lemma => kernel_rfl) (by as_aux_lemma => kernel_rfl) (RA.out W) (fun e w' h => ?_)
    obtain ⟨A, k, rfl, cv, hb2⟩ := h
    exact ⟨_, rfl, hK _ _ ⟨A, k, rfl, cv⟩ hb2⟩
  · intro a W hb hold hdep K hK
    obtain ⟨v, hv, A, k, rfl, cv⟩ := hdep ⟨1, .data⟩ (by simp) rfl 43 rfl
    exact step_conv (want_free rfl) 24 9 (.tmp 43) rfl _ _ (eval_tmp hv) (cv W (Below.refl _ _)) (hK _ _ rfl (Below.refl _ _))
  · exact fun a W hb hold hdep K hK => step_load_row (want_free rfl) 23 (.tmp 7) rfl (w.heap.size + 3) (eval_tmp ((hold 7 (free_slot (by as_aux_lemma => kernel_rfl))).trans rfl)) 23 tc _ (HT8.out.below hb HT8.out.lt) Tryd.underlying23 rfl ZT.out (hK _ _ rfl (Below.refl _ _))
  · intro a W hb hold hdep K hK
    refine step_call (want_free rfl) 10 _ _ rfl (#[.agg tc]) (by simp [(eval_tmp (dep_val (hdep ⟨3, .data⟩ (by simp) rfl 45 rfl)))]) Tryd.func10 (by as_aux_lemma => kernel_rfl) (by as_aux_lemma => kernel_rfl) (RB.out W) (fun e w' h => ?_)
    obtain ⟨A, k, rfl, cv, hb2⟩ := h
    exact ⟨_, rfl, hK _ _ ⟨A, k, rfl, cv⟩ hb2⟩
  · intro a W hb hold hdep K hK
    obtain ⟨v, hv, A, k, rfl, cv⟩ := hdep ⟨4, .data⟩ (by simp) rfl 46 rfl
    exact step_conv (want_free rfl) 24 9 (.tmp 46) rfl _ _ (eval_tmp hv) (cv W (Below.refl _ _)) (hK _ _ rfl (Below.refl _ _))
  · exact fun a W hb hold hdep K hK => step_eql (want_free rfl) 9 (.tmp 44) (.tmp 47) _ rfl _ _ _ (eval_tmp (dep_val (hdep ⟨2, .data⟩ (by simp) rfl 44 rfl))) (eval_tmp (dep_val (hdep ⟨5, .data⟩ (by simp) rfl 47 rfl))) rfl (QR.out W) (hK _ _ rfl (Below.refl _ _))
  · exact fun a W hb hold hdep K hK => step_load_row (want_free rfl) 23 (.tmp 6) rfl (w.heap.size + 2) (eval_tmp ((hold 6 (free_slot (by as_aux_lemma => kernel_rfl))).trans rfl)) 23 sc _ (HS8.out.below hb HS8.out.lt) Tryd.underlying23 rfl ZS.out (hK _ _ rfl (Below.refl _ _))
  · exact fun a W hb hold hdep K hK => step_load_row (want_free rfl) 23 (.tmp 7) rfl (w.heap.size + 3) (eval_tmp ((hold 7 (free_slot (by as_aux_lemma => kernel_rfl))).trans rfl)) 23 tc _ (HT8.out.below hb HT8.out.lt) Tryd.underlying23 rfl ZT.out (hK _ _ rfl (Below.refl _ _))
  · exact fun a W hb hold hdep K hK => step_eql (want_free rfl) 23 (.tmp 49) (.tmp 50) _ rfl _ _ _ (eval_tmp (dep_val (hdep ⟨7, .data⟩ (by simp) rfl 49 rfl))) (eval_tmp (dep_val (hdep ⟨8, .data⟩ (by simp) rfl 50 rfl))) (run_eqGuard_agg W .eql 23 _ _ sc tc (by as_aux_lemma => kernel_rfl)) (QE.out W) (hK _ _ rfl (Below.refl _ _))
  · exact fun a W hb hold hdep K hK => step_eql (want_free rfl) 4 (.tmp 48) (.tmp 51) _ rfl _ _ _ (eval_tmp (dep_val (hdep ⟨6, .data⟩ (by simp) rfl 48 rfl))) (eval_tmp (dep_val (hdep ⟨9, .data⟩ (by simp) rfl 51 rfl))) rfl (bool_eql_self q W Tryd.underlying4) (hK _ _ rfl (Below.refl _ _))
  · exact fun a W hb hold hdep K hK => step_move (want_free rfl) (.tmp 52) rfl _ (eval_tmp (dep_val (hdep ⟨10, .data⟩ (by simp) rfl 52 rfl))) (hK _ _ rfl (Below.refl _ _))
  · exact fun a W hb hold hdep K hK => step_load_row (want_guard rfl rfl (dep_val (hdep ⟨11, .guard⟩ (by simp) rfl 53 rfl))) 23 (.tmp 6) rfl (w.heap.size + 2) (eval_tmp ((hold 6 (free_slot (by as_aux_lemma => kernel_rfl))).trans rfl)) 23 sc _ (HS8.out.below hb HS8.out.lt) Tryd.underlying23 rfl ZS.out (hK _ _ rfl (Below.refl _ _))
  · intro a W hb hold hdep K hK
    refine step_call (want_guard rfl rfl (dep_val (hdep ⟨11, .guard⟩ (by simp) rfl 53 rfl))) 12 _ _ rfl (#[.agg sc]) (by simp [(eval_tmp (dep_val (hdep ⟨12, .data⟩ (by simp) rfl 54 rfl)))]) Tryd.func12 (by as_aux_lemma => kernel_rfl) (by as_aux_lemma => kernel_rfl) (TA.out W (HB8.out.trans (hb.mono HB8.out.size))) (fun e w' h => ?_)
    obtain ⟨rfl, hb2⟩ := h
    exact ⟨_, rfl, hK _ _ rfl hb2⟩
  · exact fun a W hb hold hdep K hK => step_load_row (want_guard rfl rfl (dep_val (hdep ⟨11, .guard⟩ (by simp) rfl 53 rfl))) 23 (.tmp 7) rfl (w.heap.size + 3) (eval_tmp ((hold 7 (free_slot (by as_aux_lemma => kernel_rfl))).trans rfl)) 23 tc _ (HT8.out.below hb HT8.out.lt) Tryd.underlying23 rfl ZT.out (hK _ _ rfl (Below.refl _ _))
  · intro a W hb hold hdep K hK
    refine step_call (want_guard rfl rfl (dep_val (hdep ⟨11, .guard⟩ (by simp) rfl 53 rfl))) 12 _ _ rfl (#[.agg tc]) (by simp [(eval_tmp (dep_val (hdep ⟨14, .data⟩ (by simp) rfl 56 rfl)))]) Tryd.func12 (by as_aux_lemma => kernel_rfl) (by as_aux_lemma => kernel_rfl) (TB.out W (HB8.out.trans (hb.mono HB8.out.size))) (fun e w' h => ?_)
    obtain ⟨rfl, hb2⟩ := h
    exact ⟨_, rfl, hK _ _ rfl hb2⟩
  · exact fun a W hb hold hdep K hK => step_eql (want_guard rfl rfl (dep_val (hdep ⟨11, .guard⟩ (by simp) rfl 53 rfl))) 9 (.tmp 55) (.tmp 57) _ rfl _ _ _ (eval_tmp (dep_val (hdep ⟨13, .data⟩ (by simp) rfl 55 rfl))) (eval_tmp (dep_val (hdep ⟨15, .data⟩ (by simp) rfl 57 rfl))) rfl (QT.out W) (hK _ _ rfl (Below.refl _ _))
  · exact fun a W hb hold hdep K hK => step_load_row (want_guard rfl rfl (dep_val (hdep ⟨11, .guard⟩ (by simp) rfl 53 rfl))) 23 (.tmp 6) rfl (w.heap.size + 2) (eval_tmp ((hold 6 (free_slot (by as_aux_lemma => kernel_rfl))).trans rfl)) 23 sc _ (HS8.out.below hb HS8.out.lt) Tryd.underlying23 rfl ZS.out (hK _ _ rfl (Below.refl _ _))
  · exact fun a W hb hold hdep K hK => step_load_row (want_guard rfl rfl (dep_val (hdep ⟨11, .guard⟩ (by simp) rfl 53 rfl))) 23 (.tmp 7) rfl (w.heap.size + 3) (eval_tmp ((hold 7 (free_slot (by as_aux_lemma => kernel_rfl))).trans rfl)) 23 tc _ (HT8.out.below hb HT8.out.lt) Tryd.underlying23 rfl ZT.out (hK _ _ rfl (Below.refl _ _))
  · exact fun a W hb hold hdep K hK => step_eql (want_guard rfl rfl (dep_val (hdep ⟨11, .guard⟩ (by simp) rfl 53 rfl))) 23 (.tmp 59) (.tmp 60) _ rfl _ _ _ (eval_tmp (dep_val (hdep ⟨17, .data⟩ (by simp) rfl 59 rfl))) (eval_tmp (dep_val (hdep ⟨18, .data⟩ (by simp) rfl 60 rfl))) (run_eqGuard_agg W .eql 23 _ _ sc tc (by as_aux_lemma => kernel_rfl)) (QE.out W) (hK _ _ rfl (Below.refl _ _))
  · exact fun a W hb hold hdep K hK => step_eql (want_guard rfl rfl (dep_val (hdep ⟨11, .guard⟩ (by simp) rfl 53 rfl))) 4 (.tmp 58) (.tmp 61) _ rfl _ _ _ (eval_tmp (dep_val (hdep ⟨16, .data⟩ (by simp) rfl 58 rfl))) (eval_tmp (dep_val (hdep ⟨19, .data⟩ (by simp) rfl 61 rfl))) rfl (bool_eql_self q W Tryd.underlying4) (hK _ _ rfl (Below.refl _ _))
  · exact fun a W hb hold hdep K hK => step_pick_true (want_free rfl) (.tmp 53) (.tmp 62) _ rfl _ (eval_tmp (dep_val (hdep ⟨11, .data⟩ (by simp) rfl 53 rfl))) (eval_tmp (dep_val (hdep ⟨20, .data⟩ (by simp) rfl 62 rfl))) (hK _ _ rfl (Below.refl _ _))
  · exact fun a W hb hold hdep K hK => step_assign (want_free rfl) (.tmp 63) rfl _ (eval_tmp (dep_val (hdep ⟨21, .data⟩ (by simp) rfl 63 rfl))) (hK _ _ rfl (Below.refl _ _))
  · intro a W hb hdef hlen hold hall
    have hv : a.tmps[8]? = some (.bool true) := dep_val (hall 22 8 rfl)
    obtain ⟨tm, df⟩ := a
    dsimp only at hdef hv
    subst hdef
    clear hall hold hlen
    go_wp2
    (try simp only [Exit.inBlock, Exit.then])
    refine bodyPost_ret (results_tmp rfl _ _ _) rfl ?_
    exact ⟨by rw [Array.getD_eq_getD_getElem?, hv]; rfl, HB8.out.trans (hb.mono HB8.out.size)⟩
set_option maxRecDepth 100000 in
set_option maxHeartbeats 4000000 in
theorem one_walk1 (nc mc sc tc : Array Value) (nb mb : List UInt8) (E : Int) (sm q : Bool) (w : World) (ra rb ta tb : ByteArray) (hE : E ≠ 0)
    (ZN : Hid ((Tryd.prog.info? 32).map (·.size) = some nc.size)) (ZM : Hid ((Tryd.prog.info? 32).map (·.size) = some mc.size)) (ZS : Hid ((Tryd.prog.info? 23).map (·.size) = some sc.size)) (ZT : Hid ((Tryd.prog.info? 23).map (·.size) = some tc.size))
    (AL : Hid (∀ W, Below w.heap.size w W → Calls Tryd.prog 27 #[] W fun e w' => e = .returned (.bool true) ∧ Below W.heap.size W w'))
    (EN : Hid (∀ W, Below w.heap.size w W → Calls Tryd.prog 15 #[.agg nc] W fun e w' => e = .returned (.tuple #[.slice none 0 0, .int .i64 E]) ∧ Below W.heap.size W w'))
    (EM : Hid (∀ W, Below w.heap.size w W → Calls Tryd.prog 15 #[.agg mc] W fun e w' => ∃ V E2, e = .returned (.tuple #[V, .int .i64 E2]) ∧ Below W.heap.size W w'))
    (RA : Hid (∀ W, Calls Tryd.prog 10 #[.agg sc] W fun e w' => ∃ A k, e = .returned (.slice A 68 k) ∧ (∀ W', Below w'.heap.size w' W' → (convert 24 9 (.slice A 68 k)).run Tryd.prog W' = .ok (.string ra) W') ∧ Below W.heap.size W w'))
    (RB : Hid (∀ W, Calls Tryd.prog 10 #[.agg tc] W fun e w' => ∃ A k, e = .returned (.slice A 68 k) ∧ (∀ W', Below w'.heap.size w' W' → (convert 24 9 (.slice A 68 k)).run Tryd.prog W' = .ok (.string rb) W') ∧ Below W.heap.size W w'))
    (TA : Hid (∀ W, Below w.heap.size w W → Calls Tryd.prog 12 #[.agg sc] W fun e w' => e = .returned (.string ta) ∧ Below W.heap.size W w'))
    (TB : Hid (∀ W, Below w.heap.size w W → Calls Tryd.prog 12 #[.agg tc] W fun e w' => e = .returned (.string tb) ∧ Below W.heap.size W w'))
    (QR : Hid (∀ W, (binOp .eql 9 (.string ra) (.string rb)).run Tryd.prog W = .ok (.bool q) W)) (QT : Hid (∀ W, (binOp .eql 9 (.string ta) (.string tb)).run Tryd.prog W = .ok (.bool q) W)) (QE : Hid (∀ W, (binOp .eql 23 (.agg sc) (.agg tc)).run Tryd.prog W = .ok (.bool q) W)) :
    Calls Tryd.prog 9 #[.agg nc, .agg mc, .agg sc, .agg tc] w fun e w' => e = .returned (.bool true) ∧ Below w.heap.size w w' := by
  obtain ⟨w1, hw1⟩ : ∃ w1, w.alloc (.cells nc 32) = w1 := ⟨_, rfl⟩
  obtain ⟨w2, hw2⟩ : ∃ w2, w1.alloc (.cells mc 32) = w2 := ⟨_, rfl⟩
  obtain ⟨w3, hw3⟩ : ∃ w3, w2.alloc (.cells sc 23) = w3 := ⟨_, rfl⟩
  obtain ⟨w4, hw4⟩ : ∃ w4, w3.alloc (.cells tc 23) = w4 := ⟨_, rfl⟩
  have hz1 : w1.heap.size = w.heap.size + 1 := by rw [← hw1]; simp
  have hz2 : w2.heap.size = w.heap.size + 2 := by rw [← hw2]; simp [hz1]
  have hz3 : w3.heap.size = w.heap.size + 3 := by rw [← hw3]; simp [hz2]
  have hz4 : w4.heap.size = w.heap.size + 4 := by rw [← hw4]; simp [hz3]
  have hb1 : Below w.heap.size w w1 := by rw [← hw1]; exact (Below.refl _ _).alloc (Nat.le_refl _) _
  have hb2 : Below w.heap.size w w2 := by rw [← hw2]; exact hb1.alloc (by omega) _
  have hb3 : Below w.heap.size w w3 := by rw [← hw3]; exact hb2.alloc (by omega) _
  have HB4 : Hid (Below w.heap.size w w4) := by unfold Hid; rw [← hw4]; exact hb3.alloc (by omega) _
  have HN4 : Hid (Blk w4 w.heap.size 32 nc) := by unfold Hid; rw [← hw4, ← hw3, ← hw2, ← hw1]; exact (((Blk.new _ _ _).alloc _).alloc _).alloc _
  have HM4 : Hid (Blk w4 (w.heap.size + 1) 32 mc) := by unfold Hid; rw [← hw4, ← hw3, ← hw2]; exact ((Blk.new' hz1.symm).alloc _).alloc _
  have HS4 : Hid (Blk w4 (w.heap.size + 2) 23 sc) := by unfold Hid; rw [← hw4, ← hw3]; exact (Blk.new' hz2.symm).alloc _
  have HT4 : Hid (Blk w4 (w.heap.size + 3) 23 tc) := by unfold Hid; rw [← hw4]; exact Blk.new' hz3.symm
  clear hb1 hb2 hb3
  go_enter Tryd.func9, Tryd.ntmps9
  go_wp2_with (first
    | (go_at_call 27
       refine (AL.out _ HB4.out).mono ?_
       clear AL
       rintro e w5 ⟨rfl, hb3⟩
       have hz5 := hb3.size
       have HB5 := Lib.hid (HB4.out.trans (hb3.mono HB4.out.size))
       have HN5 := Lib.hid (HN4.out.below hb3 HN4.out.lt)
       have HM5 := Lib.hid (HM4.out.below hb3 HM4.out.lt)
       have HS5 := Lib.hid (HS4.out.below hb3 HS4.out.lt)
       have HT5 := Lib.hid (HT4.out.below hb3 HT4.out.lt)
       clear hb3)
    | (refine wpList_load_row rfl 32 (.tmp 4) rfl w.heap.size rfl 32 _ _ _ HN5.out Tryd.underlying32 rfl ZN.out ?_)
    | (go_at_call 15
       refine (EN.out _ HB5.out).mono ?_
       clear EN
       rintro e w6 ⟨rfl, hb3⟩
       have hz6 := hb3.size
       have HB6 := Lib.hid (HB5.out.trans (hb3.mono HB5.out.size))
       have HN6 := Lib.hid (HN5.out.below hb3 HN5.out.lt)
       have HM6 := Lib.hid (HM5.out.below hb3 HM5.out.lt)
       have HS6 := Lib.hid (HS5.out.below hb3 HS5.out.lt)
       have HT6 := Lib.hid (HT5.out.below hb3 HT5.out.lt)
       clear hb3)
    | (refine wpList_load_row rfl 32 (.tmp 5) rfl (w.heap.size + 1) rfl 32 _ _ _ HM6.out Tryd.underlying32 rfl ZM.out ?_)
    | (go_at_call 15
       refine (EM.out _ HB6.out).mono ?_
       clear EM
       rintro e w7 ⟨V, E2, rfl, hb3⟩
       have hz7 := hb3.size
       have HB7 := Lib.hid (HB6.out.trans (hb3.mono HB6.out.size))
       have HN7 := Lib.hid (HN6.out.below hb3 HN6.out.lt)
       have HM7 := Lib.hid (HM6.out.below hb3 HM6.out.lt)
       have HS7 := Lib.hid (HS6.out.below hb3 HS6.out.lt)
       have HT7 := Lib.hid (HT6.out.below hb3 HT6.out.lt)
       clear hb3))
  have heb : (E == 0) = false := by simpa using hE
  refine wp_region_past (by as_aux_lemma => kernel_rfl) (by as_aux_lemma => kernel_rfl) ?_
  repeat (first
    | go_big_quiet_skip
    | (go_big_quiet_want
       first
         | go_big_quiet_op
       go_big_quiet_on)
    | (simp only [heb]))
  refine wpQuiet_nil ?_
  intro nq
  obtain ⟨w8, hw8⟩ : ∃ W, W = nq.val := ⟨_, rfl⟩
  rw [← hw8]
  have hb8 : Below w7.heap.size w7 w8 := by rw [hw8]; exact nq.prop
  clear hw8 nq
  have HB8 := Lib.hid (HB7.out.trans (hb8.mono HB7.out.size))
  have HS8 := Lib.hid (HS7.out.below hb8 HS7.out.lt)
  have HT8 := Lib.hid (HT7.out.below hb8 HT7.out.lt)
  clear hb8
  go_wp2_with fail
  refine wp_region_steps [.inl (.agg sc), .inr (fun v W => ∃ A k, v = .slice A 68 k ∧ ∀ W', Below W.heap.size W W' → (convert 24 9 (.slice A 68 k)).run Tryd.prog W' = .ok (.string ra) W'), .inl (.string ra), .inl (.agg tc), .inr (fun v W => ∃ A k, v = .slice A 68 k ∧ ∀ W', Below W.heap.size W W' → (convert 24 9 (.slice A 68 k)).run Tryd.prog W' = .ok (.string rb) W'), .inl (.string rb), .inl (.bool q), .inl (.agg sc), .inl (.agg tc), .inl (.bool q), .inl (.bool true), .inl (.bool true), .inl (.agg sc), .inl (.string ta), .inl (.agg tc), .inl (.string tb), .inl (.bool q), .inl (.agg sc), .inl (.agg tc), .inl (.bool q), .inl (.bool true), .inl (.bool true), .inl (.bool true)] (by as_aux_lemma => kernel_rfl) (by as_aux_lemma => kernel_rfl) (by as_aux_lemma => kernel_rfl) (by as_aux_lemma => kernel_rfl) ?_ ⟨?_, ?_, ?_, ?_, ?_, ?_, ?_, ?_, ?_, ?_, ?_, ?_, ?_, ?_, ?_, ?_, ?_, ?_, ?_, ?_, ?_, ?_, ?_, trivial⟩ ?_
  · intro p hp v W W' h hb
    simp only [List.mem_cons, reduceCtorEq, Sum.inr.injEq, List.not_mem_nil, or_false, false_or] at hp
    rcases hp with rfl | rfl
    all_goals
      obtain ⟨A, k, h1, h2⟩ := h
      exact ⟨A, k, h1, fun W2 hb2 => h2 W2 (hb.trans (hb2.mono hb.size))⟩
  · exact fun a W hb hold hdep K hK => step_load_row (want_free rfl) 23 (.tmp 6) rfl (w.heap.size + 2) (eval_tmp ((hold 6 (free_slot (by as_aux_lemma => kernel_rfl))).trans rfl)) 23 sc _ (HS8.out.below hb HS8.out.lt) Tryd.underlying23 rfl ZS.out (hK _ _ rfl (Below.refl _ _))
  · intro a W hb hold hdep K hK
    refine step_call (want_free rfl) 10 _ _ rfl (#[.agg sc]) (by simp [(eval_tmp (dep_val (hdep ⟨0, .data⟩ (by simp) rfl 42 rfl)))]) Tryd.func10 (by as_aux_lemma => kernel_rfl) (by as_aux_lemma => kernel_rfl) (RA.out W) (fun e w' h => ?_)
    obtain ⟨A, k, rfl, cv, hb2⟩ := h
    exact ⟨_, rfl, hK _ _ ⟨A, k, rfl, cv⟩ hb2⟩
  · intro a W hb hold hdep K hK
    obtain ⟨v, hv, A, k, rfl, cv⟩ := hdep ⟨1, .data⟩ (by simp) rfl 43 rfl
    exact step_conv (want_free rfl) 24 9 (.tmp 43) rfl _ _ (eval_tmp hv) (cv W (Below.refl _ _)) (hK _ _ rfl (Below.refl _ _))
  · exact fun a W hb hold hdep K hK => step_load_row (want_free rfl) 23 (.tmp 7) rfl (w.heap.size + 3) (eval_tmp ((hold 7 (free_slot (by as_aux_lemma => kernel_rfl))).trans rfl)) 23 tc _ (HT8.out.below hb HT8.out.lt) Tryd.underlying23 rfl ZT.out (hK _ _ rfl (Below.refl _ _))
  · intro a W hb hold hdep K hK
    refine step_call (want_free rfl) 10 _ _ rfl (#[.agg tc]) (by simp [(eval_tmp (dep_val (hdep ⟨3, .data⟩ (by simp) rfl 45 rfl)))]) Tryd.func10 (by as_aux_lemma => kernel_rfl) (by as_aux_lemma => kernel_rfl) (RB.out W) (fun e w' h => ?_)
    obtain ⟨A, k, rfl, cv, hb2⟩ := h
    exact ⟨_, rfl, hK _ _ ⟨A, k, rfl, cv⟩ hb2⟩
  · intro a W hb hold hdep K hK
    obtain ⟨v, hv, A, k, rfl, cv⟩ := hdep ⟨4, .data⟩ (by simp) rfl 46 rfl
    exact step_conv (want_free rfl) 24 9 (.tmp 46) rfl _ _ (eval_tmp hv) (cv W (Below.refl _ _)) (hK _ _ rfl (Below.refl _ _))
  · exact fun a W hb hold hdep K hK => step_eql (want_free rfl) 9 (.tmp 44) (.tmp 47) _ rfl _ _ _ (eval_tmp (dep_val (hdep ⟨2, .data⟩ (by simp) rfl 44 rfl))) (eval_tmp (dep_val (hdep ⟨5, .data⟩ (by simp) rfl 47 rfl))) rfl (QR.out W) (hK _ _ rfl (Below.refl _ _))
  · exact fun a W hb hold hdep K hK => step_load_row (want_free rfl) 23 (.tmp 6) rfl (w.heap.size + 2) (eval_tmp ((hold 6 (free_slot (by as_aux_lemma => kernel_rfl))).trans rfl)) 23 sc _ (HS8.out.below hb HS8.out.lt) Tryd.underlying23 rfl ZS.out (hK _ _ rfl (Below.refl _ _))
  · exact fun a W hb hold hdep K hK => step_load_row (want_free rfl) 23 (.tmp 7) rfl (w.heap.size + 3) (eval_tmp ((hold 7 (free_slot (by as_aux_lemma => kernel_rfl))).trans rfl)) 23 tc _ (HT8.out.below hb HT8.out.lt) Tryd.underlying23 rfl ZT.out (hK _ _ rfl (Below.refl _ _))
  · exact fun a W hb hold hdep K hK => step_eql (want_free rfl) 23 (.tmp 49) (.tmp 50) _ rfl _ _ _ (eval_tmp (dep_val (hdep ⟨7, .data⟩ (by simp) rfl 49 rfl))) (eval_tmp (dep_val (hdep ⟨8, .data⟩ (by simp) rfl 50 rfl))) (run_eqGuard_agg W .eql 23 _ _ sc tc (by as_aux_lemma => kernel_rfl)) (QE.out W) (hK _ _ rfl (Below.refl _ _))
  · exact fun a W hb hold hdep K hK => step_eql (want_free rfl) 4 (.tmp 48) (.tmp 51) _ rfl _ _ _ (eval_tmp (dep_val (hdep ⟨6, .data⟩ (by simp) rfl 48 rfl))) (eval_tmp (dep_val (hdep ⟨9, .data⟩ (by simp) rfl 51 rfl))) rfl (bool_eql_self q W Tryd.underlying4) (hK _ _ rfl (Below.refl _ _))
  · exact fun a W hb hold hdep K hK => step_move (want_free rfl) (.tmp 52) rfl _ (eval_tmp (dep_val (hdep ⟨10, .data⟩ (by simp) rfl 52 rfl))) (hK _ _ rfl (Below.refl _ _))
  · exact fun a W hb hold hdep K hK => step_load_row (want_guard rfl rfl (dep_val (hdep ⟨11, .guard⟩ (by simp) rfl 53 rfl))) 23 (.tmp 6) rfl (w.heap.size + 2) (eval_tmp ((hold 6 (free_slot (by as_aux_lemma => kernel_rfl))).trans rfl)) 23 sc _ (HS8.out.below hb HS8.out.lt) Tryd.underlying23 rfl ZS.out (hK _ _ rfl (Below.refl _ _))
  · intro a W hb hold hdep K hK
    refine step_call (want_guard rfl rfl (dep_val (hdep ⟨11, .guard⟩ (by simp) rfl 53 rfl))) 12 _ _ rfl (#[.agg sc]) (by simp [(eval_tmp (dep_val (hdep ⟨12, .data⟩ (by simp) rfl 54 rfl)))]) Tryd.func12 (by as_aux_lemma => kernel_rfl) (by as_aux_lemma => kernel_rfl) (TA.out W (HB8.out.trans (hb.mono HB8.out.size))) (fun e w' h => ?_)
    obtain ⟨rfl, hb2⟩ := h
    exact ⟨_, rfl, hK _ _ rfl hb2⟩
  · exact fun a W hb hold hdep K hK => step_load_row (want_guard rfl rfl (dep_val (hdep ⟨11, .guard⟩ (by simp) rfl 53 rfl))) 23 (.tmp 7) rfl (w.heap.size + 3) (eval_tmp ((hold 7 (free_slot (by as_aux_lemma => kernel_rfl))).trans rfl)) 23 tc _ (HT8.out.below hb HT8.out.lt) Tryd.underlying23 rfl ZT.out (hK _ _ rfl (Below.refl _ _))
  · intro a W hb hold hdep K hK
    refine step_call (want_guard rfl rfl (dep_val (hdep ⟨11, .guard⟩ (by simp) rfl 53 rfl))) 12 _ _ rfl (#[.agg tc]) (by simp [(eval_tmp (dep_val (hdep ⟨14, .data⟩ (by simp) rfl 56 rfl)))]) Tryd.func12 (by as_aux_lemma => kernel_rfl) (by as_aux_lemma => kernel_rfl) (TB.out W (HB8.out.trans (hb.mono HB8.out.size))) (fun e w' h => ?_)
    obtain ⟨rfl, hb2⟩ := h
    exact ⟨_, rfl, hK _ _ rfl hb2⟩
  · exact fun a W hb hold hdep K hK => step_eql (want_guard rfl rfl (dep_val (hdep ⟨11, .guard⟩ (by simp) rfl 53 rfl))) 9 (.tmp 55) (.tmp 57) _ rfl _ _ _ (eval_tmp (dep_val (hdep ⟨13, .data⟩ (by simp) rfl 55 rfl))) (eval_tmp (dep_val (hdep ⟨15, .data⟩ (by simp) rfl 57 rfl))) rfl (QT.out W) (hK _ _ rfl (Below.refl _ _))
  · exact fun a W hb hold hdep K hK => step_load_row (want_guard rfl rfl (dep_val (hdep ⟨11, .guard⟩ (by simp) rfl 53 rfl))) 23 (.tmp 6) rfl (w.heap.size + 2) (eval_tmp ((hold 6 (free_slot (by as_aux_lemma => kernel_rfl))).trans rfl)) 23 sc _ (HS8.out.below hb HS8.out.lt) Tryd.underlying23 rfl ZS.out (hK _ _ rfl (Below.refl _ _))
  · exact fun a W hb hold hdep K hK => step_load_row (want_guard rfl rfl (dep_val (hdep ⟨11, .guard⟩ (by simp) rfl 53 rfl))) 23 (.tmp 7) rfl (w.heap.size + 3) (eval_tmp ((hold 7 (free_slot (by as_aux_lemma => kernel_rfl))).trans rfl)) 23 tc _ (HT8.out.below hb HT8.out.lt) Tryd.underlying23 rfl ZT.out (hK _ _ rfl (Below.refl _ _))
  · exact fun a W hb hold hdep K hK => step_eql (want_guard rfl rfl (dep_val (hdep ⟨11, .guard⟩ (by simp) rfl 53 rfl))) 23 (.tmp 59) (.tmp 60) _ rfl _ _ _ (eval_tmp (dep_val (hdep ⟨17, .data⟩ (by simp) rfl 59 rfl))) (eval_tmp (dep_val (hdep ⟨18, .data⟩ (by simp) rfl 60 rfl))) (run_eqGuard_agg W .eql 23 _ _ sc tc (by as_aux_lemma => kernel_rfl)) (QE.out W) (hK _ _ rfl (Below.refl _ _))
  · exact fun a W hb hold hdep K hK => step_eql (want_guard rfl rfl (dep_val (hdep ⟨11, .guard⟩ (by simp) rfl 53 rfl))) 4 (.tmp 58) (.tmp 61) _ rfl _ _ _ (eval_tmp (dep_val (hdep ⟨16, .data⟩ (by simp) rfl 58 rfl))) (eval_tmp (dep_val (hdep ⟨19, .data⟩ (by simp) rfl 61 rfl))) rfl (bool_eql_self q W Tryd.underlying4) (hK _ _ rfl (Below.refl _ _))
  · exact fun a W hb hold hdep K hK => step_pick_true (want_free rfl) (.tmp 53) (.tmp 62) _ rfl _ (eval_tmp (dep_val (hdep ⟨11, .data⟩ (by simp) rfl 53 rfl))) (eval_tmp (dep_val (hdep ⟨20, .data⟩ (by simp) rfl 62 rfl))) (hK _ _ rfl (Below.refl _ _))
  · exact fun a W hb hold hdep K hK => step_assign (want_free rfl) (.tmp 63) rfl _ (eval_tmp (dep_val (hdep ⟨21, .data⟩ (by simp) rfl 63 rfl))) (hK _ _ rfl (Below.refl _ _))
  · intro a W hb hdef hlen hold hall
    have hv : a.tmps[8]? = some (.bool true) := dep_val (hall 22 8 rfl)
    obtain ⟨tm, df⟩ := a
    dsimp only at hdef hv
    subst hdef
    clear hall hold hlen
    go_wp2
    (try simp only [Exit.inBlock, Exit.then])
    refine bodyPost_ret (results_tmp rfl _ _ _) rfl ?_
    exact ⟨by rw [Array.getD_eq_getD_getElem?, hv]; rfl, HB8.out.trans (hb.mono HB8.out.size)⟩
set_option maxRecDepth 100000 in
set_option maxHeartbeats 4000000 in
theorem one_walk2 (nc mc sc tc : Array Value) (nb mb : List UInt8) (E : Int) (sm q : Bool) (w : World) (ra rb ta tb : ByteArray) (hE : E ≠ 0)
    (ZN : Hid ((Tryd.prog.info? 32).map (·.size) = some nc.size)) (ZM : Hid ((Tryd.prog.info? 32).map (·.size) = some mc.size)) (ZS : Hid ((Tryd.prog.info? 23).map (·.size) = some sc.size)) (ZT : Hid ((Tryd.prog.info? 23).map (·.size) = some tc.size))
    (AL : Hid (∀ W, Below w.heap.size w W → Calls Tryd.prog 27 #[] W fun e w' => e = .returned (.bool true) ∧ Below W.heap.size W w'))
    (EN : Hid (∀ W, Below w.heap.size w W → Calls Tryd.prog 15 #[.agg nc] W fun e w' => ∃ A n k, e = .returned (.tuple #[.slice A n k, .int .i64 0]) ∧ Got w' A n k nb ∧ Below W.heap.size W w'))
    (EM : Hid (∀ W, Below w.heap.size w W → Calls Tryd.prog 15 #[.agg mc] W fun e w' => e = .returned (.tuple #[.slice none 0 0, .int .i64 E]) ∧ Below W.heap.size W w'))
    (RA : Hid (∀ W, Calls Tryd.prog 10 #[.agg sc] W fun e w' => ∃ A k, e = .returned (.slice A 68 k) ∧ (∀ W', Below w'.heap.size w' W' → (convert 24 9 (.slice A 68 k)).run Tryd.prog W' = .ok (.string ra) W') ∧ Below W.heap.size W w'))
    (RB : Hid (∀ W, Calls Tryd.prog 10 #[.agg tc] W fun e w' => ∃ A k, e = .returned (.slice A 68 k) ∧ (∀ W', Below w'.heap.size w' W' → (convert 24 9 (.slice A 68 k)).run Tryd.prog W' = .ok (.string rb) W') ∧ Below W.heap.size W w'))
    (TA : Hid (∀ W, Below w.heap.size w W → Calls Tryd.prog 12 #[.agg sc] W fun e w' => e = .returned (.string ta) ∧ Below W.heap.size W w'))
    (TB : Hid (∀ W, Below w.heap.size w W → Calls Tryd.prog 12 #[.agg tc] W fun e w' => e = .returned (.string tb) ∧ Below W.heap.size W w'))
    (QR : Hid (∀ W, (binOp .eql 9 (.string ra) (.string rb)).run Tryd.prog W = .ok (.bool q) W)) (QT : Hid (∀ W, (binOp .eql 9 (.string ta) (.string tb)).run Tryd.prog W = .ok (.bool q) W)) (QE : Hid (∀ W, (binOp .eql 23 (.agg sc) (.agg tc)).run Tryd.prog W = .ok (.bool q) W)) :
    Calls Tryd.prog 9 #[.agg nc, .agg mc, .agg sc, .agg tc] w fun e w' => e = .returned (.bool true) ∧ Below w.heap.size w w' := by
  obtain ⟨w1, hw1⟩ : ∃ w1, w.alloc (.cells nc 32) = w1 := ⟨_, rfl⟩
  obtain ⟨w2, hw2⟩ : ∃ w2, w1.alloc (.cells mc 32) = w2 := ⟨_, rfl⟩
  obtain ⟨w3, hw3⟩ : ∃ w3, w2.alloc (.cells sc 23) = w3 := ⟨_, rfl⟩
  obtain ⟨w4, hw4⟩ : ∃ w4, w3.alloc (.cells tc 23) = w4 := ⟨_, rfl⟩
  have hz1 : w1.heap.size = w.heap.size + 1 := by rw [← hw1]; simp
  have hz2 : w2.heap.size = w.heap.size + 2 := by rw [← hw2]; simp [hz1]
  have hz3 : w3.heap.size = w.heap.size + 3 := by rw [← hw3]; simp [hz2]
  have hz4 : w4.heap.size = w.heap.size + 4 := by rw [← hw4]; simp [hz3]
  have hb1 : Below w.heap.size w w1 := by rw [← hw1]; exact (Below.refl _ _).alloc (Nat.le_refl _) _
  have hb2 : Below w.heap.size w w2 := by rw [← hw2]; exact hb1.alloc (by omega) _
  have hb3 : Below w.heap.size w w3 := by rw [← hw3]; exact hb2.alloc (by omega) _
  have HB4 : Hid (Below w.heap.size w w4) := by unfold Hid; rw [← hw4]; exact hb3.alloc (by omega) _
  have HN4 : Hid (Blk w4 w.heap.size 32 nc) := by unfold Hid; rw [← hw4, ← hw3, ← hw2, ← hw1]; exact (((Blk.new _ _ _).alloc _).alloc _).alloc _
  have HM4 : Hid (Blk w4 (w.heap.size + 1) 32 mc) := by unfold Hid; rw [← hw4, ← hw3, ← hw2]; exact ((Blk.new' hz1.symm).alloc _).alloc _
  have HS4 : Hid (Blk w4 (w.heap.size + 2) 23 sc) := by unfold Hid; rw [← hw4, ← hw3]; exact (Blk.new' hz2.symm).alloc _
  have HT4 : Hid (Blk w4 (w.heap.size + 3) 23 tc) := by unfold Hid; rw [← hw4]; exact Blk.new' hz3.symm
  clear hb1 hb2 hb3
  go_enter Tryd.func9, Tryd.ntmps9
  go_wp2_with (first
    | (go_at_call 27
       refine (AL.out _ HB4.out).mono ?_
       clear AL
       rintro e w5 ⟨rfl, hb3⟩
       have hz5 := hb3.size
       have HB5 := Lib.hid (HB4.out.trans (hb3.mono HB4.out.size))
       have HN5 := Lib.hid (HN4.out.below hb3 HN4.out.lt)
       have HM5 := Lib.hid (HM4.out.below hb3 HM4.out.lt)
       have HS5 := Lib.hid (HS4.out.below hb3 HS4.out.lt)
       have HT5 := Lib.hid (HT4.out.below hb3 HT4.out.lt)
       clear hb3)
    | (refine wpList_load_row rfl 32 (.tmp 4) rfl w.heap.size rfl 32 _ _ _ HN5.out Tryd.underlying32 rfl ZN.out ?_)
    | (go_at_call 15
       refine (EN.out _ HB5.out).mono ?_
       clear EN
       rintro e w6 ⟨X, xn, xk, rfl, hg, hb3⟩
       have hz6 := hb3.size
       have HB6 := Lib.hid (HB5.out.trans (hb3.mono HB5.out.size))
       have HN6 := Lib.hid (HN5.out.below hb3 HN5.out.lt)
       have HM6 := Lib.hid (HM5.out.below hb3 HM5.out.lt)
       have HS6 := Lib.hid (HS5.out.below hb3 HS5.out.lt)
       have HT6 := Lib.hid (HT5.out.below hb3 HT5.out.lt)
       have HG := Lib.hid hg
       clear hg
       clear hb3)
    | (refine wpList_load_row rfl 32 (.tmp 5) rfl (w.heap.size + 1) rfl 32 _ _ _ HM6.out Tryd.underlying32 rfl ZM.out ?_)
    | (go_at_call 15
       refine (EM.out _ HB6.out).mono ?_
       clear EM
       rintro e w7 ⟨rfl, hb3⟩
       have hz7 := hb3.size
       have HB7 := Lib.hid (HB6.out.trans (hb3.mono HB6.out.size))
       have HN7 := Lib.hid (HN6.out.below hb3 HN6.out.lt)
       have HM7 := Lib.hid (HM6.out.below hb3 HM6.out.lt)
       have HS7 := Lib.hid (HS6.out.below hb3 HS6.out.lt)
       have HT7 := Lib.hid (HT6.out.below hb3 HT6.out.lt)
       clear hb3))
  have heb : (E == 0) = false := by simpa using hE
  refine wp_region_past (by as_aux_lemma => kernel_rfl) (by as_aux_lemma => kernel_rfl) ?_
  repeat (first
    | go_big_quiet_skip
    | (go_big_quiet_want
       first
         | go_big_quiet_op
       go_big_quiet_on)
    | (simp only [heb]))
  refine wpQuiet_nil ?_
  intro nq
  obtain ⟨w8, hw8⟩ : ∃ W, W = nq.val := ⟨_, rfl⟩
  rw [← hw8]
  have hb8 : Below w7.heap.size w7 w8 := by rw [hw8]; exact nq.prop
  clear hw8 nq
  have HB8 := Lib.hid (HB7.out.trans (hb8.mono HB7.out.size))
  have HS8 := Lib.hid (HS7.out.below hb8 HS7.out.lt)
  have HT8 := Lib.hid (HT7.out.below hb8 HT7.out.lt)
  clear hb8
  go_wp2_with fail
  refine wp_region_steps [.inl (.agg sc), .inr (fun v W => ∃ A k, v = .slice A 68 k ∧ ∀ W', Below W.heap.size W W' → (convert 24 9 (.slice A 68 k)).run Tryd.prog W' = .ok (.string ra) W'), .inl (.string ra), .inl (.agg tc), .inr (fun v W => ∃ A k, v = .slice A 68 k ∧ ∀ W', Below W.heap.size W W' → (convert 24 9 (.slice A 68 k)).run Tryd.prog W' = .ok (.string rb) W'), .inl (.string rb), .inl (.bool q), .inl (.agg sc), .inl (.agg tc), .inl (.bool q), .inl (.bool true), .inl (.bool true), .inl (.agg sc), .inl (.string ta), .inl (.agg tc), .inl (.string tb), .inl (.bool q), .inl (.agg sc), .inl (.agg tc), .inl (.bool q), .inl (.bool true), .inl (.bool true), .inl (.bool true)] (by as_aux_lemma => kernel_rfl) (by as_aux_lemma => kernel_rfl) (by as_aux_lemma => kernel_rfl) (by as_aux_lemma => kernel_rfl) ?_ ⟨?_, ?_, ?_, ?_, ?_, ?_, ?_, ?_, ?_, ?_, ?_, ?_, ?_, ?_, ?_, ?_, ?_, ?_, ?_, ?_, ?_, ?_, ?_, trivial⟩ ?_
  · intro p hp v W W' h hb
    simp only [List.mem_cons, reduceCtorEq, Sum.inr.injEq, List.not_mem_nil, or_false, false_or] at hp
    rcases hp with rfl | rfl
    all_goals
      obtain ⟨A, k, h1, h2⟩ := h
      exact ⟨A, k, h1, fun W2 hb2 => h2 W2 (hb.trans (hb2.mono hb.size))⟩
  · exact fun a W hb hold hdep K hK => step_load_row (want_free rfl) 23 (.tmp 6) rfl (w.heap.size + 2) (eval_tmp ((hold 6 (free_slot (by as_aux_lemma => kernel_rfl))).trans rfl)) 23 sc _ (HS8.out.below hb HS8.out.lt) Tryd.underlying23 rfl ZS.out (hK _ _ rfl (Below.refl _ _))
  · intro a W hb hold hdep K hK
    refine step_call (want_free rfl) 10 _ _ rfl (#[.agg sc]) (by simp [(eval_tmp (dep_val (hdep ⟨0, .data⟩ (by simp) rfl 42 rfl)))]) Tryd.func10 (by as_aux_lemma => kernel_rfl) (by as_aux_lemma => kernel_rfl) (RA.out W) (fun e w' h => ?_)
    obtain ⟨A, k, rfl, cv, hb2⟩ := h
    exact ⟨_, rfl, hK _ _ ⟨A, k, rfl, cv⟩ hb2⟩
  · intro a W hb hold hdep K hK
    obtain ⟨v, hv, A, k, rfl, cv⟩ := hdep ⟨1, .data⟩ (by simp) rfl 43 rfl
    exact step_conv (want_free rfl) 24 9 (.tmp 43) rfl _ _ (eval_tmp hv) (cv W (Below.refl _ _)) (hK _ _ rfl (Below.refl _ _))
  · exact fun a W hb hold hdep K hK => step_load_row (want_free rfl) 23 (.tmp 7) rfl (w.heap.size + 3) (eval_tmp ((hold 7 (free_slot (by as_aux_lemma => kernel_rfl))).trans rfl)) 23 tc _ (HT8.out.below hb HT8.out.lt) Tryd.underlying23 rfl ZT.out (hK _ _ rfl (Below.refl _ _))
  · intro a W hb hold hdep K hK
    refine step_call (want_free rfl) 10 _ _ rfl (#[.agg tc]) (by simp [(eval_tmp (dep_val (hdep ⟨3, .data⟩ (by simp) rfl 45 rfl)))]) Tryd.func10 (by as_aux_lemma => kernel_rfl) (by as_aux_lemma => kernel_rfl) (RB.out W) (fun e w' h => ?_)
    obtain ⟨A, k, rfl, cv, hb2⟩ := h
    exact ⟨_, rfl, hK _ _ ⟨A, k, rfl, cv⟩ hb2⟩
  · intro a W hb hold hdep K hK
    obtain ⟨v, hv, A, k, rfl, cv⟩ := hdep ⟨4, .data⟩ (by simp) rfl 46 rfl
    exact step_conv (want_free rfl) 24 9 (.tmp 46) rfl _ _ (eval_tmp hv) (cv W (Below.refl _ _)) (hK _ _ rfl (Below.refl _ _))
  · exact fun a W hb hold hdep K hK => step_eql (want_free rfl) 9 (.tmp 44) (.tmp 47) _ rfl _ _ _ (eval_tmp (dep_val (hdep ⟨2, .data⟩ (by simp) rfl 44 rfl))) (eval_tmp (dep_val (hdep ⟨5, .data⟩ (by simp) rfl 47 rfl))) rfl (QR.out W) (hK _ _ rfl (Below.refl _ _))
  · exact fun a W hb hold hdep K hK => step_load_row (want_free rfl) 23 (.tmp 6) rfl (w.heap.size + 2) (eval_tmp ((hold 6 (free_slot (by as_aux_lemma => kernel_rfl))).trans rfl)) 23 sc _ (HS8.out.below hb HS8.out.lt) Tryd.underlying23 rfl ZS.out (hK _ _ rfl (Below.refl _ _))
  · exact fun a W hb hold hdep K hK => step_load_row (want_free rfl) 23 (.tmp 7) rfl (w.heap.size + 3) (eval_tmp ((hold 7 (free_slot (by as_aux_lemma => kernel_rfl))).trans rfl)) 23 tc _ (HT8.out.below hb HT8.out.lt) Tryd.underlying23 rfl ZT.out (hK _ _ rfl (Below.refl _ _))
  · exact fun a W hb hold hdep K hK => step_eql (want_free rfl) 23 (.tmp 49) (.tmp 50) _ rfl _ _ _ (eval_tmp (dep_val (hdep ⟨7, .data⟩ (by simp) rfl 49 rfl))) (eval_tmp (dep_val (hdep ⟨8, .data⟩ (by simp) rfl 50 rfl))) (run_eqGuard_agg W .eql 23 _ _ sc tc (by as_aux_lemma => kernel_rfl)) (QE.out W) (hK _ _ rfl (Below.refl _ _))
  · exact fun a W hb hold hdep K hK => step_eql (want_free rfl) 4 (.tmp 48) (.tmp 51) _ rfl _ _ _ (eval_tmp (dep_val (hdep ⟨6, .data⟩ (by simp) rfl 48 rfl))) (eval_tmp (dep_val (hdep ⟨9, .data⟩ (by simp) rfl 51 rfl))) rfl (bool_eql_self q W Tryd.underlying4) (hK _ _ rfl (Below.refl _ _))
  · exact fun a W hb hold hdep K hK => step_move (want_free rfl) (.tmp 52) rfl _ (eval_tmp (dep_val (hdep ⟨10, .data⟩ (by simp) rfl 52 rfl))) (hK _ _ rfl (Below.refl _ _))
  · exact fun a W hb hold hdep K hK => step_load_row (want_guard rfl rfl (dep_val (hdep ⟨11, .guard⟩ (by simp) rfl 53 rfl))) 23 (.tmp 6) rfl (w.heap.size + 2) (eval_tmp ((hold 6 (free_slot (by as_aux_lemma => kernel_rfl))).trans rfl)) 23 sc _ (HS8.out.below hb HS8.out.lt) Tryd.underlying23 rfl ZS.out (hK _ _ rfl (Below.refl _ _))
  · intro a W hb hold hdep K hK
    refine step_call (want_guard rfl rfl (dep_val (hdep ⟨11, .guard⟩ (by simp) rfl 53 rfl))) 12 _ _ rfl (#[.agg sc]) (by simp [(eval_tmp (dep_val (hdep ⟨12, .data⟩ (by simp) rfl 54 rfl)))]) Tryd.func12 (by as_aux_lemma => kernel_rfl) (by as_aux_lemma => kernel_rfl) (TA.out W (HB8.out.trans (hb.mono HB8.out.size))) (fun e w' h => ?_)
    obtain ⟨rfl, hb2⟩ := h
    exact ⟨_, rfl, hK _ _ rfl hb2⟩
  · exact fun a W hb hold hdep K hK => step_load_row (want_guard rfl rfl (dep_val (hdep ⟨11, .guard⟩ (by simp) rfl 53 rfl))) 23 (.tmp 7) rfl (w.heap.size + 3) (eval_tmp ((hold 7 (free_slot (by as_aux_lemma => kernel_rfl))).trans rfl)) 23 tc _ (HT8.out.below hb HT8.out.lt) Tryd.underlying23 rfl ZT.out (hK _ _ rfl (Below.refl _ _))
  · intro a W hb hold hdep K hK
    refine step_call (want_guard rfl rfl (dep_val (hdep ⟨11, .guard⟩ (by simp) rfl 53 rfl))) 12 _ _ rfl (#[.agg tc]) (by simp [(eval_tmp (dep_val (hdep ⟨14, .data⟩ (by simp) rfl 56 rfl)))]) Tryd.func12 (by as_aux_lemma => kernel_rfl) (by as_aux_lemma => kernel_rfl) (TB.out W (HB8.out.trans (hb.mono HB8.out.size))) (fun e w' h => ?_)
    obtain ⟨rfl, hb2⟩ := h
    exact ⟨_, rfl, hK _ _ rfl hb2⟩
  · exact fun a W hb hold hdep K hK => step_eql (want_guard rfl rfl (dep_val (hdep ⟨11, .guard⟩ (by simp) rfl 53 rfl))) 9 (.tmp 55) (.tmp 57) _ rfl _ _ _ (eval_tmp (dep_val (hdep ⟨13, .data⟩ (by simp) rfl 55 rfl))) (eval_tmp (dep_val (hdep ⟨15, .data⟩ (by simp) rfl 57 rfl))) rfl (QT.out W) (hK _ _ rfl (Below.refl _ _))
  · exact fun a W hb hold hdep K hK => step_load_row (want_guard rfl rfl (dep_val (hdep ⟨11, .guard⟩ (by simp) rfl 53 rfl))) 23 (.tmp 6) rfl (w.heap.size + 2) (eval_tmp ((hold 6 (free_slot (by as_aux_lemma => kernel_rfl))).trans rfl)) 23 sc _ (HS8.out.below hb HS8.out.lt) Tryd.underlying23 rfl ZS.out (hK _ _ rfl (Below.refl _ _))
  · exact fun a W hb hold hdep K hK => step_load_row (want_guard rfl rfl (dep_val (hdep ⟨11, .guard⟩ (by simp) rfl 53 rfl))) 23 (.tmp 7) rfl (w.heap.size + 3) (eval_tmp ((hold 7 (free_slot (by as_aux_lemma => kernel_rfl))).trans rfl)) 23 tc _ (HT8.out.below hb HT8.out.lt) Tryd.underlying23 rfl ZT.out (hK _ _ rfl (Below.refl _ _))
  · exact fun a W hb hold hdep K hK => step_eql (want_guard rfl rfl (dep_val (hdep ⟨11, .guard⟩ (by simp) rfl 53 rfl))) 23 (.tmp 59) (.tmp 60) _ rfl _ _ _ (eval_tmp (dep_val (hdep ⟨17, .data⟩ (by simp) rfl 59 rfl))) (eval_tmp (dep_val (hdep ⟨18, .data⟩ (by simp) rfl 60 rfl))) (run_eqGuard_agg W .eql 23 _ _ sc tc (by as_aux_lemma => kernel_rfl)) (QE.out W) (hK _ _ rfl (Below.refl _ _))
  · exact fun a W hb hold hdep K hK => step_eql (want_guard rfl rfl (dep_val (hdep ⟨11, .guard⟩ (by simp) rfl 53 rfl))) 4 (.tmp 58) (.tmp 61) _ rfl _ _ _ (eval_tmp (dep_val (hdep ⟨16, .data⟩ (by simp) rfl 58 rfl))) (eval_tmp (dep_val (hdep ⟨19, .data⟩ (by simp) rfl 61 rfl))) rfl (bool_eql_self q W Tryd.underlying4) (hK _ _ rfl (Below.refl _ _))
  · exact fun a W hb hold hdep K hK => step_pick_true (want_free rfl) (.tmp 53) (.tmp 62) _ rfl _ (eval_tmp (dep_val (hdep ⟨11, .data⟩ (by simp) rfl 53 rfl))) (eval_tmp (dep_val (hdep ⟨20, .data⟩ (by simp) rfl 62 rfl))) (hK _ _ rfl (Below.refl _ _))
  · exact fun a W hb hold hdep K hK => step_assign (want_free rfl) (.tmp 63) rfl _ (eval_tmp (dep_val (hdep ⟨21, .data⟩ (by simp) rfl 63 rfl))) (hK _ _ rfl (Below.refl _ _))
  · intro a W hb hdef hlen hold hall
    have hv : a.tmps[8]? = some (.bool true) := dep_val (hall 22 8 rfl)
    obtain ⟨tm, df⟩ := a
    dsimp only at hdef hv
    subst hdef
    clear hall hold hlen
    go_wp2
    (try simp only [Exit.inBlock, Exit.then])
    refine bodyPost_ret (results_tmp rfl _ _ _) rfl ?_
    exact ⟨by rw [Array.getD_eq_getD_getElem?, hv]; rfl, HB8.out.trans (hb.mono HB8.out.size)⟩
end Go.Proofs.YtaojjjcaofhmcaaDoor
