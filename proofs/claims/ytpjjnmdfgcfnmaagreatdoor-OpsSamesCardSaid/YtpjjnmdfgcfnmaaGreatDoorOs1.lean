/- The law's Own; OpsSames: the walk. (printed by gen_s1.py) -/
import Derived.Test.YtpjjnmdfgcfnmaaGreatDoorOc1
import Derived.Test.YtpjjnmdfgcfnmaaGreatDoorOq33
set_option linter.unusedVariables false
set_option linter.unusedSimpArgs false
namespace Go.Proofs.YtpjjnmdfgcfnmaaGreatDoor
open Go.RowKit

theorem op_callG {P : Program} {ops : Array Oper} {Q : Exit → Act → World → Prop} {o : Oper} {a : Act} {w : World} {K : Act → World → Prop} {R : Value → World → Prop} (hw : Region.wanted o (yielded ops a.tmps) = true) (f : FuncId) (xs : Array Operand) (ats : Array TypeId) (ho : o.op = .call { callee := .value (.func f), args := xs, argTypes := ats }) (args : Array Value) (hx0 : xs.toList.map a.eval = args.toList)
    {fn : Func} (hf : P.funcs[f]? = some fn) (hn : (fn.name == "runtime.NumGoroutine") = false) (hb : fn.body.isNone = false) (hc : Calls P f args w fun e w' => ∃ v, e = .returned v ∧ R v w' ∧ Below w.heap.size w w')
    (hK : ∀ v w', R v w' → Below w.heap.size w w' → K (a.put o.dst v) w') : if Region.wanted o (yielded ops a.tmps) = true then Oper.wp P o a w K Q else K (a.put o.dst undef) w :=
  step_call hw f xs ats ho args hx0 hf hn hb hc (fun e w' ⟨v, h1, h2, h3⟩ => ⟨v, h1, hK v w' h2 h3⟩)
/-- a row of an operation in a block -/
structure OpRow (w : World) (g : Nat) (x : OpC) (cs : List Value) : Prop where
  blk : Blk w g 29 cs.toArray
  len : cs.length = 19
theorem OpRow.info {w : World} {g : Nat} {x : OpC} {cs : List Value} (h : OpRow w g x cs) : (Tryz.prog.info? 29).map (·.size) = some cs.length := by rw [h.len]; exact isz_29
theorem OpRow.infoA {w : World} {g : Nat} {x : OpC} {cs : List Value} (h : OpRow w g x cs) : (Tryz.prog.info? 29).map (·.size) = some cs.toArray.size := by rw [List.size_toArray, h.len]; exact isz_29
set_option maxRecDepth 100000 in
set_option maxHeartbeats 8000000 in
theorem ownLaw_any {w : World} {lo : Option Nat} {x : OpC} {cs : List Value} (h : At w lo x cs) (hg : ¬ 3000 < x.cnt 0) : ∀ W, Below w.heap.size w W → Calls Tryz.prog 30 #[.agg cs.toArray] W fun e w' => ∃ v, e = .returned v ∧ (∃ c : List Value, v = .agg c.toArray ∧ At w' none x c) ∧ Below W.heap.size W w' := by
  intro W hW
  have HGR : Hid (∀ W', Below W.heap.size W W' → Calls Tryz.prog 8 #[.agg cs.toArray] W' fun e w' => e = .returned (.bool false) ∧ Below W'.heap.size W' w') := fun W' hW' => by
    have := great_any h W' (hW.trans (hW'.mono hW.size))
    rwa [decide_eq_false hg] at this
  have HCL : Hid (∀ W', Below W.heap.size W W' → Calls Tryz.prog 10 #[.agg cs.toArray] W' (Cloned W' x)) := fun W' hW' => refClone_any h W' (hW.trans (hW'.mono hW.size))
  have hl19 := h.len
  obtain ⟨ca, hca⟩ : ∃ c : Array Value, c = cs.toArray := ⟨_, rfl⟩
  have HC19 : Hid (ca.size = 19) := by unfold Hid; rw [hca, List.size_toArray, hl19]
  rw [← hca] at HGR HCL ⊢
  have HINF : Hid ((Tryz.prog.info? 29).map (·.size) = some ca.size) := by unfold Hid; rw [HC19.out]; exact isz_29
  obtain ⟨w1, hw1⟩ : ∃ w1, W.alloc (.cells ca 29) = w1 := ⟨_, rfl⟩
  have hb1 := newB hw1
  have hk1 := newK hw1
  have hz1 : w1.heap.size = W.heap.size + 1 := by rw [← hw1]; simp
  have HB1 := Lib.hid hb1
  have HK1 := Lib.hid hk1
  clear h hg hW hca hb1 hk1 hl19
  go_enter Tryz.func30, Tryz.ntmps30
  go_wp2_with (first
    | (refine wpList_new rfl 29 rfl zer_op ?_
       intro old hold
       obtain ⟨w2, hw2⟩ : ∃ w2, w1.alloc (.cells old 29) = w2 := ⟨_, rfl⟩
       rw [hw2]
       have hb2 := newB hw2
       have HB2 := hidT HB1 hb2
       have HKA := Lib.hid (HK1.out.below hb2 HK1.out.lt)
       have HKB : Hid (Blk w2 (W.heap.size + 1) 29 old) := (by unfold Hid; rw [← hz1]; exact newK hw2)
       have HOLD := Lib.hid hold
       have HZ2 : Hid (W.heap.size + 2 ≤ w2.heap.size) := (by unfold Hid; have := HKB.out.lt; omega)
       clear hw2 hb2 hold)
    | (with_reducible refine wpAt 3 ?_
       refine wpList_load_row rfl 29 (.tmp 1) rfl W.heap.size rfl 29 _ _ _ HKA.out Tryz.underlying29 rfl HINF.out ?_)
    | (go_at_call 8
       refine (HGR.out _ HB2.out).mono ?_
       rintro e w3 ⟨rfl, hb⟩
       have HB3 := hidT HB2 hb
       have HB23 := Lib.hid hb
       have HKA3 := Lib.hid (HKA.out.below hb HKA.out.lt)
       have HKB3 := Lib.hid (HKB.out.below hb HKB.out.lt)
       have HZ3 := Lib.hid (Nat.le_trans HZ2.out hb.size)
       clear hb)
    | (with_reducible refine wpAt 6 ?_
       refine wpList_load_row rfl 29 (.tmp 1) rfl W.heap.size rfl 29 _ _ _ HKA3.out Tryz.underlying29 rfl HINF.out ?_)
    | (go_at_call 10
       refine (HCL.out _ HB3.out).mono ?_
       rintro e w4 ⟨rc, rfl, hrc, hb⟩
       have HB4 := hidT HB3 hb
       have HKB4 := Lib.hid (HKB3.out.below hb HKB3.out.lt)
       have HAT := Lib.hid hrc
       have HIR : Hid ((Tryz.prog.info? 29).map (·.size) = some rc.toArray.size) := (by unfold Hid; rw [List.size_toArray, hrc.len]; exact isz_29)
       have HSR : Hid (old.size = rc.toArray.size) := (by unfold Hid; rw [HOLD.out, List.size_toArray, hrc.len])
       have HON := Lib.hid hrc.one
       have hz3 := HZ3.out
       clear hb hrc)
    | (refine wpList_store_row rfl 29 (.tmp 2) (.tmp 7) rfl (W.heap.size + 1) _ rfl rfl 29 _ HKB4.out HIR.out HSR.out HON.out ?_
       generalize hww : World.setRow _ _ _ = wz
       have HGZ : Hid (w4.grownBy wz (some (W.heap.size + 1))) := (by unfold Hid; rw [← hww]; exact only_setRow' _ _ _)
       have HBZ : Hid (Blk wz (W.heap.size + 1) 29 rc.toArray) := (by unfold Hid; rw [← hww]; exact cells_setRow HKB4.out)
       clear hww))
  refine bodyPost_ret (results_cell_row rfl _ _ (W.heap.size + 1) 29 _ _ _ rfl HBZ.out Tryz.underlying29 rfl HIR.out) rfl ?_
  exact ⟨_, rfl, ⟨rc, rfl, (HAT.out.grown rfl HGZ.out (by have := HB3.out.size; have := HB23.out.size; omega)).any⟩, HB4.out.grown HGZ.out HB4.out.size (fun k hk => by injection hk with hk; omega)⟩

set_option maxRecDepth 100000 in
set_option maxHeartbeats 32000000 in
theorem samesLaw_walk {w : World} {x y : OpC} {xs ys : List Value} (h : At w none x xs) (h' : At w none y ys) (E : Env w) :
    Calls Tryz.prog 7 #[.agg xs.toArray, .agg ys.toArray] w fun e w' => e = .returned (.bool true) ∧ Below w.heap.size w w' := by
  have HAL : Hid (∀ W, Below w.heap.size w W → Calls Tryz.prog 9 #[] W fun e w' => e = .returned (.bool true) ∧ Below W.heap.size W w') := fun W hW => alive_any W (E.below hW)
  obtain ⟨wa, hwa⟩ : ∃ v, w.alloc (.cells xs.toArray 29) = v := ⟨_, rfl⟩
  have hba := newB hwa
  have hka := newK hwa
  have hza : wa.heap.size = w.heap.size + 1 := by rw [← hwa]; simp
  obtain ⟨w1, hw1⟩ : ∃ v, wa.alloc (.cells ys.toArray 29) = v := ⟨_, rfl⟩
  have hb1 := newB hw1
  have hn0 : Blk w1 w.heap.size 29 xs.toArray := hka.below hb1 hka.lt
  have hn1 : Blk w1 (w.heap.size + 1) 29 ys.toArray := by
    have := newK hw1
    rwa [hza] at this
  have HB1 : Hid (Below w.heap.size w w1) := hba.trans (hb1.mono hba.size)
  have HQX : Hid (∀ W, Below w1.heap.size w1 W → Blk W w.heap.size 29 xs.toArray) := fun W hW => hn0.below hW hn0.lt
  have HQY : Hid (∀ W, Below w1.heap.size w1 W → Blk W (w.heap.size + 1) 29 ys.toArray) := fun W hW => hn1.below hW hn1.lt
  have HXSI : Hid ((Tryz.prog.info? 29).map (·.size) = some xs.length) := by unfold Hid; rw [h.len]; exact isz_29
  have HYSI : Hid ((Tryz.prog.info? 29).map (·.size) = some ys.length) := by unfold Hid; rw [h'.len]; exact isz_29
  have HGX : Hid (∀ W, Below w.heap.size w W → Calls Tryz.prog 8 #[.agg xs.toArray] W fun e w' => e = .returned (.bool (decide (3000 < x.cnt 0))) ∧ Below W.heap.size W w') := fun W hW => great_any h W hW
  have HGY : Hid (∀ W, Below w.heap.size w W → Calls Tryz.prog 8 #[.agg ys.toArray] W fun e w' => e = .returned (.bool (decide (3000 < y.cnt 0))) ∧ Below W.heap.size W w') := fun W hW => great_any h' W hW
  have HXO : Hid (¬ 3000 < x.cnt 0 → ∀ W, Below w.heap.size w W → Calls Tryz.prog 30 #[.agg xs.toArray] W fun e w' => ∃ v, e = .returned v ∧ (∃ c : List Value, v = .agg c.toArray ∧ At w' none x c) ∧ Below W.heap.size W w') := fun hg => ownLaw_any h hg
  have HYO : Hid (¬ 3000 < y.cnt 0 → ∀ W, Below w.heap.size w W → Calls Tryz.prog 30 #[.agg ys.toArray] W fun e w' => ∃ v, e = .returned v ∧ (∃ c : List Value, v = .agg c.toArray ∧ At w' none y c) ∧ Below W.heap.size W w') := fun hg => ownLaw_any h' hg
  have HXC : Hid (∀ W, Below w.heap.size w W → Calls Tryz.prog 31 #[.agg xs.toArray] W fun e w' => ∃ v, e = .returned v ∧ (∃ c : List Value, v = .agg c.toArray ∧ At w' none x c) ∧ Below W.heap.size W w') := fun W hW => (opClone_any h W hW).mono fun e w' ⟨c, h1, h2, h3⟩ => ⟨_, h1, ⟨c, rfl, h2.any⟩, h3⟩
  obtain ⟨bb, hbb, hrs⟩ := same_any h h'
  have HRS := Lib.hid hrs
  have HS1 : Hid (∀ W c d, At W none x c → At W none y d → Calls Tryz.prog 29 #[.agg c.toArray, .agg d.toArray] W fun e w' => e = .returned (.bool bb) ∧ Below W.heap.size W w') := fun W c d hc hd => by
    obtain ⟨b', h1, h2⟩ := opsSame_any hc hd
    obtain rfl : b' = bb := by rw [Bool.eq_iff_iff, h1, hbb]
    exact h2 W (Below.refl _ _)
  have HT : Hid (∀ W, Below w.heap.size w W → At W none x xs) := fun W hW => h.later hW
  have HS3 : Hid (∀ W c, At W none x c → At W none x xs → Calls Tryz.prog 15 #[.agg c.toArray, .agg xs.toArray] W fun e w' => e = .returned (.bool true) ∧ Below W.heap.size W w') := fun W c hc hd => by
    obtain ⟨b', h1, h2⟩ := same_any hc hd
    obtain rfl : b' = true := h1.2 rfl
    exact h2 W (Below.refl _ _)
  have HS4 : Hid (∀ W c, At W none x c → At W none x xs → Calls Tryz.prog 29 #[.agg xs.toArray, .agg c.toArray] W fun e w' => e = .returned (.bool true) ∧ Below W.heap.size W w') := fun W c hc hd => by
    obtain ⟨b', h1, h2⟩ := opsSame_any hd hc
    obtain rfl : b' = true := h1.2 rfl
    exact h2 W (Below.refl _ _)
  have hl1 : w.heap.size + 1 < w1.heap.size := hn1.lt
  clear h h' E hba hka hb1 hn0 hn1 hbb hrs
  by_cases hgx : 3000 < x.cnt 0
  · rw [decide_eq_true hgx] at HGX
    clear HXO HYO HXC HRS HS1 HS3 HS4 HT hgx
    go_enter Tryz.func7, Tryz.ntmps7
    go_wp2_with (first
      | (with_reducible refine wpAt 5 ?_
         refine wpList_load_at (by rfl) 29 (.tmp 2) rfl ⟨w.heap.size, 0, none⟩ rfl xs _ (cellsB (HQX.out _ (Below.refl _ _))) Tryz.underlying29 rfl HXSI.out ?_)
      | (go_at_call 8
         refine (HGX.out _ HB1.out).mono ?_
         clear HGX
         rintro e w4 ⟨rfl, hb⟩
         have HB4 := hidT HB1 hb
         have HB14 := Lib.hid hb
         clear hb)
      | (with_reducible refine wpAt 8 ?_
         refine wpList_load_at (by rfl) 29 (.tmp 3) rfl ⟨w.heap.size + 1, 0, none⟩ rfl ys _ (cellsB (HQY.out _ HB14.out)) Tryz.underlying29 rfl HYSI.out ?_)
      | (go_at_call 8
         refine (HGY.out _ HB4.out).mono ?_
         rintro e w5 ⟨rfl, hb⟩
         have HB5 := hidT HB4 hb
         have HB15 := hidT HB14 hb
         clear hb)
      | (go_at_call 9
         first
           | refine (HAL.out _ HB5.out).mono ?_
           | refine (HAL.out _ HB4.out).mono ?_
         rintro e w6 ⟨rfl, hb⟩
         have HB6 : Hid (Below w.heap.size w w6) := (by first | exact HB5.out.trans (hb.mono HB5.out.size) | exact HB4.out.trans (hb.mono HB4.out.size))
         clear hb))
    go_ret
    exact ⟨rfl, HB6.out⟩
  rw [decide_eq_false hgx] at HGX
  by_cases hgy : 3000 < y.cnt 0
  · rw [decide_eq_true hgy] at HGY
    clear HXO HYO HXC HRS HS1 HS3 HS4 HT hgx hgy
    go_enter Tryz.func7, Tryz.ntmps7
    go_wp2_with (first
      | (with_reducible refine wpAt 5 ?_
         refine wpList_load_at (by rfl) 29 (.tmp 2) rfl ⟨w.heap.size, 0, none⟩ rfl xs _ (cellsB (HQX.out _ (Below.refl _ _))) Tryz.underlying29 rfl HXSI.out ?_)
      | (go_at_call 8
         refine (HGX.out _ HB1.out).mono ?_
         clear HGX
         rintro e w4 ⟨rfl, hb⟩
         have HB4 := hidT HB1 hb
         have HB14 := Lib.hid hb
         clear hb)
      | (with_reducible refine wpAt 8 ?_
         refine wpList_load_at (by rfl) 29 (.tmp 3) rfl ⟨w.heap.size + 1, 0, none⟩ rfl ys _ (cellsB (HQY.out _ HB14.out)) Tryz.underlying29 rfl HYSI.out ?_)
      | (go_at_call 8
         refine (HGY.out _ HB4.out).mono ?_
         rintro e w5 ⟨rfl, hb⟩
         have HB5 := hidT HB4 hb
         have HB15 := hidT HB14 hb
         clear hb)
      | (go_at_call 9
         first
           | refine (HAL.out _ HB5.out).mono ?_
           | refine (HAL.out _ HB4.out).mono ?_
         rintro e w6 ⟨rfl, hb⟩
         have HB6 : Hid (Below w.heap.size w w6) := (by first | exact HB5.out.trans (hb.mono HB5.out.size) | exact HB4.out.trans (hb.mono HB4.out.size))
         clear hb))
    go_ret
    exact ⟨rfl, HB6.out⟩
  rw [decide_eq_false hgy] at HGY
  have HOX' := Lib.hid (HXO.out hgx)
  have HOY' := Lib.hid (HYO.out hgy)
  clear HXO HYO hgx hgy HAL
  go_enter Tryz.func7, Tryz.ntmps7
  go_wp2_with (first
    | (with_reducible refine wpAt 5 ?_
       refine wpList_load_at (by rfl) 29 (.tmp 2) rfl ⟨w.heap.size, 0, none⟩ rfl xs _ (cellsB (HQX.out _ (Below.refl _ _))) Tryz.underlying29 rfl HXSI.out ?_)
    | (go_at_call 8
       refine (HGX.out _ HB1.out).mono ?_
       clear HGX
       rintro e w4 ⟨rfl, hb⟩
       have HB4 := hidT HB1 hb
       have HB14 := Lib.hid hb
       clear hb)
    | (with_reducible refine wpAt 8 ?_
       refine wpList_load_at (by rfl) 29 (.tmp 3) rfl ⟨w.heap.size + 1, 0, none⟩ rfl ys _ (cellsB (HQY.out _ HB14.out)) Tryz.underlying29 rfl HYSI.out ?_)
    | (go_at_call 8
       refine (HGY.out _ HB4.out).mono ?_
       rintro e w5 ⟨rfl, hb⟩
       have HB5 := hidT HB4 hb
       have HB15 := hidT HB14 hb
       clear hb))
  have CX : Hid (∀ {W}, Below w5.heap.size w5 W → ∀ j v, xs[j]? = some v → W.cell? ((⟨w.heap.size, 0, none⟩ : Addr).add j) = some v) := fun {W} hW => cellsB (HQX.out W (HB15.out.trans (hW.mono HB15.out.size)))
  have CY : Hid (∀ {W}, Below w5.heap.size w5 W → ∀ j v, ys[j]? = some v → W.cell? ((⟨w.heap.size + 1, 0, none⟩ : Addr).add j) = some v) := fun {W} hW => cellsB (HQY.out W (HB15.out.trans (hW.mono HB15.out.size)))
  have HW5 : Hid (∀ W, Below w5.heap.size w5 W → Below w.heap.size w W) := fun W hW => HB5.out.trans (hW.mono HB5.out.size)
  have HOX := Lib.hid (fun W (hW : Below w5.heap.size w5 W) => HOX'.out W (HW5.out W hW))
  have HOY := Lib.hid (fun W (hW : Below w5.heap.size w5 W) => HOY'.out W (HW5.out W hW))
  have HCX := Lib.hid (fun W (hW : Below w5.heap.size w5 W) => HXC.out W (HW5.out W hW))
  have HS2 := Lib.hid (fun W (hW : Below w5.heap.size w5 W) => HRS.out W (HW5.out W hW))
  have HS3' := Lib.hid (fun W c (hc : At W none x c) (hW : Below w5.heap.size w5 W) => HS3.out W c hc (HT.out W (HW5.out W hW)))
  have HS4' := Lib.hid (fun W c (hc : At W none x c) (hW : Below w5.heap.size w5 W) => HS4.out W c hc (HT.out W (HW5.out W hW)))
  clear HOX' HOY' HXC HRS HS3 HS4 HT
  cases bb
  · refine wp_region_steps (w0 := w5) (.inl (.agg xs.toArray) ::
        .inr (fun v W => ∃ c : List Value, v = .agg c.toArray ∧ At W none x c) ::
        .inl (.agg ys.toArray) ::
        .inr (fun v W => ∃ c : List Value, v = .agg c.toArray ∧ At W none y c) ::
        .inl (.bool false) ::
        .inl (.agg xs.toArray) ::
        .inl (.agg ys.toArray) ::
        .inl (.bool false) ::
        .inl (.bool true) ::
        .inl (.bool true) ::
        .inl (.agg xs.toArray) ::
        .inr (fun v W => ∃ c : List Value, v = .agg c.toArray ∧ At W none x c) ::
        .inl (.agg xs.toArray) ::
        .inl (.bool true) ::
        .inl (.bool true) ::
        .inl (.bool true) ::
        .inl (.agg xs.toArray) ::
        .inl (.agg xs.toArray) ::
        .inr (fun v W => ∃ c : List Value, v = .agg c.toArray ∧ At W none x c) ::
        .inl (.bool true) ::
        .inl (.bool true) ::
        .inl (.bool true) :: []) (by as_aux_lemma => kernel_rfl) (by as_aux_lemma => kernel_rfl) (by as_aux_lemma => kernel_rfl) (by as_aux_lemma => kernel_rfl) (by
          intro p hp
          simp only [List.mem_cons, reduceCtorEq, Sum.inr.injEq, List.not_mem_nil, or_false, false_or] at hp
          rcases hp with rfl | rfl | rfl | rfl <;> (rintro v W W' ⟨c, h1, h2⟩ hb; exact ⟨c, h1, h2.later hb⟩)) ⟨fun ac W hb hold hdep K hK => op_u (u := .agg xs.toArray) rfl (r_load_row 29 _ rfl (eval_tmp ((hold 2 (free_slot (by as_aux_lemma => kernel_rfl))).trans rfl)) xs (CX.out hb) Tryz.underlying29 rfl HXSI.out) (hK _ _ rfl (Below.refl _ _)),
          fun ac W hb hold hdep K hK => op_callR rfl 30 _ _ rfl (#[.agg xs.toArray]) (by simp [eval_tmp (dep_val (hdep ⟨0, .data⟩ (by simp) rfl 12 rfl))]) Tryz.func30 (by as_aux_lemma => kernel_rfl) (by as_aux_lemma => kernel_rfl) (HOX.out W hb) (fun v w' hv hbl => hK _ _ hv hbl),
          fun ac W hb hold hdep K hK => op_u (u := .agg ys.toArray) rfl (r_load_row 29 _ rfl (eval_tmp ((hold 3 (free_slot (by as_aux_lemma => kernel_rfl))).trans rfl)) ys (CY.out hb) Tryz.underlying29 rfl HYSI.out) (hK _ _ rfl (Below.refl _ _)),
          fun ac W hb hold hdep K hK => op_callR rfl 30 _ _ rfl (#[.agg ys.toArray]) (by simp [eval_tmp (dep_val (hdep ⟨2, .data⟩ (by simp) rfl 14 rfl))]) Tryz.func30 (by as_aux_lemma => kernel_rfl) (by as_aux_lemma => kernel_rfl) (HOY.out W hb) (fun v w' hv hbl => hK _ _ hv hbl),
          fun ac W hb hold hdep K hK => by
            obtain ⟨v13, e13, c13, rfl, h13⟩ : ∃ v, ac.tmps[13]? = some v ∧ ∃ c : List Value, v = .agg c.toArray ∧ At W none x c := hdep ⟨1, .data⟩ (by simp) rfl 13 rfl
            obtain ⟨v15, e15, c15, rfl, h15⟩ : ∃ v, ac.tmps[15]? = some v ∧ ∃ c : List Value, v = .agg c.toArray ∧ At W none y c := hdep ⟨3, .data⟩ (by simp) rfl 15 rfl
            exact op_call (u := .bool false) (c := true) (want_free rfl) 29 _ _ rfl (#[.agg c13.toArray, .agg c15.toArray]) (fun hc => by simp [eval_tmp e13, eval_tmp e15]) Tryz.func29 (by as_aux_lemma => kernel_rfl) (by as_aux_lemma => kernel_rfl) (fun hc => HS1.out W _ _ h13 h15) (fun w' hbl => hK _ _ rfl hbl),
          fun ac W hb hold hdep K hK => op_u (u := .agg xs.toArray) rfl (r_load_row 29 _ rfl (eval_tmp ((hold 2 (free_slot (by as_aux_lemma => kernel_rfl))).trans rfl)) xs (CX.out hb) Tryz.underlying29 rfl HXSI.out) (hK _ _ rfl (Below.refl _ _)),
          fun ac W hb hold hdep K hK => op_u (u := .agg ys.toArray) rfl (r_load_row 29 _ rfl (eval_tmp ((hold 3 (free_slot (by as_aux_lemma => kernel_rfl))).trans rfl)) ys (CY.out hb) Tryz.underlying29 rfl HYSI.out) (hK _ _ rfl (Below.refl _ _)),
          fun ac W hb hold hdep K hK => op_call (u := .bool false) (c := true) (want_free rfl) 15 _ _ rfl (#[.agg xs.toArray, .agg ys.toArray]) (fun hc => by simp [eval_tmp (dep_val (hdep ⟨5, .data⟩ (by simp) rfl 17 rfl)), eval_tmp (dep_val (hdep ⟨6, .data⟩ (by simp) rfl 18 rfl))]) Tryz.func15 (by as_aux_lemma => kernel_rfl) (by as_aux_lemma => kernel_rfl) (fun hc => HS2.out W hb) (fun w' hbl => hK _ _ rfl hbl),
          fun ac W hb hold hdep K hK => op_u (u := .bool true) rfl (r_beq 4 _ _ _ rfl Tryz.underlying4 (eval_tmp (dep_val (hdep ⟨4, .data⟩ (by simp) rfl 16 rfl))) (eval_tmp (dep_val (hdep ⟨7, .data⟩ (by simp) rfl 19 rfl)))) (hK _ _ rfl (Below.refl _ _)),
          fun ac W hb hold hdep K hK => op_u (u := .bool true) rfl (r_move _ rfl (eval_tmp (dep_val (hdep ⟨8, .data⟩ (by simp) rfl 20 rfl)))) (hK _ _ rfl (Below.refl _ _)),
          fun ac W hb hold hdep K hK => op_g (u := .agg xs.toArray) (want_all rfl rfl (dep_val (hdep ⟨9, .guard⟩ (by simp) rfl 21 rfl))) (fun hc => r_load_row 29 _ rfl (eval_tmp ((hold 2 (free_slot (by as_aux_lemma => kernel_rfl))).trans rfl)) xs (CX.out hb) Tryz.underlying29 rfl HXSI.out) (hK _ _ rfl (Below.refl _ _)),
          fun ac W hb hold hdep K hK => op_callG ((want_all (b := true) (x := true) rfl rfl (dep_val (hdep ⟨9, .guard⟩ (by simp) rfl 21 rfl))).trans rfl) 31 _ _ rfl (#[.agg xs.toArray]) (by simp [eval_tmp (dep_val (hdep ⟨10, .data⟩ (by simp) rfl 22 rfl))]) Tryz.func31 (by as_aux_lemma => kernel_rfl) (by as_aux_lemma => kernel_rfl) (HCX.out W hb) (fun v w' hv hbl => hK _ _ hv hbl),
          fun ac W hb hold hdep K hK => op_g (u := .agg xs.toArray) (want_all rfl rfl (dep_val (hdep ⟨9, .guard⟩ (by simp) rfl 21 rfl))) (fun hc => r_load_row 29 _ rfl (eval_tmp ((hold 2 (free_slot (by as_aux_lemma => kernel_rfl))).trans rfl)) xs (CX.out hb) Tryz.underlying29 rfl HXSI.out) (hK _ _ rfl (Below.refl _ _)),
          fun ac W hb hold hdep K hK => by
            obtain ⟨v23, e23, c23, rfl, h23⟩ : ∃ v, ac.tmps[23]? = some v ∧ ∃ c : List Value, v = .agg c.toArray ∧ At W none x c := hdep ⟨11, .data⟩ (by simp) rfl 23 rfl
            exact op_call (u := .bool true) (want_all rfl rfl (dep_val (hdep ⟨9, .guard⟩ (by simp) rfl 21 rfl))) 15 _ _ rfl (#[.agg c23.toArray, .agg xs.toArray]) (fun hc => by simp [eval_tmp e23, eval_tmp (dep_val (hdep ⟨12, .data⟩ (by simp) rfl 24 rfl))]) Tryz.func15 (by as_aux_lemma => kernel_rfl) (by as_aux_lemma => kernel_rfl) (fun hc => HS3'.out W _ h23 hb) (fun w' hbl => hK _ _ rfl hbl),
          fun ac W hb hold hdep K hK => op_u (u := .bool true) rfl (r_and _ _ _ rfl (eval_tmp (dep_val (hdep ⟨9, .data⟩ (by simp) rfl 21 rfl))) (fun _ => eval_tmp (dep_val (hdep ⟨13, .data⟩ (by simp) rfl 25 rfl))) rfl) (hK _ _ rfl (Below.refl _ _)),
          fun ac W hb hold hdep K hK => op_u (u := .bool true) rfl (r_move _ rfl (eval_tmp (dep_val (hdep ⟨14, .data⟩ (by simp) rfl 26 rfl)))) (hK _ _ rfl (Below.refl _ _)),
          fun ac W hb hold hdep K hK => op_g (u := .agg xs.toArray) (want_all rfl rfl (dep_val (hdep ⟨15, .guard⟩ (by simp) rfl 27 rfl))) (fun hc => r_load_row 29 _ rfl (eval_tmp ((hold 2 (free_slot (by as_aux_lemma => kernel_rfl))).trans rfl)) xs (CX.out hb) Tryz.underlying29 rfl HXSI.out) (hK _ _ rfl (Below.refl _ _)),
          fun ac W hb hold hdep K hK => op_g (u := .agg xs.toArray) (want_all rfl rfl (dep_val (hdep ⟨15, .guard⟩ (by simp) rfl 27 rfl))) (fun hc => r_load_row 29 _ rfl (eval_tmp ((hold 2 (free_slot (by as_aux_lemma => kernel_rfl))).trans rfl)) xs (CX.out hb) Tryz.underlying29 rfl HXSI.out) (hK _ _ rfl (Below.refl _ _)),
          fun ac W hb hold hdep K hK => op_callG ((want_all (b := true) (x := true) rfl rfl (dep_val (hdep ⟨15, .guard⟩ (by simp) rfl 27 rfl))).trans rfl) 31 _ _ rfl (#[.agg xs.toArray]) (by simp [eval_tmp (dep_val (hdep ⟨17, .data⟩ (by simp) rfl 29 rfl))]) Tryz.func31 (by as_aux_lemma => kernel_rfl) (by as_aux_lemma => kernel_rfl) (HCX.out W hb) (fun v w' hv hbl => hK _ _ hv hbl),
          fun ac W hb hold hdep K hK => by
            obtain ⟨v30, e30, c30, rfl, h30⟩ : ∃ v, ac.tmps[30]? = some v ∧ ∃ c : List Value, v = .agg c.toArray ∧ At W none x c := hdep ⟨18, .data⟩ (by simp) rfl 30 rfl
            exact op_call (u := .bool true) (want_all rfl rfl (dep_val (hdep ⟨15, .guard⟩ (by simp) rfl 27 rfl))) 29 _ _ rfl (#[.agg xs.toArray, .agg c30.toArray]) (fun hc => by simp [eval_tmp (dep_val (hdep ⟨16, .data⟩ (by simp) rfl 28 rfl)), eval_tmp e30]) Tryz.func29 (by as_aux_lemma => kernel_rfl) (by as_aux_lemma => kernel_rfl) (fun hc => HS4'.out W _ h30 hb) (fun w' hbl => hK _ _ rfl hbl),
          fun ac W hb hold hdep K hK => op_u (u := .bool true) rfl (r_and _ _ _ rfl (eval_tmp (dep_val (hdep ⟨15, .data⟩ (by simp) rfl 27 rfl))) (fun _ => eval_tmp (dep_val (hdep ⟨19, .data⟩ (by simp) rfl 31 rfl))) rfl) (hK _ _ rfl (Below.refl _ _)),
          fun ac W hb hold hdep K hK => op_u (u := .bool true) rfl (r_assign _ rfl (eval_tmp (dep_val (hdep ⟨20, .data⟩ (by simp) rfl 32 rfl)))) (hK _ _ rfl (Below.refl _ _)), trivial⟩ ?_
    intro ae W hb hdef hlen hold hall
    have hv := dep_val (hall 21 4 rfl)
    have HB6 := Lib.hid (HW5.out W hb)
    clear hb hold hall hlen
    obtain ⟨tm, df⟩ := ae
    dsimp only at hdef hv
    subst hdef
    have HV := Lib.hid hv
    clear hv
    go_wp2
    (try simp only [Exit.inBlock, Exit.then])
    refine bodyPost_ret (results_tmp rfl _ _ _) rfl ?_
    exact ⟨by rw [Array.getD_eq_getD_getElem?, HV.out]; rfl, HB6.out⟩
  · refine wp_region_steps (w0 := w5) (.inl (.agg xs.toArray) ::
        .inr (fun v W => ∃ c : List Value, v = .agg c.toArray ∧ At W none x c) ::
        .inl (.agg ys.toArray) ::
        .inr (fun v W => ∃ c : List Value, v = .agg c.toArray ∧ At W none y c) ::
        .inl (.bool true) ::
        .inl (.agg xs.toArray) ::
        .inl (.agg ys.toArray) ::
        .inl (.bool true) ::
        .inl (.bool true) ::
        .inl (.bool true) ::
        .inl (.agg xs.toArray) ::
        .inr (fun v W => ∃ c : List Value, v = .agg c.toArray ∧ At W none x c) ::
        .inl (.agg xs.toArray) ::
        .inl (.bool true) ::
        .inl (.bool true) ::
        .inl (.bool true) ::
        .inl (.agg xs.toArray) ::
        .inl (.agg xs.toArray) ::
        .inr (fun v W => ∃ c : List Value, v = .agg c.toArray ∧ At W none x c) ::
        .inl (.bool true) ::
        .inl (.bool true) ::
        .inl (.bool true) :: []) (by as_aux_lemma => kernel_rfl) (by as_aux_lemma => kernel_rfl) (by as_aux_lemma => kernel_rfl) (by as_aux_lemma => kernel_rfl) (by
          intro p hp
          simp only [List.mem_cons, reduceCtorEq, Sum.inr.injEq, List.not_mem_nil, or_false, false_or] at hp
          rcases hp with rfl | rfl | rfl | rfl <;> (rintro v W W' ⟨c, h1, h2⟩ hb; exact ⟨c, h1, h2.later hb⟩)) ⟨fun ac W hb hold hdep K hK => op_u (u := .agg xs.toArray) rfl (r_load_row 29 _ rfl (eval_tmp ((hold 2 (free_slot (by as_aux_lemma => kernel_rfl))).trans rfl)) xs (CX.out hb) Tryz.underlying29 rfl HXSI.out) (hK _ _ rfl (Below.refl _ _)),
          fun ac W hb hold hdep K hK => op_callR rfl 30 _ _ rfl (#[.agg xs.toArray]) (by simp [eval_tmp (dep_val (hdep ⟨0, .data⟩ (by simp) rfl 12 rfl))]) Tryz.func30 (by as_aux_lemma => kernel_rfl) (by as_aux_lemma => kernel_rfl) (HOX.out W hb) (fun v w' hv hbl => hK _ _ hv hbl),
          fun ac W hb hold hdep K hK => op_u (u := .agg ys.toArray) rfl (r_load_row 29 _ rfl (eval_tmp ((hold 3 (free_slot (by as_aux_lemma => kernel_rfl))).trans rfl)) ys (CY.out hb) Tryz.underlying29 rfl HYSI.out) (hK _ _ rfl (Below.refl _ _)),
          fun ac W hb hold hdep K hK => op_callR rfl 30 _ _ rfl (#[.agg ys.toArray]) (by simp [eval_tmp (dep_val (hdep ⟨2, .data⟩ (by simp) rfl 14 rfl))]) Tryz.func30 (by as_aux_lemma => kernel_rfl) (by as_aux_lemma => kernel_rfl) (HOY.out W hb) (fun v w' hv hbl => hK _ _ hv hbl),
          fun ac W hb hold hdep K hK => by
            obtain ⟨v13, e13, c13, rfl, h13⟩ : ∃ v, ac.tmps[13]? = some v ∧ ∃ c : List Value, v = .agg c.toArray ∧ At W none x c := hdep ⟨1, .data⟩ (by simp) rfl 13 rfl
            obtain ⟨v15, e15, c15, rfl, h15⟩ : ∃ v, ac.tmps[15]? = some v ∧ ∃ c : List Value, v = .agg c.toArray ∧ At W none y c := hdep ⟨3, .data⟩ (by simp) rfl 15 rfl
            exact op_call (u := .bool true) (c := true) (want_free rfl) 29 _ _ rfl (#[.agg c13.toArray, .agg c15.toArray]) (fun hc => by simp [eval_tmp e13, eval_tmp e15]) Tryz.func29 (by as_aux_lemma => kernel_rfl) (by as_aux_lemma => kernel_rfl) (fun hc => HS1.out W _ _ h13 h15) (fun w' hbl => hK _ _ rfl hbl),
          fun ac W hb hold hdep K hK => op_u (u := .agg xs.toArray) rfl (r_load_row 29 _ rfl (eval_tmp ((hold 2 (free_slot (by as_aux_lemma => kernel_rfl))).trans rfl)) xs (CX.out hb) Tryz.underlying29 rfl HXSI.out) (hK _ _ rfl (Below.refl _ _)),
          fun ac W hb hold hdep K hK => op_u (u := .agg ys.toArray) rfl (r_load_row 29 _ rfl (eval_tmp ((hold 3 (free_slot (by as_aux_lemma => kernel_rfl))).trans rfl)) ys (CY.out hb) Tryz.underlying29 rfl HYSI.out) (hK _ _ rfl (Below.refl _ _)),
          fun ac W hb hold hdep K hK => op_call (u := .bool true) (c := true) (want_free rfl) 15 _ _ rfl (#[.agg xs.toArray, .agg ys.toArray]) (fun hc => by simp [eval_tmp (dep_val (hdep ⟨5, .data⟩ (by simp) rfl 17 rfl)), eval_tmp (dep_val (hdep ⟨6, .data⟩ (by simp) rfl 18 rfl))]) Tryz.func15 (by as_aux_lemma => kernel_rfl) (by as_aux_lemma => kernel_rfl) (fun hc => HS2.out W hb) (fun w' hbl => hK _ _ rfl hbl),
          fun ac W hb hold hdep K hK => op_u (u := .bool true) rfl (r_beq 4 _ _ _ rfl Tryz.underlying4 (eval_tmp (dep_val (hdep ⟨4, .data⟩ (by simp) rfl 16 rfl))) (eval_tmp (dep_val (hdep ⟨7, .data⟩ (by simp) rfl 19 rfl)))) (hK _ _ rfl (Below.refl _ _)),
          fun ac W hb hold hdep K hK => op_u (u := .bool true) rfl (r_move _ rfl (eval_tmp (dep_val (hdep ⟨8, .data⟩ (by simp) rfl 20 rfl)))) (hK _ _ rfl (Below.refl _ _)),
          fun ac W hb hold hdep K hK => op_g (u := .agg xs.toArray) (want_all rfl rfl (dep_val (hdep ⟨9, .guard⟩ (by simp) rfl 21 rfl))) (fun hc => r_load_row 29 _ rfl (eval_tmp ((hold 2 (free_slot (by as_aux_lemma => kernel_rfl))).trans rfl)) xs (CX.out hb) Tryz.underlying29 rfl HXSI.out) (hK _ _ rfl (Below.refl _ _)),
          fun ac W hb hold hdep K hK => op_callG ((want_all (b := true) (x := true) rfl rfl (dep_val (hdep ⟨9, .guard⟩ (by simp) rfl 21 rfl))).trans rfl) 31 _ _ rfl (#[.agg xs.toArray]) (by simp [eval_tmp (dep_val (hdep ⟨10, .data⟩ (by simp) rfl 22 rfl))]) Tryz.func31 (by as_aux_lemma => kernel_rfl) (by as_aux_lemma => kernel_rfl) (HCX.out W hb) (fun v w' hv hbl => hK _ _ hv hbl),
          fun ac W hb hold hdep K hK => op_g (u := .agg xs.toArray) (want_all rfl rfl (dep_val (hdep ⟨9, .guard⟩ (by simp) rfl 21 rfl))) (fun hc => r_load_row 29 _ rfl (eval_tmp ((hold 2 (free_slot (by as_aux_lemma => kernel_rfl))).trans rfl)) xs (CX.out hb) Tryz.underlying29 rfl HXSI.out) (hK _ _ rfl (Below.refl _ _)),
          fun ac W hb hold hdep K hK => by
            obtain ⟨v23, e23, c23, rfl, h23⟩ : ∃ v, ac.tmps[23]? = some v ∧ ∃ c : List Value, v = .agg c.toArray ∧ At W none x c := hdep ⟨11, .data⟩ (by simp) rfl 23 rfl
            exact op_call (u := .bool true) (want_all rfl rfl (dep_val (hdep ⟨9, .guard⟩ (by simp) rfl 21 rfl))) 15 _ _ rfl (#[.agg c23.toArray, .agg xs.toArray]) (fun hc => by simp [eval_tmp e23, eval_tmp (dep_val (hdep ⟨12, .data⟩ (by simp) rfl 24 rfl))]) Tryz.func15 (by as_aux_lemma => kernel_rfl) (by as_aux_lemma => kernel_rfl) (fun hc => HS3'.out W _ h23 hb) (fun w' hbl => hK _ _ rfl hbl),
          fun ac W hb hold hdep K hK => op_u (u := .bool true) rfl (r_and _ _ _ rfl (eval_tmp (dep_val (hdep ⟨9, .data⟩ (by simp) rfl 21 rfl))) (fun _ => eval_tmp (dep_val (hdep ⟨13, .data⟩ (by simp) rfl 25 rfl))) rfl) (hK _ _ rfl (Below.refl _ _)),
          fun ac W hb hold hdep K hK => op_u (u := .bool true) rfl (r_move _ rfl (eval_tmp (dep_val (hdep ⟨14, .data⟩ (by simp) rfl 26 rfl)))) (hK _ _ rfl (Below.refl _ _)),
          fun ac W hb hold hdep K hK => op_g (u := .agg xs.toArray) (want_all rfl rfl (dep_val (hdep ⟨15, .guard⟩ (by simp) rfl 27 rfl))) (fun hc => r_load_row 29 _ rfl (eval_tmp ((hold 2 (free_slot (by as_aux_lemma => kernel_rfl))).trans rfl)) xs (CX.out hb) Tryz.underlying29 rfl HXSI.out) (hK _ _ rfl (Below.refl _ _)),
          fun ac W hb hold hdep K hK => op_g (u := .agg xs.toArray) (want_all rfl rfl (dep_val (hdep ⟨15, .guard⟩ (by simp) rfl 27 rfl))) (fun hc => r_load_row 29 _ rfl (eval_tmp ((hold 2 (free_slot (by as_aux_lemma => kernel_rfl))).trans rfl)) xs (CX.out hb) Tryz.underlying29 rfl HXSI.out) (hK _ _ rfl (Below.refl _ _)),
          fun ac W hb hold hdep K hK => op_callG ((want_all (b := true) (x := true) rfl rfl (dep_val (hdep ⟨15, .guard⟩ (by simp) rfl 27 rfl))).trans rfl) 31 _ _ rfl (#[.agg xs.toArray]) (by simp [eval_tmp (dep_val (hdep ⟨17, .data⟩ (by simp) rfl 29 rfl))]) Tryz.func31 (by as_aux_lemma => kernel_rfl) (by as_aux_lemma => kernel_rfl) (HCX.out W hb) (fun v w' hv hbl => hK _ _ hv hbl),
          fun ac W hb hold hdep K hK => by
            obtain ⟨v30, e30, c30, rfl, h30⟩ : ∃ v, ac.tmps[30]? = some v ∧ ∃ c : List Value, v = .agg c.toArray ∧ At W none x c := hdep ⟨18, .data⟩ (by simp) rfl 30 rfl
            exact op_call (u := .bool true) (want_all rfl rfl (dep_val (hdep ⟨15, .guard⟩ (by simp) rfl 27 rfl))) 29 _ _ rfl (#[.agg xs.toArray, .agg c30.toArray]) (fun hc => by simp [eval_tmp (dep_val (hdep ⟨16, .data⟩ (by simp) rfl 28 rfl)), eval_tmp e30]) Tryz.func29 (by as_aux_lemma => kernel_rfl) (by as_aux_lemma => kernel_rfl) (fun hc => HS4'.out W _ h30 hb) (fun w' hbl => hK _ _ rfl hbl),
          fun ac W hb hold hdep K hK => op_u (u := .bool true) rfl (r_and _ _ _ rfl (eval_tmp (dep_val (hdep ⟨15, .data⟩ (by simp) rfl 27 rfl))) (fun _ => eval_tmp (dep_val (hdep ⟨19, .data⟩ (by simp) rfl 31 rfl))) rfl) (hK _ _ rfl (Below.refl _ _)),
          fun ac W hb hold hdep K hK => op_u (u := .bool true) rfl (r_assign _ rfl (eval_tmp (dep_val (hdep ⟨20, .data⟩ (by simp) rfl 32 rfl)))) (hK _ _ rfl (Below.refl _ _)), trivial⟩ ?_
    intro ae W hb hdef hlen hold hall
    have hv := dep_val (hall 21 4 rfl)
    have HB6 := Lib.hid (HW5.out W hb)
    clear hb hold hall hlen
    obtain ⟨tm, df⟩ := ae
    dsimp only at hdef hv
    subst hdef
    have HV := Lib.hid hv
    clear hv
    go_wp2
    (try simp only [Exit.inBlock, Exit.then])
    refine bodyPost_ret (results_tmp rfl _ _ _) rfl ?_
    exact ⟨by rw [Array.getD_eq_getD_getElem?, HV.out]; rfl, HB6.out⟩
end Go.Proofs.YtpjjnmdfgcfnmaaGreatDoor
