/- OpsRights: the walk. (printed by gen_r1.py) -/
import Derived.Test.YtpjjnmdfgcfnmaaGreatDoorOc10
import Derived.Test.YtpjjnmdfgcfnmaaGreatDoorOq31
set_option linter.unusedVariables false
set_option linter.unusedSimpArgs false
namespace Go.Proofs.YtpjjnmdfgcfnmaaGreatDoor
open Go.RowKit

set_option maxRecDepth 100000 in
set_option maxHeartbeats 32000000 in
theorem rightsLaw_walk {w : World} {x : OpC} {xs : List Value} (t : Int) (h : At w none x xs) (E : Env w) (hbk : x.bulk ≤ 1048576) :
    Calls Tryz.prog 3 #[.agg xs.toArray, .int .i32 t] w fun e w' => e = .returned (.bool true) ∧ Below w.heap.size w w' := by
  have HAL : Hid (∀ W, Below w.heap.size w W → Calls Tryz.prog 9 #[] W fun e w' => e = .returned (.bool true) ∧ Below W.heap.size W w') := fun W hW => alive_any W (E.below hW)
  obtain ⟨w1, hw1⟩ : ∃ v, w.alloc (.cells xs.toArray 29) = v := ⟨_, rfl⟩
  have HB1 := Lib.hid (newB hw1)
  have HN1 := Lib.hid (newK hw1)
  have HXSI : Hid ((Tryz.prog.info? 29).map (·.size) = some xs.length) := by unfold Hid; rw [h.len]; exact isz_29
  have HGX : Hid (∀ W, Below w.heap.size w W → Calls Tryz.prog 8 #[.agg xs.toArray] W fun e w' => e = .returned (.bool (decide (3000 < x.cnt 0))) ∧ Below W.heap.size W w') := fun W hW => great_any h W hW
  have HCL : Hid (∀ W, Below w.heap.size w W → Calls Tryz.prog 10 #[.agg xs.toArray] W (Cloned W x)) := fun W hW => refClone_any h W hW
  have hnb : x.nodes ≤ 1000000000 := by have := x.nodes_bulk; omega
  obtain ⟨rr, hrr⟩ : ∃ r, r = x.rightE := ⟨_, rfl⟩
  have HR2' : Hid (∀ W, Below w.heap.size w W → Calls Tryz.prog 14 #[.agg xs.toArray] W fun e w' => e = .returned (.int .i64 rr) ∧ Below W.heap.size W w') := fun W hW => by rw [hrr]; exact refRight_any (h.later hW) hnb
  have HR1' : Hid (∀ W c, Below w.heap.size w W → At W none x c → Calls Tryz.prog 13 #[.agg c.toArray] W fun e w' => e = .returned (.int .i64 rr) ∧ Below W.heap.size W w') := fun W c hW hc => by rw [hrr]; exact right_any hc (E.below hW) (by omega)
  have HS' : Hid (∀ W c, Below w.heap.size w W → At W none x c → Calls Tryz.prog 15 #[.agg c.toArray, .agg xs.toArray] W fun e w' => e = .returned (.bool true) ∧ Below W.heap.size W w') := fun W c hW hc => by
    obtain ⟨b', h1, h2⟩ := same_any hc (h.later hW)
    obtain rfl : b' = true := h1.2 rfl
    exact h2 W (Below.refl _ _)
  obtain ⟨kk, hkk⟩ : ∃ k, k = kindN t := ⟨_, rfl⟩
  have HK1 : Hid (∀ W, Calls Tryz.prog 11 #[.int .i32 t] W fun e w' => e = .returned (.int .i64 kk) ∧ Below W.heap.size W w') := fun W => by rw [hkk]; exact (kind_any t W).mono fun e w' h => ⟨h.1, by rw [h.2]; exact Below.refl _ _⟩
  have HK2 : Hid (∀ W, Calls Tryz.prog 12 #[.int .i32 t] W fun e w' => e = .returned (.int .i64 kk) ∧ Below W.heap.size W w') := fun W => by rw [hkk]; exact (refKind_any t W).mono fun e w' h => ⟨h.1, by rw [h.2]; exact Below.refl _ _⟩
  clear h E hbk hnb hrr hkk
  by_cases hgx : 3000 < x.cnt 0
  · rw [decide_eq_true hgx] at HGX
    clear HCL HR1' HR2' HS' HK1 HK2 hgx
    go_enter Tryz.func3, Tryz.ntmps3
    go_wp2_with (first
      | (with_reducible refine wpAt 6 ?_
         refine wpList_load_at (by rfl) 29 (.tmp 2) rfl ⟨w.heap.size, 0, none⟩ rfl xs _ (cellsB HN1.out) Tryz.underlying29 rfl HXSI.out ?_)
      | (go_at_call 8
         refine (HGX.out _ HB1.out).mono ?_
         clear HGX
         rintro e w3 ⟨rfl, hb⟩
         have HB3 := hidT HB1 hb
         have HN3 := Lib.hid (HN1.out.below hb HN1.out.lt)
         clear hb)
      | (go_at_call 9
         refine (HAL.out _ HB3.out).mono ?_
         rintro e w4 ⟨rfl, hb⟩
         have HB4 := hidT HB3 hb
         clear hb))
    go_ret
    exact ⟨rfl, HB4.out⟩
  rw [decide_eq_false hgx] at HGX
  clear hgx
  go_enter Tryz.func3, Tryz.ntmps3
  go_wp2_with (first
    | (with_reducible refine wpAt 6 ?_
       refine wpList_load_at (by rfl) 29 (.tmp 2) rfl ⟨w.heap.size, 0, none⟩ rfl xs _ (cellsB HN1.out) Tryz.underlying29 rfl HXSI.out ?_)
    | (go_at_call 8
       refine (HGX.out _ HB1.out).mono ?_
       clear HGX
       rintro e w3 ⟨rfl, hb⟩
       have HB3 := hidT HB1 hb
       have HN3 := Lib.hid (HN1.out.below hb HN1.out.lt)
       clear hb)
    | (with_reducible refine wpAt 9 ?_
       refine wpList_load_at (by rfl) 29 (.tmp 2) rfl ⟨w.heap.size, 0, none⟩ rfl xs _ (cellsB HN3.out) Tryz.underlying29 rfl HXSI.out ?_)
    | (go_at_call 10
       refine (HCL.out _ HB3.out).mono ?_
       rintro e w4 ⟨rc, rfl, hrc, hb⟩
       have HB4 := hidT HB3 hb
       have HN4 := Lib.hid (HN3.out.below hb HN3.out.lt)
       have HAT := Lib.hid hrc
       have HIR : Hid ((Tryz.prog.info? 29).map (·.size) = some rc.toArray.size) := (by unfold Hid; rw [List.size_toArray, hrc.len]; exact isz_29)
       have HZR : Hid (((Tryz.prog.info? 29).bind (·.zero)).map (·.cells.size) = some rc.toArray.size) := (by unfold Hid; rw [List.size_toArray, hrc.len]; exact zer_op)
       have HON := Lib.hid hrc.one
       clear hb hrc)
    | (refine wpList_newrow rfl rfl 29 rfl 5 rfl (.tmp 10) rfl rfl rc.toArray (fun _ => rfl) (show 5 < 31 by decide) HZR.out HIR.out HON.out ?_
       obtain ⟨w5, hw5⟩ : ∃ w5, w4.alloc (.cells rc.toArray 29) = w5 := ⟨_, rfl⟩
       rw [hw5]
       have HB45 := Lib.hid (newB hw5)
       have HB5 := hidT HB4 (newB hw5)
       have HC5 := Lib.hid (newK hw5)
       have HN5 := Lib.hid (HN4.out.below (newB hw5) HN4.out.lt)
       clear hw5
       refine Hid.out ?_))
  refine Lib.hid ?_
  go_wp2
  have HRCI : Hid ((Tryz.prog.info? 29).map (·.size) = some rc.length) := by unfold Hid; rw [HAT.out.len]; exact isz_29
  have CX : Hid (∀ {W}, Below w5.heap.size w5 W → ∀ j v, xs[j]? = some v → W.cell? ((⟨w.heap.size, 0, none⟩ : Addr).add j) = some v) := fun {W} hW => cellsB (HN5.out.below hW HN5.out.lt)
  have CC : Hid (∀ {W}, Below w5.heap.size w5 W → ∀ j v, rc[j]? = some v → W.cell? ((⟨w4.heap.size, 0, none⟩ : Addr).add j) = some v) := fun {W} hW => cellsB (HC5.out.below hW HC5.out.lt)
  have HW5 : Hid (∀ W, Below w5.heap.size w5 W → Below w.heap.size w W) := fun W hW => HB5.out.trans (hW.mono HB5.out.size)
  have HA5 : Hid (∀ W, Below w5.heap.size w5 W → At W none x rc) := fun W hW => (HAT.out.later (HB45.out.trans (hW.mono HB45.out.size))).any
  have HR1 := Lib.hid (fun W (hW : Below w5.heap.size w5 W) => HR1'.out W rc (HW5.out W hW) (HA5.out W hW))
  have HR2 := Lib.hid (fun W (hW : Below w5.heap.size w5 W) => HR2'.out W (HW5.out W hW))
  have HSM := Lib.hid (fun W (hW : Below w5.heap.size w5 W) => HS'.out W rc (HW5.out W hW) (HA5.out W hW))
  have HAL5 := Lib.hid (fun W (hW : Below w5.heap.size w5 W) => HAL.out W (HW5.out W hW))
  clear HR1' HR2' HS' HAL HCL
  refine wp_region_steps (w0 := w5) (.inl (.int .i32 t) ::
    .inl (.int .i64 kk) ::
    .inl (.int .i32 t) ::
    .inl (.int .i64 kk) ::
    .inl (.bool true) ::
    .inl (.bool true) ::
    .inl (.agg rc.toArray) ::
    .inl (.int .i64 rr) ::
    .inl (.agg xs.toArray) ::
    .inl (.int .i64 rr) ::
    .inl (.bool true) ::
    .inl (.bool true) ::
    .inl (.bool true) ::
    .inl (.agg rc.toArray) ::
    .inl (.agg xs.toArray) ::
    .inl (.bool true) ::
    .inl (.bool true) ::
    .inl (.bool true) ::
    .inl (.bool true) ::
    .inl (.bool true) ::
    .inl (.bool true) :: []) (by as_aux_lemma => kernel_rfl) (by as_aux_lemma => kernel_rfl) (by as_aux_lemma => kernel_rfl) (by as_aux_lemma => kernel_rfl) (nomono rfl) ⟨fun ac W hb hold hdep K hK => op_u (u := .int .i32 t) rfl (r_move _ rfl (eval_tmp ((hold 1 (free_slot (by as_aux_lemma => kernel_rfl))).trans rfl))) (hK _ _ rfl (Below.refl _ _)),
      fun ac W hb hold hdep K hK => op_call (u := .int .i64 kk) (c := true) (want_free rfl) 11 _ _ rfl (#[.int .i32 t]) (fun hc => by simp [eval_tmp (dep_val (hdep ⟨0, .data⟩ (by simp) rfl 11 rfl))]) Tryz.func11 (by as_aux_lemma => kernel_rfl) (by as_aux_lemma => kernel_rfl) (fun hc => HK1.out W) (fun w' hbl => hK _ _ rfl hbl),
      fun ac W hb hold hdep K hK => op_u (u := .int .i32 t) rfl (r_move _ rfl (eval_tmp ((hold 1 (free_slot (by as_aux_lemma => kernel_rfl))).trans rfl))) (hK _ _ rfl (Below.refl _ _)),
      fun ac W hb hold hdep K hK => op_call (u := .int .i64 kk) (c := true) (want_free rfl) 12 _ _ rfl (#[.int .i32 t]) (fun hc => by simp [eval_tmp (dep_val (hdep ⟨2, .data⟩ (by simp) rfl 13 rfl))]) Tryz.func12 (by as_aux_lemma => kernel_rfl) (by as_aux_lemma => kernel_rfl) (fun hc => HK2.out W) (fun w' hbl => hK _ _ rfl hbl),
      fun ac W hb hold hdep K hK => op_u (u := .bool true) rfl ((r_ieq 3 _ _ _ rfl (eval_tmp (dep_val (hdep ⟨1, .data⟩ (by simp) rfl 12 rfl))) (eval_tmp (dep_val (hdep ⟨3, .data⟩ (by simp) rfl 14 rfl)))).trans (by simp)) (hK _ _ rfl (Below.refl _ _)),
      fun ac W hb hold hdep K hK => op_u (u := .bool true) rfl (r_move _ rfl (eval_tmp (dep_val (hdep ⟨4, .data⟩ (by simp) rfl 15 rfl)))) (hK _ _ rfl (Below.refl _ _)),
      fun ac W hb hold hdep K hK => op_g (u := .agg rc.toArray) (want_all rfl rfl (dep_val (hdep ⟨5, .guard⟩ (by simp) rfl 16 rfl))) (fun hc => r_load_row 29 _ rfl (eval_tmp ((hold 5 (free_slot (by as_aux_lemma => kernel_rfl))).trans rfl)) rc (CC.out hb) Tryz.underlying29 rfl HRCI.out) (hK _ _ rfl (Below.refl _ _)),
      fun ac W hb hold hdep K hK => op_call (u := .int .i64 rr) (want_all rfl rfl (dep_val (hdep ⟨5, .guard⟩ (by simp) rfl 16 rfl))) 13 _ _ rfl (#[.agg rc.toArray]) (fun hc => by simp [eval_tmp (dep_val (hdep ⟨6, .data⟩ (by simp) rfl 17 rfl))]) Tryz.func13 (by as_aux_lemma => kernel_rfl) (by as_aux_lemma => kernel_rfl) (fun hc => HR1.out W hb) (fun w' hbl => hK _ _ rfl hbl),
      fun ac W hb hold hdep K hK => op_g (u := .agg xs.toArray) (want_all rfl rfl (dep_val (hdep ⟨5, .guard⟩ (by simp) rfl 16 rfl))) (fun hc => r_load_row 29 _ rfl (eval_tmp ((hold 2 (free_slot (by as_aux_lemma => kernel_rfl))).trans rfl)) xs (CX.out hb) Tryz.underlying29 rfl HXSI.out) (hK _ _ rfl (Below.refl _ _)),
      fun ac W hb hold hdep K hK => op_call (u := .int .i64 rr) (want_all rfl rfl (dep_val (hdep ⟨5, .guard⟩ (by simp) rfl 16 rfl))) 14 _ _ rfl (#[.agg xs.toArray]) (fun hc => by simp [eval_tmp (dep_val (hdep ⟨8, .data⟩ (by simp) rfl 19 rfl))]) Tryz.func14 (by as_aux_lemma => kernel_rfl) (by as_aux_lemma => kernel_rfl) (fun hc => HR2.out W hb) (fun w' hbl => hK _ _ rfl hbl),
      fun ac W hb hold hdep K hK => op_g (u := .bool true) (want_all rfl rfl (dep_val (hdep ⟨5, .guard⟩ (by simp) rfl 16 rfl))) (fun hc => (r_ieq 3 _ _ _ rfl (eval_tmp (dep_val (hdep ⟨7, .data⟩ (by simp) rfl 18 rfl))) (eval_tmp (dep_val (hdep ⟨9, .data⟩ (by simp) rfl 20 rfl)))).trans (by simp)) (hK _ _ rfl (Below.refl _ _)),
      fun ac W hb hold hdep K hK => op_u (u := .bool true) rfl (r_and _ _ _ rfl (eval_tmp (dep_val (hdep ⟨5, .data⟩ (by simp) rfl 16 rfl))) (fun _ => eval_tmp (dep_val (hdep ⟨10, .data⟩ (by simp) rfl 21 rfl))) rfl) (hK _ _ rfl (Below.refl _ _)),
      fun ac W hb hold hdep K hK => op_u (u := .bool true) rfl (r_move _ rfl (eval_tmp (dep_val (hdep ⟨11, .data⟩ (by simp) rfl 22 rfl)))) (hK _ _ rfl (Below.refl _ _)),
      fun ac W hb hold hdep K hK => op_g (u := .agg rc.toArray) (want_all rfl rfl (dep_val (hdep ⟨12, .guard⟩ (by simp) rfl 23 rfl))) (fun hc => r_load_row 29 _ rfl (eval_tmp ((hold 5 (free_slot (by as_aux_lemma => kernel_rfl))).trans rfl)) rc (CC.out hb) Tryz.underlying29 rfl HRCI.out) (hK _ _ rfl (Below.refl _ _)),
      fun ac W hb hold hdep K hK => op_g (u := .agg xs.toArray) (want_all rfl rfl (dep_val (hdep ⟨12, .guard⟩ (by simp) rfl 23 rfl))) (fun hc => r_load_row 29 _ rfl (eval_tmp ((hold 2 (free_slot (by as_aux_lemma => kernel_rfl))).trans rfl)) xs (CX.out hb) Tryz.underlying29 rfl HXSI.out) (hK _ _ rfl (Below.refl _ _)),
      fun ac W hb hold hdep K hK => op_call (u := .bool true) (want_all rfl rfl (dep_val (hdep ⟨12, .guard⟩ (by simp) rfl 23 rfl))) 15 _ _ rfl (#[.agg rc.toArray, .agg xs.toArray]) (fun hc => by simp [eval_tmp (dep_val (hdep ⟨13, .data⟩ (by simp) rfl 24 rfl)), eval_tmp (dep_val (hdep ⟨14, .data⟩ (by simp) rfl 25 rfl))]) Tryz.func15 (by as_aux_lemma => kernel_rfl) (by as_aux_lemma => kernel_rfl) (fun hc => HSM.out W hb) (fun w' hbl => hK _ _ rfl hbl),
      fun ac W hb hold hdep K hK => op_u (u := .bool true) rfl (r_and _ _ _ rfl (eval_tmp (dep_val (hdep ⟨12, .data⟩ (by simp) rfl 23 rfl))) (fun _ => eval_tmp (dep_val (hdep ⟨15, .data⟩ (by simp) rfl 26 rfl))) rfl) (hK _ _ rfl (Below.refl _ _)),
      fun ac W hb hold hdep K hK => op_u (u := .bool true) rfl (r_move _ rfl (eval_tmp (dep_val (hdep ⟨16, .data⟩ (by simp) rfl 27 rfl)))) (hK _ _ rfl (Below.refl _ _)),
      fun ac W hb hold hdep K hK => op_call (u := .bool true) (want_all rfl rfl (dep_val (hdep ⟨17, .guard⟩ (by simp) rfl 28 rfl))) 9 _ _ rfl (#[]) (fun hc => by simp []) Tryz.func9 (by as_aux_lemma => kernel_rfl) (by as_aux_lemma => kernel_rfl) (fun hc => HAL5.out W hb) (fun w' hbl => hK _ _ rfl hbl),
      fun ac W hb hold hdep K hK => op_u (u := .bool true) rfl (r_and _ _ _ rfl (eval_tmp (dep_val (hdep ⟨17, .data⟩ (by simp) rfl 28 rfl))) (fun _ => eval_tmp (dep_val (hdep ⟨18, .data⟩ (by simp) rfl 29 rfl))) rfl) (hK _ _ rfl (Below.refl _ _)),
      fun ac W hb hold hdep K hK => op_u (u := .bool true) rfl (r_assign _ rfl (eval_tmp (dep_val (hdep ⟨19, .data⟩ (by simp) rfl 30 rfl)))) (hK _ _ rfl (Below.refl _ _)), trivial⟩ ?_
  intro ae W hb hdef hlen hold hall
  have hv := dep_val (hall 20 4 rfl)
  have HB6 := Lib.hid (HW5.out W hb)
  clear hb hold hall hlen
  obtain ⟨tm, df⟩ := ae
  dsimp only at hdef hv
  subst hdef
  have HV := Lib.hid hv
  clear hv
  go_wp2
  (try simp only [Exit.inBlock, Exit.then])
  refine bodyPost_ret (results_tmp rfl _ _ _) rfl ?_
  exact ⟨by rw [Array.getD_eq_getD_getElem?, HV.out]; rfl, HB6.out⟩
end Go.Proofs.YtpjjnmdfgcfnmaaGreatDoor
