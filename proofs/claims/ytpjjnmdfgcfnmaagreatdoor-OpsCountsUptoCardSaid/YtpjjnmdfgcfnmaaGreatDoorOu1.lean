/- OpsCounts: the walk. (printed by gen_u1.py) -/
import Derived.Test.YtpjjnmdfgcfnmaaGreatDoorOc10
import Derived.Test.YtpjjnmdfgcfnmaaGreatDoorOq31
import Derived.Test.YtpjjnmdfgcfnmaaGreatDoorOq32
set_option linter.unusedVariables false
set_option linter.unusedSimpArgs false
namespace Go.Proofs.YtpjjnmdfgcfnmaaGreatDoor
open Go.RowKit

/-- a list of operations as it is handed out -/
def FlatV (fl : List OpC) (v : Value) (W : World) : Prop := ∃ (A : Option Addr) (n c : Nat) (R : List (OpC × List Value)), v = .slice A n c ∧ R.length = n ∧ R.map Prod.fst = fl ∧ SlAt W none 29 19 296 ⟨A, n, c⟩ R.length (R.flatMap Prod.snd) ∧ ∀ q ∈ R, At W none q.1 q.2
theorem flatten_len {x : OpC} (hn : x.nodes ≤ 3000) : x.flatten.length ≤ 3000 := by
  unfold OpC.flatten
  split
  · simp
  · have h1 := OpC.flat_len x
    have h2 := (OpC.counts_le x).1
    omega
theorem flat_sl {W : World} {b n c : Nat} {A : Option Addr} {xs : List Value} (h : W.ownsRow b 29 19 (.slice A n c) n xs) (hn : n ≤ 3000) : SlAt W none 29 19 296 ⟨A, n, c⟩ n xs := (SlAt.of_own h (by unfold reachBytes; omega)).any
theorem flatV_ref {w w' : World} {x : OpC} {fl : List OpC} {e : Ending} (hn : x.nodes ≤ 3000) (hfl : fl = x.flatten) (h : RFlat w w x.flatten e w') : ∃ v, e = .returned v ∧ FlatV fl v w' ∧ Below w.heap.size w w' := by
  obtain ⟨A, c, R, he, hm, ho, ha, hb⟩ := h
  have hl : R.length ≤ 3000 := by have h1 := congrArg List.length hm; rw [List.length_map] at h1; have := flatten_len hn; omega
  exact ⟨_, he, ⟨A, R.length, c, R, rfl, rfl, by rw [hm, hfl], flat_sl ho hl, fun q hq => (ha q hq).later hb⟩, hb⟩
theorem flatV_ops {w w' : World} {x : OpC} {fl : List OpC} {e : Ending} (hn : x.nodes ≤ 3000) (hfl : fl = x.flatten) (h : Listed w x.flatten e w') : ∃ v, e = .returned v ∧ FlatV fl v w' ∧ Below w.heap.size w w' := by
  obtain ⟨A, c, R, base, he, hm, _, hF, hb⟩ := h
  have hl : R.length ≤ 3000 := by have h1 := congrArg List.length hm; rw [List.length_map] at h1; have := flatten_len hn; omega
  exact ⟨_, he, ⟨A, R.length, c, R, rfl, rfl, by rw [hm, hfl], flat_sl hF.own hl, fun q hq => by
    obtain ⟨b, e, _, h2, _⟩ := hF.win q hq
    exact h2.at_.any⟩, hb⟩
theorem op_callG {P : Program} {ops : Array Oper} {Q : Exit → Act → World → Prop} {o : Oper} {a : Act} {w : World} {K : Act → World → Prop} {R : Value → World → Prop} (hw : Region.wanted o (yielded ops a.tmps) = true) (f : FuncId) (xs : Array Operand) (ats : Array TypeId) (ho : o.op = .call { callee := .value (.func f), args := xs, argTypes := ats }) (args : Array Value) (hx0 : xs.toList.map a.eval = args.toList)
    {fn : Func} (hf : P.funcs[f]? = some fn) (hn : (fn.name == "runtime.NumGoroutine") = false) (hb : fn.body.isNone = false) (hc : Calls P f args w fun e w' => ∃ v, e = .returned v ∧ R v w' ∧ Below w.heap.size w w')
    (hK : ∀ v w', R v w' → Below w.heap.size w w' → K (a.put o.dst v) w') : if Region.wanted o (yielded ops a.tmps) = true then Oper.wp P o a w K Q else K (a.put o.dst undef) w :=
  step_call hw f xs ats ho args hx0 hf hn hb hc (fun e w' ⟨v, h1, h2, h3⟩ => ⟨v, h1, hK v w' h2 h3⟩)
set_option maxRecDepth 100000 in
set_option maxHeartbeats 32000000 in
theorem countsLaw_walk {w : World} {x : OpC} {xs : List Value} (h : At w none x xs) (E : Env w) (hbk : x.bulk ≤ 1048576) :
    Calls Tryz.prog 4 #[.agg xs.toArray] w fun e w' => e = .returned (.bool true) ∧ Below w.heap.size w w' := by
  have HAL : Hid (∀ W, Below w.heap.size w W → Calls Tryz.prog 9 #[] W fun e w' => e = .returned (.bool true) ∧ Below W.heap.size W w') := fun W hW => alive_any W (E.below hW)
  obtain ⟨w1, hw1⟩ : ∃ v, w.alloc (.cells xs.toArray 29) = v := ⟨_, rfl⟩
  have HB1 := Lib.hid (newB hw1)
  have HN1 := Lib.hid (newK hw1)
  have HXSI : Hid ((Tryz.prog.info? 29).map (·.size) = some xs.length) := by unfold Hid; rw [h.len]; exact isz_29
  have HGX : Hid (∀ W, Below w.heap.size w W → Calls Tryz.prog 8 #[.agg xs.toArray] W fun e w' => e = .returned (.bool (decide (3000 < x.cnt 0))) ∧ Below W.heap.size W w') := fun W hW => great_any h W hW
  have HCL : Hid (∀ W, Below w.heap.size w W → Calls Tryz.prog 10 #[.agg xs.toArray] W (Cloned W x)) := fun W hW => refClone_any h W hW
  have hnb : x.nodes ≤ 1000000000 := by have := x.nodes_bulk; omega
  obtain ⟨fl, hfl⟩ : ∃ l, l = x.flatten := ⟨_, rfl⟩
  have HFL := Lib.hid hfl
  have HBK := Lib.hid hbk
  have HEE := Lib.hid (fun W (hW : Below w.heap.size w W) => E.below hW)
  obtain ⟨p, hp⟩ : ∃ r, r = x.parts := ⟨_, rfl⟩
  obtain ⟨m, hm⟩ : ∃ r, r = x.multis := ⟨_, rfl⟩
  obtain ⟨dd, hd⟩ : ∃ r, r = x.depth := ⟨_, rfl⟩
  have hcv : countV x = .tuple #[.int .i64 (p : Int), .int .i64 (m : Int), .int .i64 (dd : Int)] := by rw [hp, hm, hd]; rfl
  have HCN1 : Hid (∀ W c, Below w.heap.size w W → At W none x c → Calls Tryz.prog 16 #[.agg c.toArray] W fun e w' => e = .returned (.tuple #[.int .i64 (p : Int), .int .i64 (m : Int), .int .i64 (dd : Int)]) ∧ Below W.heap.size W w') := fun W c _ hc => by rw [← hcv]; exact counts_any hc W hnb (Below.refl _ _)
  have HCN2 : Hid (∀ W, Below w.heap.size w W → Calls Tryz.prog 17 #[.agg xs.toArray] W fun e w' => e = .returned (.tuple #[.int .i64 (p : Int), .int .i64 (m : Int), .int .i64 (dd : Int)]) ∧ Below W.heap.size W w') := fun W hW => by rw [← hcv]; exact refCount_any h W hnb hW
  have HF2' : Hid (¬ 3000 < x.cnt 0 → ∀ W, Below w.heap.size w W → Calls Tryz.prog 20 #[.agg xs.toArray] W fun e w' => ∃ v, e = .returned v ∧ FlatV fl v w' ∧ Below W.heap.size W w') := fun hg W hW => by
    have hn : x.nodes ≤ 3000 := by have := x.nodes_cnt 0 (by omega); omega
    exact (refFlatten_any (h.later hW) (by omega)).mono fun e w' he => flatV_ref (by omega) hfl he
  have HF1' : Hid (¬ 3000 < x.cnt 0 → ∀ W c, Below w.heap.size w W → At W none x c → Calls Tryz.prog 19 #[.agg c.toArray] W fun e w' => ∃ v, e = .returned v ∧ FlatV fl v w' ∧ Below W.heap.size W w') := fun hg W c hW hc => by
    have hn : x.nodes ≤ 3000 := by have := x.nodes_cnt 0 (by omega); omega
    exact (flatten_any hc (E.below hW) (by omega) (by omega)).mono fun e w' he => flatV_ops (by omega) hfl he
  have HSL : Hid (∀ W {A A' : Option Addr} {n n' c c' : Nat} {R R' : List (OpC × List Value)}, SlAt W none 29 19 296 ⟨A, n, c⟩ R.length (R.flatMap Prod.snd) → (∀ q ∈ R, At W none q.1 q.2) → SlAt W none 29 19 296 ⟨A', n', c'⟩ R'.length (R'.flatMap Prod.snd) → (∀ q ∈ R', At W none q.1 q.2) → R.map Prod.fst = R'.map Prod.fst →
      Calls Tryz.prog 18 #[.slice A n c, .slice A' n' c'] W fun e w' => e = .returned (.bool true) ∧ Below W.heap.size W w') := fun W A A' n n' c c' R R' h1 h2 h3 h4 h5 => by
    obtain ⟨b', h6, h7⟩ := samel_any h1 h2 h3 h4
    obtain rfl : b' = true := h6.2 h5
    exact h7 W (Below.refl _ _)
  have HS' : Hid (∀ W c, Below w.heap.size w W → At W none x c → Calls Tryz.prog 15 #[.agg c.toArray, .agg xs.toArray] W fun e w' => e = .returned (.bool true) ∧ Below W.heap.size W w') := fun W c hW hc => by
    obtain ⟨b', h1, h2⟩ := same_any hc (h.later hW)
    obtain rfl : b' = true := h1.2 rfl
    exact h2 W (Below.refl _ _)
  clear h E hbk hnb hfl hp hm hd hcv
  by_cases hgx : 3000 < x.cnt 0
  · rw [decide_eq_true hgx] at HGX
    clear HCL HF1' HF2' HS' HSL HCN1 HCN2 hgx
    go_enter Tryz.func4, Tryz.ntmps4
    go_wp2_with (first
      | (with_reducible refine wpAt 10 ?_
         refine wpList_load_at (by rfl) 29 (.tmp 1) rfl ⟨w.heap.size, 0, none⟩ rfl xs _ (cellsB HN1.out) Tryz.underlying29 rfl HXSI.out ?_)
      | (go_at_call 8
         refine (HGX.out _ HB1.out).mono ?_
         clear HGX
         rintro e w3 ⟨rfl, hb⟩
         have HB3 := hidT HB1 hb
         have HN3 := Lib.hid (HN1.out.below hb HN1.out.lt)
         clear hb)
      | (go_at_call 9
         refine (HAL.out _ HB3.out).mono ?_
         rintro e w4 ⟨rfl, hb⟩
         have HB4 := hidT HB3 hb
         clear hb))
    go_ret
    exact ⟨rfl, HB4.out⟩
  rw [decide_eq_false hgx] at HGX
  have HF1a := Lib.hid (HF1'.out hgx)
  have HF2a := Lib.hid (HF2'.out hgx)
  clear hgx HF1' HF2'
  go_enter Tryz.func4, Tryz.ntmps4
  go_wp2_with (first
    | (with_reducible refine wpAt 10 ?_
       refine wpList_load_at (by rfl) 29 (.tmp 1) rfl ⟨w.heap.size, 0, none⟩ rfl xs _ (cellsB HN1.out) Tryz.underlying29 rfl HXSI.out ?_)
    | (go_at_call 8
       refine (HGX.out _ HB1.out).mono ?_
       clear HGX
       rintro e w3 ⟨rfl, hb⟩
       have HB3 := hidT HB1 hb
       have HN3 := Lib.hid (HN1.out.below hb HN1.out.lt)
       clear hb)
    | (with_reducible refine wpAt 13 ?_
       refine wpList_load_at (by rfl) 29 (.tmp 1) rfl ⟨w.heap.size, 0, none⟩ rfl xs _ (cellsB HN3.out) Tryz.underlying29 rfl HXSI.out ?_)
    | (go_at_call 10
       refine (HCL.out _ HB3.out).mono ?_
       rintro e w4 ⟨rc, rfl, hrc, hb⟩
       have HB4 := hidT HB3 hb
       have HN4 := Lib.hid (HN3.out.below hb HN3.out.lt)
       have HAT := Lib.hid hrc
       have HIR : Hid ((Tryz.prog.info? 29).map (·.size) = some rc.toArray.size) := (by unfold Hid; rw [List.size_toArray, hrc.len]; exact isz_29)
       have HZR : Hid (((Tryz.prog.info? 29).bind (·.zero)).map (·.cells.size) = some rc.toArray.size) := (by unfold Hid; rw [List.size_toArray, hrc.len]; exact zer_op)
       have HON := Lib.hid hrc.one
       have HRCI : Hid ((Tryz.prog.info? 29).map (·.size) = some rc.length) := (by unfold Hid; rw [hrc.len]; exact isz_29)
       clear hb hrc)
    | (refine wpList_newrow rfl rfl 29 rfl 3 rfl (.tmp 14) rfl rfl rc.toArray (fun _ => rfl) (show 3 < 52 by decide) HZR.out HIR.out HON.out ?_
       obtain ⟨w5, hw5⟩ : ∃ w5, w4.alloc (.cells rc.toArray 29) = w5 := ⟨_, rfl⟩
       rw [hw5]
       have HB45 := Lib.hid (newB hw5)
       have HB5 := hidT HB4 (newB hw5)
       have HC5 := Lib.hid (newK hw5)
       have HN5 := Lib.hid (HN4.out.below (newB hw5) HN4.out.lt)
       clear hw5)
    | (with_reducible refine wpAt 16 ?_
       refine wpList_load_at (by rfl) 29 (.tmp 3) rfl ⟨w4.heap.size, 0, none⟩ rfl rc _ (cellsB HC5.out) Tryz.underlying29 rfl HRCI.out ?_)
    | (go_at_call 16
       refine (HCN1.out _ rc HB5.out (HAT.out.later HB45.out).any).mono ?_
       rintro e w6 ⟨rfl, hb⟩
       have HB56 := Lib.hid hb
       have HB6 := hidT HB5 hb
       have HC6 := Lib.hid (HC5.out.below hb HC5.out.lt)
       have HN6 := Lib.hid (HN5.out.below hb HN5.out.lt)
       clear hb)
    | (with_reducible refine wpAt 22 ?_
       refine wpList_load_at (by rfl) 29 (.tmp 1) rfl ⟨w.heap.size, 0, none⟩ rfl xs _ (cellsB HN6.out) Tryz.underlying29 rfl HXSI.out ?_)
    | (go_at_call 17
       refine (HCN2.out _ HB6.out).mono ?_
       rintro e w7 ⟨rfl, hb⟩
       have HB47 := Lib.hid (HB45.out.trans ((HB56.out.trans (hb.mono HB56.out.size)).mono HB45.out.size))
       have HB7 := hidT HB6 hb
       have HC7 := Lib.hid (HC6.out.below hb HC6.out.lt)
       have HN7 := Lib.hid (HN6.out.below hb HN6.out.lt)
       clear hb))
  have CX : Hid (∀ {W}, Below w7.heap.size w7 W → ∀ j v, xs[j]? = some v → W.cell? ((⟨w.heap.size, 0, none⟩ : Addr).add j) = some v) := fun {W} hW => cellsB (HN7.out.below hW HN7.out.lt)
  have CC : Hid (∀ {W}, Below w7.heap.size w7 W → ∀ j v, rc[j]? = some v → W.cell? ((⟨w4.heap.size, 0, none⟩ : Addr).add j) = some v) := fun {W} hW => cellsB (HC7.out.below hW HC7.out.lt)
  have HW7 : Hid (∀ W, Below w7.heap.size w7 W → Below w.heap.size w W) := fun W hW => HB7.out.trans (hW.mono HB7.out.size)
  have HA7 : Hid (∀ W, Below w7.heap.size w7 W → At W none x rc) := fun W hW => (HAT.out.later (HB47.out.trans (hW.mono HB47.out.size))).any
  have HF1 := Lib.hid (fun W (hW : Below w7.heap.size w7 W) => HF1a.out W rc (HW7.out W hW) (HA7.out W hW))
  have HF2 := Lib.hid (fun W (hW : Below w7.heap.size w7 W) => HF2a.out W (HW7.out W hW))
  have HSM := Lib.hid (fun W (hW : Below w7.heap.size w7 W) => HS'.out W rc (HW7.out W hW) (HA7.out W hW))
  clear HF1a HF2a HS' HAL HCL HCN1 HCN2
  refine wp_region_steps (w0 := w7) (.inl (.int .i64 (p : Int)) ::
    .inl (.int .i64 (p : Int)) ::
    .inl (.bool true) ::
    .inl (.bool true) ::
    .inl (.int .i64 (m : Int)) ::
    .inl (.int .i64 (m : Int)) ::
    .inl (.bool true) ::
    .inl (.bool true) ::
    .inl (.bool true) ::
    .inl (.int .i64 (dd : Int)) ::
    .inl (.int .i64 (dd : Int)) ::
    .inl (.bool true) ::
    .inl (.bool true) ::
    .inl (.bool true) ::
    .inl (.agg rc.toArray) ::
    .inr (fun v W => ∃ (A : Option Addr) (n c : Nat) (R : List (OpC × List Value)), v = .slice A n c ∧ R.length = n ∧ R.map Prod.fst = fl ∧ SlAt W none 29 19 296 ⟨A, n, c⟩ R.length (R.flatMap Prod.snd) ∧ ∀ q ∈ R, At W none q.1 q.2) ::
    .inl (.agg xs.toArray) ::
    .inr (fun v W => ∃ (A : Option Addr) (n c : Nat) (R : List (OpC × List Value)), v = .slice A n c ∧ R.length = n ∧ R.map Prod.fst = fl ∧ SlAt W none 29 19 296 ⟨A, n, c⟩ R.length (R.flatMap Prod.snd) ∧ ∀ q ∈ R, At W none q.1 q.2) ::
    .inl (.bool true) ::
    .inl (.bool true) ::
    .inl (.bool true) ::
    .inl (.agg rc.toArray) ::
    .inl (.agg xs.toArray) ::
    .inl (.bool true) ::
    .inl (.bool true) ::
    .inl (.bool true) :: []) (by as_aux_lemma => kernel_rfl) (by as_aux_lemma => kernel_rfl) (by as_aux_lemma => kernel_rfl) (by as_aux_lemma => kernel_rfl) (by
      intro p hp
      simp only [List.mem_cons, reduceCtorEq, Sum.inr.injEq, List.not_mem_nil, or_false, false_or] at hp
      rcases hp with rfl | rfl <;> (rintro v W W' ⟨A, n, c, R, h1, h2, h3, h4, h5⟩ hb; exact ⟨A, n, c, R, h1, h2, h3, h4.later hb, fun q hq => (h5 q hq).later hb⟩)) ⟨fun ac W hb hold hdep K hK => op_u (u := .int .i64 (p : Int)) rfl (r_move _ rfl (eval_tmp ((hold 4 (free_slot (by as_aux_lemma => kernel_rfl))).trans rfl))) (hK _ _ rfl (Below.refl _ _)),
      fun ac W hb hold hdep K hK => op_u (u := .int .i64 (p : Int)) rfl (r_move _ rfl (eval_tmp ((hold 7 (free_slot (by as_aux_lemma => kernel_rfl))).trans rfl))) (hK _ _ rfl (Below.refl _ _)),
      fun ac W hb hold hdep K hK => op_u (u := .bool true) rfl ((r_ieq 3 _ _ _ rfl (eval_tmp (dep_val (hdep ⟨0, .data⟩ (by simp) rfl 27 rfl))) (eval_tmp (dep_val (hdep ⟨1, .data⟩ (by simp) rfl 28 rfl)))).trans (by simp)) (hK _ _ rfl (Below.refl _ _)),
      fun ac W hb hold hdep K hK => op_u (u := .bool true) rfl (r_move _ rfl (eval_tmp (dep_val (hdep ⟨2, .data⟩ (by simp) rfl 29 rfl)))) (hK _ _ rfl (Below.refl _ _)),
      fun ac W hb hold hdep K hK => op_g (u := .int .i64 (m : Int)) (want_all rfl rfl (dep_val (hdep ⟨3, .guard⟩ (by simp) rfl 30 rfl))) (fun hc => r_move _ rfl (eval_tmp ((hold 5 (free_slot (by as_aux_lemma => kernel_rfl))).trans rfl))) (hK _ _ rfl (Below.refl _ _)),
      fun ac W hb hold hdep K hK => op_g (u := .int .i64 (m : Int)) (want_all rfl rfl (dep_val (hdep ⟨3, .guard⟩ (by simp) rfl 30 rfl))) (fun hc => r_move _ rfl (eval_tmp ((hold 8 (free_slot (by as_aux_lemma => kernel_rfl))).trans rfl))) (hK _ _ rfl (Below.refl _ _)),
      fun ac W hb hold hdep K hK => op_g (u := .bool true) (want_all rfl rfl (dep_val (hdep ⟨3, .guard⟩ (by simp) rfl 30 rfl))) (fun hc => (r_ieq 3 _ _ _ rfl (eval_tmp (dep_val (hdep ⟨4, .data⟩ (by simp) rfl 31 rfl))) (eval_tmp (dep_val (hdep ⟨5, .data⟩ (by simp) rfl 32 rfl)))).trans (by simp)) (hK _ _ rfl (Below.refl _ _)),
      fun ac W hb hold hdep K hK => op_u (u := .bool true) rfl (r_and _ _ _ rfl (eval_tmp (dep_val (hdep ⟨3, .data⟩ (by simp) rfl 30 rfl))) (fun _ => eval_tmp (dep_val (hdep ⟨6, .data⟩ (by simp) rfl 33 rfl))) rfl) (hK _ _ rfl (Below.refl _ _)),
      fun ac W hb hold hdep K hK => op_u (u := .bool true) rfl (r_move _ rfl (eval_tmp (dep_val (hdep ⟨7, .data⟩ (by simp) rfl 34 rfl)))) (hK _ _ rfl (Below.refl _ _)),
      fun ac W hb hold hdep K hK => op_g (u := .int .i64 (dd : Int)) (want_all rfl rfl (dep_val (hdep ⟨8, .guard⟩ (by simp) rfl 35 rfl))) (fun hc => r_move _ rfl (eval_tmp ((hold 6 (free_slot (by as_aux_lemma => kernel_rfl))).trans rfl))) (hK _ _ rfl (Below.refl _ _)),
      fun ac W hb hold hdep K hK => op_g (u := .int .i64 (dd : Int)) (want_all rfl rfl (dep_val (hdep ⟨8, .guard⟩ (by simp) rfl 35 rfl))) (fun hc => r_move _ rfl (eval_tmp ((hold 9 (free_slot (by as_aux_lemma => kernel_rfl))).trans rfl))) (hK _ _ rfl (Below.refl _ _)),
      fun ac W hb hold hdep K hK => op_g (u := .bool true) (want_all rfl rfl (dep_val (hdep ⟨8, .guard⟩ (by simp) rfl 35 rfl))) (fun hc => (r_ieq 3 _ _ _ rfl (eval_tmp (dep_val (hdep ⟨9, .data⟩ (by simp) rfl 36 rfl))) (eval_tmp (dep_val (hdep ⟨10, .data⟩ (by simp) rfl 37 rfl)))).trans (by simp)) (hK _ _ rfl (Below.refl _ _)),
      fun ac W hb hold hdep K hK => op_u (u := .bool true) rfl (r_and _ _ _ rfl (eval_tmp (dep_val (hdep ⟨8, .data⟩ (by simp) rfl 35 rfl))) (fun _ => eval_tmp (dep_val (hdep ⟨11, .data⟩ (by simp) rfl 38 rfl))) rfl) (hK _ _ rfl (Below.refl _ _)),
      fun ac W hb hold hdep K hK => op_u (u := .bool true) rfl (r_move _ rfl (eval_tmp (dep_val (hdep ⟨12, .data⟩ (by simp) rfl 39 rfl)))) (hK _ _ rfl (Below.refl _ _)),
      fun ac W hb hold hdep K hK => op_g (u := .agg rc.toArray) (want_all rfl rfl (dep_val (hdep ⟨13, .guard⟩ (by simp) rfl 40 rfl))) (fun hc => r_load_row 29 _ rfl (eval_tmp ((hold 3 (free_slot (by as_aux_lemma => kernel_rfl))).trans rfl)) rc (CC.out hb) Tryz.underlying29 rfl HRCI.out) (hK _ _ rfl (Below.refl _ _)),
      fun ac W hb hold hdep K hK => op_callG ((want_all (b := true) (x := true) rfl rfl (dep_val (hdep ⟨13, .guard⟩ (by simp) rfl 40 rfl))).trans rfl) 19 _ _ rfl (#[.agg rc.toArray]) (by simp [eval_tmp (dep_val (hdep ⟨14, .data⟩ (by simp) rfl 41 rfl))]) Tryz.func19 (by as_aux_lemma => kernel_rfl) (by as_aux_lemma => kernel_rfl) (HF1.out W hb) (fun v w' hv hbl => hK _ _ hv hbl),
      fun ac W hb hold hdep K hK => op_g (u := .agg xs.toArray) (want_all rfl rfl (dep_val (hdep ⟨13, .guard⟩ (by simp) rfl 40 rfl))) (fun hc => r_load_row 29 _ rfl (eval_tmp ((hold 1 (free_slot (by as_aux_lemma => kernel_rfl))).trans rfl)) xs (CX.out hb) Tryz.underlying29 rfl HXSI.out) (hK _ _ rfl (Below.refl _ _)),
      fun ac W hb hold hdep K hK => op_callG ((want_all (b := true) (x := true) rfl rfl (dep_val (hdep ⟨13, .guard⟩ (by simp) rfl 40 rfl))).trans rfl) 20 _ _ rfl (#[.agg xs.toArray]) (by simp [eval_tmp (dep_val (hdep ⟨16, .data⟩ (by simp) rfl 43 rfl))]) Tryz.func20 (by as_aux_lemma => kernel_rfl) (by as_aux_lemma => kernel_rfl) (HF2.out W hb) (fun v w' hv hbl => hK _ _ hv hbl),
      fun ac W hb hold hdep K hK => by
        obtain ⟨v42, e42, A42, n42, c42, R42, rfl, l42, m42, s42, a42⟩ : ∃ v, ac.tmps[42]? = some v ∧ ∃ (A : Option Addr) (n c : Nat) (R : List (OpC × List Value)), v = .slice A n c ∧ R.length = n ∧ R.map Prod.fst = fl ∧ SlAt W none 29 19 296 ⟨A, n, c⟩ R.length (R.flatMap Prod.snd) ∧ ∀ q ∈ R, At W none q.1 q.2 := hdep ⟨15, .data⟩ (by simp) rfl 42 rfl
        obtain ⟨v44, e44, A44, n44, c44, R44, rfl, l44, m44, s44, a44⟩ : ∃ v, ac.tmps[44]? = some v ∧ ∃ (A : Option Addr) (n c : Nat) (R : List (OpC × List Value)), v = .slice A n c ∧ R.length = n ∧ R.map Prod.fst = fl ∧ SlAt W none 29 19 296 ⟨A, n, c⟩ R.length (R.flatMap Prod.snd) ∧ ∀ q ∈ R, At W none q.1 q.2 := hdep ⟨17, .data⟩ (by simp) rfl 44 rfl
        exact op_call (u := .bool true) (want_all rfl rfl (dep_val (hdep ⟨13, .guard⟩ (by simp) rfl 40 rfl))) 18 _ _ rfl (#[.slice A42 n42 c42, .slice A44 n44 c44]) (fun hc => by simp [eval_tmp e42, eval_tmp e44]) Tryz.func18 (by as_aux_lemma => kernel_rfl) (by as_aux_lemma => kernel_rfl) (fun hc => HSL.out W s42 a42 s44 a44 (m42.trans m44.symm)) (fun w' hbl => hK _ _ rfl hbl),
      fun ac W hb hold hdep K hK => op_u (u := .bool true) rfl (r_and _ _ _ rfl (eval_tmp (dep_val (hdep ⟨13, .data⟩ (by simp) rfl 40 rfl))) (fun _ => eval_tmp (dep_val (hdep ⟨18, .data⟩ (by simp) rfl 45 rfl))) rfl) (hK _ _ rfl (Below.refl _ _)),
      fun ac W hb hold hdep K hK => op_u (u := .bool true) rfl (r_move _ rfl (eval_tmp (dep_val (hdep ⟨19, .data⟩ (by simp) rfl 46 rfl)))) (hK _ _ rfl (Below.refl _ _)),
      fun ac W hb hold hdep K hK => op_g (u := .agg rc.toArray) (want_all rfl rfl (dep_val (hdep ⟨20, .guard⟩ (by simp) rfl 47 rfl))) (fun hc => r_load_row 29 _ rfl (eval_tmp ((hold 3 (free_slot (by as_aux_lemma => kernel_rfl))).trans rfl)) rc (CC.out hb) Tryz.underlying29 rfl HRCI.out) (hK _ _ rfl (Below.refl _ _)),
      fun ac W hb hold hdep K hK => op_g (u := .agg xs.toArray) (want_all rfl rfl (dep_val (hdep ⟨20, .guard⟩ (by simp) rfl 47 rfl))) (fun hc => r_load_row 29 _ rfl (eval_tmp ((hold 1 (free_slot (by as_aux_lemma => kernel_rfl))).trans rfl)) xs (CX.out hb) Tryz.underlying29 rfl HXSI.out) (hK _ _ rfl (Below.refl _ _)),
      fun ac W hb hold hdep K hK => op_call (u := .bool true) (want_all rfl rfl (dep_val (hdep ⟨20, .guard⟩ (by simp) rfl 47 rfl))) 15 _ _ rfl (#[.agg rc.toArray, .agg xs.toArray]) (fun hc => by simp [eval_tmp (dep_val (hdep ⟨21, .data⟩ (by simp) rfl 48 rfl)), eval_tmp (dep_val (hdep ⟨22, .data⟩ (by simp) rfl 49 rfl))]) Tryz.func15 (by as_aux_lemma => kernel_rfl) (by as_aux_lemma => kernel_rfl) (fun hc => HSM.out W hb) (fun w' hbl => hK _ _ rfl hbl),
      fun ac W hb hold hdep K hK => op_u (u := .bool true) rfl (r_and _ _ _ rfl (eval_tmp (dep_val (hdep ⟨20, .data⟩ (by simp) rfl 47 rfl))) (fun _ => eval_tmp (dep_val (hdep ⟨23, .data⟩ (by simp) rfl 50 rfl))) rfl) (hK _ _ rfl (Below.refl _ _)),
      fun ac W hb hold hdep K hK => op_u (u := .bool true) rfl (r_assign _ rfl (eval_tmp (dep_val (hdep ⟨24, .data⟩ (by simp) rfl 51 rfl)))) (hK _ _ rfl (Below.refl _ _)), trivial⟩ ?_
  intro ae W hb hdef hlen hold hall
  have hv := dep_val (hall 25 2 rfl)
  have HB8 := Lib.hid (HW7.out W hb)
  clear hb hold hall hlen
  obtain ⟨tm, df⟩ := ae
  dsimp only at hdef hv
  subst hdef
  have HV := Lib.hid hv
  clear hv
  go_wp2
  (try simp only [Exit.inBlock, Exit.then])
  refine bodyPost_ret (results_tmp rfl _ _ _) rfl ?_
  exact ⟨by rw [Array.getD_eq_getD_getElem?, HV.out]; rfl, HB8.out⟩
end Go.Proofs.YtpjjnmdfgcfnmaaGreatDoor
