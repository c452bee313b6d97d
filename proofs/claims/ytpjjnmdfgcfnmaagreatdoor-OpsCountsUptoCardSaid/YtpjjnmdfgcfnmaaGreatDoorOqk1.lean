/- ops.kept: an operation with the fields of its type alone. (printed by gen_p12.py) -/
import Derived.Test.YtpjjnmdfgcfnmaaGreatDoorOqo
set_option linter.unusedVariables false
set_option linter.unusedSimpArgs false
namespace Go.Proofs.YtpjjnmdfgcfnmaaGreatDoor
open Go.RowKit

set_option maxRecDepth 100000 in
set_option maxHeartbeats 20000000 in
theorem kept_g0 (t : Int) (htt : t ∈ ([1, 15, 19] : List Int)) (f : OpF) (d a k0 k1 k2 k3 k4 i s : Sl) (w : World) (ht : f.t = t) : Calls Tryz.prog 112 #[.agg (f.row d a k0 k1 k2 k3 k4 i s).toArray] w fun e w' => e = .returned (.agg (keptRow f d a k0 k1 k2 k3 k4 i s).toArray) ∧ Below w.heap.size w w' := by
  have HE : Hid ((keptRow f d a k0 k1 k2 k3 k4 i s).toArray = #[.int .i32 t, .string f.p, .slice d.A d.n d.c, .slice a.A a.n a.c, .int .i32 f.fl, .int .i32 0, .bool false, .int .i64 0, .int .i64 0, .int .i64 0, .int .i64 0, .slice none 0 0, .slice none 0 0, .slice none 0 0, .slice none 0 0, .slice none 0 0, .int .i32 0, .slice none 0 0, .slice none 0 0]) := by
    unfold Hid keptRow keptF kS
    rw [ht]
    simp only [List.mem_cons, List.not_mem_nil, or_false] at htt
    rcases htt with rfl | rfl | rfl <;> simp [tP, tD, tA, tF, tV, tW, tC, tL, tZ, tT, tS, OpF.row, Sl.v, nilS]
  rw [HE.out]
  obtain ⟨cs, hcs⟩ : ∃ cs : Array Value, cs = (f.row d a k0 k1 k2 k3 k4 i s).toArray := ⟨_, rfl⟩
  rw [← hcs]
  have hc0 : cs[0]? = some (.int .i32 t) := by rw [hcs, ← ht]; rfl
  have HC0 := Lib.hid hc0
  have HCS := Lib.hid hcs
  obtain ⟨w1, hw1⟩ : ∃ w1, w.alloc (.cells cs 29) = w1 := ⟨_, rfl⟩
  have hz1 : w1.heap.size = w.heap.size + 1 := by rw [← hw1]; simp
  have HN1 : Hid (Blk w1 w.heap.size 29 cs) := by unfold Hid; rw [← hw1]; exact Blk.new _ _ _
  have HB1 : Hid (Below w.heap.size w w1) := by unfold Hid; rw [← hw1]; exact (Below.refl _ _).alloc (Nat.le_refl _) _
  clear hc0 hcs ht HE
  obtain ⟨n0, n1, n2, n3, n4, n5, n6, n7, n8, n9, n10, n11, n12, n13, n14, n15, n16, n17, n18, _⟩ := sw_all (cs := [14, 22, 101, (-10), (-11), 11, 107, 21, 2, 13, 5, 7, 120, 3, 4, 8, 12, 106, 18]) htt rfl
  have S : ((t == 1) = true) ∨ ((t == 1) = false ∧ (t == 15) = true) ∨ ((t == 1) = false ∧ (t == 15) = false ∧ (t == 19) = true) := by
    simp only [List.mem_cons, List.not_mem_nil, or_false] at htt
    rcases htt with rfl | rfl | rfl <;> decide
  clear htt
  rcases S with s0 | ⟨s0, s1⟩ | ⟨s0, s1, s2⟩
  all_goals
    go_enter Tryz.func112, Tryz.ntmps112
    go_wp2_with (first
      | (refine wpList_new rfl 29 rfl zer_op ?_
         intro old hold
         obtain ⟨w2, hw2⟩ : ∃ w2, w1.alloc (.cells old 29) = w2 := ⟨_, rfl⟩
         rw [hw2]
         have hz2 : w2.heap.size = w.heap.size + 2 := (by rw [← hw2]; simp [hz1])
         have HN2 : Hid (Blk w2 w.heap.size 29 cs) := (by unfold Hid; rw [← hw2]; exact HN1.out.alloc _)
         have HZ2 : Hid (Blk w2 (w.heap.size + 1) 29 old) := (by unfold Hid; rw [← hw2]; exact Blk.new' hz1.symm)
         have HB2 : Hid (Below w.heap.size w w2) := (by unfold Hid; rw [← hw2]; exact HB1.out.alloc (by omega) _)
         have HOLD := Lib.hid hold
         have c0 := blk_cell HN2.out 0 HC0.out
         clear hw2 hold)
      | (refine wpList_newrow rfl rfl 29 rfl 3 rfl (.tmp 6) rfl rfl #[.int .i32 t, .string ⟨#[]⟩, .slice none 0 0, .slice none 0 0, .int .i32 0, .int .i32 0, .bool false, .int .i64 0, .int .i64 0, .int .i64 0, .int .i64 0, .slice none 0 0, .slice none 0 0, .slice none 0 0, .slice none 0 0, .slice none 0 0, .int .i32 0, .slice none 0 0, .slice none 0 0] (fun _ => rfl) (show 3 < 116 by decide) zer_op isz_29 (by simp [Value.oneCell']) ?_
         obtain ⟨w3, hw3⟩ : ∃ w3, w2.alloc (.cells #[.int .i32 t, .string ⟨#[]⟩, .slice none 0 0, .slice none 0 0, .int .i32 0, .int .i32 0, .bool false, .int .i64 0, .int .i64 0, .int .i64 0, .int .i64 0, .slice none 0 0, .slice none 0 0, .slice none 0 0, .slice none 0 0, .slice none 0 0, .int .i32 0, .slice none 0 0, .slice none 0 0] 29) = w3 := ⟨_, rfl⟩
         rw [hw3]
         have hz3 : w3.heap.size = w.heap.size + 3 := (by rw [← hw3]; simp [hz2])
         have HN3 : Hid (Blk w3 w.heap.size 29 cs) := (by unfold Hid; rw [← hw3]; exact HN2.out.alloc _)
         have HZ3 : Hid (Blk w3 (w.heap.size + 1) 29 old) := (by unfold Hid; rw [← hw3]; exact HZ2.out.alloc _)
         have HP3 : Hid (Blk w3 (w.heap.size + 2) 29 #[.int .i32 t, .string ⟨#[]⟩, .slice none 0 0, .slice none 0 0, .int .i32 0, .int .i32 0, .bool false, .int .i64 0, .int .i64 0, .int .i64 0, .int .i64 0, .slice none 0 0, .slice none 0 0, .slice none 0 0, .slice none 0 0, .slice none 0 0, .int .i32 0, .slice none 0 0, .slice none 0 0]) := (by unfold Hid; rw [← hw3]; exact Blk.new' hz2.symm)
         have HB3 : Hid (Below w.heap.size w w3) := (by unfold Hid; rw [← hw3]; exact HB2.out.alloc (by omega) _)
         have d0 := blk_cell HN3.out 0 HC0.out
         have d1 := blk_cell HN3.out 1 (by rw [HCS.out]; rfl : cs[1]? = some (.string f.p))
         clear hw3 c0 HN2 HZ2 HB2)
      | (with_reducible show wpList _ _ _ (Oper.mk none (.store _ (.tmp 41) _) _ _ _ _ :: _) _ _
         refine wpList_store_mid rfl 9 (.tmp 41) (.tmp 40) rfl (w.heap.size + 2) 1 (.string f.p) rfl rfl HP3.out (news := [.string f.p]) rfl isz_9 (by simp) (by simp [Value.oneCell']) ?_
         intro w4 cn hBn hxn hgn hzn
         have hz4 : w4.heap.size = w.heap.size + 3 := (by rw [hzn, hz3])
         have HN4 : Hid (Blk w4 w.heap.size 29 cs) := HN3.out.grown hgn (by simp)
         have HZ4 : Hid (Blk w4 (w.heap.size + 1) 29 old) := HZ3.out.grown hgn (by simp)
         have HP4 : Hid (Blk w4 (w.heap.size + 2) 29 #[.int .i32 t, .string f.p, .slice none 0 0, .slice none 0 0, .int .i32 0, .int .i32 0, .bool false, .int .i64 0, .int .i64 0, .int .i64 0, .int .i64 0, .slice none 0 0, .slice none 0 0, .slice none 0 0, .slice none 0 0, .slice none 0 0, .int .i32 0, .slice none 0 0, .slice none 0 0]) := (by
           have e : cn = #[.int .i32 t, .string f.p, .slice none 0 0, .slice none 0 0, .int .i32 0, .int .i32 0, .bool false, .int .i64 0, .int .i64 0, .int .i64 0, .int .i64 0, .slice none 0 0, .slice none 0 0, .slice none 0 0, .slice none 0 0, .slice none 0 0, .int .i32 0, .slice none 0 0, .slice none 0 0] := Array.ext' hxn
           unfold Hid; rw [← e]; exact hBn)
         have HB4 : Hid (Below w.heap.size w w4) := HB3.out.grown hgn (by omega) (fun k hk => by injection hk with hk; omega)
         have e0 := blk_cell HN4.out 0 HC0.out
         clear d0 d1
         clear hBn hxn hgn hzn))
    have HROW : Hid (Blk w4 w.heap.size 29 (f.row d a k0 k1 k2 k3 k4 i s).toArray) := by unfold Hid; rw [← HCS.out]; exact HN4.out
    have HPS : Hid ((#[.int .i32 t, .string f.p, .slice none 0 0, .slice none 0 0, .int .i32 0, .int .i32 0, .bool false, .int .i64 0, .int .i64 0, .int .i64 0, .int .i64 0, .slice none 0 0, .slice none 0 0, .slice none 0 0, .slice none 0 0, .slice none 0 0, .int .i32 0, .slice none 0 0, .slice none 0 0] : Array Value).size = 19) := rfl
    clear e0
    obtain ⟨x48, H48⟩ : ∃ x : Value, Hid (x = .pointer (some ⟨w.heap.size, 2, none⟩)) := ⟨_, rfl⟩
    obtain ⟨x49, H49⟩ : ∃ x : Value, Hid (x = .slice d.A d.n d.c) := ⟨_, rfl⟩
    obtain ⟨x50, H50⟩ : ∃ x : Value, Hid (x = .pointer (some ⟨w.heap.size, 3, none⟩)) := ⟨_, rfl⟩
    obtain ⟨x51, H51⟩ : ∃ x : Value, Hid (x = .slice a.A a.n a.c) := ⟨_, rfl⟩
    obtain ⟨x52, H52⟩ : ∃ x : Value, Hid (x = .pointer (some ⟨w.heap.size, 4, none⟩)) := ⟨_, rfl⟩
    obtain ⟨x53, H53⟩ : ∃ x : Value, Hid (x = .int .i32 f.fl) := ⟨_, rfl⟩
    obtain ⟨x54, H54⟩ : ∃ x : Value, Hid (x = .pointer (some ⟨(w.heap.size + 2), 2, none⟩)) := ⟨_, rfl⟩
    obtain ⟨x55, H55⟩ : ∃ x : Value, Hid (x = .pointer (some ⟨(w.heap.size + 2), 3, none⟩)) := ⟨_, rfl⟩
    obtain ⟨x56, H56⟩ : ∃ x : Value, Hid (x = .pointer (some ⟨(w.heap.size + 2), 4, none⟩)) := ⟨_, rfl⟩
    refine wp_region_copy (w0 := w4) (w.heap.size + 2) 29 [(2, .slice d.A d.n d.c), (3, .slice a.A a.n a.c), (4, .int .i32 f.fl)] (.inl x48 ::
        .inl x49 ::
        .inl x50 ::
        .inl x51 ::
        .inl x52 ::
        .inl x53 ::
        .inl x54 ::
        .inr (fun _ W => (∃ cur, Blk W (w.heap.size + 2) 29 cur) ∧ ∀ z9 u9, ([.slice d.A d.n d.c] : List Value)[z9]? = some u9 → W.cell? ⟨(w.heap.size + 2), 2 + z9, none⟩ = some u9) ::
        .inl x55 ::
        .inr (fun _ W => (∃ cur, Blk W (w.heap.size + 2) 29 cur) ∧ ∀ z9 u9, ([.slice a.A a.n a.c] : List Value)[z9]? = some u9 → W.cell? ⟨(w.heap.size + 2), 3 + z9, none⟩ = some u9) ::
        .inl x56 ::
        .inr (fun _ W => (∃ cur, Blk W (w.heap.size + 2) 29 cur) ∧ ∀ z9 u9, ([.int .i32 f.fl] : List Value)[z9]? = some u9 → W.cell? ⟨(w.heap.size + 2), 4 + z9, none⟩ = some u9) :: []) rfl (by as_aux_lemma => kernel_rfl) (by as_aux_lemma => kernel_rfl) (by as_aux_lemma => kernel_rfl) (by as_aux_lemma => kernel_rfl) ?_ ⟨fun ac W hC hold hdep K hK => op_u (u := .pointer (some ⟨w.heap.size, 2, none⟩)) rfl (r_field 29 _ 2 rfl (eval_tmp ((hold 1 (free_slot (by as_aux_lemma => kernel_rfl))).trans rfl)) Tryz.underlying29 rfl (n := 0) isz_22 rfl) (hK _ _ H48.out.symm (Cp.refl _)),
      fun ac W hC hold hdep K hK => op_u (u := .slice d.A d.n d.c) rfl (r_load 22 _ rfl (eval_tmp ((left_dep (hdep ⟨0, .data⟩ (by simp) rfl (by decide)) rfl (fun v h => h)).trans (congrArg some H48.out))) (blk_cell (HROW.out.grown hC.grown (by simp)) 2 rfl) Tryz.underlying22 rfl) (hK _ _ H49.out.symm (Cp.refl _)),
      fun ac W hC hold hdep K hK => op_u (u := .pointer (some ⟨w.heap.size, 3, none⟩)) rfl (r_field 29 _ 3 rfl (eval_tmp ((hold 1 (free_slot (by as_aux_lemma => kernel_rfl))).trans rfl)) Tryz.underlying29 rfl (n := 0) isz_23 rfl) (hK _ _ H50.out.symm (Cp.refl _)),
      fun ac W hC hold hdep K hK => op_u (u := .slice a.A a.n a.c) rfl (r_load 23 _ rfl (eval_tmp ((left_dep (hdep ⟨2, .data⟩ (by simp) rfl (by decide)) rfl (fun v h => h)).trans (congrArg some H50.out))) (blk_cell (HROW.out.grown hC.grown (by simp)) 3 rfl) Tryz.underlying23 rfl) (hK _ _ H51.out.symm (Cp.refl _)),
      fun ac W hC hold hdep K hK => op_u (u := .pointer (some ⟨w.heap.size, 4, none⟩)) rfl (r_field 29 _ 4 rfl (eval_tmp ((hold 1 (free_slot (by as_aux_lemma => kernel_rfl))).trans rfl)) Tryz.underlying29 rfl (n := 0) isz_21 rfl) (hK _ _ H52.out.symm (Cp.refl _)),
      fun ac W hC hold hdep K hK => op_u (u := .int .i32 f.fl) rfl (r_load 21 _ rfl (eval_tmp ((left_dep (hdep ⟨4, .data⟩ (by simp) rfl (by decide)) rfl (fun v h => h)).trans (congrArg some H52.out))) (blk_cell (HROW.out.grown hC.grown (by simp)) 4 rfl) Tryz.underlying21 rfl) (hK _ _ H53.out.symm (Cp.refl _)),
      fun ac W hC hold hdep K hK => op_u (u := .pointer (some ⟨(w.heap.size + 2), 2, none⟩)) rfl (r_field 29 _ 2 rfl (eval_tmp ((hold 3 (free_slot (by as_aux_lemma => kernel_rfl))).trans rfl)) Tryz.underlying29 rfl (n := 0) isz_22 rfl) (hK _ _ H54.out.symm (Cp.refl _)),
      by
        intro ac W hC hold hdep K hK
        obtain ⟨cur, hcur, hcs, _⟩ := hC.blk _ HP4.out
        exact op_store rfl 22 (.tmp 54) (.tmp 49) rfl 2 (.slice d.A d.n d.c) (eval_tmp ((left_dep (hdep ⟨6, .data⟩ (by simp) rfl (by decide)) rfl (fun v h => h)).trans (congrArg some H54.out))) (eval_tmp ((left_dep (hdep ⟨1, .data⟩ (by simp) rfl (by decide)) rfl (fun v h => h)).trans (congrArg some H49.out))) (news := [.slice d.A d.n d.c]) hcur rfl isz_22 (by rw [hcs, HPS.out]; exact (by decide : 2 + 1 ≤ 19)) (by simp [Value.oneCell']) (fun z9 u9 hu => by rcases z9 with _ | z9 <;> simp at hu; subst hu; simp) (fnB_of (by simp)) (fun w' h1 h2 => hK undef w' ⟨by obtain ⟨c2, h3, _⟩ := h2.blk _ hcur; exact ⟨c2, h3⟩, h1⟩ h2),
      fun ac W hC hold hdep K hK => op_u (u := .pointer (some ⟨(w.heap.size + 2), 3, none⟩)) rfl (r_field 29 _ 3 rfl (eval_tmp ((hold 3 (free_slot (by as_aux_lemma => kernel_rfl))).trans rfl)) Tryz.underlying29 rfl (n := 0) isz_23 rfl) (hK _ _ H55.out.symm (Cp.refl _)),
      by
        intro ac W hC hold hdep K hK
        obtain ⟨cur, hcur, hcs, _⟩ := hC.blk _ HP4.out
        exact op_store rfl 23 (.tmp 55) (.tmp 51) rfl 3 (.slice a.A a.n a.c) (eval_tmp ((left_dep (hdep ⟨8, .data⟩ (by simp) rfl (by decide)) rfl (fun v h => h)).trans (congrArg some H55.out))) (eval_tmp ((left_dep (hdep ⟨3, .data⟩ (by simp) rfl (by decide)) rfl (fun v h => h)).trans (congrArg some H51.out))) (news := [.slice a.A a.n a.c]) hcur rfl isz_23 (by rw [hcs, HPS.out]; exact (by decide : 3 + 1 ≤ 19)) (by simp [Value.oneCell']) (fun z9 u9 hu => by rcases z9 with _ | z9 <;> simp at hu; subst hu; simp) (fnB_of (by simp)) (fun w' h1 h2 => hK undef w' ⟨by obtain ⟨c2, h3, _⟩ := h2.blk _ hcur; exact ⟨c2, h3⟩, h1⟩ h2),
      fun ac W hC hold hdep K hK => op_u (u := .pointer (some ⟨(w.heap.size + 2), 4, none⟩)) rfl (r_field 29 _ 4 rfl (eval_tmp ((hold 3 (free_slot (by as_aux_lemma => kernel_rfl))).trans rfl)) Tryz.underlying29 rfl (n := 0) isz_21 rfl) (hK _ _ H56.out.symm (Cp.refl _)),
      by
        intro ac W hC hold hdep K hK
        obtain ⟨cur, hcur, hcs, _⟩ := hC.blk _ HP4.out
        exact op_store rfl 21 (.tmp 56) (.tmp 53) rfl 4 (.int .i32 f.fl) (eval_tmp ((left_dep (hdep ⟨10, .data⟩ (by simp) rfl (by decide)) rfl (fun v h => h)).trans (congrArg some H56.out))) (eval_tmp ((left_dep (hdep ⟨5, .data⟩ (by simp) rfl (by decide)) rfl (fun v h => h)).trans (congrArg some H53.out))) (news := [.int .i32 f.fl]) hcur rfl isz_21 (by rw [hcs, HPS.out]; exact (by decide : 4 + 1 ≤ 19)) (by simp [Value.oneCell']) (fun z9 u9 hu => by rcases z9 with _ | z9 <;> simp at hu; subst hu; simp) (fnB_of (by simp)) (fun w' h1 h2 => hK undef w' ⟨by obtain ⟨c2, h3, _⟩ := h2.blk _ hcur; exact ⟨c2, h3⟩, h1⟩ h2), trivial⟩ ?_
    · intro p hp v W W' h hC
      simp only [List.mem_cons, reduceCtorEq, Sum.inr.injEq, List.not_mem_nil, or_false, false_or] at hp
      rcases hp with rfl | rfl | rfl
      all_goals
        obtain ⟨⟨cur, h1⟩, h2⟩ := h
        obtain ⟨c2, h3, _⟩ := hC.blk _ h1
        refine ⟨⟨c2, h3⟩, fun z9 u9 hu => hC.keep h1 ?_ (h2 z9 u9 hu)⟩
        rcases z9 with _ | _ | _ | _ | _ | z9 <;> simp at hu <;> subst hu <;> simp
    intro wc hC
    simp only [FinC, Act.put, List.setIfInBounds_toArray, List.set_cons_zero, List.set_cons_succ]
    rintro ⟨_, _, g0⟩ ⟨_, _, g1⟩ ⟨_, _, g2⟩
    clear H48 H49 H50 H51 H52 H53 H54 H55 H56
    have HFO : ([(2, .slice d.A d.n d.c), (3, .slice a.A a.n a.c), (4, .int .i32 f.fl)] : List (Nat × Value)).foldl (fun ps x => ps.setIfInBounds x.1 x.2) #[.int .i32 t, .string f.p, .slice none 0 0, .slice none 0 0, .int .i32 0, .int .i32 0, .bool false, .int .i64 0, .int .i64 0, .int .i64 0, .int .i64 0, .slice none 0 0, .slice none 0 0, .slice none 0 0, .slice none 0 0, .slice none 0 0, .int .i32 0, .slice none 0 0, .slice none 0 0] = #[.int .i32 t, .string f.p, .slice d.A d.n d.c, .slice a.A a.n a.c, .int .i32 f.fl, .int .i32 0, .bool false, .int .i64 0, .int .i64 0, .int .i64 0, .int .i64 0, .slice none 0 0, .slice none 0 0, .slice none 0 0, .slice none 0 0, .slice none 0 0, .int .i32 0, .slice none 0 0, .slice none 0 0] := by kernel_rfl
    have HPC : Hid (Blk wc (w.heap.size + 2) 29 #[.int .i32 t, .string f.p, .slice d.A d.n d.c, .slice a.A a.n a.c, .int .i32 f.fl, .int .i32 0, .bool false, .int .i64 0, .int .i64 0, .int .i64 0, .int .i64 0, .slice none 0 0, .slice none 0 0, .slice none 0 0, .slice none 0 0, .slice none 0 0, .int .i32 0, .slice none 0 0, .slice none 0 0]) := by
      unfold Hid
      rw [← HFO]
      refine hC.done HP4.out (fnB_of (by simp)) (fun k v hkv => ?_) (fun k v hkv => ?_)
      · simp only [List.mem_cons, Prod.mk.injEq, List.not_mem_nil, or_false] at hkv
        have : k ≤ 18 := by omega
        exact Nat.lt_of_le_of_lt this (by decide : 18 < 19)
      · simp only [List.mem_cons, Prod.mk.injEq, List.not_mem_nil, or_false] at hkv
        rcases hkv with ⟨rfl, rfl⟩ | ⟨rfl, rfl⟩ | ⟨rfl, rfl⟩
        · exact g0 0 _ rfl
        · exact g1 0 _ rfl
        · exact g2 0 _ rfl
    have HZC : Hid (Blk wc (w.heap.size + 1) 29 old) := HZ4.out.grown hC.grown (by simp)
    have HBC : Hid (Below w.heap.size w wc) := HB4.out.grown hC.grown (by omega) (fun k hk => by injection hk with hk; omega)
    have hzc : wc.heap.size = w.heap.size + 3 := by rw [hC.size, hz4]
    clear hC HFO g0 g1 g2
    go_wp2_with (first
      | (with_reducible show wpList _ _ _ (Oper.mk (some 115) _ _ _ _ _ :: _) _ _
         refine wpList_load_row rfl 29 (.tmp 3) rfl (w.heap.size + 2) rfl 29 _ _ _ HPC.out Tryz.underlying29 rfl isz_29 ?_)
      | (with_reducible show wpList _ _ _ (Oper.mk none (.store _ (.tmp 2) _) _ _ _ _ :: _) _ _
         refine wpList_store_row rfl 29 (.tmp 2) (.tmp 115) rfl (w.heap.size + 1) #[.int .i32 t, .string f.p, .slice d.A d.n d.c, .slice a.A a.n a.c, .int .i32 f.fl, .int .i32 0, .bool false, .int .i64 0, .int .i64 0, .int .i64 0, .int .i64 0, .slice none 0 0, .slice none 0 0, .slice none 0 0, .slice none 0 0, .slice none 0 0, .int .i32 0, .slice none 0 0, .slice none 0 0] rfl rfl 29 _ HZC.out isz_29 (by rw [HOLD.out]; rfl) (by simp [Value.oneCell']) ?_
         generalize hww : World.setRow _ _ _ = wz
         have HBZ : Hid (Blk wz (w.heap.size + 1) 29 #[.int .i32 t, .string f.p, .slice d.A d.n d.c, .slice a.A a.n a.c, .int .i32 f.fl, .int .i32 0, .bool false, .int .i64 0, .int .i64 0, .int .i64 0, .int .i64 0, .slice none 0 0, .slice none 0 0, .slice none 0 0, .slice none 0 0, .slice none 0 0, .int .i32 0, .slice none 0 0, .slice none 0 0]) := (by unfold Hid; rw [← hww]; exact cells_setRow HZC.out)
         have HBB : Hid (Below w.heap.size w wz) := (by unfold Hid; rw [← hww]; exact below_setRow' HBC.out (by omega) _)
         clear hww))
    refine bodyPost_ret (results_cell_row rfl _ _ (w.heap.size + 1) 29 _ _ _ rfl HBZ.out Tryz.underlying29 rfl isz_29) rfl ?_
    exact ⟨rfl, HBB.out⟩
set_option maxRecDepth 100000 in
set_option maxHeartbeats 20000000 in
theorem kept_g1 (t : Int) (htt : t ∈ ([21] : List Int)) (f : OpF) (d a k0 k1 k2 k3 k4 i s : Sl) (w : World) (ht : f.t = t) : Calls Tryz.prog 112 #[.agg (f.row d a k0 k1 k2 k3 k4 i s).toArray] w fun e w' => e = .returned (.agg (keptRow f d a k0 k1 k2 k3 k4 i s).toArray) ∧ Below w.heap.size w w' := by
  have HE : Hid ((keptRow f d a k0 k1 k2 k3 k4 i s).toArray = #[.int .i32 t, .string f.p, .slice d.A d.n d.c, .slice a.A a.n a.c, .int .i32 f.fl, .int .i32 0, .bool false, .int .i64 0, .int .i64 0, .int .i64 f.tl, .int .i64 0, .slice none 0 0, .slice none 0 0, .slice none 0 0, .slice none 0 0, .slice none 0 0, .int .i32 0, .slice none 0 0, .slice none 0 0]) := by
    unfold Hid keptRow keptF kS
    rw [ht]
    simp only [List.mem_cons, List.not_mem_nil, or_false] at htt
    rcases htt with rfl <;> simp [tP, tD, tA, tF, tV, tW, tC, tL, tZ, tT, tS, OpF.row, Sl.v, nilS]
  rw [HE.out]
  obtain ⟨cs, hcs⟩ : ∃ cs : Array Value, cs = (f.row d a k0 k1 k2 k3 k4 i s).toArray := ⟨_, rfl⟩
  rw [← hcs]
  have hc0 : cs[0]? = some (.int .i32 t) := by rw [hcs, ← ht]; rfl
  have HC0 := Lib.hid hc0
  have HCS := Lib.hid hcs
  obtain ⟨w1, hw1⟩ : ∃ w1, w.alloc (.cells cs 29) = w1 := ⟨_, rfl⟩
  have hz1 : w1.heap.size = w.heap.size + 1 := by rw [← hw1]; simp
  have HN1 : Hid (Blk w1 w.heap.size 29 cs) := by unfold Hid; rw [← hw1]; exact Blk.new _ _ _
  have HB1 : Hid (Below w.heap.size w w1) := by unfold Hid; rw [← hw1]; exact (Below.refl _ _).alloc (Nat.le_refl _) _
  clear hc0 hcs ht HE
  obtain ⟨n0, n1, n2, n3, n4, n5, n6, n7, n8, n9, n10, n11, n12, n13, n14, n15, n16, n17, n18, n19, n20, _⟩ := sw_all (cs := [14, 22, 101, (-10), (-11), 11, 107, 1, 15, 19, 2, 13, 5, 7, 120, 3, 4, 8, 12, 106, 18]) htt rfl
  have S : ((t == 21) = true) := by
    simp only [List.mem_cons, List.not_mem_nil, or_false] at htt
    rcases htt with rfl <;> decide
  clear htt
  go_enter Tryz.func112, Tryz.ntmps112
  go_wp2_with (first
    | (refine wpList_new rfl 29 rfl zer_op ?_
       intro old hold
       obtain ⟨w2, hw2⟩ : ∃ w2, w1.alloc (.cells old 29) = w2 := ⟨_, rfl⟩
       rw [hw2]
       have hz2 : w2.heap.size = w.heap.size + 2 := (by rw [← hw2]; simp [hz1])
       have HN2 : Hid (Blk w2 w.heap.size 29 cs) := (by unfold Hid; rw [← hw2]; exact HN1.out.alloc _)
       have HZ2 : Hid (Blk w2 (w.heap.size + 1) 29 old) := (by unfold Hid; rw [← hw2]; exact Blk.new' hz1.symm)
       have HB2 : Hid (Below w.heap.size w w2) := (by unfold Hid; rw [← hw2]; exact HB1.out.alloc (by omega) _)
       have HOLD := Lib.hid hold
       have c0 := blk_cell HN2.out 0 HC0.out
       clear hw2 hold)
    | (refine wpList_newrow rfl rfl 29 rfl 3 rfl (.tmp 6) rfl rfl #[.int .i32 t, .string ⟨#[]⟩, .slice none 0 0, .slice none 0 0, .int .i32 0, .int .i32 0, .bool false, .int .i64 0, .int .i64 0, .int .i64 0, .int .i64 0, .slice none 0 0, .slice none 0 0, .slice none 0 0, .slice none 0 0, .slice none 0 0, .int .i32 0, .slice none 0 0, .slice none 0 0] (fun _ => rfl) (show 3 < 116 by decide) zer_op isz_29 (by simp [Value.oneCell']) ?_
       obtain ⟨w3, hw3⟩ : ∃ w3, w2.alloc (.cells #[.int .i32 t, .string ⟨#[]⟩, .slice none 0 0, .slice none 0 0, .int .i32 0, .int .i32 0, .bool false, .int .i64 0, .int .i64 0, .int .i64 0, .int .i64 0, .slice none 0 0, .slice none 0 0, .slice none 0 0, .slice none 0 0, .slice none 0 0, .int .i32 0, .slice none 0 0, .slice none 0 0] 29) = w3 := ⟨_, rfl⟩
       rw [hw3]
       have hz3 : w3.heap.size = w.heap.size + 3 := (by rw [← hw3]; simp [hz2])
       have HN3 : Hid (Blk w3 w.heap.size 29 cs) := (by unfold Hid; rw [← hw3]; exact HN2.out.alloc _)
       have HZ3 : Hid (Blk w3 (w.heap.size + 1) 29 old) := (by unfold Hid; rw [← hw3]; exact HZ2.out.alloc _)
       have HP3 : Hid (Blk w3 (w.heap.size + 2) 29 #[.int .i32 t, .string ⟨#[]⟩, .slice none 0 0, .slice none 0 0, .int .i32 0, .int .i32 0, .bool false, .int .i64 0, .int .i64 0, .int .i64 0, .int .i64 0, .slice none 0 0, .slice none 0 0, .slice none 0 0, .slice none 0 0, .slice none 0 0, .int .i32 0, .slice none 0 0, .slice none 0 0]) := (by unfold Hid; rw [← hw3]; exact Blk.new' hz2.symm)
       have HB3 : Hid (Below w.heap.size w w3) := (by unfold Hid; rw [← hw3]; exact HB2.out.alloc (by omega) _)
       have d0 := blk_cell HN3.out 0 HC0.out
       have d1 := blk_cell HN3.out 1 (by rw [HCS.out]; rfl : cs[1]? = some (.string f.p))
       clear hw3 c0 HN2 HZ2 HB2)
    | (with_reducible show wpList _ _ _ (Oper.mk none (.store _ (.tmp 41) _) _ _ _ _ :: _) _ _
       refine wpList_store_mid rfl 9 (.tmp 41) (.tmp 40) rfl (w.heap.size + 2) 1 (.string f.p) rfl rfl HP3.out (news := [.string f.p]) rfl isz_9 (by simp) (by simp [Value.oneCell']) ?_
       intro w4 cn hBn hxn hgn hzn
       have hz4 : w4.heap.size = w.heap.size + 3 := (by rw [hzn, hz3])
       have HN4 : Hid (Blk w4 w.heap.size 29 cs) := HN3.out.grown hgn (by simp)
       have HZ4 : Hid (Blk w4 (w.heap.size + 1) 29 old) := HZ3.out.grown hgn (by simp)
       have HP4 : Hid (Blk w4 (w.heap.size + 2) 29 #[.int .i32 t, .string f.p, .slice none 0 0, .slice none 0 0, .int .i32 0, .int .i32 0, .bool false, .int .i64 0, .int .i64 0, .int .i64 0, .int .i64 0, .slice none 0 0, .slice none 0 0, .slice none 0 0, .slice none 0 0, .slice none 0 0, .int .i32 0, .slice none 0 0, .slice none 0 0]) := (by
         have e : cn = #[.int .i32 t, .string f.p, .slice none 0 0, .slice none 0 0, .int .i32 0, .int .i32 0, .bool false, .int .i64 0, .int .i64 0, .int .i64 0, .int .i64 0, .slice none 0 0, .slice none 0 0, .slice none 0 0, .slice none 0 0, .slice none 0 0, .int .i32 0, .slice none 0 0, .slice none 0 0] := Array.ext' hxn
         unfold Hid; rw [← e]; exact hBn)
       have HB4 : Hid (Below w.heap.size w w4) := HB3.out.grown hgn (by omega) (fun k hk => by injection hk with hk; omega)
       have e0 := blk_cell HN4.out 0 HC0.out
       clear d0 d1
       clear hBn hxn hgn hzn))
  have HROW : Hid (Blk w4 w.heap.size 29 (f.row d a k0 k1 k2 k3 k4 i s).toArray) := by unfold Hid; rw [← HCS.out]; exact HN4.out
  have HPS : Hid ((#[.int .i32 t, .string f.p, .slice none 0 0, .slice none 0 0, .int .i32 0, .int .i32 0, .bool false, .int .i64 0, .int .i64 0, .int .i64 0, .int .i64 0, .slice none 0 0, .slice none 0 0, .slice none 0 0, .slice none 0 0, .slice none 0 0, .int .i32 0, .slice none 0 0, .slice none 0 0] : Array Value).size = 19) := rfl
  clear e0
  obtain ⟨x59, H59⟩ : ∃ x : Value, Hid (x = .pointer (some ⟨w.heap.size, 2, none⟩)) := ⟨_, rfl⟩
  obtain ⟨x60, H60⟩ : ∃ x : Value, Hid (x = .slice d.A d.n d.c) := ⟨_, rfl⟩
  obtain ⟨x61, H61⟩ : ∃ x : Value, Hid (x = .pointer (some ⟨w.heap.size, 3, none⟩)) := ⟨_, rfl⟩
  obtain ⟨x62, H62⟩ : ∃ x : Value, Hid (x = .slice a.A a.n a.c) := ⟨_, rfl⟩
  obtain ⟨x63, H63⟩ : ∃ x : Value, Hid (x = .pointer (some ⟨w.heap.size, 4, none⟩)) := ⟨_, rfl⟩
  obtain ⟨x64, H64⟩ : ∃ x : Value, Hid (x = .int .i32 f.fl) := ⟨_, rfl⟩
  obtain ⟨x65, H65⟩ : ∃ x : Value, Hid (x = .pointer (some ⟨w.heap.size, 9, none⟩)) := ⟨_, rfl⟩
  obtain ⟨x66, H66⟩ : ∃ x : Value, Hid (x = .int .i64 f.tl) := ⟨_, rfl⟩
  obtain ⟨x67, H67⟩ : ∃ x : Value, Hid (x = .pointer (some ⟨(w.heap.size + 2), 2, none⟩)) := ⟨_, rfl⟩
  obtain ⟨x68, H68⟩ : ∃ x : Value, Hid (x = .pointer (some ⟨(w.heap.size + 2), 3, none⟩)) := ⟨_, rfl⟩
  obtain ⟨x69, H69⟩ : ∃ x : Value, Hid (x = .pointer (some ⟨(w.heap.size + 2), 4, none⟩)) := ⟨_, rfl⟩
  obtain ⟨x70, H70⟩ : ∃ x : Value, Hid (x = .pointer (some ⟨(w.heap.size + 2), 9, none⟩)) := ⟨_, rfl⟩
  refine wp_region_copy (w0 := w4) (w.heap.size + 2) 29 [(2, .slice d.A d.n d.c), (3, .slice a.A a.n a.c), (4, .int .i32 f.fl), (9, .int .i64 f.tl)] (.inl x59 ::
      .inl x60 ::
      .inl x61 ::
      .inl x62 ::
      .inl x63 ::
      .inl x64 ::
      .inl x65 ::
      .inl x66 ::
      .inl x67 ::
      .inr (fun _ W => (∃ cur, Blk W (w.heap.size + 2) 29 cur) ∧ ∀ z9 u9, ([.slice d.A d.n d.c] : List Value)[z9]? = some u9 → W.cell? ⟨(w.heap.size + 2), 2 + z9, none⟩ = some u9) ::
      .inl x68 ::
      .inr (fun _ W => (∃ cur, Blk W (w.heap.size + 2) 29 cur) ∧ ∀ z9 u9, ([.slice a.A a.n a.c] : List Value)[z9]? = some u9 → W.cell? ⟨(w.heap.size + 2), 3 + z9, none⟩ = some u9) ::
      .inl x69 ::
      .inr (fun _ W => (∃ cur, Blk W (w.heap.size + 2) 29 cur) ∧ ∀ z9 u9, ([.int .i32 f.fl] : List Value)[z9]? = some u9 → W.cell? ⟨(w.heap.size + 2), 4 + z9, none⟩ = some u9) ::
      .inl x70 ::
      .inr (fun _ W => (∃ cur, Blk W (w.heap.size + 2) 29 cur) ∧ ∀ z9 u9, ([.int .i64 f.tl] : List Value)[z9]? = some u9 → W.cell? ⟨(w.heap.size + 2), 9 + z9, none⟩ = some u9) :: []) rfl (by as_aux_lemma => kernel_rfl) (by as_aux_lemma => kernel_rfl) (by as_aux_lemma => kernel_rfl) (by as_aux_lemma => kernel_rfl) ?_ ⟨fun ac W hC hold hdep K hK => op_u (u := .pointer (some ⟨w.heap.size, 2, none⟩)) rfl (r_field 29 _ 2 rfl (eval_tmp ((hold 1 (free_slot (by as_aux_lemma => kernel_rfl))).trans rfl)) Tryz.underlying29 rfl (n := 0) isz_22 rfl) (hK _ _ H59.out.symm (Cp.refl _)),
    fun ac W hC hold hdep K hK => op_u (u := .slice d.A d.n d.c) rfl (r_load 22 _ rfl (eval_tmp ((left_dep (hdep ⟨0, .data⟩ (by simp) rfl (by decide)) rfl (fun v h => h)).trans (congrArg some H59.out))) (blk_cell (HROW.out.grown hC.grown (by simp)) 2 rfl) Tryz.underlying22 rfl) (hK _ _ H60.out.symm (Cp.refl _)),
    fun ac W hC hold hdep K hK => op_u (u := .pointer (some ⟨w.heap.size, 3, none⟩)) rfl (r_field 29 _ 3 rfl (eval_tmp ((hold 1 (free_slot (by as_aux_lemma => kernel_rfl))).trans rfl)) Tryz.underlying29 rfl (n := 0) isz_23 rfl) (hK _ _ H61.out.symm (Cp.refl _)),
    fun ac W hC hold hdep K hK => op_u (u := .slice a.A a.n a.c) rfl (r_load 23 _ rfl (eval_tmp ((left_dep (hdep ⟨2, .data⟩ (by simp) rfl (by decide)) rfl (fun v h => h)).trans (congrArg some H61.out))) (blk_cell (HROW.out.grown hC.grown (by simp)) 3 rfl) Tryz.underlying23 rfl) (hK _ _ H62.out.symm (Cp.refl _)),
    fun ac W hC hold hdep K hK => op_u (u := .pointer (some ⟨w.heap.size, 4, none⟩)) rfl (r_field 29 _ 4 rfl (eval_tmp ((hold 1 (free_slot (by as_aux_lemma => kernel_rfl))).trans rfl)) Tryz.underlying29 rfl (n := 0) isz_21 rfl) (hK _ _ H63.out.symm (Cp.refl _)),
    fun ac W hC hold hdep K hK => op_u (u := .int .i32 f.fl) rfl (r_load 21 _ rfl (eval_tmp ((left_dep (hdep ⟨4, .data⟩ (by simp) rfl (by decide)) rfl (fun v h => h)).trans (congrArg some H63.out))) (blk_cell (HROW.out.grown hC.grown (by simp)) 4 rfl) Tryz.underlying21 rfl) (hK _ _ H64.out.symm (Cp.refl _)),
    fun ac W hC hold hdep K hK => op_u (u := .pointer (some ⟨w.heap.size, 9, none⟩)) rfl (r_field 29 _ 9 rfl (eval_tmp ((hold 1 (free_slot (by as_aux_lemma => kernel_rfl))).trans rfl)) Tryz.underlying29 rfl (n := 0) isz_2 rfl) (hK _ _ H65.out.symm (Cp.refl _)),
    fun ac W hC hold hdep K hK => op_u (u := .int .i64 f.tl) rfl (r_load 2 _ rfl (eval_tmp ((left_dep (hdep ⟨6, .data⟩ (by simp) rfl (by decide)) rfl (fun v h => h)).trans (congrArg some H65.out))) (blk_cell (HROW.out.grown hC.grown (by simp)) 9 rfl) Tryz.underlying2 rfl) (hK _ _ H66.out.symm (Cp.refl _)),
    fun ac W hC hold hdep K hK => op_u (u := .pointer (some ⟨(w.heap.size + 2), 2, none⟩)) rfl (r_field 29 _ 2 rfl (eval_tmp ((hold 3 (free_slot (by as_aux_lemma => kernel_rfl))).trans rfl)) Tryz.underlying29 rfl (n := 0) isz_22 rfl) (hK _ _ H67.out.symm (Cp.refl _)),
    by
      intro ac W hC hold hdep K hK
      obtain ⟨cur, hcur, hcs, _⟩ := hC.blk _ HP4.out
      exact op_store rfl 22 (.tmp 67) (.tmp 60) rfl 2 (.slice d.A d.n d.c) (eval_tmp ((left_dep (hdep ⟨8, .data⟩ (by simp) rfl (by decide)) rfl (fun v h => h)).trans (congrArg some H67.out))) (eval_tmp ((left_dep (hdep ⟨1, .data⟩ (by simp) rfl (by decide)) rfl (fun v h => h)).trans (congrArg some H60.out))) (news := [.slice d.A d.n d.c]) hcur rfl isz_22 (by rw [hcs, HPS.out]; exact (by decide : 2 + 1 ≤ 19)) (by simp [Value.oneCell']) (fun z9 u9 hu => by rcases z9 with _ | z9 <;> simp at hu; subst hu; simp) (fnB_of (by simp)) (fun w' h1 h2 => hK undef w' ⟨by obtain ⟨c2, h3, _⟩ := h2.blk _ hcur; exact ⟨c2, h3⟩, h1⟩ h2),
    fun ac W hC hold hdep K hK => op_u (u := .pointer (some ⟨(w.heap.size + 2), 3, none⟩)) rfl (r_field 29 _ 3 rfl (eval_tmp ((hold 3 (free_slot (by as_aux_lemma => kernel_rfl))).trans rfl)) Tryz.underlying29 rfl (n := 0) isz_23 rfl) (hK _ _ H68.out.symm (Cp.refl _)),
    by
      intro ac W hC hold hdep K hK
      obtain ⟨cur, hcur, hcs, _⟩ := hC.blk _ HP4.out
      exact op_store rfl 23 (.tmp 68) (.tmp 62) rfl 3 (.slice a.A a.n a.c) (eval_tmp ((left_dep (hdep ⟨10, .data⟩ (by simp) rfl (by decide)) rfl (fun v h => h)).trans (congrArg some H68.out))) (eval_tmp ((left_dep (hdep ⟨3, .data⟩ (by simp) rfl (by decide)) rfl (fun v h => h)).trans (congrArg some H62.out))) (news := [.slice a.A a.n a.c]) hcur rfl isz_23 (by rw [hcs, HPS.out]; exact (by decide : 3 + 1 ≤ 19)) (by simp [Value.oneCell']) (fun z9 u9 hu => by rcases z9 with _ | z9 <;> simp at hu; subst hu; simp) (fnB_of (by simp)) (fun w' h1 h2 => hK undef w' ⟨by obtain ⟨c2, h3, _⟩ := h2.blk _ hcur; exact ⟨c2, h3⟩, h1⟩ h2),
    fun ac W hC hold hdep K hK => op_u (u := .pointer (some ⟨(w.heap.size + 2), 4, none⟩)) rfl (r_field 29 _ 4 rfl (eval_tmp ((hold 3 (free_slot (by as_aux_lemma => kernel_rfl))).trans rfl)) Tryz.underlying29 rfl (n := 0) isz_21 rfl) (hK _ _ H69.out.symm (Cp.refl _)),
    by
      intro ac W hC hold hdep K hK
      obtain ⟨cur, hcur, hcs, _⟩ := hC.blk _ HP4.out
      exact op_store rfl 21 (.tmp 69) (.tmp 64) rfl 4 (.int .i32 f.fl) (eval_tmp ((left_dep (hdep ⟨12, .data⟩ (by simp) rfl (by decide)) rfl (fun v h => h)).trans (congrArg some H69.out))) (eval_tmp ((left_dep (hdep ⟨5, .data⟩ (by simp) rfl (by decide)) rfl (fun v h => h)).trans (congrArg some H64.out))) (news := [.int .i32 f.fl]) hcur rfl isz_21 (by rw [hcs, HPS.out]; exact (by decide : 4 + 1 ≤ 19)) (by simp [Value.oneCell']) (fun z9 u9 hu => by rcases z9 with _ | z9 <;> simp at hu; subst hu; simp) (fnB_of (by simp)) (fun w' h1 h2 => hK undef w' ⟨by obtain ⟨c2, h3, _⟩ := h2.blk _ hcur; exact ⟨c2, h3⟩, h1⟩ h2),
    fun ac W hC hold hdep K hK => op_u (u := .pointer (some ⟨(w.heap.size + 2), 9, none⟩)) rfl (r_field 29 _ 9 rfl (eval_tmp ((hold 3 (free_slot (by as_aux_lemma => kernel_rfl))).trans rfl)) Tryz.underlying29 rfl (n := 0) isz_2 rfl) (hK _ _ H70.out.symm (Cp.refl _)),
    by
      intro ac W hC hold hdep K hK
      obtain ⟨cur, hcur, hcs, _⟩ := hC.blk _ HP4.out
      exact op_store rfl 2 (.tmp 70) (.tmp 66) rfl 9 (.int .i64 f.tl) (eval_tmp ((left_dep (hdep ⟨14, .data⟩ (by simp) rfl (by decide)) rfl (fun v h => h)).trans (congrArg some H70.out))) (eval_tmp ((left_dep (hdep ⟨7, .data⟩ (by simp) rfl (by decide)) rfl (fun v h => h)).trans (congrArg some H66.out))) (news := [.int .i64 f.tl]) hcur rfl isz_2 (by rw [hcs, HPS.out]; exact (by decide : 9 + 1 ≤ 19)) (by simp [Value.oneCell']) (fun z9 u9 hu => by rcases z9 with _ | z9 <;> simp at hu; subst hu; simp) (fnB_of (by simp)) (fun w' h1 h2 => hK undef w' ⟨by obtain ⟨c2, h3, _⟩ := h2.blk _ hcur; exact ⟨c2, h3⟩, h1⟩ h2), trivial⟩ ?_
  · intro p hp v W W' h hC
    simp only [List.mem_cons, reduceCtorEq, Sum.inr.injEq, List.not_mem_nil, or_false, false_or] at hp
    rcases hp with rfl | rfl | rfl | rfl
    all_goals
      obtain ⟨⟨cur, h1⟩, h2⟩ := h
      obtain ⟨c2, h3, _⟩ := hC.blk _ h1
      refine ⟨⟨c2, h3⟩, fun z9 u9 hu => hC.keep h1 ?_ (h2 z9 u9 hu)⟩
      rcases z9 with _ | _ | _ | _ | _ | z9 <;> simp at hu <;> subst hu <;> simp
  intro wc hC
  simp only [FinC, Act.put, List.setIfInBounds_toArray, List.set_cons_zero, List.set_cons_succ]
  rintro ⟨_, _, g0⟩ ⟨_, _, g1⟩ ⟨_, _, g2⟩ ⟨_, _, g3⟩
  clear H59 H60 H61 H62 H63 H64 H65 H66 H67 H68 H69 H70
  have HFO : ([(2, .slice d.A d.n d.c), (3, .slice a.A a.n a.c), (4, .int .i32 f.fl), (9, .int .i64 f.tl)] : List (Nat × Value)).foldl (fun ps x => ps.setIfInBounds x.1 x.2) #[.int .i32 t, .string f.p, .slice none 0 0, .slice none 0 0, .int .i32 0, .int .i32 0, .bool false, .int .i64 0, .int .i64 0, .int .i64 0, .int .i64 0, .slice none 0 0, .slice none 0 0, .slice none 0 0, .slice none 0 0, .slice none 0 0, .int .i32 0, .slice none 0 0, .slice none 0 0] = #[.int .i32 t, .string f.p, .slice d.A d.n d.c, .slice a.A a.n a.c, .int .i32 f.fl, .int .i32 0, .bool false, .int .i64 0, .int .i64 0, .int .i64 f.tl, .int .i64 0, .slice none 0 0, .slice none 0 0, .slice none 0 0, .slice none 0 0, .slice none 0 0, .int .i32 0, .slice none 0 0, .slice none 0 0] := by kernel_rfl
  have HPC : Hid (Blk wc (w.heap.size + 2) 29 #[.int .i32 t, .string f.p, .slice d.A d.n d.c, .slice a.A a.n a.c, .int .i32 f.fl, .int .i32 0, .bool false, .int .i64 0, .int .i64 0, .int .i64 f.tl, .int .i64 0, .slice none 0 0, .slice none 0 0, .slice none 0 0, .slice none 0 0, .slice none 0 0, .int .i32 0, .slice none 0 0, .slice none 0 0]) := by
    unfold Hid
    rw [← HFO]
    refine hC.done HP4.out (fnB_of (by simp)) (fun k v hkv => ?_) (fun k v hkv => ?_)
    · simp only [List.mem_cons, Prod.mk.injEq, List.not_mem_nil, or_false] at hkv
      have : k ≤ 18 := by omega
      exact Nat.lt_of_le_of_lt this (by decide : 18 < 19)
    · simp only [List.mem_cons, Prod.mk.injEq, List.not_mem_nil, or_false] at hkv
      rcases hkv with ⟨rfl, rfl⟩ | ⟨rfl, rfl⟩ | ⟨rfl, rfl⟩ | ⟨rfl, rfl⟩
      · exact g0 0 _ rfl
      · exact g1 0 _ rfl
      · exact g2 0 _ rfl
      · exact g3 0 _ rfl
  have HZC : Hid (Blk wc (w.heap.size + 1) 29 old) := HZ4.out.grown hC.grown (by simp)
  have HBC : Hid (Below w.heap.size w wc) := HB4.out.grown hC.grown (by omega) (fun k hk => by injection hk with hk; omega)
  have hzc : wc.heap.size = w.heap.size + 3 := by rw [hC.size, hz4]
  clear hC HFO g0 g1 g2 g3
  go_wp2_with (first
    | (with_reducible show wpList _ _ _ (Oper.mk (some 115) _ _ _ _ _ :: _) _ _
       refine wpList_load_row rfl 29 (.tmp 3) rfl (w.heap.size + 2) rfl 29 _ _ _ HPC.out Tryz.underlying29 rfl isz_29 ?_)
    | (with_reducible show wpList _ _ _ (Oper.mk none (.store _ (.tmp 2) _) _ _ _ _ :: _) _ _
       refine wpList_store_row rfl 29 (.tmp 2) (.tmp 115) rfl (w.heap.size + 1) #[.int .i32 t, .string f.p, .slice d.A d.n d.c, .slice a.A a.n a.c, .int .i32 f.fl, .int .i32 0, .bool false, .int .i64 0, .int .i64 0, .int .i64 f.tl, .int .i64 0, .slice none 0 0, .slice none 0 0, .slice none 0 0, .slice none 0 0, .slice none 0 0, .int .i32 0, .slice none 0 0, .slice none 0 0] rfl rfl 29 _ HZC.out isz_29 (by rw [HOLD.out]; rfl) (by simp [Value.oneCell']) ?_
       generalize hww : World.setRow _ _ _ = wz
       have HBZ : Hid (Blk wz (w.heap.size + 1) 29 #[.int .i32 t, .string f.p, .slice d.A d.n d.c, .slice a.A a.n a.c, .int .i32 f.fl, .int .i32 0, .bool false, .int .i64 0, .int .i64 0, .int .i64 f.tl, .int .i64 0, .slice none 0 0, .slice none 0 0, .slice none 0 0, .slice none 0 0, .slice none 0 0, .int .i32 0, .slice none 0 0, .slice none 0 0]) := (by unfold Hid; rw [← hww]; exact cells_setRow HZC.out)
       have HBB : Hid (Below w.heap.size w wz) := (by unfold Hid; rw [← hww]; exact below_setRow' HBC.out (by omega) _)
       clear hww))
  refine bodyPost_ret (results_cell_row rfl _ _ (w.heap.size + 1) 29 _ _ _ rfl HBZ.out Tryz.underlying29 rfl isz_29) rfl ?_
  exact ⟨rfl, HBB.out⟩
set_option maxRecDepth 100000 in
set_option maxHeartbeats 20000000 in
theorem kept_g4 (t : Int) (htt : t ∈ ([7] : List Int)) (f : OpF) (d a k0 k1 k2 k3 k4 i s : Sl) (w : World) (ht : f.t = t) : Calls Tryz.prog 112 #[.agg (f.row d a k0 k1 k2 k3 k4 i s).toArray] w fun e w' => e = .returned (.agg (keptRow f d a k0 k1 k2 k3 k4 i s).toArray) ∧ Below w.heap.size w w' := by
  have HE : Hid ((keptRow f d a k0 k1 k2 k3 k4 i s).toArray = #[.int .i32 t, .string f.p, .slice none 0 0, .slice a.A a.n a.c, .int .i32 0, .int .i32 f.ve, .bool false, .int .i64 0, .int .i64 0, .int .i64 0, .int .i64 0, .slice none 0 0, .slice none 0 0, .slice none 0 0, .slice none 0 0, .slice none 0 0, .int .i32 0, .slice none 0 0, .slice none 0 0]) := by
    unfold Hid keptRow keptF kS
    rw [ht]
    simp only [List.mem_cons, List.not_mem_nil, or_false] at htt
    rcases htt with rfl <;> simp [tP, tD, tA, tF, tV, tW, tC, tL, tZ, tT, tS, OpF.row, Sl.v, nilS]
  rw [HE.out]
  obtain ⟨cs, hcs⟩ : ∃ cs : Array Value, cs = (f.row d a k0 k1 k2 k3 k4 i s).toArray := ⟨_, rfl⟩
  rw [← hcs]
  have hc0 : cs[0]? = some (.int .i32 t) := by rw [hcs, ← ht]; rfl
  have HC0 := Lib.hid hc0
  have HCS := Lib.hid hcs
  obtain ⟨w1, hw1⟩ : ∃ w1, w.alloc (.cells cs 29) = w1 := ⟨_, rfl⟩
  have hz1 : w1.heap.size = w.heap.size + 1 := by rw [← hw1]; simp
  have HN1 : Hid (Blk w1 w.heap.size 29 cs) := by unfold Hid; rw [← hw1]; exact Blk.new _ _ _
  have HB1 : Hid (Below w.heap.size w w1) := by unfold Hid; rw [← hw1]; exact (Below.refl _ _).alloc (Nat.le_refl _) _
  clear hc0 hcs ht HE
  obtain ⟨n0, n1, n2, n3, n4, n5, n6, n7, n8, n9, n10, n11, n12, n13, n14, n15, n16, n17, n18, n19, n20, _⟩ := sw_all (cs := [14, 22, 101, (-10), (-11), 11, 107, 1, 15, 19, 21, 2, 13, 5, 120, 3, 4, 8, 12, 106, 18]) htt rfl
  have S : ((t == 7) = true) := by
    simp only [List.mem_cons, List.not_mem_nil, or_false] at htt
    rcases htt with rfl <;> decide
  clear htt
  go_enter Tryz.func112, Tryz.ntmps112
  go_wp2_with (first
    | (refine wpList_new rfl 29 rfl zer_op ?_
       intro old hold
       obtain ⟨w2, hw2⟩ : ∃ w2, w1.alloc (.cells old 29) = w2 := ⟨_, rfl⟩
       rw [hw2]
       have hz2 : w2.heap.size = w.heap.size + 2 := (by rw [← hw2]; simp [hz1])
       have HN2 : Hid (Blk w2 w.heap.size 29 cs) := (by unfold Hid; rw [← hw2]; exact HN1.out.alloc _)
       have HZ2 : Hid (Blk w2 (w.heap.size + 1) 29 old) := (by unfold Hid; rw [← hw2]; exact Blk.new' hz1.symm)
       have HB2 : Hid (Below w.heap.size w w2) := (by unfold Hid; rw [← hw2]; exact HB1.out.alloc (by omega) _)
       have HOLD := Lib.hid hold
       have c0 := blk_cell HN2.out 0 HC0.out
       clear hw2 hold)
    | (refine wpList_newrow rfl rfl 29 rfl 3 rfl (.tmp 6) rfl rfl #[.int .i32 t, .string ⟨#[]⟩, .slice none 0 0, .slice none 0 0, .int .i32 0, .int .i32 0, .bool false, .int .i64 0, .int .i64 0, .int .i64 0, .int .i64 0, .slice none 0 0, .slice none 0 0, .slice none 0 0, .slice none 0 0, .slice none 0 0, .int .i32 0, .slice none 0 0, .slice none 0 0] (fun _ => rfl) (show 3 < 116 by decide) zer_op isz_29 (by simp [Value.oneCell']) ?_
       obtain ⟨w3, hw3⟩ : ∃ w3, w2.alloc (.cells #[.int .i32 t, .string ⟨#[]⟩, .slice none 0 0, .slice none 0 0, .int .i32 0, .int .i32 0, .bool false, .int .i64 0, .int .i64 0, .int .i64 0, .int .i64 0, .slice none 0 0, .slice none 0 0, .slice none 0 0, .slice none 0 0, .slice none 0 0, .int .i32 0, .slice none 0 0, .slice none 0 0] 29) = w3 := ⟨_, rfl⟩
       rw [hw3]
       have hz3 : w3.heap.size = w.heap.size + 3 := (by rw [← hw3]; simp [hz2])
       have HN3 : Hid (Blk w3 w.heap.size 29 cs) := (by unfold Hid; rw [← hw3]; exact HN2.out.alloc _)
       have HZ3 : Hid (Blk w3 (w.heap.size + 1) 29 old) := (by unfold Hid; rw [← hw3]; exact HZ2.out.alloc _)
       have HP3 : Hid (Blk w3 (w.heap.size + 2) 29 #[.int .i32 t, .string ⟨#[]⟩, .slice none 0 0, .slice none 0 0, .int .i32 0, .int .i32 0, .bool false, .int .i64 0, .int .i64 0, .int .i64 0, .int .i64 0, .slice none 0 0, .slice none 0 0, .slice none 0 0, .slice none 0 0, .slice none 0 0, .int .i32 0, .slice none 0 0, .slice none 0 0]) := (by unfold Hid; rw [← hw3]; exact Blk.new' hz2.symm)
       have HB3 : Hid (Below w.heap.size w w3) := (by unfold Hid; rw [← hw3]; exact HB2.out.alloc (by omega) _)
       have d0 := blk_cell HN3.out 0 HC0.out
       have d1 := blk_cell HN3.out 1 (by rw [HCS.out]; rfl : cs[1]? = some (.string f.p))
       clear hw3 c0 HN2 HZ2 HB2)
    | (with_reducible show wpList _ _ _ (Oper.mk none (.store _ (.tmp 41) _) _ _ _ _ :: _) _ _
       refine wpList_store_mid rfl 9 (.tmp 41) (.tmp 40) rfl (w.heap.size + 2) 1 (.string f.p) rfl rfl HP3.out (news := [.string f.p]) rfl isz_9 (by simp) (by simp [Value.oneCell']) ?_
       intro w4 cn hBn hxn hgn hzn
       have hz4 : w4.heap.size = w.heap.size + 3 := (by rw [hzn, hz3])
       have HN4 : Hid (Blk w4 w.heap.size 29 cs) := HN3.out.grown hgn (by simp)
       have HZ4 : Hid (Blk w4 (w.heap.size + 1) 29 old) := HZ3.out.grown hgn (by simp)
       have HP4 : Hid (Blk w4 (w.heap.size + 2) 29 #[.int .i32 t, .string f.p, .slice none 0 0, .slice none 0 0, .int .i32 0, .int .i32 0, .bool false, .int .i64 0, .int .i64 0, .int .i64 0, .int .i64 0, .slice none 0 0, .slice none 0 0, .slice none 0 0, .slice none 0 0, .slice none 0 0, .int .i32 0, .slice none 0 0, .slice none 0 0]) := (by
         have e : cn = #[.int .i32 t, .string f.p, .slice none 0 0, .slice none 0 0, .int .i32 0, .int .i32 0, .bool false, .int .i64 0, .int .i64 0, .int .i64 0, .int .i64 0, .slice none 0 0, .slice none 0 0, .slice none 0 0, .slice none 0 0, .slice none 0 0, .int .i32 0, .slice none 0 0, .slice none 0 0] := Array.ext' hxn
         unfold Hid; rw [← e]; exact hBn)
       have HB4 : Hid (Below w.heap.size w w4) := HB3.out.grown hgn (by omega) (fun k hk => by injection hk with hk; omega)
       have e0 := blk_cell HN4.out 0 HC0.out
       clear d0 d1
       clear hBn hxn hgn hzn))
  have HROW : Hid (Blk w4 w.heap.size 29 (f.row d a k0 k1 k2 k3 k4 i s).toArray) := by unfold Hid; rw [← HCS.out]; exact HN4.out
  have HPS : Hid ((#[.int .i32 t, .string f.p, .slice none 0 0, .slice none 0 0, .int .i32 0, .int .i32 0, .bool false, .int .i64 0, .int .i64 0, .int .i64 0, .int .i64 0, .slice none 0 0, .slice none 0 0, .slice none 0 0, .slice none 0 0, .slice none 0 0, .int .i32 0, .slice none 0 0, .slice none 0 0] : Array Value).size = 19) := rfl
  clear e0
  obtain ⟨x87, H87⟩ : ∃ x : Value, Hid (x = .pointer (some ⟨w.heap.size, 3, none⟩)) := ⟨_, rfl⟩
  obtain ⟨x88, H88⟩ : ∃ x : Value, Hid (x = .slice a.A a.n a.c) := ⟨_, rfl⟩
  obtain ⟨x89, H89⟩ : ∃ x : Value, Hid (x = .pointer (some ⟨w.heap.size, 5, none⟩)) := ⟨_, rfl⟩
  obtain ⟨x90, H90⟩ : ∃ x : Value, Hid (x = .int .i32 f.ve) := ⟨_, rfl⟩
  obtain ⟨x91, H91⟩ : ∃ x : Value, Hid (x = .pointer (some ⟨(w.heap.size + 2), 3, none⟩)) := ⟨_, rfl⟩
  obtain ⟨x92, H92⟩ : ∃ x : Value, Hid (x = .pointer (some ⟨(w.heap.size + 2), 5, none⟩)) := ⟨_, rfl⟩
  refine wp_region_copy (w0 := w4) (w.heap.size + 2) 29 [(3, .slice a.A a.n a.c), (5, .int .i32 f.ve)] (.inl x87 ::
      .inl x88 ::
      .inl x89 ::
      .inl x90 ::
      .inl x91 ::
      .inr (fun _ W => (∃ cur, Blk W (w.heap.size + 2) 29 cur) ∧ ∀ z9 u9, ([.slice a.A a.n a.c] : List Value)[z9]? = some u9 → W.cell? ⟨(w.heap.size + 2), 3 + z9, none⟩ = some u9) ::
      .inl x92 ::
      .inr (fun _ W => (∃ cur, Blk W (w.heap.size + 2) 29 cur) ∧ ∀ z9 u9, ([.int .i32 f.ve] : List Value)[z9]? = some u9 → W.cell? ⟨(w.heap.size + 2), 5 + z9, none⟩ = some u9) :: []) rfl (by as_aux_lemma => kernel_rfl) (by as_aux_lemma => kernel_rfl) (by as_aux_lemma => kernel_rfl) (by as_aux_lemma => kernel_rfl) ?_ ⟨fun ac W hC hold hdep K hK => op_u (u := .pointer (some ⟨w.heap.size, 3, none⟩)) rfl (r_field 29 _ 3 rfl (eval_tmp ((hold 1 (free_slot (by as_aux_lemma => kernel_rfl))).trans rfl)) Tryz.underlying29 rfl (n := 0) isz_23 rfl) (hK _ _ H87.out.symm (Cp.refl _)),
    fun ac W hC hold hdep K hK => op_u (u := .slice a.A a.n a.c) rfl (r_load 23 _ rfl (eval_tmp ((left_dep (hdep ⟨0, .data⟩ (by simp) rfl (by decide)) rfl (fun v h => h)).trans (congrArg some H87.out))) (blk_cell (HROW.out.grown hC.grown (by simp)) 3 rfl) Tryz.underlying23 rfl) (hK _ _ H88.out.symm (Cp.refl _)),
    fun ac W hC hold hdep K hK => op_u (u := .pointer (some ⟨w.heap.size, 5, none⟩)) rfl (r_field 29 _ 5 rfl (eval_tmp ((hold 1 (free_slot (by as_aux_lemma => kernel_rfl))).trans rfl)) Tryz.underlying29 rfl (n := 0) isz_21 rfl) (hK _ _ H89.out.symm (Cp.refl _)),
    fun ac W hC hold hdep K hK => op_u (u := .int .i32 f.ve) rfl (r_load 21 _ rfl (eval_tmp ((left_dep (hdep ⟨2, .data⟩ (by simp) rfl (by decide)) rfl (fun v h => h)).trans (congrArg some H89.out))) (blk_cell (HROW.out.grown hC.grown (by simp)) 5 rfl) Tryz.underlying21 rfl) (hK _ _ H90.out.symm (Cp.refl _)),
    fun ac W hC hold hdep K hK => op_u (u := .pointer (some ⟨(w.heap.size + 2), 3, none⟩)) rfl (r_field 29 _ 3 rfl (eval_tmp ((hold 3 (free_slot (by as_aux_lemma => kernel_rfl))).trans rfl)) Tryz.underlying29 rfl (n := 0) isz_23 rfl) (hK _ _ H91.out.symm (Cp.refl _)),
    by
      intro ac W hC hold hdep K hK
      obtain ⟨cur, hcur, hcs, _⟩ := hC.blk _ HP4.out
      exact op_store rfl 23 (.tmp 91) (.tmp 88) rfl 3 (.slice a.A a.n a.c) (eval_tmp ((left_dep (hdep ⟨4, .data⟩ (by simp) rfl (by decide)) rfl (fun v h => h)).trans (congrArg some H91.out))) (eval_tmp ((left_dep (hdep ⟨1, .data⟩ (by simp) rfl (by decide)) rfl (fun v h => h)).trans (congrArg some H88.out))) (news := [.slice a.A a.n a.c]) hcur rfl isz_23 (by rw [hcs, HPS.out]; exact (by decide : 3 + 1 ≤ 19)) (by simp [Value.oneCell']) (fun z9 u9 hu => by rcases z9 with _ | z9 <;> simp at hu; subst hu; simp) (fnB_of (by simp)) (fun w' h1 h2 => hK undef w' ⟨by obtain ⟨c2, h3, _⟩ := h2.blk _ hcur; exact ⟨c2, h3⟩, h1⟩ h2),
    fun ac W hC hold hdep K hK => op_u (u := .pointer (some ⟨(w.heap.size + 2), 5, none⟩)) rfl (r_field 29 _ 5 rfl (eval_tmp ((hold 3 (free_slot (by as_aux_lemma => kernel_rfl))).trans rfl)) Tryz.underlying29 rfl (n := 0) isz_21 rfl) (hK _ _ H92.out.symm (Cp.refl _)),
    by
      intro ac W hC hold hdep K hK
      obtain ⟨cur, hcur, hcs, _⟩ := hC.blk _ HP4.out
      exact op_store rfl 21 (.tmp 92) (.tmp 90) rfl 5 (.int .i32 f.ve) (eval_tmp ((left_dep (hdep ⟨6, .data⟩ (by simp) rfl (by decide)) rfl (fun v h => h)).trans (congrArg some H92.out))) (eval_tmp ((left_dep (hdep ⟨3, .data⟩ (by simp) rfl (by decide)) rfl (fun v h => h)).trans (congrArg some H90.out))) (news := [.int .i32 f.ve]) hcur rfl isz_21 (by rw [hcs, HPS.out]; exact (by decide : 5 + 1 ≤ 19)) (by simp [Value.oneCell']) (fun z9 u9 hu => by rcases z9 with _ | z9 <;> simp at hu; subst hu; simp) (fnB_of (by simp)) (fun w' h1 h2 => hK undef w' ⟨by obtain ⟨c2, h3, _⟩ := h2.blk _ hcur; exact ⟨c2, h3⟩, h1⟩ h2), trivial⟩ ?_
  · intro p hp v W W' h hC
    simp only [List.mem_cons, reduceCtorEq, Sum.inr.injEq, List.not_mem_nil, or_false, false_or] at hp
    rcases hp with rfl | rfl
    all_goals
      obtain ⟨⟨cur, h1⟩, h2⟩ := h
      obtain ⟨c2, h3, _⟩ := hC.blk _ h1
      refine ⟨⟨c2, h3⟩, fun z9 u9 hu => hC.keep h1 ?_ (h2 z9 u9 hu)⟩
      rcases z9 with _ | _ | _ | _ | _ | z9 <;> simp at hu <;> subst hu <;> simp
  intro wc hC
  simp only [FinC, Act.put, List.setIfInBounds_toArray, List.set_cons_zero, List.set_cons_succ]
  rintro ⟨_, _, g0⟩ ⟨_, _, g1⟩
  clear H87 H88 H89 H90 H91 H92
  have HFO : ([(3, .slice a.A a.n a.c), (5, .int .i32 f.ve)] : List (Nat × Value)).foldl (fun ps x => ps.setIfInBounds x.1 x.2) #[.int .i32 t, .string f.p, .slice none 0 0, .slice none 0 0, .int .i32 0, .int .i32 0, .bool false, .int .i64 0, .int .i64 0, .int .i64 0, .int .i64 0, .slice none 0 0, .slice none 0 0, .slice none 0 0, .slice none 0 0, .slice none 0 0, .int .i32 0, .slice none 0 0, .slice none 0 0] = #[.int .i32 t, .string f.p, .slice none 0 0, .slice a.A a.n a.c, .int .i32 0, .int .i32 f.ve, .bool false, .int .i64 0, .int .i64 0, .int .i64 0, .int .i64 0, .slice none 0 0, .slice none 0 0, .slice none 0 0, .slice none 0 0, .slice none 0 0, .int .i32 0, .slice none 0 0, .slice none 0 0] := by kernel_rfl
  have HPC : Hid (Blk wc (w.heap.size + 2) 29 #[.int .i32 t, .string f.p, .slice none 0 0, .slice a.A a.n a.c, .int .i32 0, .int .i32 f.ve, .bool false, .int .i64 0, .int .i64 0, .int .i64 0, .int .i64 0, .slice none 0 0, .slice none 0 0, .slice none 0 0, .slice none 0 0, .slice none 0 0, .int .i32 0, .slice none 0 0, .slice none 0 0]) := by
    unfold Hid
    rw [← HFO]
    refine hC.done HP4.out (fnB_of (by simp)) (fun k v hkv => ?_) (fun k v hkv => ?_)
    · simp only [List.mem_cons, Prod.mk.injEq, List.not_mem_nil, or_false] at hkv
      have : k ≤ 18 := by omega
      exact Nat.lt_of_le_of_lt this (by decide : 18 < 19)
    · simp only [List.mem_cons, Prod.mk.injEq, List.not_mem_nil, or_false] at hkv
      rcases hkv with ⟨rfl, rfl⟩ | ⟨rfl, rfl⟩
      · exact g0 0 _ rfl
      · exact g1 0 _ rfl
  have HZC : Hid (Blk wc (w.heap.size + 1) 29 old) := HZ4.out.grown hC.grown (by simp)
  have HBC : Hid (Below w.heap.size w wc) := HB4.out.grown hC.grown (by omega) (fun k hk => by injection hk with hk; omega)
  have hzc : wc.heap.size = w.heap.size + 3 := by rw [hC.size, hz4]
  clear hC HFO g0 g1
  go_wp2_with (first
    | (with_reducible show wpList _ _ _ (Oper.mk (some 115) _ _ _ _ _ :: _) _ _
       refine wpList_load_row rfl 29 (.tmp 3) rfl (w.heap.size + 2) rfl 29 _ _ _ HPC.out Tryz.underlying29 rfl isz_29 ?_)
    | (with_reducible show wpList _ _ _ (Oper.mk none (.store _ (.tmp 2) _) _ _ _ _ :: _) _ _
       refine wpList_store_row rfl 29 (.tmp 2) (.tmp 115) rfl (w.heap.size + 1) #[.int .i32 t, .string f.p, .slice none 0 0, .slice a.A a.n a.c, .int .i32 0, .int .i32 f.ve, .bool false, .int .i64 0, .int .i64 0, .int .i64 0, .int .i64 0, .slice none 0 0, .slice none 0 0, .slice none 0 0, .slice none 0 0, .slice none 0 0, .int .i32 0, .slice none 0 0, .slice none 0 0] rfl rfl 29 _ HZC.out isz_29 (by rw [HOLD.out]; rfl) (by simp [Value.oneCell']) ?_
       generalize hww : World.setRow _ _ _ = wz
       have HBZ : Hid (Blk wz (w.heap.size + 1) 29 #[.int .i32 t, .string f.p, .slice none 0 0, .slice a.A a.n a.c, .int .i32 0, .int .i32 f.ve, .bool false, .int .i64 0, .int .i64 0, .int .i64 0, .int .i64 0, .slice none 0 0, .slice none 0 0, .slice none 0 0, .slice none 0 0, .slice none 0 0, .int .i32 0, .slice none 0 0, .slice none 0 0]) := (by unfold Hid; rw [← hww]; exact cells_setRow HZC.out)
       have HBB : Hid (Below w.heap.size w wz) := (by unfold Hid; rw [← hww]; exact below_setRow' HBC.out (by omega) _)
       clear hww))
  refine bodyPost_ret (results_cell_row rfl _ _ (w.heap.size + 1) 29 _ _ _ rfl HBZ.out Tryz.underlying29 rfl isz_29) rfl ?_
  exact ⟨rfl, HBB.out⟩
end Go.Proofs.YtpjjnmdfgcfnmaaGreatDoor
