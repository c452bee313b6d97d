/- ops.kept: an operation with the fields of its type alone. (printed by gen_p12.py) -/
import Derived.Test.YtpjjnmdfgcfnmaaGreatDoorOqo
set_option linter.unusedVariables false
set_option linter.unusedSimpArgs false
namespace Go.Proofs.YtpjjnmdfgcfnmaaGreatDoor
open Go.RowKit

set_option maxRecDepth 100000 in
set_option maxHeartbeats 20000000 in
theorem kept_g9 (t : Int) (htt : t ∈ ([14, 22] : List Int)) (f : OpF) (d a k0 k1 k2 k3 k4 i s : Sl) (w : World) (ht : f.t = t) : Calls Tryz.prog 112 #[.agg (f.row d a k0 k1 k2 k3 k4 i s).toArray] w fun e w' => e = .returned (.agg (keptRow f d a k0 k1 k2 k3 k4 i s).toArray) ∧ Below w.heap.size w w' := by
  have HE : Hid ((keptRow f d a k0 k1 k2 k3 k4 i s).toArray = #[.int .i32 t, .string ⟨#[]⟩, .slice none 0 0, .slice none 0 0, .int .i32 0, .int .i32 0, .bool false, .int .i64 0, .int .i64 0, .int .i64 0, .int .i64 0, .slice none 0 0, .slice none 0 0, .slice none 0 0, .slice none 0 0, .slice none 0 0, .int .i32 0, .slice none 0 0, .slice s.A s.n s.c]) := by
    unfold Hid keptRow keptF kS
    rw [ht]
    simp only [List.mem_cons, List.not_mem_nil, or_false] at htt
    rcases htt with rfl | rfl <;> simp [tP, tD, tA, tF, tV, tW, tC, tL, tZ, tT, tS, OpF.row, Sl.v, nilS]
  rw [HE.out]
  obtain ⟨cs, hcs⟩ : ∃ cs : Array Value, cs = (f.row d a k0 k1 k2 k3 k4 i s).toArray := ⟨_, rfl⟩
  rw [← hcs]
  have hc0 : cs[0]? = some (.int .i32 t) := by rw [hcs, ← ht]; rfl
  have HC0 := Lib.hid hc0
  have HCS := Lib.hid hcs
  obtain ⟨w1, hw1⟩ : ∃ w1, w.alloc (.cells cs 29) = w1 := ⟨_, rfl⟩
  have hz1 : w1.heap.size = w.heap.size + 1 := by rw [← hw1]; simp
  have HN1 : Hid (Blk w1 w.heap.size 29 cs) := by unfold Hid; rw [← hw1]; exact Blk.new _ _ _
  have HB1 : Hid (Below w.heap.size w w1) := by unfold Hid; rw [← hw1]; exact (Below.refl _ _).alloc (Nat.le_refl _) _
  clear hc0 hcs ht HE
  obtain ⟨n0, n1, n2, n3, n4, n5, n6, n7, n8, n9, n10, n11, n12, n13, n14, n15, n16, n17, n18, n19, _⟩ := sw_all (cs := [101, (-10), (-11), 11, 107, 1, 15, 19, 21, 2, 13, 5, 7, 120, 3, 4, 8, 12, 106, 18]) htt rfl
  have S : ((t == 14) = true) ∨ ((t == 14) = false ∧ (t == 22) = true) := by
    simp only [List.mem_cons, List.not_mem_nil, or_false] at htt
    rcases htt with rfl | rfl <;> decide
  clear htt
  rcases S with s0 | ⟨s0, s1⟩
  all_goals
    go_enter Tryz.func112, Tryz.ntmps112
    go_wp2_with (first
      | (refine wpList_new rfl 29 rfl zer_op ?_
         intro old hold
         obtain ⟨w2, hw2⟩ : ∃ w2, w1.alloc (.cells old 29) = w2 := ⟨_, rfl⟩
         rw [hw2]
         have hz2 : w2.heap.size = w.heap.size + 2 := (by rw [← hw2]; simp [hz1])
         have HN2 : Hid (Blk w2 w.heap.size 29 cs) := (by unfold Hid; rw [← hw2]; exact HN1.out.alloc _)
         have HZ2 : Hid (Blk w2 (w.heap.size + 1) 29 old) := (by unfold Hid; rw [← hw2]; exact Blk.new' hz1.symm)
         have HB2 : Hid (Below w.heap.size w w2) := (by unfold Hid; rw [← hw2]; exact HB1.out.alloc (by omega) _)
         have HOLD := Lib.hid hold
         have c0 := blk_cell HN2.out 0 HC0.out
         clear hw2 hold)
      | (refine wpList_newrow rfl rfl 29 rfl 3 rfl (.tmp 6) rfl rfl #[.int .i32 t, .string ⟨#[]⟩, .slice none 0 0, .slice none 0 0, .int .i32 0, .int .i32 0, .bool false, .int .i64 0, .int .i64 0, .int .i64 0, .int .i64 0, .slice none 0 0, .slice none 0 0, .slice none 0 0, .slice none 0 0, .slice none 0 0, .int .i32 0, .slice none 0 0, .slice none 0 0] (fun _ => rfl) (show 3 < 116 by decide) zer_op isz_29 (by simp [Value.oneCell']) ?_
         obtain ⟨w3, hw3⟩ : ∃ w3, w2.alloc (.cells #[.int .i32 t, .string ⟨#[]⟩, .slice none 0 0, .slice none 0 0, .int .i32 0, .int .i32 0, .bool false, .int .i64 0, .int .i64 0, .int .i64 0, .int .i64 0, .slice none 0 0, .slice none 0 0, .slice none 0 0, .slice none 0 0, .slice none 0 0, .int .i32 0, .slice none 0 0, .slice none 0 0] 29) = w3 := ⟨_, rfl⟩
         rw [hw3]
         have hz3 : w3.heap.size = w.heap.size + 3 := (by rw [← hw3]; simp [hz2])
         have HN3 : Hid (Blk w3 w.heap.size 29 cs) := (by unfold Hid; rw [← hw3]; exact HN2.out.alloc _)
         have HZ3 : Hid (Blk w3 (w.heap.size + 1) 29 old) := (by unfold Hid; rw [← hw3]; exact HZ2.out.alloc _)
         have HP3 : Hid (Blk w3 (w.heap.size + 2) 29 #[.int .i32 t, .string ⟨#[]⟩, .slice none 0 0, .slice none 0 0, .int .i32 0, .int .i32 0, .bool false, .int .i64 0, .int .i64 0, .int .i64 0, .int .i64 0, .slice none 0 0, .slice none 0 0, .slice none 0 0, .slice none 0 0, .slice none 0 0, .int .i32 0, .slice none 0 0, .slice none 0 0]) := (by unfold Hid; rw [← hw3]; exact Blk.new' hz2.symm)
         have HB3 : Hid (Below w.heap.size w w3) := (by unfold Hid; rw [← hw3]; exact HB2.out.alloc (by omega) _)
         have d0 := blk_cell HN3.out 0 HC0.out
         have d18 := blk_cell HN3.out 18 (by rw [HCS.out]; rfl : cs[18]? = some (.slice s.A s.n s.c))
         clear hw3 c0 HN2 HZ2 HB2)
      | (with_reducible show wpList _ _ _ (Oper.mk none (.store _ (.tmp 14) _) _ _ _ _ :: _) _ _
         refine wpList_store_mid rfl 27 (.tmp 14) (.tmp 13) rfl (w.heap.size + 2) 18 (.slice s.A s.n s.c) rfl rfl HP3.out (news := [.slice s.A s.n s.c]) rfl isz_27 (by simp) (by simp [Value.oneCell']) ?_
         intro w4 cn hBn hxn hgn hzn
         have hz4 : w4.heap.size = w.heap.size + 3 := (by rw [hzn, hz3])
         have HN4 : Hid (Blk w4 w.heap.size 29 cs) := HN3.out.grown hgn (by simp)
         have HZ4 : Hid (Blk w4 (w.heap.size + 1) 29 old) := HZ3.out.grown hgn (by simp)
         have HP4 : Hid (Blk w4 (w.heap.size + 2) 29 #[.int .i32 t, .string ⟨#[]⟩, .slice none 0 0, .slice none 0 0, .int .i32 0, .int .i32 0, .bool false, .int .i64 0, .int .i64 0, .int .i64 0, .int .i64 0, .slice none 0 0, .slice none 0 0, .slice none 0 0, .slice none 0 0, .slice none 0 0, .int .i32 0, .slice none 0 0, .slice s.A s.n s.c]) := (by
           have e : cn = #[.int .i32 t, .string ⟨#[]⟩, .slice none 0 0, .slice none 0 0, .int .i32 0, .int .i32 0, .bool false, .int .i64 0, .int .i64 0, .int .i64 0, .int .i64 0, .slice none 0 0, .slice none 0 0, .slice none 0 0, .slice none 0 0, .slice none 0 0, .int .i32 0, .slice none 0 0, .slice s.A s.n s.c] := Array.ext' hxn
           unfold Hid; rw [← e]; exact hBn)
         have HB4 : Hid (Below w.heap.size w w4) := HB3.out.grown hgn (by omega) (fun k hk => by injection hk with hk; omega)
         clear hBn hxn hgn hzn)
      | (with_reducible show wpList _ _ _ (Oper.mk (some 15) _ _ _ _ _ :: _) _ _
         refine wpList_load_row rfl 29 (.tmp 3) rfl (w.heap.size + 2) rfl 29 _ _ _ HP4.out Tryz.underlying29 rfl isz_29 ?_)
      | (with_reducible show wpList _ _ _ (Oper.mk none (.store _ (.tmp 2) _) _ _ _ _ :: _) _ _
         refine wpList_store_row rfl 29 (.tmp 2) (.tmp 15) rfl (w.heap.size + 1) #[.int .i32 t, .string ⟨#[]⟩, .slice none 0 0, .slice none 0 0, .int .i32 0, .int .i32 0, .bool false, .int .i64 0, .int .i64 0, .int .i64 0, .int .i64 0, .slice none 0 0, .slice none 0 0, .slice none 0 0, .slice none 0 0, .slice none 0 0, .int .i32 0, .slice none 0 0, .slice s.A s.n s.c] rfl rfl 29 _ HZ4.out isz_29 (by rw [HOLD.out]; rfl) (by simp [Value.oneCell']) ?_
         generalize hww : World.setRow _ _ _ = wz
         have HBZ : Hid (Blk wz (w.heap.size + 1) 29 #[.int .i32 t, .string ⟨#[]⟩, .slice none 0 0, .slice none 0 0, .int .i32 0, .int .i32 0, .bool false, .int .i64 0, .int .i64 0, .int .i64 0, .int .i64 0, .slice none 0 0, .slice none 0 0, .slice none 0 0, .slice none 0 0, .slice none 0 0, .int .i32 0, .slice none 0 0, .slice s.A s.n s.c]) := (by unfold Hid; rw [← hww]; exact cells_setRow HZ4.out)
         have HBB : Hid (Below w.heap.size w wz) := (by unfold Hid; rw [← hww]; exact below_setRow' HB4.out (by omega) _)
         clear hww))
    refine bodyPost_ret (results_cell_row rfl _ _ (w.heap.size + 1) 29 _ _ _ rfl HBZ.out Tryz.underlying29 rfl isz_29) rfl ?_
    exact ⟨rfl, HBB.out⟩
set_option maxRecDepth 100000 in
set_option maxHeartbeats 20000000 in
theorem kept_g10 (t : Int) (htt : t ∈ ([101] : List Int)) (f : OpF) (d a k0 k1 k2 k3 k4 i s : Sl) (w : World) (ht : f.t = t) : Calls Tryz.prog 112 #[.agg (f.row d a k0 k1 k2 k3 k4 i s).toArray] w fun e w' => e = .returned (.agg (keptRow f d a k0 k1 k2 k3 k4 i s).toArray) ∧ Below w.heap.size w w' := by
  have HE : Hid ((keptRow f d a k0 k1 k2 k3 k4 i s).toArray = #[.int .i32 t, .string ⟨#[]⟩, .slice none 0 0, .slice none 0 0, .int .i32 0, .int .i32 0, .bool false, .int .i64 0, .int .i64 0, .int .i64 0, .int .i64 f.zx, .slice k0.A k0.n k0.c, .slice k1.A k1.n k1.c, .slice k2.A k2.n k2.c, .slice k3.A k3.n k3.c, .slice k4.A k4.n k4.c, .int .i32 0, .slice none 0 0, .slice none 0 0]) := by
    unfold Hid keptRow keptF kS
    rw [ht]
    simp only [List.mem_cons, List.not_mem_nil, or_false] at htt
    rcases htt with rfl <;> simp [tP, tD, tA, tF, tV, tW, tC, tL, tZ, tT, tS, OpF.row, Sl.v, nilS]
  rw [HE.out]
  obtain ⟨cs, hcs⟩ : ∃ cs : Array Value, cs = (f.row d a k0 k1 k2 k3 k4 i s).toArray := ⟨_, rfl⟩
  rw [← hcs]
  have hc0 : cs[0]? = some (.int .i32 t) := by rw [hcs, ← ht]; rfl
  have HC0 := Lib.hid hc0
  have HCS := Lib.hid hcs
  obtain ⟨w1, hw1⟩ : ∃ w1, w.alloc (.cells cs 29) = w1 := ⟨_, rfl⟩
  have hz1 : w1.heap.size = w.heap.size + 1 := by rw [← hw1]; simp
  have HN1 : Hid (Blk w1 w.heap.size 29 cs) := by unfold Hid; rw [← hw1]; exact Blk.new _ _ _
  have HB1 : Hid (Below w.heap.size w w1) := by unfold Hid; rw [← hw1]; exact (Below.refl _ _).alloc (Nat.le_refl _) _
  clear hc0 hcs ht HE
  obtain ⟨n0, n1, n2, n3, n4, n5, n6, n7, n8, n9, n10, n11, n12, n13, n14, n15, n16, n17, n18, n19, n20, _⟩ := sw_all (cs := [14, 22, (-10), (-11), 11, 107, 1, 15, 19, 21, 2, 13, 5, 7, 120, 3, 4, 8, 12, 106, 18]) htt rfl
  have S : ((t == 101) = true) := by
    simp only [List.mem_cons, List.not_mem_nil, or_false] at htt
    rcases htt with rfl <;> decide
  clear htt
  go_enter Tryz.func112, Tryz.ntmps112
  go_wp2_with (first
    | (refine wpList_new rfl 29 rfl zer_op ?_
       intro old hold
       obtain ⟨w2, hw2⟩ : ∃ w2, w1.alloc (.cells old 29) = w2 := ⟨_, rfl⟩
       rw [hw2]
       have hz2 : w2.heap.size = w.heap.size + 2 := (by rw [← hw2]; simp [hz1])
       have HN2 : Hid (Blk w2 w.heap.size 29 cs) := (by unfold Hid; rw [← hw2]; exact HN1.out.alloc _)
       have HZ2 : Hid (Blk w2 (w.heap.size + 1) 29 old) := (by unfold Hid; rw [← hw2]; exact Blk.new' hz1.symm)
       have HB2 : Hid (Below w.heap.size w w2) := (by unfold Hid; rw [← hw2]; exact HB1.out.alloc (by omega) _)
       have HOLD := Lib.hid hold
       have c0 := blk_cell HN2.out 0 HC0.out
       clear hw2 hold)
    | (refine wpList_newrow rfl rfl 29 rfl 3 rfl (.tmp 6) rfl rfl #[.int .i32 t, .string ⟨#[]⟩, .slice none 0 0, .slice none 0 0, .int .i32 0, .int .i32 0, .bool false, .int .i64 0, .int .i64 0, .int .i64 0, .int .i64 0, .slice none 0 0, .slice none 0 0, .slice none 0 0, .slice none 0 0, .slice none 0 0, .int .i32 0, .slice none 0 0, .slice none 0 0] (fun _ => rfl) (show 3 < 116 by decide) zer_op isz_29 (by simp [Value.oneCell']) ?_
       obtain ⟨w3, hw3⟩ : ∃ w3, w2.alloc (.cells #[.int .i32 t, .string ⟨#[]⟩, .slice none 0 0, .slice none 0 0, .int .i32 0, .int .i32 0, .bool false, .int .i64 0, .int .i64 0, .int .i64 0, .int .i64 0, .slice none 0 0, .slice none 0 0, .slice none 0 0, .slice none 0 0, .slice none 0 0, .int .i32 0, .slice none 0 0, .slice none 0 0] 29) = w3 := ⟨_, rfl⟩
       rw [hw3]
       have hz3 : w3.heap.size = w.heap.size + 3 := (by rw [← hw3]; simp [hz2])
       have HN3 : Hid (Blk w3 w.heap.size 29 cs) := (by unfold Hid; rw [← hw3]; exact HN2.out.alloc _)
       have HZ3 : Hid (Blk w3 (w.heap.size + 1) 29 old) := (by unfold Hid; rw [← hw3]; exact HZ2.out.alloc _)
       have HP3 : Hid (Blk w3 (w.heap.size + 2) 29 #[.int .i32 t, .string ⟨#[]⟩, .slice none 0 0, .slice none 0 0, .int .i32 0, .int .i32 0, .bool false, .int .i64 0, .int .i64 0, .int .i64 0, .int .i64 0, .slice none 0 0, .slice none 0 0, .slice none 0 0, .slice none 0 0, .slice none 0 0, .int .i32 0, .slice none 0 0, .slice none 0 0]) := (by unfold Hid; rw [← hw3]; exact Blk.new' hz2.symm)
       have HB3 : Hid (Below w.heap.size w w3) := (by unfold Hid; rw [← hw3]; exact HB2.out.alloc (by omega) _)
       have d0 := blk_cell HN3.out 0 HC0.out
       clear hw3 c0 HN2 HZ2 HB2))
  have HROW : Hid (Blk w3 w.heap.size 29 (f.row d a k0 k1 k2 k3 k4 i s).toArray) := by unfold Hid; rw [← HCS.out]; exact HN3.out
  have HPS : Hid ((#[.int .i32 t, .string ⟨#[]⟩, .slice none 0 0, .slice none 0 0, .int .i32 0, .int .i32 0, .bool false, .int .i64 0, .int .i64 0, .int .i64 0, .int .i64 0, .slice none 0 0, .slice none 0 0, .slice none 0 0, .slice none 0 0, .slice none 0 0, .int .i32 0, .slice none 0 0, .slice none 0 0] : Array Value).size = 19) := rfl
  have HKV : Hid (∀ j v, ([.slice k0.A k0.n k0.c, .slice k1.A k1.n k1.c, .slice k2.A k2.n k2.c, .slice k3.A k3.n k3.c, .slice k4.A k4.n k4.c] : List Value)[j]? = some v → (f.row d a k0 k1 k2 k3 k4 i s).toArray[11 + j]? = some v) := fun j v hv => by
    rcases j with _ | _ | _ | _ | _ | j <;> simp at hv <;> subst hv <;> rfl
  clear d0
  obtain ⟨x18, H18⟩ : ∃ x : Value, Hid (x = .pointer (some ⟨w.heap.size, 10, none⟩)) := ⟨_, rfl⟩
  obtain ⟨x19, H19⟩ : ∃ x : Value, Hid (x = .int .i64 f.zx) := ⟨_, rfl⟩
  obtain ⟨x20, H20⟩ : ∃ x : Value, Hid (x = .pointer (some ⟨w.heap.size, 11, none⟩)) := ⟨_, rfl⟩
  obtain ⟨x21, H21⟩ : ∃ x : Value, Hid (x = .agg #[.slice k0.A k0.n k0.c, .slice k1.A k1.n k1.c, .slice k2.A k2.n k2.c, .slice k3.A k3.n k3.c, .slice k4.A k4.n k4.c]) := ⟨_, rfl⟩
  obtain ⟨x22, H22⟩ : ∃ x : Value, Hid (x = .pointer (some ⟨(w.heap.size + 2), 10, none⟩)) := ⟨_, rfl⟩
  obtain ⟨x23, H23⟩ : ∃ x : Value, Hid (x = .pointer (some ⟨(w.heap.size + 2), 11, none⟩)) := ⟨_, rfl⟩
  refine wp_region_copy (w0 := w3) (w.heap.size + 2) 29 [(10, .int .i64 f.zx), (11, .slice k0.A k0.n k0.c), (12, .slice k1.A k1.n k1.c), (13, .slice k2.A k2.n k2.c), (14, .slice k3.A k3.n k3.c), (15, .slice k4.A k4.n k4.c)] (.inl x18 ::
      .inl x19 ::
      .inl x20 ::
      .inl x21 ::
      .inl x22 ::
      .inr (fun _ W => (∃ cur, Blk W (w.heap.size + 2) 29 cur) ∧ ∀ z9 u9, ([.int .i64 f.zx] : List Value)[z9]? = some u9 → W.cell? ⟨(w.heap.size + 2), 10 + z9, none⟩ = some u9) ::
      .inl x23 ::
      .inr (fun _ W => (∃ cur, Blk W (w.heap.size + 2) 29 cur) ∧ ∀ z9 u9, ([.slice k0.A k0.n k0.c, .slice k1.A k1.n k1.c, .slice k2.A k2.n k2.c, .slice k3.A k3.n k3.c, .slice k4.A k4.n k4.c] : List Value)[z9]? = some u9 → W.cell? ⟨(w.heap.size + 2), 11 + z9, none⟩ = some u9) :: []) rfl (by as_aux_lemma => kernel_rfl) (by as_aux_lemma => kernel_rfl) (by as_aux_lemma => kernel_rfl) (by as_aux_lemma => kernel_rfl) ?_ ⟨fun ac W hC hold hdep K hK => op_u (u := .pointer (some ⟨w.heap.size, 10, none⟩)) rfl (r_field 29 _ 10 rfl (eval_tmp ((hold 1 (free_slot (by as_aux_lemma => kernel_rfl))).trans rfl)) Tryz.underlying29 rfl (n := 0) isz_2 rfl) (hK _ _ H18.out.symm (Cp.refl _)),
    fun ac W hC hold hdep K hK => op_u (u := .int .i64 f.zx) rfl (r_load 2 _ rfl (eval_tmp ((left_dep (hdep ⟨0, .data⟩ (by simp) rfl (by decide)) rfl (fun v h => h)).trans (congrArg some H18.out))) (blk_cell (HROW.out.grown hC.grown (by simp)) 10 rfl) Tryz.underlying2 rfl) (hK _ _ H19.out.symm (Cp.refl _)),
    fun ac W hC hold hdep K hK => op_u (u := .pointer (some ⟨w.heap.size, 11, none⟩)) rfl (r_field 29 _ 11 rfl (eval_tmp ((hold 1 (free_slot (by as_aux_lemma => kernel_rfl))).trans rfl)) Tryz.underlying29 rfl (n := 4) isz_25 rfl) (hK _ _ H20.out.symm (Cp.refl _)),
    fun ac W hC hold hdep K hK => op_u (u := .agg #[.slice k0.A k0.n k0.c, .slice k1.A k1.n k1.c, .slice k2.A k2.n k2.c, .slice k3.A k3.n k3.c, .slice k4.A k4.n k4.c]) rfl (r_load_row 25 _ rfl (eval_tmp ((left_dep (hdep ⟨2, .data⟩ (by simp) rfl (by decide)) rfl (fun v h => h)).trans (congrArg some H20.out))) [.slice k0.A k0.n k0.c, .slice k1.A k1.n k1.c, .slice k2.A k2.n k2.c, .slice k3.A k3.n k3.c, .slice k4.A k4.n k4.c] (fun j v hj => by rw [Go.WideShapes.add_plain]; exact (( HROW.out.grown hC.grown (by simp)).cell _).trans (HKV.out j v hj)) Tryz.underlying25 rfl isz_25) (hK _ _ H21.out.symm (Cp.refl _)),
    fun ac W hC hold hdep K hK => op_u (u := .pointer (some ⟨(w.heap.size + 2), 10, none⟩)) rfl (r_field 29 _ 10 rfl (eval_tmp ((hold 3 (free_slot (by as_aux_lemma => kernel_rfl))).trans rfl)) Tryz.underlying29 rfl (n := 0) isz_2 rfl) (hK _ _ H22.out.symm (Cp.refl _)),
    by
      intro ac W hC hold hdep K hK
      obtain ⟨cur, hcur, hcs, _⟩ := hC.blk _ HP3.out
      exact op_store rfl 2 (.tmp 22) (.tmp 19) rfl 10 (.int .i64 f.zx) (eval_tmp ((left_dep (hdep ⟨4, .data⟩ (by simp) rfl (by decide)) rfl (fun v h => h)).trans (congrArg some H22.out))) (eval_tmp ((left_dep (hdep ⟨1, .data⟩ (by simp) rfl (by decide)) rfl (fun v h => h)).trans (congrArg some H19.out))) (news := [.int .i64 f.zx]) hcur rfl isz_2 (by rw [hcs, HPS.out]; exact (by decide : 10 + 1 ≤ 19)) (by simp [Value.oneCell']) (fun z9 u9 hu => by rcases z9 with _ | z9 <;> simp at hu; subst hu; simp) (fnB_of (by simp)) (fun w' h1 h2 => hK undef w' ⟨by obtain ⟨c2, h3, _⟩ := h2.blk _ hcur; exact ⟨c2, h3⟩, h1⟩ h2),
    fun ac W hC hold hdep K hK => op_u (u := .pointer (some ⟨(w.heap.size + 2), 11, none⟩)) rfl (r_field 29 _ 11 rfl (eval_tmp ((hold 3 (free_slot (by as_aux_lemma => kernel_rfl))).trans rfl)) Tryz.underlying29 rfl (n := 4) isz_25 rfl) (hK _ _ H23.out.symm (Cp.refl _)),
    by
      intro ac W hC hold hdep K hK
      obtain ⟨cur, hcur, hcs, _⟩ := hC.blk _ HP3.out
      exact op_store rfl 25 (.tmp 23) (.tmp 21) rfl 11 (.agg #[.slice k0.A k0.n k0.c, .slice k1.A k1.n k1.c, .slice k2.A k2.n k2.c, .slice k3.A k3.n k3.c, .slice k4.A k4.n k4.c]) (eval_tmp ((left_dep (hdep ⟨6, .data⟩ (by simp) rfl (by decide)) rfl (fun v h => h)).trans (congrArg some H23.out))) (eval_tmp ((left_dep (hdep ⟨3, .data⟩ (by simp) rfl (by decide)) rfl (fun v h => h)).trans (congrArg some H21.out))) (news := [.slice k0.A k0.n k0.c, .slice k1.A k1.n k1.c, .slice k2.A k2.n k2.c, .slice k3.A k3.n k3.c, .slice k4.A k4.n k4.c]) hcur rfl isz_25 (by rw [hcs, HPS.out]; exact (by decide : 11 + 5 ≤ 19)) (by simp [Value.oneCell']) (fun z9 u9 hu => by rcases z9 with _ | _ | _ | _ | _ | z9 <;> simp at hu <;> subst hu <;> simp) (fnB_of (by simp)) (fun w' h1 h2 => hK undef w' ⟨by obtain ⟨c2, h3, _⟩ := h2.blk _ hcur; exact ⟨c2, h3⟩, h1⟩ h2), trivial⟩ ?_
  · intro p hp v W W' h hC
    simp only [List.mem_cons, reduceCtorEq, Sum.inr.injEq, List.not_mem_nil, or_false, false_or] at hp
    rcases hp with rfl | rfl
    all_goals
      obtain ⟨⟨cur, h1⟩, h2⟩ := h
      obtain ⟨c2, h3, _⟩ := hC.blk _ h1
      refine ⟨⟨c2, h3⟩, fun z9 u9 hu => hC.keep h1 ?_ (h2 z9 u9 hu)⟩
      rcases z9 with _ | _ | _ | _ | _ | z9 <;> simp at hu <;> subst hu <;> simp
  intro wc hC
  simp only [FinC, Act.put, List.setIfInBounds_toArray, List.set_cons_zero, List.set_cons_succ]
  rintro ⟨_, _, g0⟩ ⟨_, _, g1⟩
  clear H18 H19 H20 H21 H22 H23
  have HFO : ([(10, .int .i64 f.zx), (11, .slice k0.A k0.n k0.c), (12, .slice k1.A k1.n k1.c), (13, .slice k2.A k2.n k2.c), (14, .slice k3.A k3.n k3.c), (15, .slice k4.A k4.n k4.c)] : List (Nat × Value)).foldl (fun ps x => ps.setIfInBounds x.1 x.2) #[.int .i32 t, .string ⟨#[]⟩, .slice none 0 0, .slice none 0 0, .int .i32 0, .int .i32 0, .bool false, .int .i64 0, .int .i64 0, .int .i64 0, .int .i64 0, .slice none 0 0, .slice none 0 0, .slice none 0 0, .slice none 0 0, .slice none 0 0, .int .i32 0, .slice none 0 0, .slice none 0 0] = #[.int .i32 t, .string ⟨#[]⟩, .slice none 0 0, .slice none 0 0, .int .i32 0, .int .i32 0, .bool false, .int .i64 0, .int .i64 0, .int .i64 0, .int .i64 f.zx, .slice k0.A k0.n k0.c, .slice k1.A k1.n k1.c, .slice k2.A k2.n k2.c, .slice k3.A k3.n k3.c, .slice k4.A k4.n k4.c, .int .i32 0, .slice none 0 0, .slice none 0 0] := by kernel_rfl
  have HPC : Hid (Blk wc (w.heap.size + 2) 29 #[.int .i32 t, .string ⟨#[]⟩, .slice none 0 0, .slice none 0 0, .int .i32 0, .int .i32 0, .bool false, .int .i64 0, .int .i64 0, .int .i64 0, .int .i64 f.zx, .slice k0.A k0.n k0.c, .slice k1.A k1.n k1.c, .slice k2.A k2.n k2.c, .slice k3.A k3.n k3.c, .slice k4.A k4.n k4.c, .int .i32 0, .slice none 0 0, .slice none 0 0]) := by
    unfold Hid
    rw [← HFO]
    refine hC.done HP3.out (fnB_of (by simp)) (fun k v hkv => ?_) (fun k v hkv => ?_)
    · simp only [List.mem_cons, Prod.mk.injEq, List.not_mem_nil, or_false] at hkv
      have : k ≤ 18 := by omega
      exact Nat.lt_of_le_of_lt this (by decide : 18 < 19)
    · simp only [List.mem_cons, Prod.mk.injEq, List.not_mem_nil, or_false] at hkv
      rcases hkv with ⟨rfl, rfl⟩ | ⟨rfl, rfl⟩ | ⟨rfl, rfl⟩ | ⟨rfl, rfl⟩ | ⟨rfl, rfl⟩ | ⟨rfl, rfl⟩
      · exact g0 0 _ rfl
      · exact g1 0 _ rfl
      · exact g1 1 _ rfl
      · exact g1 2 _ rfl
      · exact g1 3 _ rfl
      · exact g1 4 _ rfl
  have HZC : Hid (Blk wc (w.heap.size + 1) 29 old) := HZ3.out.grown hC.grown (by simp)
  have HBC : Hid (Below w.heap.size w wc) := HB3.out.grown hC.grown (by omega) (fun k hk => by injection hk with hk; omega)
  have hzc : wc.heap.size = w.heap.size + 3 := by rw [hC.size, hz3]
  clear hC HFO g0 g1
  go_wp2_with (first
    | (with_reducible show wpList _ _ _ (Oper.mk (some 24) _ _ _ _ _ :: _) _ _
       refine wpList_load_row rfl 29 (.tmp 3) rfl (w.heap.size + 2) rfl 29 _ _ _ HPC.out Tryz.underlying29 rfl isz_29 ?_)
    | (with_reducible show wpList _ _ _ (Oper.mk none (.store _ (.tmp 2) _) _ _ _ _ :: _) _ _
       refine wpList_store_row rfl 29 (.tmp 2) (.tmp 24) rfl (w.heap.size + 1) #[.int .i32 t, .string ⟨#[]⟩, .slice none 0 0, .slice none 0 0, .int .i32 0, .int .i32 0, .bool false, .int .i64 0, .int .i64 0, .int .i64 0, .int .i64 f.zx, .slice k0.A k0.n k0.c, .slice k1.A k1.n k1.c, .slice k2.A k2.n k2.c, .slice k3.A k3.n k3.c, .slice k4.A k4.n k4.c, .int .i32 0, .slice none 0 0, .slice none 0 0] rfl rfl 29 _ HZC.out isz_29 (by rw [HOLD.out]; rfl) (by simp [Value.oneCell']) ?_
       generalize hww : World.setRow _ _ _ = wz
       have HBZ : Hid (Blk wz (w.heap.size + 1) 29 #[.int .i32 t, .string ⟨#[]⟩, .slice none 0 0, .slice none 0 0, .int .i32 0, .int .i32 0, .bool false, .int .i64 0, .int .i64 0, .int .i64 0, .int .i64 f.zx, .slice k0.A k0.n k0.c, .slice k1.A k1.n k1.c, .slice k2.A k2.n k2.c, .slice k3.A k3.n k3.c, .slice k4.A k4.n k4.c, .int .i32 0, .slice none 0 0, .slice none 0 0]) := (by unfold Hid; rw [← hww]; exact cells_setRow HZC.out)
       have HBB : Hid (Below w.heap.size w wz) := (by unfold Hid; rw [← hww]; exact below_setRow' HBC.out (by omega) _)
       clear hww))
  refine bodyPost_ret (results_cell_row rfl _ _ (w.heap.size + 1) 29 _ _ _ rfl HBZ.out Tryz.underlying29 rfl isz_29) rfl ?_
  exact ⟨rfl, HBB.out⟩
set_option maxRecDepth 100000 in
set_option maxHeartbeats 20000000 in
theorem kept_g11 (t : Int) (htt : t ∈ ([(-10)] : List Int)) (f : OpF) (d a k0 k1 k2 k3 k4 i s : Sl) (w : World) (ht : f.t = t) : Calls Tryz.prog 112 #[.agg (f.row d a k0 k1 k2 k3 k4 i s).toArray] w fun e w' => e = .returned (.agg (keptRow f d a k0 k1 k2 k3 k4 i s).toArray) ∧ Below w.heap.size w w' := by
  have HE : Hid ((keptRow f d a k0 k1 k2 k3 k4 i s).toArray = #[.int .i32 t, .string ⟨#[]⟩, .slice none 0 0, .slice none 0 0, .int .i32 0, .int .i32 0, .bool false, .int .i64 0, .int .i64 0, .int .i64 0, .int .i64 0, .slice none 0 0, .slice none 0 0, .slice none 0 0, .slice none 0 0, .slice none 0 0, .int .i32 f.to, .slice i.A i.n i.c, .slice none 0 0]) := by
    unfold Hid keptRow keptF kS
    rw [ht]
    simp only [List.mem_cons, List.not_mem_nil, or_false] at htt
    rcases htt with rfl <;> simp [tP, tD, tA, tF, tV, tW, tC, tL, tZ, tT, tS, OpF.row, Sl.v, nilS]
  rw [HE.out]
  obtain ⟨cs, hcs⟩ : ∃ cs : Array Value, cs = (f.row d a k0 k1 k2 k3 k4 i s).toArray := ⟨_, rfl⟩
  rw [← hcs]
  have hc0 : cs[0]? = some (.int .i32 t) := by rw [hcs, ← ht]; rfl
  have HC0 := Lib.hid hc0
  have HCS := Lib.hid hcs
  obtain ⟨w1, hw1⟩ : ∃ w1, w.alloc (.cells cs 29) = w1 := ⟨_, rfl⟩
  have hz1 : w1.heap.size = w.heap.size + 1 := by rw [← hw1]; simp
  have HN1 : Hid (Blk w1 w.heap.size 29 cs) := by unfold Hid; rw [← hw1]; exact Blk.new _ _ _
  have HB1 : Hid (Below w.heap.size w w1) := by unfold Hid; rw [← hw1]; exact (Below.refl _ _).alloc (Nat.le_refl _) _
  clear hc0 hcs ht HE
  obtain ⟨n0, n1, n2, n3, n4, n5, n6, n7, n8, n9, n10, n11, n12, n13, n14, n15, n16, n17, n18, n19, n20, _⟩ := sw_all (cs := [14, 22, 101, (-11), 11, 107, 1, 15, 19, 21, 2, 13, 5, 7, 120, 3, 4, 8, 12, 106, 18]) htt rfl
  have S : ((t == (-10)) = true) := by
    simp only [List.mem_cons, List.not_mem_nil, or_false] at htt
    rcases htt with rfl <;> decide
  clear htt
  go_enter Tryz.func112, Tryz.ntmps112
  go_wp2_with (first
    | (refine wpList_new rfl 29 rfl zer_op ?_
       intro old hold
       obtain ⟨w2, hw2⟩ : ∃ w2, w1.alloc (.cells old 29) = w2 := ⟨_, rfl⟩
       rw [hw2]
       have hz2 : w2.heap.size = w.heap.size + 2 := (by rw [← hw2]; simp [hz1])
       have HN2 : Hid (Blk w2 w.heap.size 29 cs) := (by unfold Hid; rw [← hw2]; exact HN1.out.alloc _)
       have HZ2 : Hid (Blk w2 (w.heap.size + 1) 29 old) := (by unfold Hid; rw [← hw2]; exact Blk.new' hz1.symm)
       have HB2 : Hid (Below w.heap.size w w2) := (by unfold Hid; rw [← hw2]; exact HB1.out.alloc (by omega) _)
       have HOLD := Lib.hid hold
       have c0 := blk_cell HN2.out 0 HC0.out
       clear hw2 hold)
    | (refine wpList_newrow rfl rfl 29 rfl 3 rfl (.tmp 6) rfl rfl #[.int .i32 t, .string ⟨#[]⟩, .slice none 0 0, .slice none 0 0, .int .i32 0, .int .i32 0, .bool false, .int .i64 0, .int .i64 0, .int .i64 0, .int .i64 0, .slice none 0 0, .slice none 0 0, .slice none 0 0, .slice none 0 0, .slice none 0 0, .int .i32 0, .slice none 0 0, .slice none 0 0] (fun _ => rfl) (show 3 < 116 by decide) zer_op isz_29 (by simp [Value.oneCell']) ?_
       obtain ⟨w3, hw3⟩ : ∃ w3, w2.alloc (.cells #[.int .i32 t, .string ⟨#[]⟩, .slice none 0 0, .slice none 0 0, .int .i32 0, .int .i32 0, .bool false, .int .i64 0, .int .i64 0, .int .i64 0, .int .i64 0, .slice none 0 0, .slice none 0 0, .slice none 0 0, .slice none 0 0, .slice none 0 0, .int .i32 0, .slice none 0 0, .slice none 0 0] 29) = w3 := ⟨_, rfl⟩
       rw [hw3]
       have hz3 : w3.heap.size = w.heap.size + 3 := (by rw [← hw3]; simp [hz2])
       have HN3 : Hid (Blk w3 w.heap.size 29 cs) := (by unfold Hid; rw [← hw3]; exact HN2.out.alloc _)
       have HZ3 : Hid (Blk w3 (w.heap.size + 1) 29 old) := (by unfold Hid; rw [← hw3]; exact HZ2.out.alloc _)
       have HP3 : Hid (Blk w3 (w.heap.size + 2) 29 #[.int .i32 t, .string ⟨#[]⟩, .slice none 0 0, .slice none 0 0, .int .i32 0, .int .i32 0, .bool false, .int .i64 0, .int .i64 0, .int .i64 0, .int .i64 0, .slice none 0 0, .slice none 0 0, .slice none 0 0, .slice none 0 0, .slice none 0 0, .int .i32 0, .slice none 0 0, .slice none 0 0]) := (by unfold Hid; rw [← hw3]; exact Blk.new' hz2.symm)
       have HB3 : Hid (Below w.heap.size w w3) := (by unfold Hid; rw [← hw3]; exact HB2.out.alloc (by omega) _)
       have d0 := blk_cell HN3.out 0 HC0.out
       clear hw3 c0 HN2 HZ2 HB2))
  have HROW : Hid (Blk w3 w.heap.size 29 (f.row d a k0 k1 k2 k3 k4 i s).toArray) := by unfold Hid; rw [← HCS.out]; exact HN3.out
  have HPS : Hid ((#[.int .i32 t, .string ⟨#[]⟩, .slice none 0 0, .slice none 0 0, .int .i32 0, .int .i32 0, .bool false, .int .i64 0, .int .i64 0, .int .i64 0, .int .i64 0, .slice none 0 0, .slice none 0 0, .slice none 0 0, .slice none 0 0, .slice none 0 0, .int .i32 0, .slice none 0 0, .slice none 0 0] : Array Value).size = 19) := rfl
  clear d0
  obtain ⟨x27, H27⟩ : ∃ x : Value, Hid (x = .pointer (some ⟨w.heap.size, 16, none⟩)) := ⟨_, rfl⟩
  obtain ⟨x28, H28⟩ : ∃ x : Value, Hid (x = .int .i32 f.to) := ⟨_, rfl⟩
  obtain ⟨x29, H29⟩ : ∃ x : Value, Hid (x = .pointer (some ⟨w.heap.size, 17, none⟩)) := ⟨_, rfl⟩
  obtain ⟨x30, H30⟩ : ∃ x : Value, Hid (x = .slice i.A i.n i.c) := ⟨_, rfl⟩
  obtain ⟨x31, H31⟩ : ∃ x : Value, Hid (x = .pointer (some ⟨(w.heap.size + 2), 16, none⟩)) := ⟨_, rfl⟩
  obtain ⟨x32, H32⟩ : ∃ x : Value, Hid (x = .pointer (some ⟨(w.heap.size + 2), 17, none⟩)) := ⟨_, rfl⟩
  refine wp_region_copy (w0 := w3) (w.heap.size + 2) 29 [(16, .int .i32 f.to), (17, .slice i.A i.n i.c)] (.inl x27 ::
      .inl x28 ::
      .inl x29 ::
      .inl x30 ::
      .inl x31 ::
      .inr (fun _ W => (∃ cur, Blk W (w.heap.size + 2) 29 cur) ∧ ∀ z9 u9, ([.int .i32 f.to] : List Value)[z9]? = some u9 → W.cell? ⟨(w.heap.size + 2), 16 + z9, none⟩ = some u9) ::
      .inl x32 ::
      .inr (fun _ W => (∃ cur, Blk W (w.heap.size + 2) 29 cur) ∧ ∀ z9 u9, ([.slice i.A i.n i.c] : List Value)[z9]? = some u9 → W.cell? ⟨(w.heap.size + 2), 17 + z9, none⟩ = some u9) :: []) rfl (by as_aux_lemma => kernel_rfl) (by as_aux_lemma => kernel_rfl) (by as_aux_lemma => kernel_rfl) (by as_aux_lemma => kernel_rfl) ?_ ⟨fun ac W hC hold hdep K hK => op_u (u := .pointer (some ⟨w.heap.size, 16, none⟩)) rfl (r_field 29 _ 12 rfl (eval_tmp ((hold 1 (free_slot (by as_aux_lemma => kernel_rfl))).trans rfl)) Tryz.underlying29 rfl (n := 0) isz_21 rfl) (hK _ _ H27.out.symm (Cp.refl _)),
    fun ac W hC hold hdep K hK => op_u (u := .int .i32 f.to) rfl (r_load 21 _ rfl (eval_tmp ((left_dep (hdep ⟨0, .data⟩ (by simp) rfl (by decide)) rfl (fun v h => h)).trans (congrArg some H27.out))) (blk_cell (HROW.out.grown hC.grown (by simp)) 16 rfl) Tryz.underlying21 rfl) (hK _ _ H28.out.symm (Cp.refl _)),
    fun ac W hC hold hdep K hK => op_u (u := .pointer (some ⟨w.heap.size, 17, none⟩)) rfl (r_field 29 _ 13 rfl (eval_tmp ((hold 1 (free_slot (by as_aux_lemma => kernel_rfl))).trans rfl)) Tryz.underlying29 rfl (n := 0) isz_26 rfl) (hK _ _ H29.out.symm (Cp.refl _)),
    fun ac W hC hold hdep K hK => op_u (u := .slice i.A i.n i.c) rfl (r_load 26 _ rfl (eval_tmp ((left_dep (hdep ⟨2, .data⟩ (by simp) rfl (by decide)) rfl (fun v h => h)).trans (congrArg some H29.out))) (blk_cell (HROW.out.grown hC.grown (by simp)) 17 rfl) Tryz.underlying26 rfl) (hK _ _ H30.out.symm (Cp.refl _)),
    fun ac W hC hold hdep K hK => op_u (u := .pointer (some ⟨(w.heap.size + 2), 16, none⟩)) rfl (r_field 29 _ 12 rfl (eval_tmp ((hold 3 (free_slot (by as_aux_lemma => kernel_rfl))).trans rfl)) Tryz.underlying29 rfl (n := 0) isz_21 rfl) (hK _ _ H31.out.symm (Cp.refl _)),
    by
      intro ac W hC hold hdep K hK
      obtain ⟨cur, hcur, hcs, _⟩ := hC.blk _ HP3.out
      exact op_store rfl 21 (.tmp 31) (.tmp 28) rfl 16 (.int .i32 f.to) (eval_tmp ((left_dep (hdep ⟨4, .data⟩ (by simp) rfl (by decide)) rfl (fun v h => h)).trans (congrArg some H31.out))) (eval_tmp ((left_dep (hdep ⟨1, .data⟩ (by simp) rfl (by decide)) rfl (fun v h => h)).trans (congrArg some H28.out))) (news := [.int .i32 f.to]) hcur rfl isz_21 (by rw [hcs, HPS.out]; exact (by decide : 16 + 1 ≤ 19)) (by simp [Value.oneCell']) (fun z9 u9 hu => by rcases z9 with _ | z9 <;> simp at hu; subst hu; simp) (fnB_of (by simp)) (fun w' h1 h2 => hK undef w' ⟨by obtain ⟨c2, h3, _⟩ := h2.blk _ hcur; exact ⟨c2, h3⟩, h1⟩ h2),
    fun ac W hC hold hdep K hK => op_u (u := .pointer (some ⟨(w.heap.size + 2), 17, none⟩)) rfl (r_field 29 _ 13 rfl (eval_tmp ((hold 3 (free_slot (by as_aux_lemma => kernel_rfl))).trans rfl)) Tryz.underlying29 rfl (n := 0) isz_26 rfl) (hK _ _ H32.out.symm (Cp.refl _)),
    by
      intro ac W hC hold hdep K hK
      obtain ⟨cur, hcur, hcs, _⟩ := hC.blk _ HP3.out
      exact op_store rfl 26 (.tmp 32) (.tmp 30) rfl 17 (.slice i.A i.n i.c) (eval_tmp ((left_dep (hdep ⟨6, .data⟩ (by simp) rfl (by decide)) rfl (fun v h => h)).trans (congrArg some H32.out))) (eval_tmp ((left_dep (hdep ⟨3, .data⟩ (by simp) rfl (by decide)) rfl (fun v h => h)).trans (congrArg some H30.out))) (news := [.slice i.A i.n i.c]) hcur rfl isz_26 (by rw [hcs, HPS.out]; exact (by decide : 17 + 1 ≤ 19)) (by simp [Value.oneCell']) (fun z9 u9 hu => by rcases z9 with _ | z9 <;> simp at hu; subst hu; simp) (fnB_of (by simp)) (fun w' h1 h2 => hK undef w' ⟨by obtain ⟨c2, h3, _⟩ := h2.blk _ hcur; exact ⟨c2, h3⟩, h1⟩ h2), trivial⟩ ?_
  · intro p hp v W W' h hC
    simp only [List.mem_cons, reduceCtorEq, Sum.inr.injEq, List.not_mem_nil, or_false, false_or] at hp
    rcases hp with rfl | rfl
    all_goals
      obtain ⟨⟨cur, h1⟩, h2⟩ := h
      obtain ⟨c2, h3, _⟩ := hC.blk _ h1
      refine ⟨⟨c2, h3⟩, fun z9 u9 hu => hC.keep h1 ?_ (h2 z9 u9 hu)⟩
      rcases z9 with _ | _ | _ | _ | _ | z9 <;> simp at hu <;> subst hu <;> simp
  intro wc hC
  simp only [FinC, Act.put, List.setIfInBounds_toArray, List.set_cons_zero, List.set_cons_succ]
  rintro ⟨_, _, g0⟩ ⟨_, _, g1⟩
  clear H27 H28 H29 H30 H31 H32
  have HFO : ([(16, .int .i32 f.to), (17, .slice i.A i.n i.c)] : List (Nat × Value)).foldl (fun ps x => ps.setIfInBounds x.1 x.2) #[.int .i32 t, .string ⟨#[]⟩, .slice none 0 0, .slice none 0 0, .int .i32 0, .int .i32 0, .bool false, .int .i64 0, .int .i64 0, .int .i64 0, .int .i64 0, .slice none 0 0, .slice none 0 0, .slice none 0 0, .slice none 0 0, .slice none 0 0, .int .i32 0, .slice none 0 0, .slice none 0 0] = #[.int .i32 t, .string ⟨#[]⟩, .slice none 0 0, .slice none 0 0, .int .i32 0, .int .i32 0, .bool false, .int .i64 0, .int .i64 0, .int .i64 0, .int .i64 0, .slice none 0 0, .slice none 0 0, .slice none 0 0, .slice none 0 0, .slice none 0 0, .int .i32 f.to, .slice i.A i.n i.c, .slice none 0 0] := by kernel_rfl
  have HPC : Hid (Blk wc (w.heap.size + 2) 29 #[.int .i32 t, .string ⟨#[]⟩, .slice none 0 0, .slice none 0 0, .int .i32 0, .int .i32 0, .bool false, .int .i64 0, .int .i64 0, .int .i64 0, .int .i64 0, .slice none 0 0, .slice none 0 0, .slice none 0 0, .slice none 0 0, .slice none 0 0, .int .i32 f.to, .slice i.A i.n i.c, .slice none 0 0]) := by
    unfold Hid
    rw [← HFO]
    refine hC.done HP3.out (fnB_of (by simp)) (fun k v hkv => ?_) (fun k v hkv => ?_)
    · simp only [List.mem_cons, Prod.mk.injEq, List.not_mem_nil, or_false] at hkv
      have : k ≤ 18 := by omega
      exact Nat.lt_of_le_of_lt this (by decide : 18 < 19)
    · simp only [List.mem_cons, Prod.mk.injEq, List.not_mem_nil, or_false] at hkv
      rcases hkv with ⟨rfl, rfl⟩ | ⟨rfl, rfl⟩
      · exact g0 0 _ rfl
      · exact g1 0 _ rfl
  have HZC : Hid (Blk wc (w.heap.size + 1) 29 old) := HZ3.out.grown hC.grown (by simp)
  have HBC : Hid (Below w.heap.size w wc) := HB3.out.grown hC.grown (by omega) (fun k hk => by injection hk with hk; omega)
  have hzc : wc.heap.size = w.heap.size + 3 := by rw [hC.size, hz3]
  clear hC HFO g0 g1
  go_wp2_with (first
    | (with_reducible show wpList _ _ _ (Oper.mk (some 33) _ _ _ _ _ :: _) _ _
       refine wpList_load_row rfl 29 (.tmp 3) rfl (w.heap.size + 2) rfl 29 _ _ _ HPC.out Tryz.underlying29 rfl isz_29 ?_)
    | (with_reducible show wpList _ _ _ (Oper.mk none (.store _ (.tmp 2) _) _ _ _ _ :: _) _ _
       refine wpList_store_row rfl 29 (.tmp 2) (.tmp 33) rfl (w.heap.size + 1) #[.int .i32 t, .string ⟨#[]⟩, .slice none 0 0, .slice none 0 0, .int .i32 0, .int .i32 0, .bool false, .int .i64 0, .int .i64 0, .int .i64 0, .int .i64 0, .slice none 0 0, .slice none 0 0, .slice none 0 0, .slice none 0 0, .slice none 0 0, .int .i32 f.to, .slice i.A i.n i.c, .slice none 0 0] rfl rfl 29 _ HZC.out isz_29 (by rw [HOLD.out]; rfl) (by simp [Value.oneCell']) ?_
       generalize hww : World.setRow _ _ _ = wz
       have HBZ : Hid (Blk wz (w.heap.size + 1) 29 #[.int .i32 t, .string ⟨#[]⟩, .slice none 0 0, .slice none 0 0, .int .i32 0, .int .i32 0, .bool false, .int .i64 0, .int .i64 0, .int .i64 0, .int .i64 0, .slice none 0 0, .slice none 0 0, .slice none 0 0, .slice none 0 0, .slice none 0 0, .int .i32 f.to, .slice i.A i.n i.c, .slice none 0 0]) := (by unfold Hid; rw [← hww]; exact cells_setRow HZC.out)
       have HBB : Hid (Below w.heap.size w wz) := (by unfold Hid; rw [← hww]; exact below_setRow' HBC.out (by omega) _)
       clear hww))
  refine bodyPost_ret (results_cell_row rfl _ _ (w.heap.size + 1) 29 _ _ _ rfl HBZ.out Tryz.underlying29 rfl isz_29) rfl ?_
  exact ⟨rfl, HBB.out⟩
set_option maxRecDepth 100000 in
set_option maxHeartbeats 20000000 in
theorem kept_g12 (t : Int) (htt : t ∈ ([(-11), 11, 107] : List Int)) (f : OpF) (d a k0 k1 k2 k3 k4 i s : Sl) (w : World) (ht : f.t = t) : Calls Tryz.prog 112 #[.agg (f.row d a k0 k1 k2 k3 k4 i s).toArray] w fun e w' => e = .returned (.agg (keptRow f d a k0 k1 k2 k3 k4 i s).toArray) ∧ Below w.heap.size w w' := by
  have HE : Hid ((keptRow f d a k0 k1 k2 k3 k4 i s).toArray = #[.int .i32 t, .string ⟨#[]⟩, .slice none 0 0, .slice none 0 0, .int .i32 0, .int .i32 0, .bool false, .int .i64 0, .int .i64 0, .int .i64 0, .int .i64 0, .slice none 0 0, .slice none 0 0, .slice none 0 0, .slice none 0 0, .slice none 0 0, .int .i32 0, .slice none 0 0, .slice none 0 0]) := by
    unfold Hid keptRow keptF kS
    rw [ht]
    simp only [List.mem_cons, List.not_mem_nil, or_false] at htt
    rcases htt with rfl | rfl | rfl <;> simp [tP, tD, tA, tF, tV, tW, tC, tL, tZ, tT, tS, OpF.row, Sl.v, nilS]
  rw [HE.out]
  obtain ⟨cs, hcs⟩ : ∃ cs : Array Value, cs = (f.row d a k0 k1 k2 k3 k4 i s).toArray := ⟨_, rfl⟩
  rw [← hcs]
  have hc0 : cs[0]? = some (.int .i32 t) := by rw [hcs, ← ht]; rfl
  have HC0 := Lib.hid hc0
  have HCS := Lib.hid hcs
  obtain ⟨w1, hw1⟩ : ∃ w1, w.alloc (.cells cs 29) = w1 := ⟨_, rfl⟩
  have hz1 : w1.heap.size = w.heap.size + 1 := by rw [← hw1]; simp
  have HN1 : Hid (Blk w1 w.heap.size 29 cs) := by unfold Hid; rw [← hw1]; exact Blk.new _ _ _
  have HB1 : Hid (Below w.heap.size w w1) := by unfold Hid; rw [← hw1]; exact (Below.refl _ _).alloc (Nat.le_refl _) _
  clear hc0 hcs ht HE
  obtain ⟨n0, n1, n2, n3, n4, n5, n6, n7, n8, n9, n10, n11, n12, n13, n14, n15, n16, n17, n18, _⟩ := sw_all (cs := [14, 22, 101, (-10), 1, 15, 19, 21, 2, 13, 5, 7, 120, 3, 4, 8, 12, 106, 18]) htt rfl
  have S : ((t == (-11)) = true) ∨ ((t == (-11)) = false ∧ (t == 11) = true) ∨ ((t == (-11)) = false ∧ (t == 11) = false ∧ (t == 107) = true) := by
    simp only [List.mem_cons, List.not_mem_nil, or_false] at htt
    rcases htt with rfl | rfl | rfl <;> decide
  clear htt
  rcases S with s0 | ⟨s0, s1⟩ | ⟨s0, s1, s2⟩
  all_goals
    go_enter Tryz.func112, Tryz.ntmps112
    go_wp2_with (first
      | (refine wpList_new rfl 29 rfl zer_op ?_
         intro old hold
         obtain ⟨w2, hw2⟩ : ∃ w2, w1.alloc (.cells old 29) = w2 := ⟨_, rfl⟩
         rw [hw2]
         have hz2 : w2.heap.size = w.heap.size + 2 := (by rw [← hw2]; simp [hz1])
         have HN2 : Hid (Blk w2 w.heap.size 29 cs) := (by unfold Hid; rw [← hw2]; exact HN1.out.alloc _)
         have HZ2 : Hid (Blk w2 (w.heap.size + 1) 29 old) := (by unfold Hid; rw [← hw2]; exact Blk.new' hz1.symm)
         have HB2 : Hid (Below w.heap.size w w2) := (by unfold Hid; rw [← hw2]; exact HB1.out.alloc (by omega) _)
         have HOLD := Lib.hid hold
         have c0 := blk_cell HN2.out 0 HC0.out
         clear hw2 hold)
      | (refine wpList_newrow rfl rfl 29 rfl 3 rfl (.tmp 6) rfl rfl #[.int .i32 t, .string ⟨#[]⟩, .slice none 0 0, .slice none 0 0, .int .i32 0, .int .i32 0, .bool false, .int .i64 0, .int .i64 0, .int .i64 0, .int .i64 0, .slice none 0 0, .slice none 0 0, .slice none 0 0, .slice none 0 0, .slice none 0 0, .int .i32 0, .slice none 0 0, .slice none 0 0] (fun _ => rfl) (show 3 < 116 by decide) zer_op isz_29 (by simp [Value.oneCell']) ?_
         obtain ⟨w3, hw3⟩ : ∃ w3, w2.alloc (.cells #[.int .i32 t, .string ⟨#[]⟩, .slice none 0 0, .slice none 0 0, .int .i32 0, .int .i32 0, .bool false, .int .i64 0, .int .i64 0, .int .i64 0, .int .i64 0, .slice none 0 0, .slice none 0 0, .slice none 0 0, .slice none 0 0, .slice none 0 0, .int .i32 0, .slice none 0 0, .slice none 0 0] 29) = w3 := ⟨_, rfl⟩
         rw [hw3]
         have hz3 : w3.heap.size = w.heap.size + 3 := (by rw [← hw3]; simp [hz2])
         have HN3 : Hid (Blk w3 w.heap.size 29 cs) := (by unfold Hid; rw [← hw3]; exact HN2.out.alloc _)
         have HZ3 : Hid (Blk w3 (w.heap.size + 1) 29 old) := (by unfold Hid; rw [← hw3]; exact HZ2.out.alloc _)
         have HP3 : Hid (Blk w3 (w.heap.size + 2) 29 #[.int .i32 t, .string ⟨#[]⟩, .slice none 0 0, .slice none 0 0, .int .i32 0, .int .i32 0, .bool false, .int .i64 0, .int .i64 0, .int .i64 0, .int .i64 0, .slice none 0 0, .slice none 0 0, .slice none 0 0, .slice none 0 0, .slice none 0 0, .int .i32 0, .slice none 0 0, .slice none 0 0]) := (by unfold Hid; rw [← hw3]; exact Blk.new' hz2.symm)
         have HB3 : Hid (Below w.heap.size w w3) := (by unfold Hid; rw [← hw3]; exact HB2.out.alloc (by omega) _)
         have d0 := blk_cell HN3.out 0 HC0.out
         clear hw3 c0 HN2 HZ2 HB2)
      | (with_reducible show wpList _ _ _ (Oper.mk (some 38) _ _ _ _ _ :: _) _ _
         refine wpList_load_row rfl 29 (.tmp 3) rfl (w.heap.size + 2) rfl 29 _ _ _ HP3.out Tryz.underlying29 rfl isz_29 ?_)
      | (with_reducible show wpList _ _ _ (Oper.mk none (.store _ (.tmp 2) _) _ _ _ _ :: _) _ _
         refine wpList_store_row rfl 29 (.tmp 2) (.tmp 38) rfl (w.heap.size + 1) #[.int .i32 t, .string ⟨#[]⟩, .slice none 0 0, .slice none 0 0, .int .i32 0, .int .i32 0, .bool false, .int .i64 0, .int .i64 0, .int .i64 0, .int .i64 0, .slice none 0 0, .slice none 0 0, .slice none 0 0, .slice none 0 0, .slice none 0 0, .int .i32 0, .slice none 0 0, .slice none 0 0] rfl rfl 29 _ HZ3.out isz_29 (by rw [HOLD.out]; rfl) (by simp [Value.oneCell']) ?_
         generalize hww : World.setRow _ _ _ = wz
         have HBZ : Hid (Blk wz (w.heap.size + 1) 29 #[.int .i32 t, .string ⟨#[]⟩, .slice none 0 0, .slice none 0 0, .int .i32 0, .int .i32 0, .bool false, .int .i64 0, .int .i64 0, .int .i64 0, .int .i64 0, .slice none 0 0, .slice none 0 0, .slice none 0 0, .slice none 0 0, .slice none 0 0, .int .i32 0, .slice none 0 0, .slice none 0 0]) := (by unfold Hid; rw [← hww]; exact cells_setRow HZ3.out)
         have HBB : Hid (Below w.heap.size w wz) := (by unfold Hid; rw [← hww]; exact below_setRow' HB3.out (by omega) _)
         clear hww))
    refine bodyPost_ret (results_cell_row rfl _ _ (w.heap.size + 1) 29 _ _ _ rfl HBZ.out Tryz.underlying29 rfl isz_29) rfl ?_
    exact ⟨rfl, HBB.out⟩
end Go.Proofs.YtpjjnmdfgcfnmaaGreatDoor
