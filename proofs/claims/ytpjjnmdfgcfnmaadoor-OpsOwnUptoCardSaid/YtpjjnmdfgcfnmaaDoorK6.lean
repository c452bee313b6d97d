/- Part 6 of a proof: lemmas and walks. -/
import Derived.Test.YtpjjnmdfgcfnmaaDoorK5
import Derived.Test.YtpjjnmdfgcfnmaaDoorK4
import Derived.Lib.AppendZerosOnto
import Derived.WalkLawsBesides
import Derived.Test.YtpjjnmdfgcfnmaaDoorK0
import Derived.Lib.LaidU8T
import Derived.MakeChecks
import Derived.Shelf.Unicode.ValidAny
set_option linter.unusedVariables false
set_option linter.unusedSimpArgs false
set_option maxRecDepth 100000
set_option maxHeartbeats 20000000
namespace Go.Proofs.YtpjjnmdfgcfnmaaDoor
open Go.RowKit

abbrev Oqk4R1 (t : Int) (f : OpF) (i : Sl) : Array Value := #[.int .i32 t, .string ⟨#[]⟩, .slice none 0 0, .slice none 0 0, .int .i32 0, .int .i32 0, .bool false, .int .i64 0, .int .i64 0, .int .i64 0, .int .i64 0, .slice none 0 0, .slice none 0 0, .slice none 0 0, .slice none 0 0, .slice none 0 0, .int .i32 f.to, .slice i.A i.n i.c, .slice none 0 0]
abbrev Oqk4R2 (t : Int) (s : Sl) : Array Value := #[.int .i32 t, .string ⟨#[]⟩, .slice none 0 0, .slice none 0 0, .int .i32 0, .int .i32 0, .bool false, .int .i64 0, .int .i64 0, .int .i64 0, .int .i64 0, .slice none 0 0, .slice none 0 0, .slice none 0 0, .slice none 0 0, .slice none 0 0, .int .i32 0, .slice none 0 0, .slice s.A s.n s.c]
abbrev Oqk4R3 (t : Int) : Array Value := #[.int .i32 t, .string ⟨#[]⟩, .slice none 0 0, .slice none 0 0, .int .i32 0, .int .i32 0, .bool false, .int .i64 0, .int .i64 0, .int .i64 0, .int .i64 0, .slice none 0 0, .slice none 0 0, .slice none 0 0, .slice none 0 0, .slice none 0 0, .int .i32 0, .slice none 0 0, .slice none 0 0]

theorem kept_g9 (t : Int) (htt : t ∈ ([14, 22] : List Int)) (f : OpF) (d a k0 k1 k2 k3 k4 i s : Sl) (w : World) (ht : f.t = t) : Calls Tryd.prog 78 #[.agg (f.row d a k0 k1 k2 k3 k4 i s).toArray] w fun e w' => e = .returned (.agg (keptRow f d a k0 k1 k2 k3 k4 i s).toArray) ∧ Below w.heap.size w w' := by
 have HE : Hid ((keptRow f d a k0 k1 k2 k3 k4 i s).toArray = (Oqk4R2 t s)) := by
  unfold Hid keptRow keptF kS
  rw [ht]
  simp only [zH, zI, or_false] at htt
  rcases htt with rfl | rfl <;> simp [tP, tD, tA, tF, tV, tW, tC, tL, tZ, tT, tS, OpF.row, Sl.v, nilS]
 rw [HE.out]
 obtain ⟨cs, hcs⟩ : ∃ cs : Array Value, cs = (f.row d a k0 k1 k2 k3 k4 i s).toArray := ⟨_, rfl⟩
 rw [← hcs]
 have hc0 : cs[0]? = some (.int .i32 t) := by rw [hcs, ← ht]; rfl
 have HC0 := Hi hc0
 have HCS := Hi hcs
 obtain ⟨w1, hw1⟩ := xa w cs 29
 have hz1 : w1.heap.size = w.heap.size + 1 := by rw [← hw1]; simp
 have HN1 := Hi (zW hw1)
 have HB1 := Hi (zV hw1)
 clear hc0 hcs ht HE
 obtain ⟨n0, n1, n2, n3, n4, n5, n6, n7, n8, n9, n10, n11, n12, n13, n14, n15, n16, n17, n18, n19, _⟩ := sw_all (cs := [101, (-10), (-11), 11, 107, 1, 15, 19, 21, 2, 13, 5, 7, 120, 3, 4, 8, 12, 106, 18]) htt rfl
 have S : ((t == 14) = true) ∨ ((t == 14) = false ∧ (t == 22) = true) := by
  simp only [zH, zI, or_false] at htt
  rcases htt with rfl | rfl <;> decide
 clear htt
 rcases S with s0 | ⟨s0, s1⟩
 all_goals
  go_enter Tryd.func78, Tryd.ntmps78
  go_wp2_with (first
   | (refine wpList_new rfl 29 rfl zer_op ?_
      intro old hold
      obtain ⟨w2, hw2⟩ := xa w1 old 29
      rw [hw2]
      have hz2 : w2.heap.size = w.heap.size + 2 := (by rw [← hw2]; simp [hz1])
      have HN2 : Hid (Blk w2 w.heap.size 29 cs) := (by unfold Hid; rw [← hw2]; exact HN1.out.alloc _)
      have HZ2 : Hid (Blk w2 (w.heap.size + 1) 29 old) := (by unfold Hid; rw [← hw2]; exact Blk.new' hz1.symm)
      have HB2 : Hid (Below w.heap.size w w2) := (by unfold Hid; rw [← hw2]; exact HB1.out.alloc (by omega) _)
      have HOLD := Hi hold
      have c0 := yC HN2.out 0 HC0.out
      clear hw2 hold)
   | (refine wpList_newrow rfl rfl 29 rfl 3 rfl (.tmp 6) rfl rfl (Oqk4R3 t) (fun _ => rfl) (show 3 < 116 by decide) zer_op isz_29 (by simp [Value.oneCell']) ?_
      obtain ⟨w3, hw3⟩ := xa w2 (Oqk4R3 t) 29
      rw [hw3]
      have hz3 : w3.heap.size = w.heap.size + 3 := (by rw [← hw3]; simp [hz2])
      have HN3 : Hid (Blk w3 w.heap.size 29 cs) := (by unfold Hid; rw [← hw3]; exact HN2.out.alloc _)
      have HZ3 : Hid (Blk w3 (w.heap.size + 1) 29 old) := (by unfold Hid; rw [← hw3]; exact HZ2.out.alloc _)
      have HP3 : Hid (Blk w3 (w.heap.size + 2) 29 (Oqk4R3 t)) := (by unfold Hid; rw [← hw3]; exact Blk.new' hz2.symm)
      have HB3 : Hid (Below w.heap.size w w3) := (by unfold Hid; rw [← hw3]; exact HB2.out.alloc (by omega) _)
      have d0 := yC HN3.out 0 HC0.out
      have d18 := yC HN3.out 18 (by rw [HCS.out]; rfl : cs[18]? = some (.slice s.A s.n s.c))
      clear hw3 c0 HN2 HZ2 HB2)
   | (with_reducible refine wpSt 14 ?_
      refine wpList_store_mid rfl 27 (.tmp 14) (.tmp 13) rfl (w.heap.size + 2) 18 (.slice s.A s.n s.c) rfl rfl HP3.out (news := [.slice s.A s.n s.c]) rfl isz_27 (by simp) (by simp [Value.oneCell']) ?_
      intro w4 cn hBn hxn hgn hzn
      have hz4 : w4.heap.size = w.heap.size + 3 := (by rw [hzn, hz3])
      have HN4 : Hid (Blk w4 w.heap.size 29 cs) := HN3.out.grown hgn (by simp)
      have HZ4 : Hid (Blk w4 (w.heap.size + 1) 29 old) := HZ3.out.grown hgn (by simp)
      have HP4 : Hid (Blk w4 (w.heap.size + 2) 29 (Oqk4R2 t s)) := (by
       have e : cn = (Oqk4R2 t s) := Array.ext' hxn
       unfold Hid; rw [← e]; exact hBn)
      have HB4 : Hid (Below w.heap.size w w4) := HB3.out.grown hgn (by omega) (fun k hk => by injection hk with hk; omega)
      clear hBn hxn hgn hzn)
   | (with_reducible refine wpAq 15 ?_
      refine wpList_load_row rfl 29 (.tmp 3) rfl (w.heap.size + 2) rfl 29 _ _ _ HP4.out zU29 rfl isz_29 ?_)
   | (with_reducible refine wpSt 2 ?_
      refine wpList_store_row rfl 29 (.tmp 2) (.tmp 15) rfl (w.heap.size + 1) (Oqk4R2 t s) rfl rfl 29 _ HZ4.out isz_29 (by rw [HOLD.out]; rfl) (by simp [Value.oneCell']) ?_
      generalize hww : World.setRow _ _ _ = wz
      have HBZ : Hid (Blk wz (w.heap.size + 1) 29 (Oqk4R2 t s)) := (by unfold Hid; rw [← hww]; exact cells_setRow HZ4.out)
      have HBB : Hid (Below w.heap.size w wz) := (by unfold Hid; rw [← hww]; exact below_setRow' HB4.out (by omega) _)
      clear hww))
  refine bodyPost_ret (results_cell_row rfl _ _ (w.heap.size + 1) 29 _ _ _ rfl HBZ.out zU29 rfl isz_29) rfl ?_
  exact ⟨rfl, HBB.out⟩
theorem kept_g10 (t : Int) (htt : t ∈ ([101] : List Int)) (f : OpF) (d a k0 k1 k2 k3 k4 i s : Sl) (w : World) (ht : f.t = t) : Calls Tryd.prog 78 #[.agg (f.row d a k0 k1 k2 k3 k4 i s).toArray] w fun e w' => e = .returned (.agg (keptRow f d a k0 k1 k2 k3 k4 i s).toArray) ∧ Below w.heap.size w w' := by
 have HE : Hid ((keptRow f d a k0 k1 k2 k3 k4 i s).toArray = #[.int .i32 t, .string ⟨#[]⟩, .slice none 0 0, .slice none 0 0, .int .i32 0, .int .i32 0, .bool false, .int .i64 0, .int .i64 0, .int .i64 0, .int .i64 f.zx, .slice k0.A k0.n k0.c, .slice k1.A k1.n k1.c, .slice k2.A k2.n k2.c, .slice k3.A k3.n k3.c, .slice k4.A k4.n k4.c, .int .i32 0, .slice none 0 0, .slice none 0 0]) := by
  unfold Hid keptRow keptF kS
  rw [ht]
  simp only [zH, zI, or_false] at htt
  rcases htt with rfl <;> simp [tP, tD, tA, tF, tV, tW, tC, tL, tZ, tT, tS, OpF.row, Sl.v, nilS]
 rw [HE.out]
 obtain ⟨cs, hcs⟩ : ∃ cs : Array Value, cs = (f.row d a k0 k1 k2 k3 k4 i s).toArray := ⟨_, rfl⟩
 rw [← hcs]
 have hc0 : cs[0]? = some (.int .i32 t) := by rw [hcs, ← ht]; rfl
 have HC0 := Hi hc0
 have HCS := Hi hcs
 obtain ⟨w1, hw1⟩ := xa w cs 29
 have hz1 : w1.heap.size = w.heap.size + 1 := by rw [← hw1]; simp
 have HN1 := Hi (zW hw1)
 have HB1 := Hi (zV hw1)
 clear hc0 hcs ht HE
 obtain ⟨n0, n1, n2, n3, n4, n5, n6, n7, n8, n9, n10, n11, n12, n13, n14, n15, n16, n17, n18, n19, n20, _⟩ := sw_all (cs := [14, 22, (-10), (-11), 11, 107, 1, 15, 19, 21, 2, 13, 5, 7, 120, 3, 4, 8, 12, 106, 18]) htt rfl
 have S : ((t == 101) = true) := by
  simp only [zH, zI, or_false] at htt
  rcases htt with rfl <;> decide
 clear htt
 go_enter Tryd.func78, Tryd.ntmps78
 go_wp2_with (first
  | (refine wpList_new rfl 29 rfl zer_op ?_
     intro old hold
     obtain ⟨w2, hw2⟩ := xa w1 old 29
     rw [hw2]
     have hz2 : w2.heap.size = w.heap.size + 2 := (by rw [← hw2]; simp [hz1])
     have HN2 : Hid (Blk w2 w.heap.size 29 cs) := (by unfold Hid; rw [← hw2]; exact HN1.out.alloc _)
     have HZ2 : Hid (Blk w2 (w.heap.size + 1) 29 old) := (by unfold Hid; rw [← hw2]; exact Blk.new' hz1.symm)
     have HB2 : Hid (Below w.heap.size w w2) := (by unfold Hid; rw [← hw2]; exact HB1.out.alloc (by omega) _)
     have HOLD := Hi hold
     have c0 := yC HN2.out 0 HC0.out
     clear hw2 hold)
  | (refine wpList_newrow rfl rfl 29 rfl 3 rfl (.tmp 6) rfl rfl (Oqk4R3 t) (fun _ => rfl) (show 3 < 116 by decide) zer_op isz_29 (by simp [Value.oneCell']) ?_
     obtain ⟨w3, hw3⟩ := xa w2 (Oqk4R3 t) 29
     rw [hw3]
     have hz3 : w3.heap.size = w.heap.size + 3 := (by rw [← hw3]; simp [hz2])
     have HN3 : Hid (Blk w3 w.heap.size 29 cs) := (by unfold Hid; rw [← hw3]; exact HN2.out.alloc _)
     have HZ3 : Hid (Blk w3 (w.heap.size + 1) 29 old) := (by unfold Hid; rw [← hw3]; exact HZ2.out.alloc _)
     have HP3 : Hid (Blk w3 (w.heap.size + 2) 29 (Oqk4R3 t)) := (by unfold Hid; rw [← hw3]; exact Blk.new' hz2.symm)
     have HB3 : Hid (Below w.heap.size w w3) := (by unfold Hid; rw [← hw3]; exact HB2.out.alloc (by omega) _)
     have d0 := yC HN3.out 0 HC0.out
     clear hw3 c0 HN2 HZ2 HB2))
 have HROW : Hid (Blk w3 w.heap.size 29 (f.row d a k0 k1 k2 k3 k4 i s).toArray) := by unfold Hid; rw [← HCS.out]; exact HN3.out
 have HPS : Hid (((Oqk4R3 t) : Array Value).size = 19) := rfl
 have HKV : Hid (∀ j v, ([.slice k0.A k0.n k0.c, .slice k1.A k1.n k1.c, .slice k2.A k2.n k2.c, .slice k3.A k3.n k3.c, .slice k4.A k4.n k4.c] : List Value)[j]? = some v → (f.row d a k0 k1 k2 k3 k4 i s).toArray[11 + j]? = some v) := fun j v hv => by
  rcases j with _ | _ | _ | _ | _ | j <;> simp at hv <;> subst hv <;> rfl
 clear d0
 obtain ⟨x18, H18⟩ := xv (.pointer (some ⟨w.heap.size, 10, none⟩))
 obtain ⟨x19, H19⟩ := xv (.int .i64 f.zx)
 obtain ⟨x20, H20⟩ := xv (.pointer (some ⟨w.heap.size, 11, none⟩))
 obtain ⟨x21, H21⟩ := xv (.agg #[.slice k0.A k0.n k0.c, .slice k1.A k1.n k1.c, .slice k2.A k2.n k2.c, .slice k3.A k3.n k3.c, .slice k4.A k4.n k4.c])
 obtain ⟨x22, H22⟩ := xv (.pointer (some ⟨(w.heap.size + 2), 10, none⟩))
 obtain ⟨x23, H23⟩ := xv (.pointer (some ⟨(w.heap.size + 2), 11, none⟩))
 refine wp_region_copy (w0 := w3) (w.heap.size + 2) 29 [(10, .int .i64 f.zx), (11, .slice k0.A k0.n k0.c), (12, .slice k1.A k1.n k1.c), (13, .slice k2.A k2.n k2.c), (14, .slice k3.A k3.n k3.c), (15, .slice k4.A k4.n k4.c)] (.inl x18 ::
  .inl x19 ::
  .inl x20 ::
  .inl x21 ::
  .inl x22 ::
  .inr (fun _ W => (∃ cur, Blk W (w.heap.size + 2) 29 cur) ∧ ∀ z9 u9, ([.int .i64 f.zx] : List Value)[z9]? = some u9 → W.cell? ⟨(w.heap.size + 2), 10 + z9, none⟩ = some u9) ::
  .inl x23 ::
  .inr (fun _ W => (∃ cur, Blk W (w.heap.size + 2) 29 cur) ∧ ∀ z9 u9, ([.slice k0.A k0.n k0.c, .slice k1.A k1.n k1.c, .slice k2.A k2.n k2.c, .slice k3.A k3.n k3.c, .slice k4.A k4.n k4.c] : List Value)[z9]? = some u9 → W.cell? ⟨(w.heap.size + 2), 11 + z9, none⟩ = some u9) :: []) rfl (by kernel_rfl) (by kernel_rfl) (by kernel_rfl) (by kernel_rfl) ?_ ⟨fun ac W hC o q K hK => op_u (u := .pointer (some ⟨w.heap.size, 10, none⟩)) rfl (r_field 29 _ 10 rfl (yA (hO o 1)) zU29 rfl (n := 0) isz_2 rfl) (hK _ _ H18.out.symm (Cp.refl _)),
  fun ac W hC o q K hK => op_u (u := .int .i64 f.zx) rfl (r_load 2 _ rfl (yA (dL q 0 H18)) (yC (HROW.out.grown hC.grown (by simp)) 10 rfl) zU2 rfl) (hK _ _ H19.out.symm (Cp.refl _)),
  fun ac W hC o q K hK => op_u (u := .pointer (some ⟨w.heap.size, 11, none⟩)) rfl (r_field 29 _ 11 rfl (yA (hO o 1)) zU29 rfl (n := 4) isz_25 rfl) (hK _ _ H20.out.symm (Cp.refl _)),
  fun ac W hC o q K hK => op_u (u := .agg #[.slice k0.A k0.n k0.c, .slice k1.A k1.n k1.c, .slice k2.A k2.n k2.c, .slice k3.A k3.n k3.c, .slice k4.A k4.n k4.c]) rfl (r_load_row 25 _ rfl (yA (dL q 2 H20)) [.slice k0.A k0.n k0.c, .slice k1.A k1.n k1.c, .slice k2.A k2.n k2.c, .slice k3.A k3.n k3.c, .slice k4.A k4.n k4.c] (fun j v hj => by rw [zN]; exact (( HROW.out.grown hC.grown (by simp)).cell _).trans (HKV.out j v hj)) zU25 rfl isz_25) (hK _ _ H21.out.symm (Cp.refl _)),
  fun ac W hC o q K hK => op_u (u := .pointer (some ⟨(w.heap.size + 2), 10, none⟩)) rfl (r_field 29 _ 10 rfl (yA (hO o 3)) zU29 rfl (n := 0) isz_2 rfl) (hK _ _ H22.out.symm (Cp.refl _)),
  by
   intro ac W hC hold hdep K hK
   obtain ⟨cur, hcur, hcs, _⟩ := hC.blk _ HP3.out
   exact op_store rfl 2 (.tmp 22) (.tmp 19) rfl 10 (.int .i64 f.zx) (yA (dL hdep 4 H22)) (yA (dL hdep 1 H19)) (news := [.int .i64 f.zx]) hcur rfl isz_2 (by rw [hcs, HPS.out]; exact (by decide : 10 + 1 ≤ 19)) (by simp [Value.oneCell']) (fun z9 u9 hu => by rcases z9 with _ | z9 <;> simp at hu; subst hu; simp) (fnB_of (by simp)) (fun w' h1 h2 => hK undef w' ⟨by obtain ⟨c2, h3, _⟩ := h2.blk _ hcur; exact ⟨c2, h3⟩, h1⟩ h2),
  fun ac W hC o q K hK => op_u (u := .pointer (some ⟨(w.heap.size + 2), 11, none⟩)) rfl (r_field 29 _ 11 rfl (yA (hO o 3)) zU29 rfl (n := 4) isz_25 rfl) (hK _ _ H23.out.symm (Cp.refl _)),
  by
   intro ac W hC hold hdep K hK
   obtain ⟨cur, hcur, hcs, _⟩ := hC.blk _ HP3.out
   exact op_store rfl 25 (.tmp 23) (.tmp 21) rfl 11 (.agg #[.slice k0.A k0.n k0.c, .slice k1.A k1.n k1.c, .slice k2.A k2.n k2.c, .slice k3.A k3.n k3.c, .slice k4.A k4.n k4.c]) (yA (dL hdep 6 H23)) (yA (dL hdep 3 H21)) (news := [.slice k0.A k0.n k0.c, .slice k1.A k1.n k1.c, .slice k2.A k2.n k2.c, .slice k3.A k3.n k3.c, .slice k4.A k4.n k4.c]) hcur rfl isz_25 (by rw [hcs, HPS.out]; exact (by decide : 11 + 5 ≤ 19)) (by simp [Value.oneCell']) (fun z9 u9 hu => by rcases z9 with _ | _ | _ | _ | _ | z9 <;> simp at hu <;> subst hu <;> simp) (fnB_of (by simp)) (fun w' h1 h2 => hK undef w' ⟨by obtain ⟨c2, h3, _⟩ := h2.blk _ hcur; exact ⟨c2, h3⟩, h1⟩ h2), trivial⟩ ?_
 · intro p hp v W W' h hC
   simp only [zH, reduceCtorEq, Sum.inr.injEq, zI, or_false, false_or] at hp
   rcases hp with rfl | rfl
   all_goals
    obtain ⟨⟨cur, h1⟩, h2⟩ := h
    obtain ⟨c2, h3, _⟩ := hC.blk _ h1
    refine ⟨⟨c2, h3⟩, fun z9 u9 hu => hC.keep h1 ?_ (h2 z9 u9 hu)⟩
    rcases z9 with _ | _ | _ | _ | _ | z9 <;> simp at hu <;> subst hu <;> simp
 intro wc hC
 simp only [FinC, Act.put, zD, zA, zB]
 rintro ⟨_, _, g0⟩ ⟨_, _, g1⟩
 clear H18 H19 H20 H21 H22 H23
 have HFO : ([(10, .int .i64 f.zx), (11, .slice k0.A k0.n k0.c), (12, .slice k1.A k1.n k1.c), (13, .slice k2.A k2.n k2.c), (14, .slice k3.A k3.n k3.c), (15, .slice k4.A k4.n k4.c)] : List (Nat × Value)).foldl (fun ps x => ps.setIfInBounds x.1 x.2) (Oqk4R3 t) = #[.int .i32 t, .string ⟨#[]⟩, .slice none 0 0, .slice none 0 0, .int .i32 0, .int .i32 0, .bool false, .int .i64 0, .int .i64 0, .int .i64 0, .int .i64 f.zx, .slice k0.A k0.n k0.c, .slice k1.A k1.n k1.c, .slice k2.A k2.n k2.c, .slice k3.A k3.n k3.c, .slice k4.A k4.n k4.c, .int .i32 0, .slice none 0 0, .slice none 0 0] := by kernel_rfl
 have HPC : Hid (Blk wc (w.heap.size + 2) 29 #[.int .i32 t, .string ⟨#[]⟩, .slice none 0 0, .slice none 0 0, .int .i32 0, .int .i32 0, .bool false, .int .i64 0, .int .i64 0, .int .i64 0, .int .i64 f.zx, .slice k0.A k0.n k0.c, .slice k1.A k1.n k1.c, .slice k2.A k2.n k2.c, .slice k3.A k3.n k3.c, .slice k4.A k4.n k4.c, .int .i32 0, .slice none 0 0, .slice none 0 0]) := by
  unfold Hid
  rw [← HFO]
  refine hC.done HP3.out (fnB_of (by simp)) (fun k v hkv => ?_) (fun k v hkv => ?_)
  · simp only [zH, Prod.mk.injEq, zI, or_false] at hkv
    have : k ≤ 18 := by omega
    exact Nat.lt_of_le_of_lt this (by decide : 18 < 19)
  · simp only [zH, Prod.mk.injEq, zI, or_false] at hkv
    rcases hkv with ⟨rfl, rfl⟩ | ⟨rfl, rfl⟩ | ⟨rfl, rfl⟩ | ⟨rfl, rfl⟩ | ⟨rfl, rfl⟩ | ⟨rfl, rfl⟩
    · exact g0 0 _ rfl
    · exact g1 0 _ rfl
    · exact g1 1 _ rfl
    · exact g1 2 _ rfl
    · exact g1 3 _ rfl
    · exact g1 4 _ rfl
 have HZC : Hid (Blk wc (w.heap.size + 1) 29 old) := HZ3.out.grown hC.grown (by simp)
 have HBC : Hid (Below w.heap.size w wc) := HB3.out.grown hC.grown (by omega) (fun k hk => by injection hk with hk; omega)
 have hzc : wc.heap.size = w.heap.size + 3 := by rw [hC.size, hz3]
 clear hC HFO g0 g1
 go_wp2_with (first
  | (with_reducible refine wpAq 24 ?_
     refine wpList_load_row rfl 29 (.tmp 3) rfl (w.heap.size + 2) rfl 29 _ _ _ HPC.out zU29 rfl isz_29 ?_)
  | (with_reducible refine wpSt 2 ?_
     refine wpList_store_row rfl 29 (.tmp 2) (.tmp 24) rfl (w.heap.size + 1) #[.int .i32 t, .string ⟨#[]⟩, .slice none 0 0, .slice none 0 0, .int .i32 0, .int .i32 0, .bool false, .int .i64 0, .int .i64 0, .int .i64 0, .int .i64 f.zx, .slice k0.A k0.n k0.c, .slice k1.A k1.n k1.c, .slice k2.A k2.n k2.c, .slice k3.A k3.n k3.c, .slice k4.A k4.n k4.c, .int .i32 0, .slice none 0 0, .slice none 0 0] rfl rfl 29 _ HZC.out isz_29 (by rw [HOLD.out]; rfl) (by simp [Value.oneCell']) ?_
     generalize hww : World.setRow _ _ _ = wz
     have HBZ : Hid (Blk wz (w.heap.size + 1) 29 #[.int .i32 t, .string ⟨#[]⟩, .slice none 0 0, .slice none 0 0, .int .i32 0, .int .i32 0, .bool false, .int .i64 0, .int .i64 0, .int .i64 0, .int .i64 f.zx, .slice k0.A k0.n k0.c, .slice k1.A k1.n k1.c, .slice k2.A k2.n k2.c, .slice k3.A k3.n k3.c, .slice k4.A k4.n k4.c, .int .i32 0, .slice none 0 0, .slice none 0 0]) := (by unfold Hid; rw [← hww]; exact cells_setRow HZC.out)
     have HBB : Hid (Below w.heap.size w wz) := (by unfold Hid; rw [← hww]; exact below_setRow' HBC.out (by omega) _)
     clear hww))
 refine bodyPost_ret (results_cell_row rfl _ _ (w.heap.size + 1) 29 _ _ _ rfl HBZ.out zU29 rfl isz_29) rfl ?_
 exact ⟨rfl, HBB.out⟩
theorem kept_g11 (t : Int) (htt : t ∈ ([(-10)] : List Int)) (f : OpF) (d a k0 k1 k2 k3 k4 i s : Sl) (w : World) (ht : f.t = t) : Calls Tryd.prog 78 #[.agg (f.row d a k0 k1 k2 k3 k4 i s).toArray] w fun e w' => e = .returned (.agg (keptRow f d a k0 k1 k2 k3 k4 i s).toArray) ∧ Below w.heap.size w w' := by
 have HE : Hid ((keptRow f d a k0 k1 k2 k3 k4 i s).toArray = (Oqk4R1 t f i)) := by
  unfold Hid keptRow keptF kS
  rw [ht]
  simp only [zH, zI, or_false] at htt
  rcases htt with rfl <;> simp [tP, tD, tA, tF, tV, tW, tC, tL, tZ, tT, tS, OpF.row, Sl.v, nilS]
 rw [HE.out]
 obtain ⟨cs, hcs⟩ : ∃ cs : Array Value, cs = (f.row d a k0 k1 k2 k3 k4 i s).toArray := ⟨_, rfl⟩
 rw [← hcs]
 have hc0 : cs[0]? = some (.int .i32 t) := by rw [hcs, ← ht]; rfl
 have HC0 := Hi hc0
 have HCS := Hi hcs
 obtain ⟨w1, hw1⟩ := xa w cs 29
 have hz1 : w1.heap.size = w.heap.size + 1 := by rw [← hw1]; simp
 have HN1 := Hi (zW hw1)
 have HB1 := Hi (zV hw1)
 clear hc0 hcs ht HE
 obtain ⟨n0, n1, n2, n3, n4, n5, n6, n7, n8, n9, n10, n11, n12, n13, n14, n15, n16, n17, n18, n19, n20, _⟩ := sw_all (cs := [14, 22, 101, (-11), 11, 107, 1, 15, 19, 21, 2, 13, 5, 7, 120, 3, 4, 8, 12, 106, 18]) htt rfl
 have S : ((t == (-10)) = true) := by
  simp only [zH, zI, or_false] at htt
  rcases htt with rfl <;> decide
 clear htt
 go_enter Tryd.func78, Tryd.ntmps78
 go_wp2_with (first
  | (refine wpList_new rfl 29 rfl zer_op ?_
     intro old hold
     obtain ⟨w2, hw2⟩ := xa w1 old 29
     rw [hw2]
     have hz2 : w2.heap.size = w.heap.size + 2 := (by rw [← hw2]; simp [hz1])
     have HN2 : Hid (Blk w2 w.heap.size 29 cs) := (by unfold Hid; rw [← hw2]; exact HN1.out.alloc _)
     have HZ2 : Hid (Blk w2 (w.heap.size + 1) 29 old) := (by unfold Hid; rw [← hw2]; exact Blk.new' hz1.symm)
     have HB2 : Hid (Below w.heap.size w w2) := (by unfold Hid; rw [← hw2]; exact HB1.out.alloc (by omega) _)
     have HOLD := Hi hold
     have c0 := yC HN2.out 0 HC0.out
     clear hw2 hold)
  | (refine wpList_newrow rfl rfl 29 rfl 3 rfl (.tmp 6) rfl rfl (Oqk4R3 t) (fun _ => rfl) (show 3 < 116 by decide) zer_op isz_29 (by simp [Value.oneCell']) ?_
     obtain ⟨w3, hw3⟩ := xa w2 (Oqk4R3 t) 29
     rw [hw3]
     have hz3 : w3.heap.size = w.heap.size + 3 := (by rw [← hw3]; simp [hz2])
     have HN3 : Hid (Blk w3 w.heap.size 29 cs) := (by unfold Hid; rw [← hw3]; exact HN2.out.alloc _)
     have HZ3 : Hid (Blk w3 (w.heap.size + 1) 29 old) := (by unfold Hid; rw [← hw3]; exact HZ2.out.alloc _)
     have HP3 : Hid (Blk w3 (w.heap.size + 2) 29 (Oqk4R3 t)) := (by unfold Hid; rw [← hw3]; exact Blk.new' hz2.symm)
     have HB3 : Hid (Below w.heap.size w w3) := (by unfold Hid; rw [← hw3]; exact HB2.out.alloc (by omega) _)
     have d0 := yC HN3.out 0 HC0.out
     clear hw3 c0 HN2 HZ2 HB2))
 have HROW : Hid (Blk w3 w.heap.size 29 (f.row d a k0 k1 k2 k3 k4 i s).toArray) := by unfold Hid; rw [← HCS.out]; exact HN3.out
 have HPS : Hid (((Oqk4R3 t) : Array Value).size = 19) := rfl
 clear d0
 obtain ⟨x27, H27⟩ := xv (.pointer (some ⟨w.heap.size, 16, none⟩))
 obtain ⟨x28, H28⟩ := xv (.int .i32 f.to)
 obtain ⟨x29, H29⟩ := xv (.pointer (some ⟨w.heap.size, 17, none⟩))
 obtain ⟨x30, H30⟩ := xv (.slice i.A i.n i.c)
 obtain ⟨x31, H31⟩ := xv (.pointer (some ⟨(w.heap.size + 2), 16, none⟩))
 obtain ⟨x32, H32⟩ := xv (.pointer (some ⟨(w.heap.size + 2), 17, none⟩))
 refine wp_region_copy (w0 := w3) (w.heap.size + 2) 29 [(16, .int .i32 f.to), (17, .slice i.A i.n i.c)] (.inl x27 ::
  .inl x28 ::
  .inl x29 ::
  .inl x30 ::
  .inl x31 ::
  .inr (fun _ W => (∃ cur, Blk W (w.heap.size + 2) 29 cur) ∧ ∀ z9 u9, ([.int .i32 f.to] : List Value)[z9]? = some u9 → W.cell? ⟨(w.heap.size + 2), 16 + z9, none⟩ = some u9) ::
  .inl x32 ::
  .inr (fun _ W => (∃ cur, Blk W (w.heap.size + 2) 29 cur) ∧ ∀ z9 u9, ([.slice i.A i.n i.c] : List Value)[z9]? = some u9 → W.cell? ⟨(w.heap.size + 2), 17 + z9, none⟩ = some u9) :: []) rfl (by kernel_rfl) (by kernel_rfl) (by kernel_rfl) (by kernel_rfl) ?_ ⟨fun ac W hC o q K hK => op_u (u := .pointer (some ⟨w.heap.size, 16, none⟩)) rfl (r_field 29 _ 12 rfl (yA (hO o 1)) zU29 rfl (n := 0) isz_21 rfl) (hK _ _ H27.out.symm (Cp.refl _)),
  fun ac W hC o q K hK => op_u (u := .int .i32 f.to) rfl (r_load 21 _ rfl (yA (dL q 0 H27)) (yC (HROW.out.grown hC.grown (by simp)) 16 rfl) zU21 rfl) (hK _ _ H28.out.symm (Cp.refl _)),
  fun ac W hC o q K hK => op_u (u := .pointer (some ⟨w.heap.size, 17, none⟩)) rfl (r_field 29 _ 13 rfl (yA (hO o 1)) zU29 rfl (n := 0) isz_26 rfl) (hK _ _ H29.out.symm (Cp.refl _)),
  fun ac W hC o q K hK => op_u (u := .slice i.A i.n i.c) rfl (r_load 26 _ rfl (yA (dL q 2 H29)) (yC (HROW.out.grown hC.grown (by simp)) 17 rfl) zU26 rfl) (hK _ _ H30.out.symm (Cp.refl _)),
  fun ac W hC o q K hK => op_u (u := .pointer (some ⟨(w.heap.size + 2), 16, none⟩)) rfl (r_field 29 _ 12 rfl (yA (hO o 3)) zU29 rfl (n := 0) isz_21 rfl) (hK _ _ H31.out.symm (Cp.refl _)),
  by
   intro ac W hC hold hdep K hK
   obtain ⟨cur, hcur, hcs, _⟩ := hC.blk _ HP3.out
   exact op_store rfl 21 (.tmp 31) (.tmp 28) rfl 16 (.int .i32 f.to) (yA (dL hdep 4 H31)) (yA (dL hdep 1 H28)) (news := [.int .i32 f.to]) hcur rfl isz_21 (by rw [hcs, HPS.out]; exact (by decide : 16 + 1 ≤ 19)) (by simp [Value.oneCell']) (fun z9 u9 hu => by rcases z9 with _ | z9 <;> simp at hu; subst hu; simp) (fnB_of (by simp)) (fun w' h1 h2 => hK undef w' ⟨by obtain ⟨c2, h3, _⟩ := h2.blk _ hcur; exact ⟨c2, h3⟩, h1⟩ h2),
  fun ac W hC o q K hK => op_u (u := .pointer (some ⟨(w.heap.size + 2), 17, none⟩)) rfl (r_field 29 _ 13 rfl (yA (hO o 3)) zU29 rfl (n := 0) isz_26 rfl) (hK _ _ H32.out.symm (Cp.refl _)),
  by
   intro ac W hC hold hdep K hK
   obtain ⟨cur, hcur, hcs, _⟩ := hC.blk _ HP3.out
   exact op_store rfl 26 (.tmp 32) (.tmp 30) rfl 17 (.slice i.A i.n i.c) (yA (dL hdep 6 H32)) (yA (dL hdep 3 H30)) (news := [.slice i.A i.n i.c]) hcur rfl isz_26 (by rw [hcs, HPS.out]; exact (by decide : 17 + 1 ≤ 19)) (by simp [Value.oneCell']) (fun z9 u9 hu => by rcases z9 with _ | z9 <;> simp at hu; subst hu; simp) (fnB_of (by simp)) (fun w' h1 h2 => hK undef w' ⟨by obtain ⟨c2, h3, _⟩ := h2.blk _ hcur; exact ⟨c2, h3⟩, h1⟩ h2), trivial⟩ ?_
 · intro p hp v W W' h hC
   simp only [zH, reduceCtorEq, Sum.inr.injEq, zI, or_false, false_or] at hp
   rcases hp with rfl | rfl
   all_goals
    obtain ⟨⟨cur, h1⟩, h2⟩ := h
    obtain ⟨c2, h3, _⟩ := hC.blk _ h1
    refine ⟨⟨c2, h3⟩, fun z9 u9 hu => hC.keep h1 ?_ (h2 z9 u9 hu)⟩
    rcases z9 with _ | _ | _ | _ | _ | z9 <;> simp at hu <;> subst hu <;> simp
 intro wc hC
 simp only [FinC, Act.put, zD, zA, zB]
 rintro ⟨_, _, g0⟩ ⟨_, _, g1⟩
 clear H27 H28 H29 H30 H31 H32
 have HFO : ([(16, .int .i32 f.to), (17, .slice i.A i.n i.c)] : List (Nat × Value)).foldl (fun ps x => ps.setIfInBounds x.1 x.2) (Oqk4R3 t) = (Oqk4R1 t f i) := by kernel_rfl
 have HPC : Hid (Blk wc (w.heap.size + 2) 29 (Oqk4R1 t f i)) := by
  unfold Hid
  rw [← HFO]
  refine hC.done HP3.out (fnB_of (by simp)) (fun k v hkv => ?_) (fun k v hkv => ?_)
  · simp only [zH, Prod.mk.injEq, zI, or_false] at hkv
    have : k ≤ 18 := by omega
    exact Nat.lt_of_le_of_lt this (by decide : 18 < 19)
  · simp only [zH, Prod.mk.injEq, zI, or_false] at hkv
    rcases hkv with ⟨rfl, rfl⟩ | ⟨rfl, rfl⟩
    · exact g0 0 _ rfl
    · exact g1 0 _ rfl
 have HZC : Hid (Blk wc (w.heap.size + 1) 29 old) := HZ3.out.grown hC.grown (by simp)
 have HBC : Hid (Below w.heap.size w wc) := HB3.out.grown hC.grown (by omega) (fun k hk => by injection hk with hk; omega)
 have hzc : wc.heap.size = w.heap.size + 3 := by rw [hC.size, hz3]
 clear hC HFO g0 g1
 go_wp2_with (first
  | (with_reducible refine wpAq 33 ?_
     refine wpList_load_row rfl 29 (.tmp 3) rfl (w.heap.size + 2) rfl 29 _ _ _ HPC.out zU29 rfl isz_29 ?_)
  | (with_reducible refine wpSt 2 ?_
     refine wpList_store_row rfl 29 (.tmp 2) (.tmp 33) rfl (w.heap.size + 1) (Oqk4R1 t f i) rfl rfl 29 _ HZC.out isz_29 (by rw [HOLD.out]; rfl) (by simp [Value.oneCell']) ?_
     generalize hww : World.setRow _ _ _ = wz
     have HBZ : Hid (Blk wz (w.heap.size + 1) 29 (Oqk4R1 t f i)) := (by unfold Hid; rw [← hww]; exact cells_setRow HZC.out)
     have HBB : Hid (Below w.heap.size w wz) := (by unfold Hid; rw [← hww]; exact below_setRow' HBC.out (by omega) _)
     clear hww))
 refine bodyPost_ret (results_cell_row rfl _ _ (w.heap.size + 1) 29 _ _ _ rfl HBZ.out zU29 rfl isz_29) rfl ?_
 exact ⟨rfl, HBB.out⟩
theorem kept_g12 (t : Int) (htt : t ∈ ([(-11), 11, 107] : List Int)) (f : OpF) (d a k0 k1 k2 k3 k4 i s : Sl) (w : World) (ht : f.t = t) : Calls Tryd.prog 78 #[.agg (f.row d a k0 k1 k2 k3 k4 i s).toArray] w fun e w' => e = .returned (.agg (keptRow f d a k0 k1 k2 k3 k4 i s).toArray) ∧ Below w.heap.size w w' := by
 have HE : Hid ((keptRow f d a k0 k1 k2 k3 k4 i s).toArray = (Oqk4R3 t)) := by
  unfold Hid keptRow keptF kS
  rw [ht]
  simp only [zH, zI, or_false] at htt
  rcases htt with rfl | rfl | rfl <;> simp [tP, tD, tA, tF, tV, tW, tC, tL, tZ, tT, tS, OpF.row, Sl.v, nilS]
 rw [HE.out]
 obtain ⟨cs, hcs⟩ : ∃ cs : Array Value, cs = (f.row d a k0 k1 k2 k3 k4 i s).toArray := ⟨_, rfl⟩
 rw [← hcs]
 have hc0 : cs[0]? = some (.int .i32 t) := by rw [hcs, ← ht]; rfl
 have HC0 := Hi hc0
 have HCS := Hi hcs
 obtain ⟨w1, hw1⟩ := xa w cs 29
 have hz1 : w1.heap.size = w.heap.size + 1 := by rw [← hw1]; simp
 have HN1 := Hi (zW hw1)
 have HB1 := Hi (zV hw1)
 clear hc0 hcs ht HE
 obtain ⟨n0, n1, n2, n3, n4, n5, n6, n7, n8, n9, n10, n11, n12, n13, n14, n15, n16, n17, n18, _⟩ := sw_all (cs := [14, 22, 101, (-10), 1, 15, 19, 21, 2, 13, 5, 7, 120, 3, 4, 8, 12, 106, 18]) htt rfl
 have S : ((t == (-11)) = true) ∨ ((t == (-11)) = false ∧ (t == 11) = true) ∨ ((t == (-11)) = false ∧ (t == 11) = false ∧ (t == 107) = true) := by
  simp only [zH, zI, or_false] at htt
  rcases htt with rfl | rfl | rfl <;> decide
 clear htt
 rcases S with s0 | ⟨s0, s1⟩ | ⟨s0, s1, s2⟩
 all_goals
  go_enter Tryd.func78, Tryd.ntmps78
  go_wp2_with (first
   | (refine wpList_new rfl 29 rfl zer_op ?_
      intro old hold
      obtain ⟨w2, hw2⟩ := xa w1 old 29
      rw [hw2]
      have hz2 : w2.heap.size = w.heap.size + 2 := (by rw [← hw2]; simp [hz1])
      have HN2 : Hid (Blk w2 w.heap.size 29 cs) := (by unfold Hid; rw [← hw2]; exact HN1.out.alloc _)
      have HZ2 : Hid (Blk w2 (w.heap.size + 1) 29 old) := (by unfold Hid; rw [← hw2]; exact Blk.new' hz1.symm)
      have HB2 : Hid (Below w.heap.size w w2) := (by unfold Hid; rw [← hw2]; exact HB1.out.alloc (by omega) _)
      have HOLD := Hi hold
      have c0 := yC HN2.out 0 HC0.out
      clear hw2 hold)
   | (refine wpList_newrow rfl rfl 29 rfl 3 rfl (.tmp 6) rfl rfl (Oqk4R3 t) (fun _ => rfl) (show 3 < 116 by decide) zer_op isz_29 (by simp [Value.oneCell']) ?_
      obtain ⟨w3, hw3⟩ := xa w2 (Oqk4R3 t) 29
      rw [hw3]
      have hz3 : w3.heap.size = w.heap.size + 3 := (by rw [← hw3]; simp [hz2])
      have HN3 : Hid (Blk w3 w.heap.size 29 cs) := (by unfold Hid; rw [← hw3]; exact HN2.out.alloc _)
      have HZ3 : Hid (Blk w3 (w.heap.size + 1) 29 old) := (by unfold Hid; rw [← hw3]; exact HZ2.out.alloc _)
      have HP3 : Hid (Blk w3 (w.heap.size + 2) 29 (Oqk4R3 t)) := (by unfold Hid; rw [← hw3]; exact Blk.new' hz2.symm)
      have HB3 : Hid (Below w.heap.size w w3) := (by unfold Hid; rw [← hw3]; exact HB2.out.alloc (by omega) _)
      have d0 := yC HN3.out 0 HC0.out
      clear hw3 c0 HN2 HZ2 HB2)
   | (with_reducible refine wpAq 38 ?_
      refine wpList_load_row rfl 29 (.tmp 3) rfl (w.heap.size + 2) rfl 29 _ _ _ HP3.out zU29 rfl isz_29 ?_)
   | (with_reducible refine wpSt 2 ?_
      refine wpList_store_row rfl 29 (.tmp 2) (.tmp 38) rfl (w.heap.size + 1) (Oqk4R3 t) rfl rfl 29 _ HZ3.out isz_29 (by rw [HOLD.out]; rfl) (by simp [Value.oneCell']) ?_
      generalize hww : World.setRow _ _ _ = wz
      have HBZ : Hid (Blk wz (w.heap.size + 1) 29 (Oqk4R3 t)) := (by unfold Hid; rw [← hww]; exact cells_setRow HZ3.out)
      have HBB : Hid (Below w.heap.size w wz) := (by unfold Hid; rw [← hww]; exact below_setRow' HB3.out (by omega) _)
      clear hww))
  refine bodyPost_ret (results_cell_row rfl _ _ (w.heap.size + 1) 29 _ _ _ rfl HBZ.out zU29 rfl isz_29) rfl ?_
  exact ⟨rfl, HBB.out⟩

def ownTypes : List Int := [1, 15, 19, 21, 2, 13, 5, 7, 120, 121, 14, (-10), (-11), 20, 3, 4, 8, 12, 6, 9, 103, 104, 106, 11, 18, 22, 101, 107]
theorem kept_any (f : OpF) (d a k0 k1 k2 k3 k4 i s : Sl) (w : World) (ht : f.t ∈ ownTypes) : Calls Tryd.prog 78 #[.agg (f.row d a k0 k1 k2 k3 k4 i s).toArray] w fun e w' => e = .returned (.agg (keptRow f d a k0 k1 k2 k3 k4 i s).toArray) ∧ Below w.heap.size w w' := by
 simp only [ownTypes, zH, zI, or_false] at ht
 rcases ht with h | h | h | h | h | h | h | h | h | h | h | h | h | h | h | h | h | h | h | h | h | h | h | h | h | h | h | h
 · exact kept_g0 1 (by decide) f d a k0 k1 k2 k3 k4 i s w h
 · exact kept_g0 15 (by decide) f d a k0 k1 k2 k3 k4 i s w h
 · exact kept_g0 19 (by decide) f d a k0 k1 k2 k3 k4 i s w h
 · exact kept_g1 21 (by decide) f d a k0 k1 k2 k3 k4 i s w h
 · exact kept_g2 2 (by decide) f d a k0 k1 k2 k3 k4 i s w h
 · exact kept_g2 13 (by decide) f d a k0 k1 k2 k3 k4 i s w h
 · exact kept_g3 5 (by decide) f d a k0 k1 k2 k3 k4 i s w h
 · exact kept_g4 7 (by decide) f d a k0 k1 k2 k3 k4 i s w h
 · exact kept_g5 120 (by decide) f d a k0 k1 k2 k3 k4 i s w h
 · exact kept_g6 121 (by decide) f d a k0 k1 k2 k3 k4 i s w h
 · exact kept_g9 14 (by decide) f d a k0 k1 k2 k3 k4 i s w h
 · exact kept_g11 (-10) (by decide) f d a k0 k1 k2 k3 k4 i s w h
 · exact kept_g12 (-11) (by decide) f d a k0 k1 k2 k3 k4 i s w h
 · exact kept_g6 20 (by decide) f d a k0 k1 k2 k3 k4 i s w h
 · exact kept_g7 3 (by decide) f d a k0 k1 k2 k3 k4 i s w h
 · exact kept_g7 4 (by decide) f d a k0 k1 k2 k3 k4 i s w h
 · exact kept_g7 8 (by decide) f d a k0 k1 k2 k3 k4 i s w h
 · exact kept_g7 12 (by decide) f d a k0 k1 k2 k3 k4 i s w h
 · exact kept_g6 6 (by decide) f d a k0 k1 k2 k3 k4 i s w h
 · exact kept_g6 9 (by decide) f d a k0 k1 k2 k3 k4 i s w h
 · exact kept_g6 103 (by decide) f d a k0 k1 k2 k3 k4 i s w h
 · exact kept_g6 104 (by decide) f d a k0 k1 k2 k3 k4 i s w h
 · exact kept_g8 106 (by decide) f d a k0 k1 k2 k3 k4 i s w h
 · exact kept_g12 11 (by decide) f d a k0 k1 k2 k3 k4 i s w h
 · exact kept_g8 18 (by decide) f d a k0 k1 k2 k3 k4 i s w h
 · exact kept_g9 22 (by decide) f d a k0 k1 k2 k3 k4 i s w h
 · exact kept_g10 101 (by decide) f d a k0 k1 k2 k3 k4 i s w h
 · exact kept_g12 107 (by decide) f d a k0 k1 k2 k3 k4 i s w h

def idxP {α : Type} (p : α → Bool) (L : List α) : Int := match L.findIdx? p with
 | some i => (i : Int)
 | none => -1
theorem idxP_any {α : Type} (p : α → Bool) (L : List α) : decide (idxP p L ≥ 0) = L.any p := by
 unfold idxP
 cases h : L.findIdx? p with
 | none =>
   rw [List.findIdx?_eq_none_iff] at h
   have : L.any p = false := by
    rw [List.any_eq_false]
    intro x hx
    simpa using h x hx
   rw [this]
   rfl
 | some i =>
   have h1 := List.findIdx?_eq_some_iff_getElem.1 h
   obtain ⟨hi, hp, _⟩ := h1
   have : L.any p = true := List.any_eq_true.2 ⟨_, List.getElem_mem hi, hp⟩
   rw [this]
   simp
theorem idxP_at {α : Type} {p : α → Bool} {L : List α} {k : Nat} (hk : k < L.length) (h : ∀ z (hz : z < L.length), z < k → p L[z] = false) (hp : p L[k] = true) : idxP p L = (k : Int) := by
 have : L.findIdx? p = some k := List.findIdx?_eq_some_iff_getElem.2 ⟨hk, hp, fun j hj => by simp [h j (by omega) hj]⟩
 unfold idxP
 rw [this]
theorem idxP_no {α : Type} {p : α → Bool} {L : List α} (h : ∀ z (hz : z < L.length), p L[z] = false) : idxP p L = -1 := by
 have : L.findIdx? p = none := by
  rw [List.findIdx?_eq_none_iff]
  intro x hx
  obtain ⟨z, hz, rfl⟩ := List.getElem_of_mem hx
  exact h z hz
 unfold idxP
 rw [this]

theorem idx_str (A : Option Addr) (n c B : Nat) (L : List ByteArray) (p : ByteArray → Bool) (F : FuncId) (w : World) (hn : n ≤ 4611686018427387904) (hB : B ≤ w.heap.size) (hr : Reads w B 1 A n (strCells L)) (hent : ∀ (args : Array Value) (W : World), (callFunc F args).run Tryd.prog W = .ok (.enter F args) W)
 (HF : ∀ x ∈ L, ∀ W, Below w.heap.size w W → Calls Tryd.prog F #[.string x] W fun e w' => e = .returned (.bool (p x)) ∧ Below W.heap.size W w') :
 Calls Tryd.prog 95 #[.slice A n c, .func (.func F) #[] #[]] w fun e w' => e = .returned (.int .i64 (idxP p L)) ∧ Below w.heap.size w w' := by
 have hl : L.length = n := by have := hr.1; rw [strCells_length] at this; omega
 have HL := Hi hl
 have HR := Hi hr
 have HFF := Hi HF
 have HENT := Hi hent
 clear hl hr HF hent
 go_enter Tryd.func95, Tryd.ntmps95
 go_wp2
 go_loopw [8] (fun k' wr => ∃ k : Nat, k ≤ n ∧ k' = .int .i64 k ∧ Hid (∀ z (h : z < L.length), z < k → p L[z] = false) ∧ Hid (Below w.heap.size w wr)) (fun k' _ => n - (intOf k').toNat)
 case atStart => exact ⟨0, Nat.zero_le _, rfl, (by intro z _ hz; omega), Below.refl _ _⟩
 case round =>
  obtain ⟨k, hk, rfl, HP, HB0⟩ := hrel
  by_cases hlt : k < n
  · have hkl : k < L.length := by rw [HL.out]; exact hlt
    obtain ⟨b, off, rfl, _, hx⟩ := (HR.out.below (HB0.out.mono hB)).plain (by omega) (by omega)
    have x0 := hx _ _ (strCells_get L k hkl)
    simp only [Nat.mul_one] at x0
    have hf := HFF.out L[k] (List.getElem_mem hkl) wr HB0.out
    have hat := fun h => idxP_at (p := p) (L := L) hkl HP.out h
    have hno : p L[k] = false → ∀ z (h : z < L.length), z < k + 1 → p L[z] = false := fun h z hz hzk => by
     rcases (by omega : z < k ∨ z = k) with h1 | rfl
     · exact HP.out z hz h1
     · exact h
    obtain ⟨qa, hqa⟩ : ∃ a, a = L[k] := ⟨_, rfl⟩
    rw [← hqa] at x0 hf hat hno
    obtain ⟨pb, hpb⟩ : ∃ b, b = p qa := ⟨_, rfl⟩
    rw [← hpb] at hf hat hno
    have HC := Hi hf
    have hent := HENT.out
    clear hqa hpb hf hx hkl
    cases pb
    · have HNO := Hi (hno rfl)
      clear hat hno HP
      go_wp2_with (first
       | (refine (HC.out).mono ?_; rintro e w2 ⟨rfl, hb⟩; have HB2 := Hi (HB0.out.trans (hb.mono HB0.out.size)); clear hb))
      go_roundw
      case rel => exact ⟨k + 1, by omega, by go_num, HNO.out, HB2.out⟩
      case measure => simp [intOf]; omega
    · have HAT := Hi (hat rfl)
      clear hat hno HP
      go_wp2_with (first
       | (refine (HC.out).mono ?_; rintro e w2 ⟨rfl, hb⟩; have HB2 := Hi (HB0.out.trans (hb.mono HB0.out.size)); clear hb))
      go_ret
      exact ⟨by rw [HAT.out]; rfl, HB2.out⟩
  · have HNO : Hid (idxP p L = -1) := idxP_no fun z hz => HP.out z hz (by rw [HL.out] at hz; omega)
    clear HP
    go_wp2
    go_ret
    exact ⟨by rw [HNO.out]; rfl, HB0.out⟩
theorem has_str (A : Option Addr) (n c B : Nat) (L : List ByteArray) (p : ByteArray → Bool) (F : FuncId) (w : World) (hn : n ≤ 4611686018427387904) (hB : B ≤ w.heap.size) (hr : Reads w B 1 A n (strCells L)) (hent : ∀ (args : Array Value) (W : World), (callFunc F args).run Tryd.prog W = .ok (.enter F args) W)
 (HF : ∀ x ∈ L, ∀ W, Below w.heap.size w W → Calls Tryd.prog F #[.string x] W fun e w' => e = .returned (.bool (p x)) ∧ Below W.heap.size W w') :
 Calls Tryd.prog 73 #[.slice A n c, .func (.func F) #[] #[]] w fun e w' => e = .returned (.bool (L.any p)) ∧ Below w.heap.size w w' := by
 have HI := Hi (idx_str A n c B L p F w hn hB hr hent HF)
 have HA := Hi (idxP_any p L)
 generalize idxP p L = q at HI HA
 generalize L.any p = r at HA ⊢
 clear hr HF hent
 go_enter Tryd.func73, Tryd.ntmps73
 go_wp2_with (go_at_call 95; refine (HI.out).mono ?_; rintro e w2 ⟨rfl, hb⟩; have HB2 := Hi hb; clear hb)
 go_ret
 exact ⟨by rw [← HA.out]; simp, HB2.out⟩
theorem idx_id (A : Option Addr) (n c B : Nat) (L : List (ByteArray × ByteArray)) (p : (ByteArray × ByteArray) → Bool) (F : FuncId) (w : World) (hn : n ≤ 4611686018427387904) (hB : B ≤ w.heap.size) (hr : Reads w B 2 A n (idCells L)) (hent : ∀ (args : Array Value) (W : World), (callFunc F args).run Tryd.prog W = .ok (.enter F args) W)
 (HF : ∀ x ∈ L, ∀ W, Below w.heap.size w W → Calls Tryd.prog F #[.agg #[.string x.1, .string x.2]] W fun e w' => e = .returned (.bool (p x)) ∧ Below W.heap.size W w') :
 Calls Tryd.prog 97 #[.slice A n c, .func (.func F) #[] #[]] w fun e w' => e = .returned (.int .i64 (idxP p L)) ∧ Below w.heap.size w w' := by
 have hl : L.length = n := by have := hr.1; rw [idCells_length] at this; omega
 have HL := Hi hl
 have HR := Hi hr
 have HFF := Hi HF
 have HENT := Hi hent
 clear hl hr HF hent
 go_enter Tryd.func97, Tryd.ntmps97
 go_wp2
 go_loopw [8] (fun k' wr => ∃ k : Nat, k ≤ n ∧ k' = .int .i64 k ∧ Hid (∀ z (h : z < L.length), z < k → p L[z] = false) ∧ Hid (Below w.heap.size w wr)) (fun k' _ => n - (intOf k').toNat)
 case atStart => exact ⟨0, Nat.zero_le _, rfl, (by intro z _ hz; omega), Below.refl _ _⟩
 case round =>
  obtain ⟨k, hk, rfl, HP, HB0⟩ := hrel
  by_cases hlt : k < n
  · have hkl : k < L.length := by rw [HL.out]; exact hlt
    obtain ⟨b, off, rfl, _, hx⟩ := (HR.out.below (HB0.out.mono hB)).plain (by omega) (by omega)
    obtain ⟨g0, g1⟩ := idCells_get L k hkl
    have x0 := hx _ _ g0
    have x1 := hx _ _ g1
    have HROW : Hid (∀ j v, ([.string L[k].1, .string L[k].2] : List Value)[j]? = some v → wr.cell? ((⟨b, off + k * 2, none⟩ : Addr).add j) = some v) := fun j v hv => by
     rw [zN]
     rcases j with _ | _ | j
     · simp at hv; subst hv; simpa using x0
     · simp at hv; subst hv; simpa [Nat.add_assoc] using x1
     · simp at hv
    clear x0 x1 g0 g1
    have hf := HFF.out L[k] (List.getElem_mem hkl) wr HB0.out
    have hat := fun h => idxP_at (p := p) (L := L) hkl HP.out h
    have hno : p L[k] = false → ∀ z (h : z < L.length), z < k + 1 → p L[z] = false := fun h z hz hzk => by
     rcases (by omega : z < k ∨ z = k) with h1 | rfl
     · exact HP.out z hz h1
     · exact h
    obtain ⟨qa, hqa⟩ : ∃ a, a = L[k] := ⟨_, rfl⟩
    rw [← hqa] at HROW hf hat hno
    obtain ⟨pb, hpb⟩ : ∃ b, b = p qa := ⟨_, rfl⟩
    rw [← hpb] at hf hat hno
    have HC := Hi hf
    have hent := HENT.out
    clear hqa hpb hf hx hkl
    cases pb
    · have HNO := Hi (hno rfl)
      clear hat hno HP
      go_wp2_with (first
       | (refine wpList_load_at (by rfl) 72 (.tmp 14) rfl ⟨b, off + k * 2, none⟩ rfl [.string qa.1, .string qa.2] _ HROW.out zU72 rfl isz_72 ?_)
       | (refine (HC.out).mono ?_; rintro e w2 ⟨rfl, hb⟩; have HB2 := Hi (HB0.out.trans (hb.mono HB0.out.size)); clear hb))
      go_roundw
      case rel => exact ⟨k + 1, by omega, by go_num, HNO.out, HB2.out⟩
      case measure => simp [intOf]; omega
    · have HAT := Hi (hat rfl)
      clear hat hno HP
      go_wp2_with (first
       | (refine wpList_load_at (by rfl) 72 (.tmp 14) rfl ⟨b, off + k * 2, none⟩ rfl [.string qa.1, .string qa.2] _ HROW.out zU72 rfl isz_72 ?_)
       | (refine (HC.out).mono ?_; rintro e w2 ⟨rfl, hb⟩; have HB2 := Hi (HB0.out.trans (hb.mono HB0.out.size)); clear hb))
      go_ret
      exact ⟨by rw [HAT.out]; rfl, HB2.out⟩
  · have HNO : Hid (idxP p L = -1) := idxP_no fun z hz => HP.out z hz (by rw [HL.out] at hz; omega)
    clear HP
    go_wp2
    go_ret
    exact ⟨by rw [HNO.out]; rfl, HB0.out⟩
theorem has_id (A : Option Addr) (n c B : Nat) (L : List (ByteArray × ByteArray)) (p : (ByteArray × ByteArray) → Bool) (F : FuncId) (w : World) (hn : n ≤ 4611686018427387904) (hB : B ≤ w.heap.size) (hr : Reads w B 2 A n (idCells L)) (hent : ∀ (args : Array Value) (W : World), (callFunc F args).run Tryd.prog W = .ok (.enter F args) W)
 (HF : ∀ x ∈ L, ∀ W, Below w.heap.size w W → Calls Tryd.prog F #[.agg #[.string x.1, .string x.2]] W fun e w' => e = .returned (.bool (p x)) ∧ Below W.heap.size W w') :
 Calls Tryd.prog 79 #[.slice A n c, .func (.func F) #[] #[]] w fun e w' => e = .returned (.bool (L.any p)) ∧ Below w.heap.size w w' := by
 have HI := Hi (idx_id A n c B L p F w hn hB hr hent HF)
 have HA := Hi (idxP_any p L)
 generalize idxP p L = q at HI HA
 generalize L.any p = r at HA ⊢
 clear hr HF hent
 go_enter Tryd.func79, Tryd.ntmps79
 go_wp2_with (go_at_call 97; refine (HI.out).mono ?_; rintro e w2 ⟨rfl, hb⟩; have HB2 := Hi hb; clear hb)
 go_ret
 exact ⟨by rw [← HA.out]; simp, HB2.out⟩
theorem idx_lists (g off n c B : Nat) (X : List (Sl × List ByteArray)) (p : Sl × List ByteArray → Bool) (F : FuncId) (w : World) (hn : n ≤ 4611686018427387904) (hB : B ≤ w.heap.size) (hg : g < w.heap.size) (hX : ListsAt w B g off n X) (hent : ∀ (args : Array Value) (W : World), (callFunc F args).run Tryd.prog W = .ok (.enter F args) W)
 (HF : ∀ x ∈ X, ∀ W, Below w.heap.size w W → Calls Tryd.prog F #[.slice x.1.A x.1.n x.1.c] W fun e w' => e = .returned (.bool (p x)) ∧ Below W.heap.size W w') :
 Calls Tryd.prog 94 #[.slice (some ⟨g, off, none⟩) n c, .func (.func F) #[] #[]] w fun e w' => e = .returned (.int .i64 (idxP p X)) ∧ Below w.heap.size w w' := by
 have HX := Hi hX
 have HFF := Hi HF
 have HENT := Hi hent
 clear hX HF hent
 go_enter Tryd.func94, Tryd.ntmps94
 go_wp2
 go_loopw [8] (fun k' wr => ∃ k : Nat, k ≤ n ∧ k' = .int .i64 k ∧ Hid (∀ z (h : z < X.length), z < k → p X[z] = false) ∧ Hid (Below w.heap.size w wr)) (fun k' _ => n - (intOf k').toNat)
 case atStart => exact ⟨0, Nat.zero_le _, rfl, (by intro z _ hz; omega), Below.refl _ _⟩
 case round =>
  obtain ⟨k, hk, rfl, HP, HB0⟩ := hrel
  by_cases hlt : k < n
  · have hkl : k < X.length := by rw [HX.out.len]; exact hlt
    have x1 := (HX.out.below HB0.out hB hg).cell k hkl
    have hf := HFF.out X[k] (List.getElem_mem hkl) wr HB0.out
    have hat := fun h => idxP_at (p := p) (L := X) hkl HP.out h
    have hno : p X[k] = false → ∀ z (h : z < X.length), z < k + 1 → p X[z] = false := fun h z hz hzk => by
     rcases (by omega : z < k ∨ z = k) with h1 | rfl
     · exact HP.out z hz h1
     · exact h
    obtain ⟨qa, hqa⟩ : ∃ a, a = X[k] := ⟨_, rfl⟩
    rw [← hqa] at x1 hf hat hno
    unfold Sl.v at x1
    obtain ⟨pb, hpb⟩ : ∃ b, b = p qa := ⟨_, rfl⟩
    rw [← hpb] at hf hat hno
    have HC := Hi hf
    have hent := HENT.out
    clear hqa hpb hf hkl
    cases pb
    · have HNO := Hi (hno rfl)
      clear hat hno HP
      go_wp2_with (refine (HC.out).mono ?_; rintro e w2 ⟨rfl, hb⟩; have HB2 := Hi (HB0.out.trans (hb.mono HB0.out.size)); clear hb)
      go_roundw
      case rel => exact ⟨k + 1, by omega, by go_num, HNO.out, HB2.out⟩
      case measure => simp [intOf]; omega
    · have HAT := Hi (hat rfl)
      clear hat hno HP
      go_wp2_with (refine (HC.out).mono ?_; rintro e w2 ⟨rfl, hb⟩; have HB2 := Hi (HB0.out.trans (hb.mono HB0.out.size)); clear hb)
      go_ret
      exact ⟨by rw [HAT.out]; rfl, HB2.out⟩
  · have HNO : Hid (idxP p X = -1) := idxP_no fun z hz => HP.out z hz (by rw [HX.out.len] at hz; omega)
    clear HP
    go_wp2
    go_ret
    exact ⟨by rw [HNO.out]; rfl, HB0.out⟩
theorem has_lists (g off n c B : Nat) (X : List (Sl × List ByteArray)) (p : Sl × List ByteArray → Bool) (F : FuncId) (w : World) (hn : n ≤ 4611686018427387904) (hB : B ≤ w.heap.size) (hg : g < w.heap.size) (hX : ListsAt w B g off n X) (hent : ∀ (args : Array Value) (W : World), (callFunc F args).run Tryd.prog W = .ok (.enter F args) W)
 (HF : ∀ x ∈ X, ∀ W, Below w.heap.size w W → Calls Tryd.prog F #[.slice x.1.A x.1.n x.1.c] W fun e w' => e = .returned (.bool (p x)) ∧ Below W.heap.size W w') :
 Calls Tryd.prog 71 #[.slice (some ⟨g, off, none⟩) n c, .func (.func F) #[] #[]] w fun e w' => e = .returned (.bool (X.any p)) ∧ Below w.heap.size w w' := by
 have HI := Hi (idx_lists g off n c B X p F w hn hB hg hX hent HF)
 have HA := Hi (idxP_any p X)
 generalize idxP p X = q at HI HA
 generalize X.any p = r at HA ⊢
 clear hX HF hent
 go_enter Tryd.func71, Tryd.ntmps71
 go_wp2_with (go_at_call 94; refine (HI.out).mono ?_; rintro e w2 ⟨rfl, hb⟩; have HB2 := Hi hb; clear hb)
 go_ret
 exact ⟨by rw [← HA.out]; simp, HB2.out⟩

def Grew (w : World) (e : Ending) (w' : World) : Prop := ∃ A c, e = .returned (.slice A 0 c) ∧ w'.ownsRow w.heap.size 9 1 (.slice A 0 c) 0 [] ∧ Below w.heap.size w w'
theorem zeroCells_size1 (n : Nat) : (Builtin.zeroCells (Value.string .empty).cells n).size = n := by simp [Builtin.zeroCells, Value.cells]
theorem growS_any (n : Nat) (hn : n * 16 ≤ 140737488355328) (w : World) : Calls Tryd.prog 93 #[.slice none 0 0, .int .i64 (n : Int)] w (Grew w) := by
 obtain ⟨i0, hi0, hz0, hz1, hz2⟩ := info_parts strO_info
 rcases Nat.eq_zero_or_pos n with h0 | h0
 · subst h0
   go_enter Tryd.func93, Tryd.ntmps93
   go_wp2
   go_ret
   exact ⟨none, 0, rfl, World.ownsRow_nil _ _ _ _, Below.refl _ _⟩
 · have hrz : ∀ ty, (Builtin.append_ #[24, 3] ty #[.slice none 0 0, .int .i64 (n : Int)]).run Tryd.prog w = .ok (.slice (some ⟨w.heap.size, 0, none⟩) n (grownCap w n 0 9)) (w.drew.alloc (.cells (([] : List Value).toArray ++ Builtin.zeroCells (Value.string .empty).cells n ++ Builtin.zeroCells (Value.string .empty).cells (grownCap w n 0 9 - n)) 9)) := fun ty => by
    have h := Lib.run_append_grow_zeros w 24 3 ty 9 i0 (.string .empty) .i64 .i64 zU24 zU3 hi0 hz0 none 0 0 [] (run_firstCells_none w.drew i0.size 0 0 0) n h0 (by omega) (by omega) (by omega) (by rw [hz2]; omega) (by rw [hz2, Nat.zero_add]; exact growslice_fits h0 hn)
    rw [Nat.zero_add] at h
    exact h
   have hGn : n ≤ grownCap w n 0 9 := grownCap_ge w _ _ _
   have hG63 := grownCap_le_maxLen w n 0 9 (by unfold maxLen; omega)
   obtain ⟨G, hG⟩ : ∃ G, G = grownCap w n 0 9 := ⟨_, rfl⟩
   rw [← hG] at hrz hGn hG63
   have HOW : Hid ((w.drew.alloc (.cells (([] : List Value).toArray ++ Builtin.zeroCells (Value.string .empty).cells n ++ Builtin.zeroCells (Value.string .empty).cells (G - n)) 9)).ownsRow w.heap.size 9 1 (.slice (some ⟨w.heap.size, 0, none⟩) 0 G) 0 []) := by
    refine World.ownsRow_made w.drew _ G zR hG63 ?_
    rw [Array.size_append, Array.size_append, zeroCells_size1, zeroCells_size1]
    simp
    omega
   have HB : Hid (Below w.heap.size w (w.drew.alloc (.cells (([] : List Value).toArray ++ Builtin.zeroCells (Value.string .empty).cells n ++ Builtin.zeroCells (Value.string .empty).cells (G - n)) 9))) := zT.drew.alloc zR _
   unfold maxLen at hG63
   generalize hcells : (([] : List Value).toArray ++ Builtin.zeroCells (Value.string .empty).cells n ++ Builtin.zeroCells (Value.string .empty).cells (G - n)) = cells at hrz HOW HB
   clear hG hcells hi0 hz0 hz1 hz2
   go_enter Tryd.func93, Tryd.ntmps93
   go_wp2_with (at_builtin; refine Lib.wpList_append_run _ rfl _ _ _ _ rfl _ _ rfl rfl _ _ (hrz _) ?_)
   go_ret
   exact ⟨_, G, rfl, HOW.out, HB.out⟩
theorem strCells_append (a b : List ByteArray) : strCells (a ++ b) = strCells a ++ strCells b := by simp [strCells]
def sumLen (X : List (Sl × List ByteArray)) : Nat := (X.map fun x => x.1.n).sum
def Concated (w : World) (L : List ByteArray) (e : Ending) (w' : World) : Prop := ∃ A c, e = .returned (.slice A L.length c) ∧ w'.ownsRow w.heap.size 9 1 (.slice A L.length c) L.length (strCells L) ∧ Below w.heap.size w w'
theorem sumLen_drop {X : List (Sl × List ByteArray)} {k : Nat} (h : k < X.length) : sumLen (X.drop k) = (X[k]).1.n + sumLen (X.drop (k + 1)) := by
 rw [List.drop_eq_getElem_cons h]
 unfold sumLen
 rw [List.map_cons, List.sum_cons]
theorem concat_any (g off n c B : Nat) (X : List (Sl × List ByteArray)) (w : World) (hn : n ≤ 1000) (hB : B ≤ w.heap.size) (hg : g < w.heap.size) (hX : ListsAt w B g off n X) (hs : sumLen X * 16 ≤ 140737488355328) :
 Calls Tryd.prog 70 #[.slice (some ⟨g, off, none⟩) n c] w (Concated w (X.flatMap Prod.snd)) := by
 obtain ⟨i0, hi0, hz0, hzi1, hzi2⟩ := info_parts strO_info
 have HX := Hi hX
 have hsb : sumLen X ≤ 8796093022208 := by omega
 have HS := Hi hs
 clear hX hs
 go_enter Tryd.func70, Tryd.ntmps70
 go_wp2
 go_loop [3, 11] (fun v3 vi => ∃ (k m : Nat), k ≤ n ∧ m ≤ 8796093022208 ∧ v3 = .int .i64 (m : Int) ∧ vi = .int .i64 (k : Int) ∧ Hid (sumLen X = m + sumLen (X.drop k))) (fun _ vi => n - (intOf vi).toNat)
 case atStart => exact ⟨0, 0, by omega, by omega, by go_num, by go_num, (by unfold Hid; simp)⟩
 case round =>
  obtain ⟨k, m, hk, hm, rfl, rfl, HK⟩ := hrel
  by_cases hlt : k < n
  · have hkl : k < X.length := by rw [HX.out.len]; exact hlt
    have x1 := HX.out.cell k hkl
    have hd := sumLen_drop hkl
    obtain ⟨⟨⟨A1, n1, c1⟩, L1⟩, e1⟩ : ∃ q, q = X[k] := ⟨_, rfl⟩
    rw [← e1] at x1 hd
    unfold Sl.v at x1
    dsimp only at x1 hd
    have hk' := HK.out
    rw [hd] at hk'
    have hb1 : m + n1 ≤ 8796093022208 := by omega
    have HK2 : Hid (sumLen X = (m + n1) + sumLen (X.drop (k + 1))) := by unfold Hid; omega
    clear hkl e1 hd hk' HK
    go_wp2
    go_round
    case rel => exact ⟨k + 1, m + n1, by omega, by omega, by go_num, by go_num, HK2⟩
    case measure => simp [intOf]; omega
  · obtain rfl : k = n := by omega
    have HM : Hid (sumLen X = m) := by
     have h := HK.out
     rw [List.drop_eq_nil_of_le (by rw [HX.out.len]; exact Nat.le_refl _)] at h
     unfold Hid
     simpa [sumLen] using h
    have HGR := Hi (growS_any m (by have := HM.out; have := HS.out; omega) w)
    have HGE := HGR
    clear HK hlt
    go_wp2_with (go_at_call 93
                 refine (HGR.out).mono ?_
                 rintro e w1 ⟨A0, c0, rfl, ho, hb⟩
                 have HO := Hi ho
                 have HB1 := Hi hb
                 clear ho hb)
    go_loopw [6, 27] (fun v6 vi wr => ∃ (j m' : Nat) (A' : Option Addr) (c' : Nat), j ≤ k ∧ m' ≤ 8796093022208 ∧ v6 = .slice A' m' c' ∧ vi = .int .i64 (j : Int) ∧ Hid (wr.ownsRow w.heap.size 9 1 (.slice A' m' c') m' (strCells ((X.take j).flatMap Prod.snd))) ∧ Hid (m' = ((X.take j).flatMap Prod.snd).length) ∧ Hid (m' + sumLen (X.drop j) = sumLen X) ∧ Hid (Below w.heap.size w wr)) (fun _ vi _ => k - (intOf vi).toNat)
    case atStart => exact ⟨0, 0, A0, c0, by omega, by omega, rfl, by go_num, (by unfold Hid; simpa [strCells] using HO.out), (by unfold Hid; simp), (by unfold Hid; simp), HB1.out⟩
    case round =>
     clear HO HB1
     obtain ⟨j, m', A', c', hj, hm', rfl, rfl, HO, HML, HSM, HB1⟩ := hrel
     by_cases hlt : j < k
     · have hkl : j < X.length := by rw [HX.out.len]; exact hlt
       have x1 := (HX.out.below HB1.out hB hg).cell j hkl
       have hrd := (HX.out.below HB1.out hB hg).reads j hkl
       have hd := sumLen_drop hkl
       have htk : X.take (j + 1) = X.take j ++ [X[j]] := List.take_succ_eq_append_getElem hkl
       obtain ⟨⟨⟨A1, n1, c1⟩, L1⟩, e1⟩ : ∃ q, q = X[j] := ⟨_, rfl⟩
       rw [← e1] at x1 hd hrd htk
       unfold Sl.v at x1
       dsimp only at x1 hd hrd
       have hl1 : L1.length = n1 := by have := hrd.1; rw [strCells_length] at this; omega
       have hk' := HSM.out
       rw [hd] at hk'
       have hb1 : m' + n1 ≤ 8796093022208 := by omega
       have hb2 : (m' + n1) * 16 ≤ 140737488355328 := by omega
       have HSM2 : Hid ((m' + n1) + sumLen (X.drop (j + 1)) = sumLen X) := by unfold Hid; omega
       have hfl : (X.take (j + 1)).flatMap Prod.snd = (X.take j).flatMap Prod.snd ++ L1 := by rw [htk]; simp
       have HFL := Hi hfl
       have HRD := Hi hrd
       have HL1 := Hi hl1
       clear hkl e1 hd hk' hrd htk hl1 hfl HSM
       go_wp2_with (at_builtin
                    refine wpList_append_any _ rfl (.tmp 31) (.tmp 32) _ rfl w.heap.size 9 i0 _ 1 16 zU24 hi0 hz0 hzi1 hzi2 rfl (by decide) (.slice A' m' c') m' (strCells ((X.take j).flatMap Prod.snd)) rfl HO.out B A1 n1 c1 (strCells L1) rfl HRD.out (strCells_one _) (by unfold maxLen; omega) hb2 HB1.out.size ?_
                    intro v4 w4 hown4 hg4 hat4
                    obtain ⟨A4, c4, rfl⟩ := slice_form hown4
                    have HO4 : Hid (w4.ownsRow w.heap.size 9 1 (.slice A4 (m' + n1) c4) (m' + n1) (strCells ((X.take (j + 1)).flatMap Prod.snd))) := (by unfold Hid; rw [HFL.out, strCells_append]; exact hown4)
                    have HB4 : Hid (Below w.heap.size w w4) := HB1.out.grown hg4 HB1.out.size (fun q hq => (HO.out.lt q hq).1)
                    clear hown4 hg4 hat4)
       go_roundw
       case rel => exact ⟨j + 1, m' + n1, A4, c4, by omega, by omega, by first | rfl | go_num, by go_num, HO4.out, (by unfold Hid; rw [HFL.out, zG, ← HML.out, HL1.out]), HSM2.out, HB4.out⟩
       case measure => simp [intOf]; omega
     · obtain rfl : j = k := by omega
       have HF : Hid ((X.take j).flatMap Prod.snd = X.flatMap Prod.snd) := by unfold Hid; rw [List.take_of_length_le (by rw [HX.out.len]; exact Nat.le_refl _)]
       clear hlt HSM
       go_wp2
       go_ret
       refine ⟨A', c', by rw [← HF.out, ← HML.out]; rfl, ?_, HB1.out⟩
       have := HO.out
       rw [HF.out] at this
       have h2 := HML.out
       rw [HF.out] at h2
       rw [← h2]
       exact this

structure Kp (X : List Nat) (w w' : World) : Prop where
 os : w'.os = w.os
 tape : w'.tape = w.tape
 output : w'.output = w.output
 size : w.heap.size ≤ w'.heap.size
 block : ∀ k, k < w.heap.size → k ∉ X → w'.heap[k]? = w.heap[k]?

section
variable {X Y Z : List Nat} {w w' w1 w2 : World}
theorem Kp.refl (X : List Nat) (w : World) : Kp X w w := ⟨rfl, rfl, rfl, Nat.le_refl _, fun _ _ _ => rfl⟩
theorem Kp.to (h1 : Kp X w w1) (h2 : Kp Y w1 w2) (hX : ∀ x ∈ X, x < w.heap.size → x ∈ Z) (hY : ∀ y ∈ Y, y < w.heap.size → y ∈ Z) : Kp Z w w2 :=
 ⟨h2.os.trans h1.os, h2.tape.trans h1.tape, h2.output.trans h1.output, Nat.le_trans h1.size h2.size, fun k hk hn =>
   (h2.block k (Nat.lt_of_lt_of_le hk h1.size) (fun hy => hn (hY k hy hk))).trans (h1.block k hk (fun hx => hn (hX k hx hk)))⟩
theorem Kp.trans (h1 : Kp X w w1) (h2 : Kp X w1 w2) : Kp X w w2 := h1.to h2 (fun _ h _ => h) (fun _ h _ => h)
theorem Kp.mono (h : Kp X w w1) (hX : ∀ x ∈ X, x < w.heap.size → x ∈ Z) : Kp Z w w1 := h.to (Kp.refl [] _) hX (fun _ h => by cases h)
theorem Kp.of_below (h : Below w.heap.size w w') : Kp X w w' := ⟨h.os, h.tape, h.output, h.size, fun k hk _ => h.block k hk⟩
theorem Kp.below (h : Kp X w w') {B : Nat} (hB : ∀ x ∈ X, B ≤ x) (hw : B ≤ w.heap.size) : Below B w w' := ⟨h.os, h.tape, h.output, h.size, fun k hk => h.block k (by omega) (fun hx => by have := hB k hx; omega)⟩
theorem Kp.of_grown {row : Option Nat} (h : w.grownBy w' row) : Kp row.toList w w' := ⟨h.os, h.tape, h.output, h.size, fun k hk hn => h.block k hk (fun e => hn (by rw [← e]; simp))⟩
theorem Kp.drew : Kp X w w.drew := ⟨rfl, rfl, rfl, Nat.le_refl _, fun _ _ _ => rfl⟩
theorem Kp.drewN (n : Nat) : Kp X w (w.drewN n) := ⟨rfl, rfl, rfl, Nat.le_refl _, fun _ _ _ => rfl⟩
theorem Kp.alloc (o : Obj) : Kp X w (w.alloc o) := .of_below (zT.alloc zR _)
theorem Kp.setCell (p : Addr) (u : Value) : Kp [p.block] w (w.setCell p u) := ⟨rfl, rfl, rfl, by simp [World.setCell], fun k _ hn => Below.heap_setCell w p u k (fun e => hn (by simp [e]))⟩
theorem Kp.setRow (g : Nat) (cs : Array Value) : Kp [g] w (w.setRow g cs) := ⟨rfl, rfl, rfl, by simp [World.setRow], fun k _ hn => setRow_other w g k cs (fun e => hn (by simp [e]))⟩
theorem Kp.cell (h : Kp X w w') {p : Addr} (hl : p.block < w.heap.size) (hp : p.block ∉ X) : w'.cell? p = w.cell? p := World.cell?_of_block (h.block _ hl hp)
theorem Blk.kp {g : Nat} {t : TypeId} {cs : Array Value} (h : Blk w g t cs) (hk : Kp X w w') (hg : g ∉ X) : Blk w' g t cs := (hk.block g h.lt hg).trans h
theorem Reads.kp {B size n : Nat} {A : Option Addr} {xs : List Value} (h : Reads w B size A n xs) (hk : Kp X w w') (hB : B ≤ w.heap.size) (hX : ∀ x ∈ X, B ≤ x) : Reads w' B size A n xs := h.below (hk.below hX hB)
theorem Reads.kp' {B size n : Nat} {A : Option Addr} {xs : List Value} (h : Reads w B size A n xs) (hk : Kp X w w') (hB : B ≤ w.heap.size) (hX : ∀ ad, A = some ad → ad.block ∉ X) : Reads w' B size A n xs :=
 ⟨h.1, fun hn => by
   obtain ⟨ad, e, hb, hc⟩ := h.2 hn
   refine ⟨ad, e, hb, fun j u hu => ?_⟩
   rw [hk.cell (by rw [block_of_add]; omega) (by rw [block_of_add]; exact hX ad e)]
   exact hc j u hu⟩
theorem own_kp {base size n : Nat} {e : TypeId} {v : Value} {xs : List Value} (h : w.ownsRow base e size v n xs) (hk : Kp X w w') (hX : ∀ x ∈ X, v.ownBlock ≠ some x) : w'.ownsRow base e size v n xs := by
 refine ⟨h.1, ?_⟩
 rcases h.2 with hn | ⟨g, cap, cur, rfl, hb, hgg, rest⟩
 · exact .inl hn
 · refine .inr ⟨g, cap, cur, rfl, hb, ?_, rest⟩
   rw [hk.block g (Array.getElem?_eq_some_iff.1 hgg).1 (fun hx => hX g hx rfl)]
   exact hgg
end

theorem bsize_eq (s : ByteArray) : s.size = s.data.toList.length := by cases s; simp [ByteArray.size]
def beBytes : Nat → Nat → List UInt8
 | _, 0 => []
 | n, k + 1 => UInt8.ofNat (n / 256 ^ k) :: beBytes n k
theorem beBytes_length (n k : Nat) : (beBytes n k).length = k := by
 induction k with
 | zero => rfl
 | succ k ih => simp [beBytes, ih]
def beNum (l : List UInt8) : Nat := l.foldl (fun n b => n * 256 + b.toNat) 0
theorem beNum_snoc (l : List UInt8) (b : UInt8) : beNum (l ++ [b]) = beNum l * 256 + b.toNat := by simp [beNum]
theorem beNum_lt (l : List UInt8) : beNum l < 256 ^ l.length := by
 suffices h : ∀ (l : List UInt8) (n m : Nat), n < m → l.foldl (fun n b => n * 256 + b.toNat) n < m * 256 ^ l.length by
  have := h l 0 1 (by omega)
  simpa [beNum] using this
 intro l
 induction l with
 | nil => intro n m h; simpa using h
 | cons b l ih =>
   intro n m h
   have hb : b.toNat < 256 := b.toNat_lt
   have := ih (n * 256 + b.toNat) (m * 256) (by omega)
   simp only [List.foldl_cons, zM]
   calc _ < m * 256 * 256 ^ l.length := this
    _ = m * 256 ^ (l.length + 1) := by rw [Nat.pow_succ, Nat.mul_assoc, Nat.mul_comm 256]

theorem u8_info : (Tryd.prog.info? 5).map (fun i => (i.zero, i.size, i.bytes)) = some (some (.int .u8 0), 1, 1) := by kernel_rfl

def Wr (w : World) (base g : Nat) (v : Value) (l : List UInt8) : Prop := Blk w g 55 #[v] ∧ w.ownsRow base 5 1 v l.length (bcells l)

def Wrote (base g : Nat) (v v' : Value) (l k : List UInt8) (w w' : World) : Prop :=
 Wr w' base g v' (l ++ k) ∧ Kp (g :: v.ownBlock.toList) w w' ∧ (v'.ownBlock = v.ownBlock ∨ ∃ x, v'.ownBlock = some x ∧ w.heap.size ≤ x)

section
variable {w w1 w2 w' : World} {base g : Nat} {v v1 v2 : Value} {l k m : List UInt8}
theorem Wr.lt (h : Wr w base g v l) : g < w.heap.size := h.1.lt
theorem Wr.kp {X : List Nat} (h : Wr w base g v l) (hk : Kp X w w') (hg : g ∉ X) (hX : ∀ x ∈ X, v.ownBlock ≠ some x) : Wr w' base g v l := ⟨h.1.kp hk hg, own_kp h.2 hk hX⟩
theorem Wr.later (h : Wr w base g v l) (hb : Below w.heap.size w w') : Wr w' base g v l := ⟨h.1.below hb h.1.lt, own_kp h.2 (Kp.of_below (X := []) hb) (fun _ h => by cases h)⟩
theorem Wrote.start (h : Wr w base g v l) : Wrote base g v v l [] w w := ⟨by simpa using h, Kp.refl _ _, .inl rfl⟩
theorem Wrote.later (h : Wrote base g v v1 l k w w1) (hb : Below w1.heap.size w1 w') : Wrote base g v v1 l k w w' :=
 ⟨h.1.later hb, h.2.1.to (Kp.of_below (X := []) hb) (fun _ hx _ => hx) (fun _ h => by cases h), h.2.2⟩
theorem Wrote.size (h : Wrote base g v v1 l k w w') : w.heap.size ≤ w'.heap.size := h.2.1.size
theorem Wrote.cat (h : Wrote base g v v1 l k w w1) (hb : Below w1.heap.size w1 w2) (h2 : Wrote base g v1 v2 (l ++ k) m w2 w') : Wrote base g v v2 l (k ++ m) w w' := by
 obtain ⟨hw1, hk1, ho1⟩ := h.later hb
 obtain ⟨hw2, hk2, ho2⟩ := h2
 refine ⟨by rw [← zL]; exact hw2, hk1.to hk2 (fun x hx _ => hx) (fun y hy hl => ?_), ?_⟩
 · rcases zH.1 hy with rfl | hy
   · simp
   · rcases ho1 with e | ⟨x, e, hx⟩
     · rw [e] at hy; exact List.mem_cons_of_mem _ hy
     · rw [e] at hy; simp at hy; omega
 · rcases ho2 with e | ⟨x, e, hx⟩
   · rcases ho1 with e1 | ⟨y, e1, hy⟩
     · exact .inl (e.trans e1)
     · exact .inr ⟨y, e.trans e1, hy⟩
   · exact .inr ⟨x, e, Nat.le_trans hk1.size hx⟩
theorem Wrote.from (h : Wrote base g v v1 l k w1 w') (hb : Below w.heap.size w w1) : Wrote base g v v1 l k w w' := by
 obtain ⟨h1, h2, h3⟩ := h
 refine ⟨h1, (Kp.of_below (X := []) hb).to h2 (fun _ h => by cases h) (fun y hy _ => hy), ?_⟩
 rcases h3 with e | ⟨x, e, hx⟩
 · exact .inl e
 · exact .inr ⟨x, e, Nat.le_trans hb.size hx⟩
theorem Wrote.below {B : Nat} (h : Wrote base g v v1 l k w w') (hg : B ≤ g) (hv : ∀ x, v.ownBlock = some x → B ≤ x) (hw : B ≤ w.heap.size) : Below B w w' :=
 h.2.1.below (fun x hx => by
  rcases zH.1 hx with rfl | hx
  · exact hg
  · exact hv x (by simpa using hx)) hw
end

theorem put_any (base g : Nat) (v : Value) (l k : List UInt8) (A : Option Addr) (m c B : Nat) (w : World) (h : Wr w base g v l) (hr : Reads w B 1 A m (bcells k)) (hbase : base ≤ w.heap.size) (hsz : l.length + k.length ≤ 140737488355328) :
 Calls Tryd.prog 64 #[.pointer (some ⟨g, 0, none⟩), .slice A m c] w fun e w' => e = .returned (.tuple #[]) ∧ ∃ v', Wrote base g v v' l k w w' := by
 obtain ⟨i0, hi0, hz0, hz1, hz2⟩ := info_parts u8_info
 have hm : k.length = m := by have := hr.1; rw [bcells_length] at this; omega
 subst hm
 have HR := Hi hr
 obtain ⟨hb, ho⟩ := h
 have hc := hb.cell 0
 simp only [List.getElem?_toArray, List.getElem?_cons_zero] at hc
 have hf := hb.frozen 0
 have HB := Hi hb
 have HO := Hi ho
 clear hr hb ho
 go_enter Tryd.func64, Tryd.ntmps64
 go_wp2_with (at_builtin; refine wpList_append_any _ rfl (.tmp 10) (.tmp 11) _ rfl base 5 i0 _ 1 1 zU22 hi0 hz0 hz1 hz2 rfl (by decide) v l.length (bcells l) rfl HO.out B A k.length c (bcells k) rfl HR.out (bcells_one _) (by simp only [maxLen]; omega) (by omega) hbase ?_; intro v1 w1 hown1 hg1 hat1; obtain ⟨A1, c1, rfl⟩ := slice_form hown1; have hne : v.ownBlock ≠ some g := own_blk_ne HO.out HB.out (by decide); have hb1 : Blk w1 g 55 #[v] := HB.out.grown hg1 (fun e => hne e.symm); have hc1 := hb1.cell 0; have hf1 := hb1.frozen 0; simp only [List.getElem?_toArray, List.getElem?_cons_zero] at hc1; have HB1 := Hi hb1; have HO1 := Hi hown1; have HG1 := Hi hg1; have HA1 := Hi hat1; clear hb1 hown1 hg1 hat1 hc hf)
 go_end0
 refine ⟨rfl, .slice A1 (l.length + k.length) c1, ⟨?_, ?_⟩, ?_, ?_⟩
 · exact HB1.out.set_ 0 _
 · rw [bcells_append, zG]
   exact own_set HO1.out HB1.out (by decide) 0 _
 · exact (Kp.of_grown HG1.out).to (Kp.setCell _ _) (fun x hx _ => List.mem_cons_of_mem _ hx) (fun y hy _ => by simp at hy; simp [hy])
 · rcases HA1.out with e | e
   · exact .inl e
   · exact .inr ⟨_, e, Nat.le_refl _⟩

theorem reads_lit (w : World) (t : TypeId) (xs : List Value) : Reads (w.alloc (.cells xs.toArray t)) (w.heap.size + 1) 1 (some ⟨w.heap.size, 0, none⟩) xs.length xs :=
 ⟨by simp, fun _ => ⟨_, rfl, Nat.lt_succ_self _, fun j u hu => by
   have h := (Blk.new w t xs.toArray).cell j
   rw [zN, Nat.zero_add, h]
   simpa using hu⟩⟩

theorem byte_cell (n j : Nat) : bcells [UInt8.ofNat (n / 256 ^ j)] = [.int .u8 ((n : Int) / 2 ^ (8 * j) % 256)] := by
 have e : (UInt8.ofNat (n / 256 ^ j)).toNat = n / 2 ^ (8 * j) % 256 := by
  rw [UInt8.toNat_ofNat', show (256 : Nat) = 2 ^ 8 from rfl, ← Nat.pow_mul]
 simp only [bcells, List.map_cons, List.map_nil, e]
 congr 2

theorem wnumber_any (base g : Nat) (v : Value) (l : List UInt8) (n k : Nat) (w : World) (h : Wr w base g v l) (hn : n < 18446744073709551616) (hk : k ≤ 8) (hbase : base ≤ w.heap.size) (hsz : l.length + 8 ≤ 140737488355328) :
 Calls Tryd.prog 42 #[.pointer (some ⟨g, 0, none⟩), .int .u64 n, .int .i64 k] w fun e w' => e = .returned (.tuple #[]) ∧ ∃ v', Wrote base g v v' l (beBytes n k) w w' := by
 have H0 := Hi h
 clear h
 go_enter Tryd.func42, Tryd.ntmps42
 go_wp2
 go_loopw [6] (fun i wr => ∃ (j : Nat) (d : List UInt8) (v1 : Value), j ≤ k ∧ i = .int .i64 ((j : Int) - 1) ∧ Hid (d ++ beBytes n j = beBytes n k) ∧ Wrote base g v v1 l d w wr) (fun i _ => (intOf i + 1).toNat)
 case atStart => exact ⟨k, [], v, Nat.le_refl _, rfl, rfl, Wrote.start H0.out⟩
 case round =>
  obtain ⟨j, d, v1, hj, rfl, HD, hW⟩ := hrel
  by_cases hlt : 0 < j
  · obtain ⟨j, rfl⟩ : ∃ j', j = j' + 1 := ⟨j - 1, by omega⟩
    have hl : (l ++ d).length + 1 ≤ 140737488355328 := by
     have h1 := congrArg List.length HD.out
     rw [zG, beBytes_length, beBytes_length] at h1
     rw [zG]; omega
    have hsz1 := hW.size
    have HW := Hi hW
    have HC : Hid (bcells [UInt8.ofNat (n / 256 ^ j)] = [.int .u8 ((n : Int) / 2 ^ (8 * j) % 256)]) := byte_cell n j
    clear hW
    go_wp2_with (go_at_call 64; refine (put_any base g v1 (l ++ d) [UInt8.ofNat (n / 256 ^ j)] _ 1 1 (wr.heap.size + 1) _ (HW.out.1.later (by go_grown)) (by rw [HC.out]; exact reads_lit wr 5 [_]) (by simp; omega) (by simpa using hl)).mono ?_; rintro e w2 ⟨rfl, v2, hp⟩; have HP := Hi (HW.out.cat (by go_grown) hp); clear hp)
    go_roundw
    case rel => exact ⟨j, d ++ [UInt8.ofNat (n / 256 ^ j)], v2, by omega, by go_num, by show _ = _; rw [← HD.out]; simp [beBytes], HP.out⟩
    case measure => simp [intOf]
  · obtain rfl : j = 0 := by omega
    have HW := Hi hW
    clear hW
    go_wp2
    go_end0
    have e := HD.out
    simp only [beBytes, List.append_nil] at e
    exact ⟨rfl, v1, e ▸ HW.out⟩

def u32N (z : Int) : Nat := (z % 4294967296).toNat
def u64N (z : Int) : Nat := (IntKind.u64.wrap z).toNat
theorem u64_wrap_bd (z : Int) : 0 ≤ IntKind.u64.wrap z ∧ IntKind.u64.wrap z < 18446744073709551616 := by rw [IntKind.wrap_u64]; omega
theorem u32N_cast (z : Int) : ((u32N z : Nat) : Int) = z % 4294967296 := by unfold u32N; omega
theorem u64N_cast (z : Int) : ((u64N z : Nat) : Int) = z % 18446744073709551616 := by unfold u64N; rw [IntKind.wrap_u64]; omega
def bInt (z : Int) : List UInt8 := beBytes (u32N z) 4
def bLong (z : Int) : List UInt8 := beBytes (u64N z) 8
def bBool (b : Bool) : List UInt8 := [if b then 1 else 0]
theorem bInt_len (z : Int) : (bInt z).length = 4 := beBytes_length _ _
theorem bLong_len (z : Int) : (bLong z).length = 8 := beBytes_length _ _
def bBuf (l : List UInt8) : List UInt8 := bInt l.length ++ l
theorem bBuf_len (l : List UInt8) : (bBuf l).length = 4 + l.length := by simp [bBuf, bInt_len]

theorem bInt_wrap (z : Int) : bInt (wrap32 (IntKind.u64.wrap z % 4294967296)) = bInt z := by
 have e : u32N (wrap32 (IntKind.u64.wrap z % 4294967296)) = u32N z := by
  unfold u32N wrap32
  rw [IntKind.wrap_u64]
  omega
 unfold bInt
 rw [e]

theorem wBool_any (base g : Nat) (v : Value) (l : List UInt8) (b : Bool) (w : World) (h : Wr w base g v l) (hbase : base ≤ w.heap.size) (hsz : l.length + 8 ≤ 140737488355328) :
 Calls Tryd.prog 47 #[.pointer (some ⟨g, 0, none⟩), .bool b] w fun e w' => e = .returned (.tuple #[]) ∧ ∃ v', Wrote base g v v' l (bBool b) w w' := by
 have H0 := Hi h
 clear h
 cases b
 · go_enter Tryd.func47, Tryd.ntmps47
   go_wp2_with (go_at_call 64; refine (put_any base g v l (bBool false) _ 1 1 (w.heap.size + 1) _ (H0.out.later (by go_grown)) (reads_lit w 5 [_]) (by simp; omega) (by simp [bBool]; omega)).mono ?_; rintro e w2 ⟨rfl, v2, hp⟩; have HP := Hi (hp.from (w := w) (by go_grown)); clear hp)
   go_end0
   exact ⟨rfl, v2, HP.out⟩
 · go_enter Tryd.func47, Tryd.ntmps47
   go_wp2_with (go_at_call 64; refine (put_any base g v l (bBool true) _ 1 1 (w.heap.size + 1) _ (H0.out.later (by go_grown)) (reads_lit w 5 [_]) (by simp; omega) (by simp [bBool]; omega)).mono ?_; rintro e w2 ⟨rfl, v2, hp⟩; have HP := Hi (hp.from (w := w) (by go_grown)); clear hp)
   refine bodyPost_ret (results_none rfl _ _ _) rfl ?_
   exact ⟨rfl, v2, HP.out⟩

theorem wnumber4 (base g : Nat) (v : Value) (l : List UInt8) (z : Int) (h0 : 0 ≤ z) (h1 : z < 18446744073709551616) (w : World) (h : Wr w base g v l) (hbase : base ≤ w.heap.size) (hsz : l.length + 8 ≤ 140737488355328) :
 Calls Tryd.prog 42 #[.pointer (some ⟨g, 0, none⟩), .int .u64 z, .int .i64 4] w fun e w' => e = .returned (.tuple #[]) ∧ ∃ v', Wrote base g v v' l (beBytes z.toNat 4) w w' := by
 obtain ⟨n, rfl⟩ := Int.eq_ofNat_of_zero_le h0
 exact wnumber_any base g v l n 4 w h (by omega) (by omega) hbase hsz
theorem wnumber8 (base g : Nat) (v : Value) (l : List UInt8) (z : Int) (h0 : 0 ≤ z) (h1 : z < 18446744073709551616) (w : World) (h : Wr w base g v l) (hbase : base ≤ w.heap.size) (hsz : l.length + 8 ≤ 140737488355328) :
 Calls Tryd.prog 42 #[.pointer (some ⟨g, 0, none⟩), .int .u64 z, .int .i64 8] w fun e w' => e = .returned (.tuple #[]) ∧ ∃ v', Wrote base g v v' l (beBytes z.toNat 8) w w' := by
 obtain ⟨n, rfl⟩ := Int.eq_ofNat_of_zero_le h0
 exact wnumber_any base g v l n 8 w h (by omega) (by omega) hbase hsz

theorem wInt_any (base g : Nat) (v : Value) (l : List UInt8) (z : Int) (w : World) (h : Wr w base g v l) (hbase : base ≤ w.heap.size) (hsz : l.length + 8 ≤ 140737488355328) :
 Calls Tryd.prog 23 #[.pointer (some ⟨g, 0, none⟩), .int .i32 z] w fun e w' => e = .returned (.tuple #[]) ∧ ∃ v', Wrote base g v v' l (bInt z) w w' := by
 have H0 := Hi h
 clear h
 go_enter Tryd.func23, Tryd.ntmps23
 go_wp2_with (go_at_call 42; refine (wnumber4 base g v l _ (by omega) (by omega) _ H0.out hbase hsz).mono ?_; rintro e w2 ⟨rfl, v2, hp⟩; have HP := Hi hp; clear hp)
 go_end0
 exact ⟨rfl, v2, HP.out⟩

theorem wLong_any (base g : Nat) (v : Value) (l : List UInt8) (z : Int) (w : World) (h : Wr w base g v l) (hbase : base ≤ w.heap.size) (hsz : l.length + 8 ≤ 140737488355328) :
 Calls Tryd.prog 46 #[.pointer (some ⟨g, 0, none⟩), .int .i64 z] w fun e w' => e = .returned (.tuple #[]) ∧ ∃ v', Wrote base g v v' l (bLong z) w w' := by
 have H0 := Hi h
 clear h
 go_enter Tryd.func46, Tryd.ntmps46
 go_wp2_with (go_at_call 42; refine (wnumber8 base g v l _ (u64_wrap_bd z).1 (u64_wrap_bd z).2 _ H0.out hbase hsz).mono ?_; rintro e w2 ⟨rfl, v2, hp⟩; have HP := Hi hp; clear hp)
 go_end0
 exact ⟨rfl, v2, HP.out⟩

theorem wCount_any (base g : Nat) (v : Value) (l : List UInt8) (z : Int) (w : World) (h : Wr w base g v l) (hbase : base ≤ w.heap.size) (hsz : l.length + 8 ≤ 140737488355328) :
 Calls Tryd.prog 65 #[.pointer (some ⟨g, 0, none⟩), .int .i64 z] w fun e w' => e = .returned (.tuple #[]) ∧ ∃ v', Wrote base g v v' l (bInt z) w w' := by
 have HE := Hi (bInt_wrap z)
 have H0 := Hi h
 clear h
 go_enter Tryd.func65, Tryd.ntmps65
 go_wp2_with (go_at_call 23; refine (wInt_any base g v l _ _ H0.out hbase hsz).mono ?_; rintro e w2 ⟨rfl, v2, hp⟩; have HP := Hi (HE.out ▸ hp); clear hp)
 go_end0
 exact ⟨rfl, v2, HP.out⟩


theorem wBuffer_any (base g : Nat) (v : Value) (l k : List UInt8) (A : Option Addr) (m c B : Nat) (w : World) (h : Wr w base g v l) (hr : Reads w B 1 A m (bcells k)) (hB : B ≤ w.heap.size) (hsep : 0 < m → ∀ ad, A = some ad → ad.block ≠ g ∧ v.ownBlock ≠ some ad.block) (hbase : base ≤ w.heap.size) (hsz : l.length + k.length + 8 ≤ 140737488355328) :
 Calls Tryd.prog 44 #[.pointer (some ⟨g, 0, none⟩), .slice A m c] w fun e w' => e = .returned (.tuple #[]) ∧ ∃ v', Wrote base g v v' l (bBuf k) w w' := by
 have hm : k.length = m := by have := hr.1; rw [bcells_length] at this; omega
 subst hm
 have H0 := Hi h
 have HR := Hi hr
 have HS := Hi hsep
 clear h hr hsep
 go_enter Tryd.func44, Tryd.ntmps44
 go_wp2_with (first
  | (go_at_call 65; refine (wCount_any base g v l _ _ H0.out hbase (by omega)).mono ?_; rintro e w1 ⟨rfl, v1, hp⟩; have HP := Hi hp; clear hp)
  | (go_at_call 64
     have HR1 : Hid (Reads w1 B 1 A k.length (bcells k)) := ⟨HR.out.1, fun hn => (HR.out.kp' HP.out.2.1 hB (fun ad e hx => by
      rcases zH.1 hx with hx | hx
      · exact (HS.out hn ad e).1 hx
      · exact (HS.out hn ad e).2 (by simpa using hx))).2 hn⟩
     refine (put_any base g v1 _ k A k.length c B _ HP.out.1 HR1.out (Nat.le_trans hbase HP.out.size) (by rw [zG, bInt_len]; omega)).mono ?_; rintro e w2 ⟨rfl, v2, hq⟩; have HQ := Hi (HP.out.cat zT hq); clear hq))
 go_end0
 exact ⟨rfl, v2, HQ.out⟩

theorem conv_bytes (w : World) (s : ByteArray) : ∃ c w1, (convert 9 22 (.string s)).run Tryd.prog w = .ok (.slice (some ⟨w.heap.size, 0, none⟩) s.size c) w1 ∧ Reads w1 (w.heap.size + 1) 1 (some ⟨w.heap.size, 0, none⟩) s.size (bcells s.data.toList) ∧ Below w.heap.size w w1 ∧ w1.heap.size = w.heap.size + 1 := by
 have h := run_bytes_of_string (P := Tryd.prog) w 9 22 5 s zU9 zU22 zU5
 refine ⟨_, _, h, ⟨by rw [bcells_length, Nat.mul_one, bsize_eq], fun _ => ⟨_, rfl, Nat.lt_succ_self _, fun j u hu => ?_⟩⟩, zT.drew.alloc zR _, by simp⟩
 rw [zN, Nat.zero_add]
 unfold World.cell?
 have hh := heap_alloc_new w.drew (.cells (bytesRow s (grownCap w s.size 0 5)) 5 ((bytesRow s (grownCap w s.size 0 5)).size, (bytesRow s (grownCap w s.size 0 5)).size + 1))
 have hd : w.drew.heap.size = w.heap.size := rfl
 rw [hd] at hh
 rw [hh]
 have hl : j < (bcells s.data.toList).length := (List.getElem?_eq_some_iff.1 hu).1
 rw [bcells_length] at hl
 have e : (bytesRow s (grownCap w s.size 0 5))[j]? = (bcells s.data.toList)[j]? := by
  unfold bytesRow
  rw [Array.getElem?_append_left (by simpa using hl)]
  simp [bcells]
 simpa [e] using hu

theorem wText_any (base g : Nat) (v : Value) (l : List UInt8) (s : ByteArray) (w : World) (h : Wr w base g v l) (hbase : base ≤ w.heap.size) (hsz : l.length + s.size + 8 ≤ 140737488355328) :
 Calls Tryd.prog 43 #[.pointer (some ⟨g, 0, none⟩), .string s] w fun e w' => e = .returned (.tuple #[]) ∧ ∃ v', Wrote base g v v' l (bBuf s.data.toList) w w' := by
 obtain ⟨c, w1, hrun, hr, hb, hs⟩ := conv_bytes w s
 have H0 := Hi h
 have HR := Hi hr
 have HS : Hid (0 < s.size → ∀ ad, some (⟨w.heap.size, 0, none⟩ : Addr) = some ad → ad.block ≠ g ∧ v.ownBlock ≠ some ad.block) := fun _ ad e => by
  injection e with e
  subst e
  exact ⟨fun e => by have := h.lt; simp at e; omega, own_lt h.2 zR⟩
 have hse : s.size = s.data.toList.length := bsize_eq s
 have HSE := Hi hse
 have HH := Hi hs
 have HB := Hi hb
 clear h hr hse hs hb
 go_enter Tryd.func43, Tryd.ntmps43
 go_wp2_with (go_at_call 44; refine (wBuffer_any base g v l s.data.toList (some ⟨w.heap.size, 0, none⟩) s.size c (w.heap.size + 1) w1 (H0.out.later HB.out) HR.out (by rw [HH.out]; exact Nat.le_refl _) HS.out (by rw [HH.out]; omega) (by rw [← HSE.out]; omega)).mono ?_; rintro e w2 ⟨rfl, v2, hp⟩; have HP := Hi (hp.from HB.out); clear hp)
 go_end0
 exact ⟨rfl, v2, HP.out⟩

theorem clone_any (A : Option Addr) (n c B : Nat) (xs : List Value) (w : World) (hr : Reads w B 1 A n xs) (h1 : ∀ u ∈ xs, u.oneCell' = true) (hB : B ≤ w.heap.size) (hn : n ≤ 140737488355328) (hnil : A = none → n = 0 ∧ c = 0) :
 Calls Tryd.prog 51 #[.slice A n c] w fun e w' => ∃ A' c', e = .returned (.slice A' n c') ∧ w'.ownsRow w.heap.size 5 1 (.slice A' n c') n xs ∧ Below w.heap.size w w' := by
 obtain ⟨i0, hi0, hz0, hz1, hz2⟩ := info_parts u8_info
 rcases A with _ | ad
 · obtain ⟨rfl, rfl⟩ := hnil rfl
   have hx : xs = [] := List.eq_nil_of_length_eq_zero (by simpa using hr.1)
   subst hx
   clear hr h1 hn hnil
   have hq := fun W : World => Lib.run_eql_slice_nil (P := Tryd.prog) W 22 5 none 0 0 0 0 zU22
   go_enter Tryd.func51, Tryd.ntmps51
   go_wp2
   go_ret
   exact ⟨_, _, rfl, World.ownsRow_nil _ _ _ _, Below.refl _ _⟩
 · have HR := Hi hr
   have H1 := Hi h1
   have hq := fun W : World => Lib.run_eql_slice_nil (P := Tryd.prog) W 22 5 (some ad) n c 0 0 zU22
   clear hr h1 hnil
   go_enter Tryd.func51, Tryd.ntmps51
   go_wp2_with (at_builtin; refine wpList_append_any _ rfl (.tmp 5) (.tmp 6) _ rfl w.heap.size 5 i0 _ 1 1 zU22 hi0 hz0 hz1 hz2 rfl (by decide) (.slice (some ⟨w.heap.size, 0, none⟩) 0 0) 0 [] rfl (World.ownsRow_made w #[] 0 zR (by decide) rfl) B (some ad) n c xs rfl (HR.out.alloc hB _) H1.out (by simp only [maxLen]; omega) (by omega) (by simp) ?_; intro v1 w1 hown1 hg1 hat1)
   go_ret
   have hb1 : Below w.heap.size w w1 := (zT.alloc zR _).grown hg1 (by simp) (fun k hk => by simp [Value.ownBlock] at hk; omega)
   obtain ⟨A', c', rfl⟩ := slice_form hown1
   simp only [Nat.zero_add, List.nil_append] at hown1
   exact ⟨A', c', by simp, hown1, hb1⟩

theorem wBytes_any (base g : Nat) (v : Value) (l : List UInt8) (w : World) (h : Wr w base g v l) (hsz : l.length ≤ 140737488355328) :
 Calls Tryd.prog 25 #[.pointer (some ⟨g, 0, none⟩)] w fun e w' => ∃ A' c', e = .returned (.slice A' l.length c') ∧ w'.ownsRow w.heap.size 5 1 (.slice A' l.length c') l.length (bcells l) ∧ Below w.heap.size w w' := by
 obtain ⟨hb, ho⟩ := h
 obtain ⟨A, c, rfl⟩ := slice_form ho
 have hc := hb.cell 0
 simp only [List.getElem?_toArray, List.getElem?_cons_zero] at hc
 have HO := Hi ho
 clear hb ho
 go_enter Tryd.func25, Tryd.ntmps25
 go_wp2_with (go_at_call 51; refine (clone_any A l.length c w.heap.size (bcells l) w (Reads.of_own HO.out) (bcells_one _) zR hsz (own_nil HO.out)).mono ?_; rintro e w1 ⟨A1, c1, rfl, h1, h2⟩)
 go_ret
 exact ⟨A1, c1, rfl, h1, h2⟩

def scells (L : List ByteArray) : List Value := L.map fun s => .string s
theorem scells_length (L : List ByteArray) : (scells L).length = L.length := by simp [scells]
theorem scells_append (L M : List ByteArray) : scells (L ++ M) = scells L ++ scells M := by simp [scells]

def bTexts (L : List ByteArray) : List UInt8 := L.flatMap fun s => bBuf s.data.toList
theorem bTexts_snoc (L : List ByteArray) (s : ByteArray) : bTexts (L ++ [s]) = bTexts L ++ bBuf s.data.toList := by simp [bTexts]
section
open Go.RowKit Go.Shelf Go.Lib

structure Env (W : World) : Prop where
 tab : Lib.Utf8Tabs 0 1 W
 g1 : 0 < W.heap.size
 g2 : 1 < W.heap.size

def u8ren : Ren := ⟨id, fun x => if x = 5 then 5 else if x = 119 then 133 else if x = 138 then 135 else 136, fun x => if x = 3 then 0 else 1⟩
theorem u8types : U8Types Tryd.prog u8ren := ⟨zU5, zU133, zU135, zU136⟩
theorem u8extra : U8Extra Tryd.prog u8ren := ⟨by kernel_rfl, by kernel_rfl, by kernel_rfl, by kernel_rfl, by kernel_rfl, by kernel_rfl, by kernel_rfl⟩
theorem first_data : Rows.laid_unicode_utf8_first = Lib.firstData := by kernel_rfl
theorem accept_data : (Rows.laid_unicode_utf8_acceptRanges : DataW Unit) = Lib.acceptData := by kernel_rfl

theorem env_of {l : List (String × DataW Unit)} {W : World} (h : laidMetH Tryd.prog l W) (hp : (l.all fun x => x.2.handleName?.isNone) = true) (m1 : ("unicode/utf8.first", Rows.laid_unicode_utf8_first) ∈ l) (m2 : ("unicode/utf8.acceptRanges", Rows.laid_unicode_utf8_acceptRanges) ∈ l) : Env W := by
 rw [MakeChecks.laidMetH_plain _ _ _ hp] at h
 have h1 := laidMet.reads h m1
 have h2 := laidMet.reads h m2
 rw [first_data] at h1
 rw [accept_data] at h2
 have ht : Lib.Utf8Tabs 0 1 W := utf8Tabs_of_readsT u8types u8extra h1 h2
 exact ⟨ht, cell_lt (ht.1 0 (by decide)), cell_lt (ht.2 0 (by decide)).1⟩
theorem Env.below {W W' : World} (h : Env W) (hb : Below W.heap.size W W') : Env W' :=
 ⟨⟨fun c hc => by rw [hb.cell h.g1]; exact h.tab.1 c hc, fun i hi => by rw [hb.cell h.g2, hb.cell h.g2]; exact h.tab.2 i hi⟩, Nat.lt_of_lt_of_le h.g1 hb.size, Nat.lt_of_lt_of_le h.g2 hb.size⟩
open Go.RowKit Go.Shelf

def vuRen : Go.Shelf.Ren := ⟨fun | 196 => 77 | 259 => 96 | n => n, fun | 9 => 9 | 4 => 4 | 3 => 3 | 5 => 5 | 12 => 12 | 119 => 133 | 0 => 0 | 46 => 102 | 139 => 136 | 138 => 135 | 53 => 80 | n => n, fun | 3 => 0 | 4 => 1 | n => n⟩
theorem vuLays : Go.Proofs.Lays.n196 Tryd.prog vuRen := {
 mixed := by kernel_rfl
 f196 := Tryd.func77.trans (congrArg some (by kernel_rfl))
 f259 := Tryd.func96.trans (congrArg some (by kernel_rfl))
 t0 := zU0
 a0 := Tryd.isAgg0
 z0 := Tryd.sizeOf0
 v0 := Tryd.zeroValue0
 t3 := zU3
 a3 := Tryd.isAgg3
 z3 := Tryd.sizeOf3
 v3 := Tryd.zeroValue3
 t4 := zU4
 a4 := Tryd.isAgg4
 z4 := Tryd.sizeOf4
 v4 := Tryd.zeroValue4
 t5 := zU5
 a5 := Tryd.isAgg5
 z5 := Tryd.sizeOf5
 v5 := Tryd.zeroValue5
 t9 := zU9
 a9 := Tryd.isAgg9
 z9 := Tryd.sizeOf9
 v9 := Tryd.zeroValue9
 t12 := zU12
 a12 := Tryd.isAgg12
 z12 := Tryd.sizeOf12
 v12 := Tryd.zeroValue12
 t46 := zU102
 a46 := Tryd.isAgg102
 z46 := Tryd.sizeOf102
 v46 := Tryd.zeroValue102
 t53 := zU80
 a53 := Tryd.isAgg80
 z53 := Tryd.sizeOf80
 v53 := Tryd.zeroValue80
 t119 := zU133
 a119 := Tryd.isAgg133
 z119 := Tryd.sizeOf133
 t138 := zU135
 a138 := Tryd.isAgg135
 z138 := Tryd.sizeOf135
 v138 := Tryd.zeroValue135
 t139 := zU136
 a139 := Tryd.isAgg136
 z139 := Tryd.sizeOf136
 v139 := Tryd.zeroValue136
 g3 := by kernel_rfl
 g4 := by kernel_rfl }
theorem vstr_any (s : ByteArray) (w : World) (hs : s.size ≤ 9223372036854775807) (hT : Lib.Utf8Tabs 0 1 w) :
 Calls Tryd.prog 77 #[.string s] w fun e w' => e = .returned (.bool (Lib.validD s.data.toList)) ∧ Below w.heap.size w w' := Any.utf8_ValidString vuLays s w hs hT
end
end Go.Proofs.YtpjjnmdfgcfnmaaDoor
