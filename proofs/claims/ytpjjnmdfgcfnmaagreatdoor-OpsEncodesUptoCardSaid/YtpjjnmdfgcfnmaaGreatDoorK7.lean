/- Part 7 of a proof: lemmas and walks. -/
import Derived.Test.YtpjjnmdfgcfnmaaGreatDoorK5
import Derived.Test.YtpjjnmdfgcfnmaaGreatDoorK6
import Derived.Lib.AppendZerosOnto
import Derived.WalkLawsBesides
import Derived.Test.YtpjjnmdfgcfnmaaGreatDoorK4
import Derived.Test.YtpjjnmdfgcfnmaaGreatDoorK0
import Derived.Lib.LaidU8T
import Derived.MakeChecks
import Derived.Shelf.Unicode.ValidAny
set_option linter.unusedVariables false
set_option linter.unusedSimpArgs false
set_option maxRecDepth 100000
set_option maxHeartbeats 20000000
namespace Go.Proofs.YtpjjnmdfgcfnmaaGreatDoor
open Go.RowKit

abbrev Oqk4R1 (t : Int) (f : OpF) (i : Sl) : Array Value := #[.int .i32 t, .string ⟨#[]⟩, .slice none 0 0, .slice none 0 0, .int .i32 0, .int .i32 0, .bool false, .int .i64 0, .int .i64 0, .int .i64 0, .int .i64 0, .slice none 0 0, .slice none 0 0, .slice none 0 0, .slice none 0 0, .slice none 0 0, .int .i32 f.to, .slice i.A i.n i.c, .slice none 0 0]
abbrev Oqk4R2 (t : Int) (s : Sl) : Array Value := #[.int .i32 t, .string ⟨#[]⟩, .slice none 0 0, .slice none 0 0, .int .i32 0, .int .i32 0, .bool false, .int .i64 0, .int .i64 0, .int .i64 0, .int .i64 0, .slice none 0 0, .slice none 0 0, .slice none 0 0, .slice none 0 0, .slice none 0 0, .int .i32 0, .slice none 0 0, .slice s.A s.n s.c]
abbrev Oqk4R3 (t : Int) : Array Value := #[.int .i32 t, .string ⟨#[]⟩, .slice none 0 0, .slice none 0 0, .int .i32 0, .int .i32 0, .bool false, .int .i64 0, .int .i64 0, .int .i64 0, .int .i64 0, .slice none 0 0, .slice none 0 0, .slice none 0 0, .slice none 0 0, .slice none 0 0, .int .i32 0, .slice none 0 0, .slice none 0 0]

theorem kept_g9 (t : Int) (htt : t ∈ ([14, 22] : List Int)) (f : OpF) (d a k0 k1 k2 k3 k4 i s : Sl) (w : World) (ht : f.t = t) : Calls Tryz.prog 112 #[.agg (f.row d a k0 k1 k2 k3 k4 i s).toArray] w fun e w' => e = .returned (.agg (keptRow f d a k0 k1 k2 k3 k4 i s).toArray) ∧ Below w.heap.size w w' := by
 have HE : Hid ((keptRow f d a k0 k1 k2 k3 k4 i s).toArray = (Oqk4R2 t s)) := by
  unfold Hid keptRow keptF kS
  rw [ht]
  simp only [zH, zI, or_false] at htt
  rcases htt with rfl | rfl <;> simp [tP, tD, tA, tF, tV, tW, tC, tL, tZ, tT, tS, OpF.row, Sl.v, nilS]
 rw [HE.out]
 obtain ⟨cs, hcs⟩ : ∃ cs : Array Value, cs = (f.row d a k0 k1 k2 k3 k4 i s).toArray := ⟨_, rfl⟩
 rw [← hcs]
 have hc0 : cs[0]? = some (.int .i32 t) := by rw [hcs, ← ht]; rfl
 have HC0 := Hi hc0
 have HCS := Hi hcs
 obtain ⟨w1, hw1⟩ := xa w cs 29
 have hz1 : w1.heap.size = w.heap.size + 1 := by rw [← hw1]; simp
 have HN1 := Hi (zW hw1)
 have HB1 := Hi (zV hw1)
 clear hc0 hcs ht HE
 obtain ⟨n0, n1, n2, n3, n4, n5, n6, n7, n8, n9, n10, n11, n12, n13, n14, n15, n16, n17, n18, n19, _⟩ := sw_all (cs := [101, (-10), (-11), 11, 107, 1, 15, 19, 21, 2, 13, 5, 7, 120, 3, 4, 8, 12, 106, 18]) htt rfl
 have S : ((t == 14) = true) ∨ ((t == 14) = false ∧ (t == 22) = true) := by
  simp only [zH, zI, or_false] at htt
  rcases htt with rfl | rfl <;> decide
 clear htt
 rcases S with s0 | ⟨s0, s1⟩
 all_goals
  go_enter Tryz.func112, Tryz.ntmps112
  go_wp2_with (first
   | (refine wpList_new rfl 29 rfl zer_op ?_
      intro old hold
      obtain ⟨w2, hw2⟩ := xa w1 old 29
      rw [hw2]
      have hz2 : w2.heap.size = w.heap.size + 2 := (by rw [← hw2]; simp [hz1])
      have HN2 : Hid (Blk w2 w.heap.size 29 cs) := (by unfold Hid; rw [← hw2]; exact HN1.out.alloc _)
      have HZ2 : Hid (Blk w2 (w.heap.size + 1) 29 old) := (by unfold Hid; rw [← hw2]; exact Blk.new' hz1.symm)
      have HB2 : Hid (Below w.heap.size w w2) := (by unfold Hid; rw [← hw2]; exact HB1.out.alloc (by omega) _)
      have HOLD := Hi hold
      have c0 := yC HN2.out 0 HC0.out
      clear hw2 hold)
   | (refine wpList_newrow rfl rfl 29 rfl 3 rfl (.tmp 6) rfl rfl (Oqk4R3 t) (fun _ => rfl) (show 3 < 116 by decide) zer_op isz_29 (by simp [Value.oneCell']) ?_
      obtain ⟨w3, hw3⟩ := xa w2 (Oqk4R3 t) 29
      rw [hw3]
      have hz3 : w3.heap.size = w.heap.size + 3 := (by rw [← hw3]; simp [hz2])
      have HN3 : Hid (Blk w3 w.heap.size 29 cs) := (by unfold Hid; rw [← hw3]; exact HN2.out.alloc _)
      have HZ3 : Hid (Blk w3 (w.heap.size + 1) 29 old) := (by unfold Hid; rw [← hw3]; exact HZ2.out.alloc _)
      have HP3 : Hid (Blk w3 (w.heap.size + 2) 29 (Oqk4R3 t)) := (by unfold Hid; rw [← hw3]; exact Blk.new' hz2.symm)
      have HB3 : Hid (Below w.heap.size w w3) := (by unfold Hid; rw [← hw3]; exact HB2.out.alloc (by omega) _)
      have d0 := yC HN3.out 0 HC0.out
      have d18 := yC HN3.out 18 (by rw [HCS.out]; rfl : cs[18]? = some (.slice s.A s.n s.c))
      clear hw3 c0 HN2 HZ2 HB2)
   | (with_reducible refine wpSt 14 ?_
      refine wpList_store_mid rfl 27 (.tmp 14) (.tmp 13) rfl (w.heap.size + 2) 18 (.slice s.A s.n s.c) rfl rfl HP3.out (news := [.slice s.A s.n s.c]) rfl isz_27 (by simp) (by simp [Value.oneCell']) ?_
      intro w4 cn hBn hxn hgn hzn
      have hz4 : w4.heap.size = w.heap.size + 3 := (by rw [hzn, hz3])
      have HN4 : Hid (Blk w4 w.heap.size 29 cs) := HN3.out.grown hgn (by simp)
      have HZ4 : Hid (Blk w4 (w.heap.size + 1) 29 old) := HZ3.out.grown hgn (by simp)
      have HP4 : Hid (Blk w4 (w.heap.size + 2) 29 (Oqk4R2 t s)) := (by
       have e : cn = (Oqk4R2 t s) := Array.ext' hxn
       unfold Hid; rw [← e]; exact hBn)
      have HB4 : Hid (Below w.heap.size w w4) := HB3.out.grown hgn (by omega) (fun k hk => by injection hk with hk; omega)
      clear hBn hxn hgn hzn)
   | (with_reducible refine wpAq 15 ?_
      refine wpList_load_row rfl 29 (.tmp 3) rfl (w.heap.size + 2) rfl 29 _ _ _ HP4.out zU29 rfl isz_29 ?_)
   | (with_reducible refine wpSt 2 ?_
      refine wpList_store_row rfl 29 (.tmp 2) (.tmp 15) rfl (w.heap.size + 1) (Oqk4R2 t s) rfl rfl 29 _ HZ4.out isz_29 (by rw [HOLD.out]; rfl) (by simp [Value.oneCell']) ?_
      generalize hww : World.setRow _ _ _ = wz
      have HBZ : Hid (Blk wz (w.heap.size + 1) 29 (Oqk4R2 t s)) := (by unfold Hid; rw [← hww]; exact cells_setRow HZ4.out)
      have HBB : Hid (Below w.heap.size w wz) := (by unfold Hid; rw [← hww]; exact below_setRow' HB4.out (by omega) _)
      clear hww))
  refine bodyPost_ret (results_cell_row rfl _ _ (w.heap.size + 1) 29 _ _ _ rfl HBZ.out zU29 rfl isz_29) rfl ?_
  exact ⟨rfl, HBB.out⟩
theorem kept_g10 (t : Int) (htt : t ∈ ([101] : List Int)) (f : OpF) (d a k0 k1 k2 k3 k4 i s : Sl) (w : World) (ht : f.t = t) : Calls Tryz.prog 112 #[.agg (f.row d a k0 k1 k2 k3 k4 i s).toArray] w fun e w' => e = .returned (.agg (keptRow f d a k0 k1 k2 k3 k4 i s).toArray) ∧ Below w.heap.size w w' := by
 have HE : Hid ((keptRow f d a k0 k1 k2 k3 k4 i s).toArray = #[.int .i32 t, .string ⟨#[]⟩, .slice none 0 0, .slice none 0 0, .int .i32 0, .int .i32 0, .bool false, .int .i64 0, .int .i64 0, .int .i64 0, .int .i64 f.zx, .slice k0.A k0.n k0.c, .slice k1.A k1.n k1.c, .slice k2.A k2.n k2.c, .slice k3.A k3.n k3.c, .slice k4.A k4.n k4.c, .int .i32 0, .slice none 0 0, .slice none 0 0]) := by
  unfold Hid keptRow keptF kS
  rw [ht]
  simp only [zH, zI, or_false] at htt
  rcases htt with rfl <;> simp [tP, tD, tA, tF, tV, tW, tC, tL, tZ, tT, tS, OpF.row, Sl.v, nilS]
 rw [HE.out]
 obtain ⟨cs, hcs⟩ : ∃ cs : Array Value, cs = (f.row d a k0 k1 k2 k3 k4 i s).toArray := ⟨_, rfl⟩
 rw [← hcs]
 have hc0 : cs[0]? = some (.int .i32 t) := by rw [hcs, ← ht]; rfl
 have HC0 := Hi hc0
 have HCS := Hi hcs
 obtain ⟨w1, hw1⟩ := xa w cs 29
 have hz1 : w1.heap.size = w.heap.size + 1 := by rw [← hw1]; simp
 have HN1 := Hi (zW hw1)
 have HB1 := Hi (zV hw1)
 clear hc0 hcs ht HE
 obtain ⟨n0, n1, n2, n3, n4, n5, n6, n7, n8, n9, n10, n11, n12, n13, n14, n15, n16, n17, n18, n19, n20, _⟩ := sw_all (cs := [14, 22, (-10), (-11), 11, 107, 1, 15, 19, 21, 2, 13, 5, 7, 120, 3, 4, 8, 12, 106, 18]) htt rfl
 have S : ((t == 101) = true) := by
  simp only [zH, zI, or_false] at htt
  rcases htt with rfl <;> decide
 clear htt
 go_enter Tryz.func112, Tryz.ntmps112
 go_wp2_with (first
  | (refine wpList_new rfl 29 rfl zer_op ?_
     intro old hold
     obtain ⟨w2, hw2⟩ := xa w1 old 29
     rw [hw2]
     have hz2 : w2.heap.size = w.heap.size + 2 := (by rw [← hw2]; simp [hz1])
     have HN2 : Hid (Blk w2 w.heap.size 29 cs) := (by unfold Hid; rw [← hw2]; exact HN1.out.alloc _)
     have HZ2 : Hid (Blk w2 (w.heap.size + 1) 29 old) := (by unfold Hid; rw [← hw2]; exact Blk.new' hz1.symm)
     have HB2 : Hid (Below w.heap.size w w2) := (by unfold Hid; rw [← hw2]; exact HB1.out.alloc (by omega) _)
     have HOLD := Hi hold
     have c0 := yC HN2.out 0 HC0.out
     clear hw2 hold)
  | (refine wpList_newrow rfl rfl 29 rfl 3 rfl (.tmp 6) rfl rfl (Oqk4R3 t) (fun _ => rfl) (show 3 < 116 by decide) zer_op isz_29 (by simp [Value.oneCell']) ?_
     obtain ⟨w3, hw3⟩ := xa w2 (Oqk4R3 t) 29
     rw [hw3]
     have hz3 : w3.heap.size = w.heap.size + 3 := (by rw [← hw3]; simp [hz2])
     have HN3 : Hid (Blk w3 w.heap.size 29 cs) := (by unfold Hid; rw [← hw3]; exact HN2.out.alloc _)
     have HZ3 : Hid (Blk w3 (w.heap.size + 1) 29 old) := (by unfold Hid; rw [← hw3]; exact HZ2.out.alloc _)
     have HP3 : Hid (Blk w3 (w.heap.size + 2) 29 (Oqk4R3 t)) := (by unfold Hid; rw [← hw3]; exact Blk.new' hz2.symm)
     have HB3 : Hid (Below w.heap.size w w3) := (by unfold Hid; rw [← hw3]; exact HB2.out.alloc (by omega) _)
     have d0 := yC HN3.out 0 HC0.out
     clear hw3 c0 HN2 HZ2 HB2))
 have HROW : Hid (Blk w3 w.heap.size 29 (f.row d a k0 k1 k2 k3 k4 i s).toArray) := by unfold Hid; rw [← HCS.out]; exact HN3.out
 have HPS : Hid (((Oqk4R3 t) : Array Value).size = 19) := rfl
 have HKV : Hid (∀ j v, ([.slice k0.A k0.n k0.c, .slice k1.A k1.n k1.c, .slice k2.A k2.n k2.c, .slice k3.A k3.n k3.c, .slice k4.A k4.n k4.c] : List Value)[j]? = some v → (f.row d a k0 k1 k2 k3 k4 i s).toArray[11 + j]? = some v) := fun j v hv => by
  rcases j with _ | _ | _ | _ | _ | j <;> simp at hv <;> subst hv <;> rfl
 clear d0
 obtain ⟨x18, H18⟩ := xv (.pointer (some ⟨w.heap.size, 10, none⟩))
 obtain ⟨x19, H19⟩ := xv (.int .i64 f.zx)
 obtain ⟨x20, H20⟩ := xv (.pointer (some ⟨w.heap.size, 11, none⟩))
 obtain ⟨x21, H21⟩ := xv (.agg #[.slice k0.A k0.n k0.c, .slice k1.A k1.n k1.c, .slice k2.A k2.n k2.c, .slice k3.A k3.n k3.c, .slice k4.A k4.n k4.c])
 obtain ⟨x22, H22⟩ := xv (.pointer (some ⟨(w.heap.size + 2), 10, none⟩))
 obtain ⟨x23, H23⟩ := xv (.pointer (some ⟨(w.heap.size + 2), 11, none⟩))
 refine wp_region_copy (w0 := w3) (w.heap.size + 2) 29 [(10, .int .i64 f.zx), (11, .slice k0.A k0.n k0.c), (12, .slice k1.A k1.n k1.c), (13, .slice k2.A k2.n k2.c), (14, .slice k3.A k3.n k3.c), (15, .slice k4.A k4.n k4.c)] (.inl x18 ::
  .inl x19 ::
  .inl x20 ::
  .inl x21 ::
  .inl x22 ::
  .inr (fun _ W => (∃ cur, Blk W (w.heap.size + 2) 29 cur) ∧ ∀ z9 u9, ([.int .i64 f.zx] : List Value)[z9]? = some u9 → W.cell? ⟨(w.heap.size + 2), 10 + z9, none⟩ = some u9) ::
  .inl x23 ::
  .inr (fun _ W => (∃ cur, Blk W (w.heap.size + 2) 29 cur) ∧ ∀ z9 u9, ([.slice k0.A k0.n k0.c, .slice k1.A k1.n k1.c, .slice k2.A k2.n k2.c, .slice k3.A k3.n k3.c, .slice k4.A k4.n k4.c] : List Value)[z9]? = some u9 → W.cell? ⟨(w.heap.size + 2), 11 + z9, none⟩ = some u9) :: []) rfl (by kernel_rfl) (by kernel_rfl) (by kernel_rfl) (by kernel_rfl) ?_ ⟨fun ac W hC o q K hK => op_u (u := .pointer (some ⟨w.heap.size, 10, none⟩)) rfl (r_field 29 _ 10 rfl (yA (hO o 1)) zU29 rfl (n := 0) isz_2 rfl) (hK _ _ H18.out.symm (Cp.refl _)),
  fun ac W hC o q K hK => op_u (u := .int .i64 f.zx) rfl (r_load 2 _ rfl (yA (dL q 0 H18)) (yC (HROW.out.grown hC.grown (by simp)) 10 rfl) zU2 rfl) (hK _ _ H19.out.symm (Cp.refl _)),
  fun ac W hC o q K hK => op_u (u := .pointer (some ⟨w.heap.size, 11, none⟩)) rfl (r_field 29 _ 11 rfl (yA (hO o 1)) zU29 rfl (n := 4) isz_25 rfl) (hK _ _ H20.out.symm (Cp.refl _)),
  fun ac W hC o q K hK => op_u (u := .agg #[.slice k0.A k0.n k0.c, .slice k1.A k1.n k1.c, .slice k2.A k2.n k2.c, .slice k3.A k3.n k3.c, .slice k4.A k4.n k4.c]) rfl (r_load_row 25 _ rfl (yA (dL q 2 H20)) [.slice k0.A k0.n k0.c, .slice k1.A k1.n k1.c, .slice k2.A k2.n k2.c, .slice k3.A k3.n k3.c, .slice k4.A k4.n k4.c] (fun j v hj => by rw [zN]; exact (( HROW.out.grown hC.grown (by simp)).cell _).trans (HKV.out j v hj)) zU25 rfl isz_25) (hK _ _ H21.out.symm (Cp.refl _)),
  fun ac W hC o q K hK => op_u (u := .pointer (some ⟨(w.heap.size + 2), 10, none⟩)) rfl (r_field 29 _ 10 rfl (yA (hO o 3)) zU29 rfl (n := 0) isz_2 rfl) (hK _ _ H22.out.symm (Cp.refl _)),
  by
   intro ac W hC hold hdep K hK
   obtain ⟨cur, hcur, hcs, _⟩ := hC.blk _ HP3.out
   exact op_store rfl 2 (.tmp 22) (.tmp 19) rfl 10 (.int .i64 f.zx) (yA (dL hdep 4 H22)) (yA (dL hdep 1 H19)) (news := [.int .i64 f.zx]) hcur rfl isz_2 (by rw [hcs, HPS.out]; exact (by decide : 10 + 1 ≤ 19)) (by simp [Value.oneCell']) (fun z9 u9 hu => by rcases z9 with _ | z9 <;> simp at hu; subst hu; simp) (fnB_of (by simp)) (fun w' h1 h2 => hK undef w' ⟨by obtain ⟨c2, h3, _⟩ := h2.blk _ hcur; exact ⟨c2, h3⟩, h1⟩ h2),
  fun ac W hC o q K hK => op_u (u := .pointer (some ⟨(w.heap.size + 2), 11, none⟩)) rfl (r_field 29 _ 11 rfl (yA (hO o 3)) zU29 rfl (n := 4) isz_25 rfl) (hK _ _ H23.out.symm (Cp.refl _)),
  by
   intro ac W hC hold hdep K hK
   obtain ⟨cur, hcur, hcs, _⟩ := hC.blk _ HP3.out
   exact op_store rfl 25 (.tmp 23) (.tmp 21) rfl 11 (.agg #[.slice k0.A k0.n k0.c, .slice k1.A k1.n k1.c, .slice k2.A k2.n k2.c, .slice k3.A k3.n k3.c, .slice k4.A k4.n k4.c]) (yA (dL hdep 6 H23)) (yA (dL hdep 3 H21)) (news := [.slice k0.A k0.n k0.c, .slice k1.A k1.n k1.c, .slice k2.A k2.n k2.c, .slice k3.A k3.n k3.c, .slice k4.A k4.n k4.c]) hcur rfl isz_25 (by rw [hcs, HPS.out]; exact (by decide : 11 + 5 ≤ 19)) (by simp [Value.oneCell']) (fun z9 u9 hu => by rcases z9 with _ | _ | _ | _ | _ | z9 <;> simp at hu <;> subst hu <;> simp) (fnB_of (by simp)) (fun w' h1 h2 => hK undef w' ⟨by obtain ⟨c2, h3, _⟩ := h2.blk _ hcur; exact ⟨c2, h3⟩, h1⟩ h2), trivial⟩ ?_
 · intro p hp v W W' h hC
   simp only [zH, reduceCtorEq, Sum.inr.injEq, zI, or_false, false_or] at hp
   rcases hp with rfl | rfl
   all_goals
    obtain ⟨⟨cur, h1⟩, h2⟩ := h
    obtain ⟨c2, h3, _⟩ := hC.blk _ h1
    refine ⟨⟨c2, h3⟩, fun z9 u9 hu => hC.keep h1 ?_ (h2 z9 u9 hu)⟩
    rcases z9 with _ | _ | _ | _ | _ | z9 <;> simp at hu <;> subst hu <;> simp
 intro wc hC
 simp only [FinC, Act.put, zD, zA, zB]
 rintro ⟨_, _, g0⟩ ⟨_, _, g1⟩
 clear H18 H19 H20 H21 H22 H23
 have HFO : ([(10, .int .i64 f.zx), (11, .slice k0.A k0.n k0.c), (12, .slice k1.A k1.n k1.c), (13, .slice k2.A k2.n k2.c), (14, .slice k3.A k3.n k3.c), (15, .slice k4.A k4.n k4.c)] : List (Nat × Value)).foldl (fun ps x => ps.setIfInBounds x.1 x.2) (Oqk4R3 t) = #[.int .i32 t, .string ⟨#[]⟩, .slice none 0 0, .slice none 0 0, .int .i32 0, .int .i32 0, .bool false, .int .i64 0, .int .i64 0, .int .i64 0, .int .i64 f.zx, .slice k0.A k0.n k0.c, .slice k1.A k1.n k1.c, .slice k2.A k2.n k2.c, .slice k3.A k3.n k3.c, .slice k4.A k4.n k4.c, .int .i32 0, .slice none 0 0, .slice none 0 0] := by kernel_rfl
 have HPC : Hid (Blk wc (w.heap.size + 2) 29 #[.int .i32 t, .string ⟨#[]⟩, .slice none 0 0, .slice none 0 0, .int .i32 0, .int .i32 0, .bool false, .int .i64 0, .int .i64 0, .int .i64 0, .int .i64 f.zx, .slice k0.A k0.n k0.c, .slice k1.A k1.n k1.c, .slice k2.A k2.n k2.c, .slice k3.A k3.n k3.c, .slice k4.A k4.n k4.c, .int .i32 0, .slice none 0 0, .slice none 0 0]) := by
  unfold Hid
  rw [← HFO]
  refine hC.done HP3.out (fnB_of (by simp)) (fun k v hkv => ?_) (fun k v hkv => ?_)
  · simp only [zH, Prod.mk.injEq, zI, or_false] at hkv
    have : k ≤ 18 := by omega
    exact Nat.lt_of_le_of_lt this (by decide : 18 < 19)
  · simp only [zH, Prod.mk.injEq, zI, or_false] at hkv
    rcases hkv with ⟨rfl, rfl⟩ | ⟨rfl, rfl⟩ | ⟨rfl, rfl⟩ | ⟨rfl, rfl⟩ | ⟨rfl, rfl⟩ | ⟨rfl, rfl⟩
    · exact g0 0 _ rfl
    · exact g1 0 _ rfl
    · exact g1 1 _ rfl
    · exact g1 2 _ rfl
    · exact g1 3 _ rfl
    · exact g1 4 _ rfl
 have HZC : Hid (Blk wc (w.heap.size + 1) 29 old) := HZ3.out.grown hC.grown (by simp)
 have HBC : Hid (Below w.heap.size w wc) := HB3.out.grown hC.grown (by omega) (fun k hk => by injection hk with hk; omega)
 have hzc : wc.heap.size = w.heap.size + 3 := by rw [hC.size, hz3]
 clear hC HFO g0 g1
 go_wp2_with (first
  | (with_reducible refine wpAq 24 ?_
     refine wpList_load_row rfl 29 (.tmp 3) rfl (w.heap.size + 2) rfl 29 _ _ _ HPC.out zU29 rfl isz_29 ?_)
  | (with_reducible refine wpSt 2 ?_
     refine wpList_store_row rfl 29 (.tmp 2) (.tmp 24) rfl (w.heap.size + 1) #[.int .i32 t, .string ⟨#[]⟩, .slice none 0 0, .slice none 0 0, .int .i32 0, .int .i32 0, .bool false, .int .i64 0, .int .i64 0, .int .i64 0, .int .i64 f.zx, .slice k0.A k0.n k0.c, .slice k1.A k1.n k1.c, .slice k2.A k2.n k2.c, .slice k3.A k3.n k3.c, .slice k4.A k4.n k4.c, .int .i32 0, .slice none 0 0, .slice none 0 0] rfl rfl 29 _ HZC.out isz_29 (by rw [HOLD.out]; rfl) (by simp [Value.oneCell']) ?_
     generalize hww : World.setRow _ _ _ = wz
     have HBZ : Hid (Blk wz (w.heap.size + 1) 29 #[.int .i32 t, .string ⟨#[]⟩, .slice none 0 0, .slice none 0 0, .int .i32 0, .int .i32 0, .bool false, .int .i64 0, .int .i64 0, .int .i64 0, .int .i64 f.zx, .slice k0.A k0.n k0.c, .slice k1.A k1.n k1.c, .slice k2.A k2.n k2.c, .slice k3.A k3.n k3.c, .slice k4.A k4.n k4.c, .int .i32 0, .slice none 0 0, .slice none 0 0]) := (by unfold Hid; rw [← hww]; exact cells_setRow HZC.out)
     have HBB : Hid (Below w.heap.size w wz) := (by unfold Hid; rw [← hww]; exact below_setRow' HBC.out (by omega) _)
     clear hww))
 refine bodyPost_ret (results_cell_row rfl _ _ (w.heap.size + 1) 29 _ _ _ rfl HBZ.out zU29 rfl isz_29) rfl ?_
 exact ⟨rfl, HBB.out⟩
theorem kept_g11 (t : Int) (htt : t ∈ ([(-10)] : List Int)) (f : OpF) (d a k0 k1 k2 k3 k4 i s : Sl) (w : World) (ht : f.t = t) : Calls Tryz.prog 112 #[.agg (f.row d a k0 k1 k2 k3 k4 i s).toArray] w fun e w' => e = .returned (.agg (keptRow f d a k0 k1 k2 k3 k4 i s).toArray) ∧ Below w.heap.size w w' := by
 have HE : Hid ((keptRow f d a k0 k1 k2 k3 k4 i s).toArray = (Oqk4R1 t f i)) := by
  unfold Hid keptRow keptF kS
  rw [ht]
  simp only [zH, zI, or_false] at htt
  rcases htt with rfl <;> simp [tP, tD, tA, tF, tV, tW, tC, tL, tZ, tT, tS, OpF.row, Sl.v, nilS]
 rw [HE.out]
 obtain ⟨cs, hcs⟩ : ∃ cs : Array Value, cs = (f.row d a k0 k1 k2 k3 k4 i s).toArray := ⟨_, rfl⟩
 rw [← hcs]
 have hc0 : cs[0]? = some (.int .i32 t) := by rw [hcs, ← ht]; rfl
 have HC0 := Hi hc0
 have HCS := Hi hcs
 obtain ⟨w1, hw1⟩ := xa w cs 29
 have hz1 : w1.heap.size = w.heap.size + 1 := by rw [← hw1]; simp
 have HN1 := Hi (zW hw1)
 have HB1 := Hi (zV hw1)
 clear hc0 hcs ht HE
 obtain ⟨n0, n1, n2, n3, n4, n5, n6, n7, n8, n9, n10, n11, n12, n13, n14, n15, n16, n17, n18, n19, n20, _⟩ := sw_all (cs := [14, 22, 101, (-11), 11, 107, 1, 15, 19, 21, 2, 13, 5, 7, 120, 3, 4, 8, 12, 106, 18]) htt rfl
 have S : ((t == (-10)) = true) := by
  simp only [zH, zI, or_false] at htt
  rcases htt with rfl <;> decide
 clear htt
 go_enter Tryz.func112, Tryz.ntmps112
 go_wp2_with (first
  | (refine wpList_new rfl 29 rfl zer_op ?_
     intro old hold
     obtain ⟨w2, hw2⟩ := xa w1 old 29
     rw [hw2]
     have hz2 : w2.heap.size = w.heap.size + 2 := (by rw [← hw2]; simp [hz1])
     have HN2 : Hid (Blk w2 w.heap.size 29 cs) := (by unfold Hid; rw [← hw2]; exact HN1.out.alloc _)
     have HZ2 : Hid (Blk w2 (w.heap.size + 1) 29 old) := (by unfold Hid; rw [← hw2]; exact Blk.new' hz1.symm)
     have HB2 : Hid (Below w.heap.size w w2) := (by unfold Hid; rw [← hw2]; exact HB1.out.alloc (by omega) _)
     have HOLD := Hi hold
     have c0 := yC HN2.out 0 HC0.out
     clear hw2 hold)
  | (refine wpList_newrow rfl rfl 29 rfl 3 rfl (.tmp 6) rfl rfl (Oqk4R3 t) (fun _ => rfl) (show 3 < 116 by decide) zer_op isz_29 (by simp [Value.oneCell']) ?_
     obtain ⟨w3, hw3⟩ := xa w2 (Oqk4R3 t) 29
     rw [hw3]
     have hz3 : w3.heap.size = w.heap.size + 3 := (by rw [← hw3]; simp [hz2])
     have HN3 : Hid (Blk w3 w.heap.size 29 cs) := (by unfold Hid; rw [← hw3]; exact HN2.out.alloc _)
     have HZ3 : Hid (Blk w3 (w.heap.size + 1) 29 old) := (by unfold Hid; rw [← hw3]; exact HZ2.out.alloc _)
     have HP3 : Hid (Blk w3 (w.heap.size + 2) 29 (Oqk4R3 t)) := (by unfold Hid; rw [← hw3]; exact Blk.new' hz2.symm)
     have HB3 : Hid (Below w.heap.size w w3) := (by unfold Hid; rw [← hw3]; exact HB2.out.alloc (by omega) _)
     have d0 := yC HN3.out 0 HC0.out
     clear hw3 c0 HN2 HZ2 HB2))
 have HROW : Hid (Blk w3 w.heap.size 29 (f.row d a k0 k1 k2 k3 k4 i s).toArray) := by unfold Hid; rw [← HCS.out]; exact HN3.out
 have HPS : Hid (((Oqk4R3 t) : Array Value).size = 19) := rfl
 clear d0
 obtain ⟨x27, H27⟩ := xv (.pointer (some ⟨w.heap.size, 16, none⟩))
 obtain ⟨x28, H28⟩ := xv (.int .i32 f.to)
 obtain ⟨x29, H29⟩ := xv (.pointer (some ⟨w.heap.size, 17, none⟩))
 obtain ⟨x30, H30⟩ := xv (.slice i.A i.n i.c)
 obtain ⟨x31, H31⟩ := xv (.pointer (some ⟨(w.heap.size + 2), 16, none⟩))
 obtain ⟨x32, H32⟩ := xv (.pointer (some ⟨(w.heap.size + 2), 17, none⟩))
 refine wp_region_copy (w0 := w3) (w.heap.size + 2) 29 [(16, .int .i32 f.to), (17, .slice i.A i.n i.c)] (.inl x27 ::
  .inl x28 ::
  .inl x29 ::
  .inl x30 ::
  .inl x31 ::
  .inr (fun _ W => (∃ cur, Blk W (w.heap.size + 2) 29 cur) ∧ ∀ z9 u9, ([.int .i32 f.to] : List Value)[z9]? = some u9 → W.cell? ⟨(w.heap.size + 2), 16 + z9, none⟩ = some u9) ::
  .inl x32 ::
  .inr (fun _ W => (∃ cur, Blk W (w.heap.size + 2) 29 cur) ∧ ∀ z9 u9, ([.slice i.A i.n i.c] : List Value)[z9]? = some u9 → W.cell? ⟨(w.heap.size + 2), 17 + z9, none⟩ = some u9) :: []) rfl (by kernel_rfl) (by kernel_rfl) (by kernel_rfl) (by kernel_rfl) ?_ ⟨fun ac W hC o q K hK => op_u (u := .pointer (some ⟨w.heap.size, 16, none⟩)) rfl (r_field 29 _ 12 rfl (yA (hO o 1)) zU29 rfl (n := 0) isz_21 rfl) (hK _ _ H27.out.symm (Cp.refl _)),
  fun ac W hC o q K hK => op_u (u := .int .i32 f.to) rfl (r_load 21 _ rfl (yA (dL q 0 H27)) (yC (HROW.out.grown hC.grown (by simp)) 16 rfl) zU21 rfl) (hK _ _ H28.out.symm (Cp.refl _)),
  fun ac W hC o q K hK => op_u (u := .pointer (some ⟨w.heap.size, 17, none⟩)) rfl (r_field 29 _ 13 rfl (yA (hO o 1)) zU29 rfl (n := 0) isz_26 rfl) (hK _ _ H29.out.symm (Cp.refl _)),
  fun ac W hC o q K hK => op_u (u := .slice i.A i.n i.c) rfl (r_load 26 _ rfl (yA (dL q 2 H29)) (yC (HROW.out.grown hC.grown (by simp)) 17 rfl) zU26 rfl) (hK _ _ H30.out.symm (Cp.refl _)),
  fun ac W hC o q K hK => op_u (u := .pointer (some ⟨(w.heap.size + 2), 16, none⟩)) rfl (r_field 29 _ 12 rfl (yA (hO o 3)) zU29 rfl (n := 0) isz_21 rfl) (hK _ _ H31.out.symm (Cp.refl _)),
  by
   intro ac W hC hold hdep K hK
   obtain ⟨cur, hcur, hcs, _⟩ := hC.blk _ HP3.out
   exact op_store rfl 21 (.tmp 31) (.tmp 28) rfl 16 (.int .i32 f.to) (yA (dL hdep 4 H31)) (yA (dL hdep 1 H28)) (news := [.int .i32 f.to]) hcur rfl isz_21 (by rw [hcs, HPS.out]; exact (by decide : 16 + 1 ≤ 19)) (by simp [Value.oneCell']) (fun z9 u9 hu => by rcases z9 with _ | z9 <;> simp at hu; subst hu; simp) (fnB_of (by simp)) (fun w' h1 h2 => hK undef w' ⟨by obtain ⟨c2, h3, _⟩ := h2.blk _ hcur; exact ⟨c2, h3⟩, h1⟩ h2),
  fun ac W hC o q K hK => op_u (u := .pointer (some ⟨(w.heap.size + 2), 17, none⟩)) rfl (r_field 29 _ 13 rfl (yA (hO o 3)) zU29 rfl (n := 0) isz_26 rfl) (hK _ _ H32.out.symm (Cp.refl _)),
  by
   intro ac W hC hold hdep K hK
   obtain ⟨cur, hcur, hcs, _⟩ := hC.blk _ HP3.out
   exact op_store rfl 26 (.tmp 32) (.tmp 30) rfl 17 (.slice i.A i.n i.c) (yA (dL hdep 6 H32)) (yA (dL hdep 3 H30)) (news := [.slice i.A i.n i.c]) hcur rfl isz_26 (by rw [hcs, HPS.out]; exact (by decide : 17 + 1 ≤ 19)) (by simp [Value.oneCell']) (fun z9 u9 hu => by rcases z9 with _ | z9 <;> simp at hu; subst hu; simp) (fnB_of (by simp)) (fun w' h1 h2 => hK undef w' ⟨by obtain ⟨c2, h3, _⟩ := h2.blk _ hcur; exact ⟨c2, h3⟩, h1⟩ h2), trivial⟩ ?_
 · intro p hp v W W' h hC
   simp only [zH, reduceCtorEq, Sum.inr.injEq, zI, or_false, false_or] at hp
   rcases hp with rfl | rfl
   all_goals
    obtain ⟨⟨cur, h1⟩, h2⟩ := h
    obtain ⟨c2, h3, _⟩ := hC.blk _ h1
    refine ⟨⟨c2, h3⟩, fun z9 u9 hu => hC.keep h1 ?_ (h2 z9 u9 hu)⟩
    rcases z9 with _ | _ | _ | _ | _ | z9 <;> simp at hu <;> subst hu <;> simp
 intro wc hC
 simp only [FinC, Act.put, zD, zA, zB]
 rintro ⟨_, _, g0⟩ ⟨_, _, g1⟩
 clear H27 H28 H29 H30 H31 H32
 have HFO : ([(16, .int .i32 f.to), (17, .slice i.A i.n i.c)] : List (Nat × Value)).foldl (fun ps x => ps.setIfInBounds x.1 x.2) (Oqk4R3 t) = (Oqk4R1 t f i) := by kernel_rfl
 have HPC : Hid (Blk wc (w.heap.size + 2) 29 (Oqk4R1 t f i)) := by
  unfold Hid
  rw [← HFO]
  refine hC.done HP3.out (fnB_of (by simp)) (fun k v hkv => ?_) (fun k v hkv => ?_)
  · simp only [zH, Prod.mk.injEq, zI, or_false] at hkv
    have : k ≤ 18 := by omega
    exact Nat.lt_of_le_of_lt this (by decide : 18 < 19)
  · simp only [zH, Prod.mk.injEq, zI, or_false] at hkv
    rcases hkv with ⟨rfl, rfl⟩ | ⟨rfl, rfl⟩
    · exact g0 0 _ rfl
    · exact g1 0 _ rfl
 have HZC : Hid (Blk wc (w.heap.size + 1) 29 old) := HZ3.out.grown hC.grown (by simp)
 have HBC : Hid (Below w.heap.size w wc) := HB3.out.grown hC.grown (by omega) (fun k hk => by injection hk with hk; omega)
 have hzc : wc.heap.size = w.heap.size + 3 := by rw [hC.size, hz3]
 clear hC HFO g0 g1
 go_wp2_with (first
  | (with_reducible refine wpAq 33 ?_
     refine wpList_load_row rfl 29 (.tmp 3) rfl (w.heap.size + 2) rfl 29 _ _ _ HPC.out zU29 rfl isz_29 ?_)
  | (with_reducible refine wpSt 2 ?_
     refine wpList_store_row rfl 29 (.tmp 2) (.tmp 33) rfl (w.heap.size + 1) (Oqk4R1 t f i) rfl rfl 29 _ HZC.out isz_29 (by rw [HOLD.out]; rfl) (by simp [Value.oneCell']) ?_
     generalize hww : World.setRow _ _ _ = wz
     have HBZ : Hid (Blk wz (w.heap.size + 1) 29 (Oqk4R1 t f i)) := (by unfold Hid; rw [← hww]; exact cells_setRow HZC.out)
     have HBB : Hid (Below w.heap.size w wz) := (by unfold Hid; rw [← hww]; exact below_setRow' HBC.out (by omega) _)
     clear hww))
 refine bodyPost_ret (results_cell_row rfl _ _ (w.heap.size + 1) 29 _ _ _ rfl HBZ.out zU29 rfl isz_29) rfl ?_
 exact ⟨rfl, HBB.out⟩
theorem kept_g12 (t : Int) (htt : t ∈ ([(-11), 11, 107] : List Int)) (f : OpF) (d a k0 k1 k2 k3 k4 i s : Sl) (w : World) (ht : f.t = t) : Calls Tryz.prog 112 #[.agg (f.row d a k0 k1 k2 k3 k4 i s).toArray] w fun e w' => e = .returned (.agg (keptRow f d a k0 k1 k2 k3 k4 i s).toArray) ∧ Below w.heap.size w w' := by
 have HE : Hid ((keptRow f d a k0 k1 k2 k3 k4 i s).toArray = (Oqk4R3 t)) := by
  unfold Hid keptRow keptF kS
  rw [ht]
  simp only [zH, zI, or_false] at htt
  rcases htt with rfl | rfl | rfl <;> simp [tP, tD, tA, tF, tV, tW, tC, tL, tZ, tT, tS, OpF.row, Sl.v, nilS]
 rw [HE.out]
 obtain ⟨cs, hcs⟩ : ∃ cs : Array Value, cs = (f.row d a k0 k1 k2 k3 k4 i s).toArray := ⟨_, rfl⟩
 rw [← hcs]
 have hc0 : cs[0]? = some (.int .i32 t) := by rw [hcs, ← ht]; rfl
 have HC0 := Hi hc0
 have HCS := Hi hcs
 obtain ⟨w1, hw1⟩ := xa w cs 29
 have hz1 : w1.heap.size = w.heap.size + 1 := by rw [← hw1]; simp
 have HN1 := Hi (zW hw1)
 have HB1 := Hi (zV hw1)
 clear hc0 hcs ht HE
 obtain ⟨n0, n1, n2, n3, n4, n5, n6, n7, n8, n9, n10, n11, n12, n13, n14, n15, n16, n17, n18, _⟩ := sw_all (cs := [14, 22, 101, (-10), 1, 15, 19, 21, 2, 13, 5, 7, 120, 3, 4, 8, 12, 106, 18]) htt rfl
 have S : ((t == (-11)) = true) ∨ ((t == (-11)) = false ∧ (t == 11) = true) ∨ ((t == (-11)) = false ∧ (t == 11) = false ∧ (t == 107) = true) := by
  simp only [zH, zI, or_false] at htt
  rcases htt with rfl | rfl | rfl <;> decide
 clear htt
 rcases S with s0 | ⟨s0, s1⟩ | ⟨s0, s1, s2⟩
 all_goals
  go_enter Tryz.func112, Tryz.ntmps112
  go_wp2_with (first
   | (refine wpList_new rfl 29 rfl zer_op ?_
      intro old hold
      obtain ⟨w2, hw2⟩ := xa w1 old 29
      rw [hw2]
      have hz2 : w2.heap.size = w.heap.size + 2 := (by rw [← hw2]; simp [hz1])
      have HN2 : Hid (Blk w2 w.heap.size 29 cs) := (by unfold Hid; rw [← hw2]; exact HN1.out.alloc _)
      have HZ2 : Hid (Blk w2 (w.heap.size + 1) 29 old) := (by unfold Hid; rw [← hw2]; exact Blk.new' hz1.symm)
      have HB2 : Hid (Below w.heap.size w w2) := (by unfold Hid; rw [← hw2]; exact HB1.out.alloc (by omega) _)
      have HOLD := Hi hold
      have c0 := yC HN2.out 0 HC0.out
      clear hw2 hold)
   | (refine wpList_newrow rfl rfl 29 rfl 3 rfl (.tmp 6) rfl rfl (Oqk4R3 t) (fun _ => rfl) (show 3 < 116 by decide) zer_op isz_29 (by simp [Value.oneCell']) ?_
      obtain ⟨w3, hw3⟩ := xa w2 (Oqk4R3 t) 29
      rw [hw3]
      have hz3 : w3.heap.size = w.heap.size + 3 := (by rw [← hw3]; simp [hz2])
      have HN3 : Hid (Blk w3 w.heap.size 29 cs) := (by unfold Hid; rw [← hw3]; exact HN2.out.alloc _)
      have HZ3 : Hid (Blk w3 (w.heap.size + 1) 29 old) := (by unfold Hid; rw [← hw3]; exact HZ2.out.alloc _)
      have HP3 : Hid (Blk w3 (w.heap.size + 2) 29 (Oqk4R3 t)) := (by unfold Hid; rw [← hw3]; exact Blk.new' hz2.symm)
      have HB3 : Hid (Below w.heap.size w w3) := (by unfold Hid; rw [← hw3]; exact HB2.out.alloc (by omega) _)
      have d0 := yC HN3.out 0 HC0.out
      clear hw3 c0 HN2 HZ2 HB2)
   | (with_reducible refine wpAq 38 ?_
      refine wpList_load_row rfl 29 (.tmp 3) rfl (w.heap.size + 2) rfl 29 _ _ _ HP3.out zU29 rfl isz_29 ?_)
   | (with_reducible refine wpSt 2 ?_
      refine wpList_store_row rfl 29 (.tmp 2) (.tmp 38) rfl (w.heap.size + 1) (Oqk4R3 t) rfl rfl 29 _ HZ3.out isz_29 (by rw [HOLD.out]; rfl) (by simp [Value.oneCell']) ?_
      generalize hww : World.setRow _ _ _ = wz
      have HBZ : Hid (Blk wz (w.heap.size + 1) 29 (Oqk4R3 t)) := (by unfold Hid; rw [← hww]; exact cells_setRow HZ3.out)
      have HBB : Hid (Below w.heap.size w wz) := (by unfold Hid; rw [← hww]; exact below_setRow' HB3.out (by omega) _)
      clear hww))
  refine bodyPost_ret (results_cell_row rfl _ _ (w.heap.size + 1) 29 _ _ _ rfl HBZ.out zU29 rfl isz_29) rfl ?_
  exact ⟨rfl, HBB.out⟩

def ownTypes : List Int := [1, 15, 19, 21, 2, 13, 5, 7, 120, 121, 14, (-10), (-11), 20, 3, 4, 8, 12, 6, 9, 103, 104, 106, 11, 18, 22, 101, 107]
theorem kept_any (f : OpF) (d a k0 k1 k2 k3 k4 i s : Sl) (w : World) (ht : f.t ∈ ownTypes) : Calls Tryz.prog 112 #[.agg (f.row d a k0 k1 k2 k3 k4 i s).toArray] w fun e w' => e = .returned (.agg (keptRow f d a k0 k1 k2 k3 k4 i s).toArray) ∧ Below w.heap.size w w' := by
 simp only [ownTypes, zH, zI, or_false] at ht
 rcases ht with h | h | h | h | h | h | h | h | h | h | h | h | h | h | h | h | h | h | h | h | h | h | h | h | h | h | h | h
 · exact kept_g0 1 (by decide) f d a k0 k1 k2 k3 k4 i s w h
 · exact kept_g0 15 (by decide) f d a k0 k1 k2 k3 k4 i s w h
 · exact kept_g0 19 (by decide) f d a k0 k1 k2 k3 k4 i s w h
 · exact kept_g1 21 (by decide) f d a k0 k1 k2 k3 k4 i s w h
 · exact kept_g2 2 (by decide) f d a k0 k1 k2 k3 k4 i s w h
 · exact kept_g2 13 (by decide) f d a k0 k1 k2 k3 k4 i s w h
 · exact kept_g3 5 (by decide) f d a k0 k1 k2 k3 k4 i s w h
 · exact kept_g4 7 (by decide) f d a k0 k1 k2 k3 k4 i s w h
 · exact kept_g5 120 (by decide) f d a k0 k1 k2 k3 k4 i s w h
 · exact kept_g6 121 (by decide) f d a k0 k1 k2 k3 k4 i s w h
 · exact kept_g9 14 (by decide) f d a k0 k1 k2 k3 k4 i s w h
 · exact kept_g11 (-10) (by decide) f d a k0 k1 k2 k3 k4 i s w h
 · exact kept_g12 (-11) (by decide) f d a k0 k1 k2 k3 k4 i s w h
 · exact kept_g6 20 (by decide) f d a k0 k1 k2 k3 k4 i s w h
 · exact kept_g7 3 (by decide) f d a k0 k1 k2 k3 k4 i s w h
 · exact kept_g7 4 (by decide) f d a k0 k1 k2 k3 k4 i s w h
 · exact kept_g7 8 (by decide) f d a k0 k1 k2 k3 k4 i s w h
 · exact kept_g7 12 (by decide) f d a k0 k1 k2 k3 k4 i s w h
 · exact kept_g6 6 (by decide) f d a k0 k1 k2 k3 k4 i s w h
 · exact kept_g6 9 (by decide) f d a k0 k1 k2 k3 k4 i s w h
 · exact kept_g6 103 (by decide) f d a k0 k1 k2 k3 k4 i s w h
 · exact kept_g6 104 (by decide) f d a k0 k1 k2 k3 k4 i s w h
 · exact kept_g8 106 (by decide) f d a k0 k1 k2 k3 k4 i s w h
 · exact kept_g12 11 (by decide) f d a k0 k1 k2 k3 k4 i s w h
 · exact kept_g8 18 (by decide) f d a k0 k1 k2 k3 k4 i s w h
 · exact kept_g9 22 (by decide) f d a k0 k1 k2 k3 k4 i s w h
 · exact kept_g10 101 (by decide) f d a k0 k1 k2 k3 k4 i s w h
 · exact kept_g12 107 (by decide) f d a k0 k1 k2 k3 k4 i s w h

def idxP {α : Type} (p : α → Bool) (L : List α) : Int := match L.findIdx? p with
 | some i => (i : Int)
 | none => -1
theorem idxP_any {α : Type} (p : α → Bool) (L : List α) : decide (idxP p L ≥ 0) = L.any p := by
 unfold idxP
 cases h : L.findIdx? p with
 | none =>
   rw [List.findIdx?_eq_none_iff] at h
   have : L.any p = false := by
    rw [List.any_eq_false]
    intro x hx
    simpa using h x hx
   rw [this]
   rfl
 | some i =>
   have h1 := List.findIdx?_eq_some_iff_getElem.1 h
   obtain ⟨hi, hp, _⟩ := h1
   have : L.any p = true := List.any_eq_true.2 ⟨_, List.getElem_mem hi, hp⟩
   rw [this]
   simp
theorem idxP_at {α : Type} {p : α → Bool} {L : List α} {k : Nat} (hk : k < L.length) (h : ∀ z (hz : z < L.length), z < k → p L[z] = false) (hp : p L[k] = true) : idxP p L = (k : Int) := by
 have : L.findIdx? p = some k := List.findIdx?_eq_some_iff_getElem.2 ⟨hk, hp, fun j hj => by simp [h j (by omega) hj]⟩
 unfold idxP
 rw [this]
theorem idxP_no {α : Type} {p : α → Bool} {L : List α} (h : ∀ z (hz : z < L.length), p L[z] = false) : idxP p L = -1 := by
 have : L.findIdx? p = none := by
  rw [List.findIdx?_eq_none_iff]
  intro x hx
  obtain ⟨z, hz, rfl⟩ := List.getElem_of_mem hx
  exact h z hz
 unfold idxP
 rw [this]

theorem idx_str (A : Option Addr) (n c B : Nat) (L : List ByteArray) (p : ByteArray → Bool) (F : FuncId) (w : World) (hn : n ≤ 4611686018427387904) (hB : B ≤ w.heap.size) (hr : Reads w B 1 A n (strCells L)) (hent : ∀ (args : Array Value) (W : World), (callFunc F args).run Tryz.prog W = .ok (.enter F args) W)
 (HF : ∀ x ∈ L, ∀ W, Below w.heap.size w W → Calls Tryz.prog F #[.string x] W fun e w' => e = .returned (.bool (p x)) ∧ Below W.heap.size W w') :
 Calls Tryz.prog 132 #[.slice A n c, .func (.func F) #[] #[]] w fun e w' => e = .returned (.int .i64 (idxP p L)) ∧ Below w.heap.size w w' := by
 have hl : L.length = n := by have := hr.1; rw [strCells_length] at this; omega
 have HL := Hi hl
 have HR := Hi hr
 have HFF := Hi HF
 have HENT := Hi hent
 clear hl hr HF hent
 go_enter Tryz.func132, Tryz.ntmps132
 go_wp2
 go_loopw [8] (fun k' wr => ∃ k : Nat, k ≤ n ∧ k' = .int .i64 k ∧ Hid (∀ z (h : z < L.length), z < k → p L[z] = false) ∧ Hid (Below w.heap.size w wr)) (fun k' _ => n - (intOf k').toNat)
 case atStart => exact ⟨0, Nat.zero_le _, rfl, (by intro z _ hz; omega), Below.refl _ _⟩
 case round =>
  obtain ⟨k, hk, rfl, HP, HB0⟩ := hrel
  by_cases hlt : k < n
  · have hkl : k < L.length := by rw [HL.out]; exact hlt
    obtain ⟨b, off, rfl, _, hx⟩ := (HR.out.below (HB0.out.mono hB)).plain (by omega) (by omega)
    have x0 := hx _ _ (strCells_get L k hkl)
    simp only [Nat.mul_one] at x0
    have hf := HFF.out L[k] (List.getElem_mem hkl) wr HB0.out
    have hat := fun h => idxP_at (p := p) (L := L) hkl HP.out h
    have hno : p L[k] = false → ∀ z (h : z < L.length), z < k + 1 → p L[z] = false := fun h z hz hzk => by
     rcases (by omega : z < k ∨ z = k) with h1 | rfl
     · exact HP.out z hz h1
     · exact h
    obtain ⟨qa, hqa⟩ : ∃ a, a = L[k] := ⟨_, rfl⟩
    rw [← hqa] at x0 hf hat hno
    obtain ⟨pb, hpb⟩ : ∃ b, b = p qa := ⟨_, rfl⟩
    rw [← hpb] at hf hat hno
    have HC := Hi hf
    have hent := HENT.out
    clear hqa hpb hf hx hkl
    cases pb
    · have HNO := Hi (hno rfl)
      clear hat hno HP
      go_wp2_with (first
       | (refine (HC.out).mono ?_; rintro e w2 ⟨rfl, hb⟩; have HB2 := Hi (HB0.out.trans (hb.mono HB0.out.size)); clear hb))
      go_roundw
      case rel => exact ⟨k + 1, by omega, by go_num, HNO.out, HB2.out⟩
      case measure => simp [intOf]; omega
    · have HAT := Hi (hat rfl)
      clear hat hno HP
      go_wp2_with (first
       | (refine (HC.out).mono ?_; rintro e w2 ⟨rfl, hb⟩; have HB2 := Hi (HB0.out.trans (hb.mono HB0.out.size)); clear hb))
      go_ret
      exact ⟨by rw [HAT.out]; rfl, HB2.out⟩
  · have HNO : Hid (idxP p L = -1) := idxP_no fun z hz => HP.out z hz (by rw [HL.out] at hz; omega)
    clear HP
    go_wp2
    go_ret
    exact ⟨by rw [HNO.out]; rfl, HB0.out⟩
theorem has_str (A : Option Addr) (n c B : Nat) (L : List ByteArray) (p : ByteArray → Bool) (F : FuncId) (w : World) (hn : n ≤ 4611686018427387904) (hB : B ≤ w.heap.size) (hr : Reads w B 1 A n (strCells L)) (hent : ∀ (args : Array Value) (W : World), (callFunc F args).run Tryz.prog W = .ok (.enter F args) W)
 (HF : ∀ x ∈ L, ∀ W, Below w.heap.size w W → Calls Tryz.prog F #[.string x] W fun e w' => e = .returned (.bool (p x)) ∧ Below W.heap.size W w') :
 Calls Tryz.prog 107 #[.slice A n c, .func (.func F) #[] #[]] w fun e w' => e = .returned (.bool (L.any p)) ∧ Below w.heap.size w w' := by
 have HI := Hi (idx_str A n c B L p F w hn hB hr hent HF)
 have HA := Hi (idxP_any p L)
 generalize idxP p L = q at HI HA
 generalize L.any p = r at HA ⊢
 clear hr HF hent
 go_enter Tryz.func107, Tryz.ntmps107
 go_wp2_with (go_at_call 132; refine (HI.out).mono ?_; rintro e w2 ⟨rfl, hb⟩; have HB2 := Hi hb; clear hb)
 go_ret
 exact ⟨by rw [← HA.out]; simp, HB2.out⟩
theorem idx_id (A : Option Addr) (n c B : Nat) (L : List (ByteArray × ByteArray)) (p : (ByteArray × ByteArray) → Bool) (F : FuncId) (w : World) (hn : n ≤ 4611686018427387904) (hB : B ≤ w.heap.size) (hr : Reads w B 2 A n (idCells L)) (hent : ∀ (args : Array Value) (W : World), (callFunc F args).run Tryz.prog W = .ok (.enter F args) W)
 (HF : ∀ x ∈ L, ∀ W, Below w.heap.size w W → Calls Tryz.prog F #[.agg #[.string x.1, .string x.2]] W fun e w' => e = .returned (.bool (p x)) ∧ Below W.heap.size W w') :
 Calls Tryz.prog 134 #[.slice A n c, .func (.func F) #[] #[]] w fun e w' => e = .returned (.int .i64 (idxP p L)) ∧ Below w.heap.size w w' := by
 have hl : L.length = n := by have := hr.1; rw [idCells_length] at this; omega
 have HL := Hi hl
 have HR := Hi hr
 have HFF := Hi HF
 have HENT := Hi hent
 clear hl hr HF hent
 go_enter Tryz.func134, Tryz.ntmps134
 go_wp2
 go_loopw [8] (fun k' wr => ∃ k : Nat, k ≤ n ∧ k' = .int .i64 k ∧ Hid (∀ z (h : z < L.length), z < k → p L[z] = false) ∧ Hid (Below w.heap.size w wr)) (fun k' _ => n - (intOf k').toNat)
 case atStart => exact ⟨0, Nat.zero_le _, rfl, (by intro z _ hz; omega), Below.refl _ _⟩
 case round =>
  obtain ⟨k, hk, rfl, HP, HB0⟩ := hrel
  by_cases hlt : k < n
  · have hkl : k < L.length := by rw [HL.out]; exact hlt
    obtain ⟨b, off, rfl, _, hx⟩ := (HR.out.below (HB0.out.mono hB)).plain (by omega) (by omega)
    obtain ⟨g0, g1⟩ := idCells_get L k hkl
    have x0 := hx _ _ g0
    have x1 := hx _ _ g1
    have HROW : Hid (∀ j v, ([.string L[k].1, .string L[k].2] : List Value)[j]? = some v → wr.cell? ((⟨b, off + k * 2, none⟩ : Addr).add j) = some v) := fun j v hv => by
     rw [zN]
     rcases j with _ | _ | j
     · simp at hv; subst hv; simpa using x0
     · simp at hv; subst hv; simpa [Nat.add_assoc] using x1
     · simp at hv
    clear x0 x1 g0 g1
    have hf := HFF.out L[k] (List.getElem_mem hkl) wr HB0.out
    have hat := fun h => idxP_at (p := p) (L := L) hkl HP.out h
    have hno : p L[k] = false → ∀ z (h : z < L.length), z < k + 1 → p L[z] = false := fun h z hz hzk => by
     rcases (by omega : z < k ∨ z = k) with h1 | rfl
     · exact HP.out z hz h1
     · exact h
    obtain ⟨qa, hqa⟩ : ∃ a, a = L[k] := ⟨_, rfl⟩
    rw [← hqa] at HROW hf hat hno
    obtain ⟨pb, hpb⟩ : ∃ b, b = p qa := ⟨_, rfl⟩
    rw [← hpb] at hf hat hno
    have HC := Hi hf
    have hent := HENT.out
    clear hqa hpb hf hx hkl
    cases pb
    · have HNO := Hi (hno rfl)
      clear hat hno HP
      go_wp2_with (first
       | (refine wpList_load_at (by rfl) 102 (.tmp 14) rfl ⟨b, off + k * 2, none⟩ rfl [.string qa.1, .string qa.2] _ HROW.out zU102 rfl isz_102 ?_)
       | (refine (HC.out).mono ?_; rintro e w2 ⟨rfl, hb⟩; have HB2 := Hi (HB0.out.trans (hb.mono HB0.out.size)); clear hb))
      go_roundw
      case rel => exact ⟨k + 1, by omega, by go_num, HNO.out, HB2.out⟩
      case measure => simp [intOf]; omega
    · have HAT := Hi (hat rfl)
      clear hat hno HP
      go_wp2_with (first
       | (refine wpList_load_at (by rfl) 102 (.tmp 14) rfl ⟨b, off + k * 2, none⟩ rfl [.string qa.1, .string qa.2] _ HROW.out zU102 rfl isz_102 ?_)
       | (refine (HC.out).mono ?_; rintro e w2 ⟨rfl, hb⟩; have HB2 := Hi (HB0.out.trans (hb.mono HB0.out.size)); clear hb))
      go_ret
      exact ⟨by rw [HAT.out]; rfl, HB2.out⟩
  · have HNO : Hid (idxP p L = -1) := idxP_no fun z hz => HP.out z hz (by rw [HL.out] at hz; omega)
    clear HP
    go_wp2
    go_ret
    exact ⟨by rw [HNO.out]; rfl, HB0.out⟩
theorem has_id (A : Option Addr) (n c B : Nat) (L : List (ByteArray × ByteArray)) (p : (ByteArray × ByteArray) → Bool) (F : FuncId) (w : World) (hn : n ≤ 4611686018427387904) (hB : B ≤ w.heap.size) (hr : Reads w B 2 A n (idCells L)) (hent : ∀ (args : Array Value) (W : World), (callFunc F args).run Tryz.prog W = .ok (.enter F args) W)
 (HF : ∀ x ∈ L, ∀ W, Below w.heap.size w W → Calls Tryz.prog F #[.agg #[.string x.1, .string x.2]] W fun e w' => e = .returned (.bool (p x)) ∧ Below W.heap.size W w') :
 Calls Tryz.prog 113 #[.slice A n c, .func (.func F) #[] #[]] w fun e w' => e = .returned (.bool (L.any p)) ∧ Below w.heap.size w w' := by
 have HI := Hi (idx_id A n c B L p F w hn hB hr hent HF)
 have HA := Hi (idxP_any p L)
 generalize idxP p L = q at HI HA
 generalize L.any p = r at HA ⊢
 clear hr HF hent
 go_enter Tryz.func113, Tryz.ntmps113
 go_wp2_with (go_at_call 134; refine (HI.out).mono ?_; rintro e w2 ⟨rfl, hb⟩; have HB2 := Hi hb; clear hb)
 go_ret
 exact ⟨by rw [← HA.out]; simp, HB2.out⟩
theorem idx_lists (g off n c B : Nat) (X : List (Sl × List ByteArray)) (p : Sl × List ByteArray → Bool) (F : FuncId) (w : World) (hn : n ≤ 4611686018427387904) (hB : B ≤ w.heap.size) (hg : g < w.heap.size) (hX : ListsAt w B g off n X) (hent : ∀ (args : Array Value) (W : World), (callFunc F args).run Tryz.prog W = .ok (.enter F args) W)
 (HF : ∀ x ∈ X, ∀ W, Below w.heap.size w W → Calls Tryz.prog F #[.slice x.1.A x.1.n x.1.c] W fun e w' => e = .returned (.bool (p x)) ∧ Below W.heap.size W w') :
 Calls Tryz.prog 131 #[.slice (some ⟨g, off, none⟩) n c, .func (.func F) #[] #[]] w fun e w' => e = .returned (.int .i64 (idxP p X)) ∧ Below w.heap.size w w' := by
 have HX := Hi hX
 have HFF := Hi HF
 have HENT := Hi hent
 clear hX HF hent
 go_enter Tryz.func131, Tryz.ntmps131
 go_wp2
 go_loopw [8] (fun k' wr => ∃ k : Nat, k ≤ n ∧ k' = .int .i64 k ∧ Hid (∀ z (h : z < X.length), z < k → p X[z] = false) ∧ Hid (Below w.heap.size w wr)) (fun k' _ => n - (intOf k').toNat)
 case atStart => exact ⟨0, Nat.zero_le _, rfl, (by intro z _ hz; omega), Below.refl _ _⟩
 case round =>
  obtain ⟨k, hk, rfl, HP, HB0⟩ := hrel
  by_cases hlt : k < n
  · have hkl : k < X.length := by rw [HX.out.len]; exact hlt
    have x1 := (HX.out.below HB0.out hB hg).cell k hkl
    have hf := HFF.out X[k] (List.getElem_mem hkl) wr HB0.out
    have hat := fun h => idxP_at (p := p) (L := X) hkl HP.out h
    have hno : p X[k] = false → ∀ z (h : z < X.length), z < k + 1 → p X[z] = false := fun h z hz hzk => by
     rcases (by omega : z < k ∨ z = k) with h1 | rfl
     · exact HP.out z hz h1
     · exact h
    obtain ⟨qa, hqa⟩ : ∃ a, a = X[k] := ⟨_, rfl⟩
    rw [← hqa] at x1 hf hat hno
    unfold Sl.v at x1
    obtain ⟨pb, hpb⟩ : ∃ b, b = p qa := ⟨_, rfl⟩
    rw [← hpb] at hf hat hno
    have HC := Hi hf
    have hent := HENT.out
    clear hqa hpb hf hkl
    cases pb
    · have HNO := Hi (hno rfl)
      clear hat hno HP
      go_wp2_with (refine (HC.out).mono ?_; rintro e w2 ⟨rfl, hb⟩; have HB2 := Hi (HB0.out.trans (hb.mono HB0.out.size)); clear hb)
      go_roundw
      case rel => exact ⟨k + 1, by omega, by go_num, HNO.out, HB2.out⟩
      case measure => simp [intOf]; omega
    · have HAT := Hi (hat rfl)
      clear hat hno HP
      go_wp2_with (refine (HC.out).mono ?_; rintro e w2 ⟨rfl, hb⟩; have HB2 := Hi (HB0.out.trans (hb.mono HB0.out.size)); clear hb)
      go_ret
      exact ⟨by rw [HAT.out]; rfl, HB2.out⟩
  · have HNO : Hid (idxP p X = -1) := idxP_no fun z hz => HP.out z hz (by rw [HX.out.len] at hz; omega)
    clear HP
    go_wp2
    go_ret
    exact ⟨by rw [HNO.out]; rfl, HB0.out⟩
theorem has_lists (g off n c B : Nat) (X : List (Sl × List ByteArray)) (p : Sl × List ByteArray → Bool) (F : FuncId) (w : World) (hn : n ≤ 4611686018427387904) (hB : B ≤ w.heap.size) (hg : g < w.heap.size) (hX : ListsAt w B g off n X) (hent : ∀ (args : Array Value) (W : World), (callFunc F args).run Tryz.prog W = .ok (.enter F args) W)
 (HF : ∀ x ∈ X, ∀ W, Below w.heap.size w W → Calls Tryz.prog F #[.slice x.1.A x.1.n x.1.c] W fun e w' => e = .returned (.bool (p x)) ∧ Below W.heap.size W w') :
 Calls Tryz.prog 105 #[.slice (some ⟨g, off, none⟩) n c, .func (.func F) #[] #[]] w fun e w' => e = .returned (.bool (X.any p)) ∧ Below w.heap.size w w' := by
 have HI := Hi (idx_lists g off n c B X p F w hn hB hg hX hent HF)
 have HA := Hi (idxP_any p X)
 generalize idxP p X = q at HI HA
 generalize X.any p = r at HA ⊢
 clear hX HF hent
 go_enter Tryz.func105, Tryz.ntmps105
 go_wp2_with (go_at_call 131; refine (HI.out).mono ?_; rintro e w2 ⟨rfl, hb⟩; have HB2 := Hi hb; clear hb)
 go_ret
 exact ⟨by rw [← HA.out]; simp, HB2.out⟩

def Grew (w : World) (e : Ending) (w' : World) : Prop := ∃ A c, e = .returned (.slice A 0 c) ∧ w'.ownsRow w.heap.size 9 1 (.slice A 0 c) 0 [] ∧ Below w.heap.size w w'
theorem zeroCells_size1 (n : Nat) : (Builtin.zeroCells (Value.string .empty).cells n).size = n := by simp [Builtin.zeroCells, Value.cells]
theorem growS_any (n : Nat) (hn : n * 16 ≤ 140737488355328) (w : World) : Calls Tryz.prog 130 #[.slice none 0 0, .int .i64 (n : Int)] w (Grew w) := by
 obtain ⟨i0, hi0, hz0, hz1, hz2⟩ := info_parts strO_info
 rcases Nat.eq_zero_or_pos n with h0 | h0
 · subst h0
   go_enter Tryz.func130, Tryz.ntmps130
   go_wp2
   go_ret
   exact ⟨none, 0, rfl, World.ownsRow_nil _ _ _ _, Below.refl _ _⟩
 · have hrz : ∀ ty, (Builtin.append_ #[24, 3] ty #[.slice none 0 0, .int .i64 (n : Int)]).run Tryz.prog w = .ok (.slice (some ⟨w.heap.size, 0, none⟩) n (grownCap w n 0 9)) (w.drew.alloc (.cells (([] : List Value).toArray ++ Builtin.zeroCells (Value.string .empty).cells n ++ Builtin.zeroCells (Value.string .empty).cells (grownCap w n 0 9 - n)) 9)) := fun ty => by
    have h := Lib.run_append_grow_zeros w 24 3 ty 9 i0 (.string .empty) .i64 .i64 zU24 zU3 hi0 hz0 none 0 0 [] (run_firstCells_none w.drew i0.size 0 0 0) n h0 (by omega) (by omega) (by omega) (by rw [hz2]; omega) (by rw [hz2, Nat.zero_add]; exact growslice_fits h0 hn)
    rw [Nat.zero_add] at h
    exact h
   have hGn : n ≤ grownCap w n 0 9 := grownCap_ge w _ _ _
   have hG63 := grownCap_le_maxLen w n 0 9 (by unfold maxLen; omega)
   obtain ⟨G, hG⟩ : ∃ G, G = grownCap w n 0 9 := ⟨_, rfl⟩
   rw [← hG] at hrz hGn hG63
   have HOW : Hid ((w.drew.alloc (.cells (([] : List Value).toArray ++ Builtin.zeroCells (Value.string .empty).cells n ++ Builtin.zeroCells (Value.string .empty).cells (G - n)) 9)).ownsRow w.heap.size 9 1 (.slice (some ⟨w.heap.size, 0, none⟩) 0 G) 0 []) := by
    refine World.ownsRow_made w.drew _ G zR hG63 ?_
    rw [Array.size_append, Array.size_append, zeroCells_size1, zeroCells_size1]
    simp
    omega
   have HB : Hid (Below w.heap.size w (w.drew.alloc (.cells (([] : List Value).toArray ++ Builtin.zeroCells (Value.string .empty).cells n ++ Builtin.zeroCells (Value.string .empty).cells (G - n)) 9))) := zT.drew.alloc zR _
   unfold maxLen at hG63
   generalize hcells : (([] : List Value).toArray ++ Builtin.zeroCells (Value.string .empty).cells n ++ Builtin.zeroCells (Value.string .empty).cells (G - n)) = cells at hrz HOW HB
   clear hG hcells hi0 hz0 hz1 hz2
   go_enter Tryz.func130, Tryz.ntmps130
   go_wp2_with (at_builtin; refine Lib.wpList_append_run _ rfl _ _ _ _ rfl _ _ rfl rfl _ _ (hrz _) ?_)
   go_ret
   exact ⟨_, G, rfl, HOW.out, HB.out⟩
theorem strCells_append (a b : List ByteArray) : strCells (a ++ b) = strCells a ++ strCells b := by simp [strCells]
def sumLen (X : List (Sl × List ByteArray)) : Nat := (X.map fun x => x.1.n).sum
def Concated (w : World) (L : List ByteArray) (e : Ending) (w' : World) : Prop := ∃ A c, e = .returned (.slice A L.length c) ∧ w'.ownsRow w.heap.size 9 1 (.slice A L.length c) L.length (strCells L) ∧ Below w.heap.size w w'
theorem sumLen_drop {X : List (Sl × List ByteArray)} {k : Nat} (h : k < X.length) : sumLen (X.drop k) = (X[k]).1.n + sumLen (X.drop (k + 1)) := by
 rw [List.drop_eq_getElem_cons h]
 unfold sumLen
 rw [List.map_cons, List.sum_cons]
theorem concat_any (g off n c B : Nat) (X : List (Sl × List ByteArray)) (w : World) (hn : n ≤ 1000) (hB : B ≤ w.heap.size) (hg : g < w.heap.size) (hX : ListsAt w B g off n X) (hs : sumLen X * 16 ≤ 140737488355328) :
 Calls Tryz.prog 104 #[.slice (some ⟨g, off, none⟩) n c] w (Concated w (X.flatMap Prod.snd)) := by
 obtain ⟨i0, hi0, hz0, hzi1, hzi2⟩ := info_parts strO_info
 have HX := Hi hX
 have hsb : sumLen X ≤ 8796093022208 := by omega
 have HS := Hi hs
 clear hX hs
 go_enter Tryz.func104, Tryz.ntmps104
 go_wp2
 go_loop [3, 11] (fun v3 vi => ∃ (k m : Nat), k ≤ n ∧ m ≤ 8796093022208 ∧ v3 = .int .i64 (m : Int) ∧ vi = .int .i64 (k : Int) ∧ Hid (sumLen X = m + sumLen (X.drop k))) (fun _ vi => n - (intOf vi).toNat)
 case atStart => exact ⟨0, 0, by omega, by omega, by go_num, by go_num, (by unfold Hid; simp)⟩
 case round =>
  obtain ⟨k, m, hk, hm, rfl, rfl, HK⟩ := hrel
  by_cases hlt : k < n
  · have hkl : k < X.length := by rw [HX.out.len]; exact hlt
    have x1 := HX.out.cell k hkl
    have hd := sumLen_drop hkl
    obtain ⟨⟨⟨A1, n1, c1⟩, L1⟩, e1⟩ : ∃ q, q = X[k] := ⟨_, rfl⟩
    rw [← e1] at x1 hd
    unfold Sl.v at x1
    dsimp only at x1 hd
    have hk' := HK.out
    rw [hd] at hk'
    have hb1 : m + n1 ≤ 8796093022208 := by omega
    have HK2 : Hid (sumLen X = (m + n1) + sumLen (X.drop (k + 1))) := by unfold Hid; omega
    clear hkl e1 hd hk' HK
    go_wp2
    go_round
    case rel => exact ⟨k + 1, m + n1, by omega, by omega, by go_num, by go_num, HK2⟩
    case measure => simp [intOf]; omega
  · obtain rfl : k = n := by omega
    have HM : Hid (sumLen X = m) := by
     have h := HK.out
     rw [List.drop_eq_nil_of_le (by rw [HX.out.len]; exact Nat.le_refl _)] at h
     unfold Hid
     simpa [sumLen] using h
    have HGR := Hi (growS_any m (by have := HM.out; have := HS.out; omega) w)
    have HGE := HGR
    clear HK hlt
    go_wp2_with (go_at_call 130
                 refine (HGR.out).mono ?_
                 rintro e w1 ⟨A0, c0, rfl, ho, hb⟩
                 have HO := Hi ho
                 have HB1 := Hi hb
                 clear ho hb)
    go_loopw [6, 27] (fun v6 vi wr => ∃ (j m' : Nat) (A' : Option Addr) (c' : Nat), j ≤ k ∧ m' ≤ 8796093022208 ∧ v6 = .slice A' m' c' ∧ vi = .int .i64 (j : Int) ∧ Hid (wr.ownsRow w.heap.size 9 1 (.slice A' m' c') m' (strCells ((X.take j).flatMap Prod.snd))) ∧ Hid (m' = ((X.take j).flatMap Prod.snd).length) ∧ Hid (m' + sumLen (X.drop j) = sumLen X) ∧ Hid (Below w.heap.size w wr)) (fun _ vi _ => k - (intOf vi).toNat)
    case atStart => exact ⟨0, 0, A0, c0, by omega, by omega, rfl, by go_num, (by unfold Hid; simpa [strCells] using HO.out), (by unfold Hid; simp), (by unfold Hid; simp), HB1.out⟩
    case round =>
     clear HO HB1
     obtain ⟨j, m', A', c', hj, hm', rfl, rfl, HO, HML, HSM, HB1⟩ := hrel
     by_cases hlt : j < k
     · have hkl : j < X.length := by rw [HX.out.len]; exact hlt
       have x1 := (HX.out.below HB1.out hB hg).cell j hkl
       have hrd := (HX.out.below HB1.out hB hg).reads j hkl
       have hd := sumLen_drop hkl
       have htk : X.take (j + 1) = X.take j ++ [X[j]] := List.take_succ_eq_append_getElem hkl
       obtain ⟨⟨⟨A1, n1, c1⟩, L1⟩, e1⟩ : ∃ q, q = X[j] := ⟨_, rfl⟩
       rw [← e1] at x1 hd hrd htk
       unfold Sl.v at x1
       dsimp only at x1 hd hrd
       have hl1 : L1.length = n1 := by have := hrd.1; rw [strCells_length] at this; omega
       have hk' := HSM.out
       rw [hd] at hk'
       have hb1 : m' + n1 ≤ 8796093022208 := by omega
       have hb2 : (m' + n1) * 16 ≤ 140737488355328 := by omega
       have HSM2 : Hid ((m' + n1) + sumLen (X.drop (j + 1)) = sumLen X) := by unfold Hid; omega
       have hfl : (X.take (j + 1)).flatMap Prod.snd = (X.take j).flatMap Prod.snd ++ L1 := by rw [htk]; simp
       have HFL := Hi hfl
       have HRD := Hi hrd
       have HL1 := Hi hl1
       clear hkl e1 hd hk' hrd htk hl1 hfl HSM
       go_wp2_with (at_builtin
                    refine wpList_append_any _ rfl (.tmp 31) (.tmp 32) _ rfl w.heap.size 9 i0 _ 1 16 zU24 hi0 hz0 hzi1 hzi2 rfl (by decide) (.slice A' m' c') m' (strCells ((X.take j).flatMap Prod.snd)) rfl HO.out B A1 n1 c1 (strCells L1) rfl HRD.out (strCells_one _) (by unfold maxLen; omega) hb2 HB1.out.size ?_
                    intro v4 w4 hown4 hg4 hat4
                    obtain ⟨A4, c4, rfl⟩ := slice_form hown4
                    have HO4 : Hid (w4.ownsRow w.heap.size 9 1 (.slice A4 (m' + n1) c4) (m' + n1) (strCells ((X.take (j + 1)).flatMap Prod.snd))) := (by unfold Hid; rw [HFL.out, strCells_append]; exact hown4)
                    have HB4 : Hid (Below w.heap.size w w4) := HB1.out.grown hg4 HB1.out.size (fun q hq => (HO.out.lt q hq).1)
                    clear hown4 hg4 hat4)
       go_roundw
       case rel => exact ⟨j + 1, m' + n1, A4, c4, by omega, by omega, by first | rfl | go_num, by go_num, HO4.out, (by unfold Hid; rw [HFL.out, zG, ← HML.out, HL1.out]), HSM2.out, HB4.out⟩
       case measure => simp [intOf]; omega
     · obtain rfl : j = k := by omega
       have HF : Hid ((X.take j).flatMap Prod.snd = X.flatMap Prod.snd) := by unfold Hid; rw [List.take_of_length_le (by rw [HX.out.len]; exact Nat.le_refl _)]
       clear hlt HSM
       go_wp2
       go_ret
       refine ⟨A', c', by rw [← HF.out, ← HML.out]; rfl, ?_, HB1.out⟩
       have := HO.out
       rw [HF.out] at this
       have h2 := HML.out
       rw [HF.out] at h2
       rw [← h2]
       exact this
section
open Go.RowKit Go.Shelf Go.Lib

structure Env (W : World) : Prop where
 tab : Lib.Utf8Tabs 0 1 W
 g1 : 0 < W.heap.size
 g2 : 1 < W.heap.size

def u8ren : Ren := ⟨id, fun x => if x = 5 then 5 else if x = 119 then 159 else if x = 138 then 161 else 162, fun x => if x = 3 then 0 else 1⟩
theorem u8types : U8Types Tryz.prog u8ren := ⟨zU5, zU159, zU161, zU162⟩
theorem u8extra : U8Extra Tryz.prog u8ren := ⟨by kernel_rfl, by kernel_rfl, by kernel_rfl, by kernel_rfl, by kernel_rfl, by kernel_rfl, by kernel_rfl⟩
theorem first_data : Rows.laid_unicode_utf8_first = Lib.firstData := by kernel_rfl
theorem accept_data : (Rows.laid_unicode_utf8_acceptRanges : DataW Unit) = Lib.acceptData := by kernel_rfl

theorem env_of {l : List (String × DataW Unit)} {W : World} (h : laidMetH Tryz.prog l W) (hp : (l.all fun x => x.2.handleName?.isNone) = true) (m1 : ("unicode/utf8.first", Rows.laid_unicode_utf8_first) ∈ l) (m2 : ("unicode/utf8.acceptRanges", Rows.laid_unicode_utf8_acceptRanges) ∈ l) : Env W := by
 rw [MakeChecks.laidMetH_plain _ _ _ hp] at h
 have h1 := laidMet.reads h m1
 have h2 := laidMet.reads h m2
 rw [first_data] at h1
 rw [accept_data] at h2
 have ht : Lib.Utf8Tabs 0 1 W := utf8Tabs_of_readsT u8types u8extra h1 h2
 exact ⟨ht, cell_lt (ht.1 0 (by decide)), cell_lt (ht.2 0 (by decide)).1⟩
theorem Env.below {W W' : World} (h : Env W) (hb : Below W.heap.size W W') : Env W' :=
 ⟨⟨fun c hc => by rw [hb.cell h.g1]; exact h.tab.1 c hc, fun i hi => by rw [hb.cell h.g2, hb.cell h.g2]; exact h.tab.2 i hi⟩, Nat.lt_of_lt_of_le h.g1 hb.size, Nat.lt_of_lt_of_le h.g2 hb.size⟩
open Go.RowKit Go.Shelf

def vuRen : Go.Shelf.Ren := ⟨fun | 196 => 111 | 259 => 133 | n => n, fun | 9 => 9 | 4 => 4 | 3 => 3 | 5 => 5 | 12 => 12 | 119 => 159 | 0 => 0 | 46 => 110 | 139 => 162 | 138 => 161 | 53 => 69 | n => n, fun | 3 => 0 | 4 => 1 | n => n⟩
theorem vuLays : Go.Proofs.Lays.n196 Tryz.prog vuRen := {
 mixed := by kernel_rfl
 f196 := Tryz.func111.trans (congrArg some (by kernel_rfl))
 f259 := Tryz.func133.trans (congrArg some (by kernel_rfl))
 t0 := zU0
 a0 := Tryz.isAgg0
 z0 := Tryz.sizeOf0
 v0 := Tryz.zeroValue0
 t3 := zU3
 a3 := Tryz.isAgg3
 z3 := Tryz.sizeOf3
 v3 := Tryz.zeroValue3
 t4 := zU4
 a4 := Tryz.isAgg4
 z4 := Tryz.sizeOf4
 v4 := Tryz.zeroValue4
 t5 := zU5
 a5 := Tryz.isAgg5
 z5 := Tryz.sizeOf5
 v5 := Tryz.zeroValue5
 t9 := zU9
 a9 := Tryz.isAgg9
 z9 := Tryz.sizeOf9
 v9 := Tryz.zeroValue9
 t12 := zU12
 a12 := Tryz.isAgg12
 z12 := Tryz.sizeOf12
 v12 := Tryz.zeroValue12
 t46 := zU110
 a46 := Tryz.isAgg110
 z46 := Tryz.sizeOf110
 v46 := Tryz.zeroValue110
 t53 := zU69
 a53 := Tryz.isAgg69
 z53 := Tryz.sizeOf69
 v53 := Tryz.zeroValue69
 t119 := zU159
 a119 := Tryz.isAgg159
 z119 := Tryz.sizeOf159
 t138 := zU161
 a138 := Tryz.isAgg161
 z138 := Tryz.sizeOf161
 v138 := Tryz.zeroValue161
 t139 := zU162
 a139 := Tryz.isAgg162
 z139 := Tryz.sizeOf162
 v139 := Tryz.zeroValue162
 g3 := by kernel_rfl
 g4 := by kernel_rfl }
theorem vstr_any (s : ByteArray) (w : World) (hs : s.size ≤ 9223372036854775807) (hT : Lib.Utf8Tabs 0 1 w) :
 Calls Tryz.prog 111 #[.string s] w fun e w' => e = .returned (.bool (Lib.validD s.data.toList)) ∧ Below w.heap.size w w' := Any.utf8_ValidString vuLays s w hs hT
end

def validS (s : ByteArray) : Bool := Lib.validD s.data.toList
def longI (x : ByteArray × ByteArray) : Bool := decide ((x.1.size : Int) > 256) || decide ((x.2.size : Int) > 256)
def oddI (x : ByteArray × ByteArray) : Bool := !validS x.1 || !validS x.2
def longP (s : ByteArray) : Bool := decide ((s.size : Int) > 4096)
def oddP (s : ByteArray) : Bool := !validS s
def OpF.ids (f : OpF) : List (ByteArray × ByteArray) := f.I ++ f.L.map fun x => x.2
def OpF.texts (f : OpF) : List ByteArray := f.K0 ++ (f.K1 ++ (f.K2 ++ (f.K3 ++ f.K4)))
def manyB (f : OpF) (n : Nat) : Bool := ((f.lists.any fun l => decide ((l.length : Int) > 1024)) || f.texts.any longP) || ((f.t == 22) && decide ((n : Int) > 1024))
def bigB (f : OpF) (n : Nat) : Bool := ((((decide ((f.p.size : Int) > 4096) || decide ((f.l.length : Int) > 1048575)) || decide ((f.L.length : Int) > 16)) || decide ((f.I.length : Int) > 16)) || manyB f n) || f.ids.any longI
def oddB (f : OpF) (n : Nat) : Bool := ((((!validS f.p) || f.ids.any oddI) || f.texts.any oddP) || (!plainB f (keptF f))) || ((n : Int) != ((if f.t ∈ tS then n else 0 : Nat) : Int))
def ownE (f : OpF) (n : Nat) : Int := if kindN f.t = 0 then 110 else if bigB f n then 3 else if oddB f n then 1 else 0
theorem kind_types {t : Int} (h : kindN t ≠ 0) : t ∈ ownTypes := by
 unfold kindN at h
 rcases hf : kindL.find? (fun x => x.1 == t) with _ | x
 · rw [hf] at h
   exact absurd rfl h
 · have h1 := List.mem_of_find?_eq_some hf
   have h2 := List.find?_some hf
   have h3 : x.1 = t := by simpa using h2
   have h4 : ∀ x ∈ kindL, x.1 ∈ ownTypes := by decide
   rw [← h3]
   exact h4 x h1
theorem ids_size {f : OpF} (ok : f.Ok) : ∀ x ∈ f.ids, x.1.size ≤ reachBytes ∧ x.2.size ≤ reachBytes := fun x hx => by
 rcases List.mem_append.1 hx with h | h
 · exact ok.ids x h
 · obtain ⟨y, hy, rfl⟩ := List.mem_map.1 h
   exact ⟨(ok.acl y hy).2.1, (ok.acl y hy).2.2⟩
theorem texts_size {f : OpF} (ok : f.Ok) : ∀ x ∈ f.texts, x.size ≤ reachBytes := fun x hx => by
 unfold OpF.texts at hx
 simp only [List.mem_append] at hx
 rcases hx with h | h | h | h | h
 · exact ok.k0 x h
 · exact ok.k1 x h
 · exact ok.k2 x h
 · exact ok.k3 x h
 · exact ok.k4 x h
theorem own1_any (A : Option Addr) (n c : Nat) (w : World) (hn : n ≤ 4611686018427387904) : Calls Tryz.prog 106 #[.slice A n c] w fun e w' => e = .returned (.bool (decide ((n : Int) > 1024))) ∧ Below w.heap.size w w' := by
 go_enter Tryz.func106, Tryz.ntmps106
 go_wp2
 go_ret
 exact ⟨rfl, Below.refl _ _⟩
theorem own2_any (s : ByteArray) (w : World) : Calls Tryz.prog 108 #[.string s] w fun e w' => e = .returned (.bool (longP s)) ∧ Below w.heap.size w w' := by
 unfold longP
 go_enter Tryz.func108, Tryz.ntmps108
 go_wp2
 go_ret
 exact ⟨rfl, Below.refl _ _⟩
theorem own5_any (s : ByteArray) (w : World) (hs : s.size ≤ reachBytes) (E : Env w) : Calls Tryz.prog 114 #[.string s] w fun e w' => e = .returned (.bool (oddP s)) ∧ Below w.heap.size w w' := by
 have HV := Hi (vstr_any s w (by unfold reachBytes at hs; omega) E.tab)
 unfold oddP validS
 generalize Lib.validD s.data.toList = b at HV ⊢
 clear E hs
 go_enter Tryz.func114, Tryz.ntmps114
 go_wp2_with (go_at_call 111; refine (HV.out).mono ?_; rintro e w2 ⟨rfl, hb⟩; have HB2 := Hi hb; clear hb)
 go_ret
 exact ⟨rfl, HB2.out⟩

theorem own3_any (x : ByteArray × ByteArray) (w : World) : Calls Tryz.prog 109 #[.agg #[.string x.1, .string x.2]] w fun e w' => e = .returned (.bool (longI x)) ∧ Below w.heap.size w w' := by
 obtain ⟨s0, s1⟩ := x
 dsimp only
 unfold longI
 dsimp only
 obtain ⟨w1, hw1⟩ := xa w #[.string s0, .string s1] 102
 have HN1 := Hi (zW hw1)
 have HB1 := Hi (zV hw1)
 go_enter Tryz.func109, Tryz.ntmps109
 go_wp2_with (with_reducible refine wpAq 3 ?_; refine Hid.out ?_)
 refine Hi ?_
 refine wpList_seqA (w0 := w1) (.inl (.pointer (some ⟨w.heap.size, 0, none⟩)) ::
  .inl (.string s0) ::
  .inl (.int .i64 (s0.size : Int)) ::
  .inl (.bool (decide (((s0.size : Int) : Int) > 256))) ::
  .inl (.bool (decide (((s0.size : Int) : Int) > 256))) ::
  .inl (bif ((decide (((s0.size : Int) : Int) > 256)) == false) then .pointer (some ⟨w.heap.size, 1, none⟩) else undef) ::
  .inl (bif ((decide (((s0.size : Int) : Int) > 256)) == false) then .string s1 else undef) ::
  .inl (bif ((decide (((s0.size : Int) : Int) > 256)) == false) then .int .i64 (s1.size : Int) else undef) ::
  .inl (bif ((decide (((s0.size : Int) : Int) > 256)) == false) then .bool (decide (((s1.size : Int) : Int) > 256)) else undef) ::
  .inl (.bool ((decide (((s0.size : Int) : Int) > 256)) || (decide (((s1.size : Int) : Int) > 256)))) ::
  .inl (.bool ((decide (((s0.size : Int) : Int) > 256)) || (decide (((s1.size : Int) : Int) > 256)))) :: []) (by kernel_rfl) (by kernel_rfl) (nomono rfl) ⟨fun ac W hb o q K hK => op_u (u := .pointer (some ⟨w.heap.size, 0, none⟩)) rfl (r_field 102 _ 0 rfl (yA (hO o 1)) zU102 rfl (n := 0) isz_9 rfl) (kR hK),
  fun ac W hb o q K hK => op_u (u := .string s0) rfl (r_load 9 _ rfl (yA (dR q 0 3)) (yC (HN1.out.below hb HN1.out.lt) 0 rfl) zU9 rfl) (kR hK),
  fun ac W hb o q K hK => op_u (u := .int .i64 (s0.size : Int)) rfl (r_lens _ 9 rfl (yA (dR q 1 4)) zU9) (kR hK),
  fun ac W hb o q K hK => op_u (u := .bool (decide (((s0.size : Int) : Int) > 256))) rfl (r_igt 3 _ _ _ rfl (yA (dR q 2 5)) rfl) (kR hK),
  fun ac W hb o q K hK => op_u (u := .bool (decide (((s0.size : Int) : Int) > 256))) rfl (r_move _ rfl (yA (dR q 3 6))) (kR hK),
  fun ac W hb o q K hK => op_g (u := .pointer (some ⟨w.heap.size, 1, none⟩)) (wQ (dR q 4 7)) (fun hc => r_field 102 _ 1 rfl (yA (hO o 1)) zU102 rfl (n := 0) isz_9 rfl) (kR hK),
  fun ac W hb o q K hK => op_g (u := .string s1) (wQ (dR q 4 7)) (fun hc => r_load 9 _ rfl (yB (dR q 5 8) hc) (yC (HN1.out.below hb HN1.out.lt) 1 rfl) zU9 rfl) (kR hK),
  fun ac W hb o q K hK => op_g (u := .int .i64 (s1.size : Int)) (wQ (dR q 4 7)) (fun hc => r_lens _ 9 rfl (yB (dR q 6 9) hc) zU9) (kR hK),
  fun ac W hb o q K hK => op_g (u := .bool (decide (((s1.size : Int) : Int) > 256))) (wQ (dR q 4 7)) (fun hc => r_igt 3 _ _ _ rfl (yB (dR q 7 10) hc) rfl) (kR hK),
  fun ac W hb o q K hK => op_u (u := .bool ((decide (((s0.size : Int) : Int) > 256)) || (decide (((s1.size : Int) : Int) > 256)))) rfl (r_or _ _ _ rfl (yA (dR q 4 7)) rfl (fun hb => yB (dR q 8 11) (by simp [hb]))) (kR hK),
  fun ac W hb o q K hK => op_u (u := .bool ((decide (((s0.size : Int) : Int) > 256)) || (decide (((s1.size : Int) : Int) > 256)))) rfl (r_assign _ rfl (yA (dR q 9 12))) (kR hK), trivial⟩ ?_
 intro ae W hb hdef hlen hold hall
 have hv := dep_val (hall 10 2 rfl)
 have HB2 := Hi (HB1.out.trans (hb.mono HB1.out.size))
 clear hb hold hall hlen
 obtain ⟨tm, df⟩ := ae
 dsimp only at hdef hv
 subst hdef
 have HV := Hi hv
 clear hv
 go_wp2
 (try simp only [Exit.inBlock, Exit.then])
 refine bodyPost_ret (results_tmp rfl _ _ _) rfl ?_
 exact ⟨by rw [zP, HV.out]; rfl, HB2.out⟩
theorem own4_any (x : ByteArray × ByteArray) (w : World) (hs : x.1.size ≤ reachBytes ∧ x.2.size ≤ reachBytes) (E : Env w) : Calls Tryz.prog 110 #[.agg #[.string x.1, .string x.2]] w fun e w' => e = .returned (.bool (oddI x)) ∧ Below w.heap.size w w' := by
 obtain ⟨s0, s1⟩ := x
 dsimp only at hs ⊢
 have H0 : Hid (∀ W, Below w.heap.size w W → Calls Tryz.prog 111 #[.string s0] W fun e w' => e = .returned (.bool (validS s0)) ∧ Below W.heap.size W w') := fun W hW => vstr_any s0 W (by have := hs.1; unfold reachBytes at this; omega) (E.below hW).tab
 have H1 : Hid (∀ W, Below w.heap.size w W → Calls Tryz.prog 111 #[.string s1] W fun e w' => e = .returned (.bool (validS s1)) ∧ Below W.heap.size W w') := fun W hW => vstr_any s1 W (by have := hs.2; unfold reachBytes at this; omega) (E.below hW).tab
 unfold oddI
 dsimp only
 generalize validS s0 = v0 at H0 ⊢
 generalize validS s1 = v1 at H1 ⊢
 clear hs E
 obtain ⟨w1, hw1⟩ := xa w #[.string s0, .string s1] 102
 have HN1 := Hi (zW hw1)
 have HB1 := Hi (zV hw1)
 go_enter Tryz.func110, Tryz.ntmps110
 go_wp2_with (with_reducible refine wpAq 3 ?_; refine Hid.out ?_)
 refine Hi ?_
 refine wpList_seqA (w0 := w1) (.inl (.pointer (some ⟨w.heap.size, 0, none⟩)) ::
  .inl (.string s0) ::
  .inl (.bool v0) ::
  .inl (.bool (!v0)) ::
  .inl (.bool (!v0)) ::
  .inl (bif ((!v0) == false) then .pointer (some ⟨w.heap.size, 1, none⟩) else undef) ::
  .inl (bif ((!v0) == false) then .string s1 else undef) ::
  .inl (bif ((!v0) == false) then .bool v1 else undef) ::
  .inl (bif ((!v0) == false) then .bool (!v1) else undef) ::
  .inl (.bool ((!v0) || (!v1))) ::
  .inl (.bool ((!v0) || (!v1))) :: []) (by kernel_rfl) (by kernel_rfl) (nomono rfl) ⟨fun ac W hb o q K hK => op_u (u := .pointer (some ⟨w.heap.size, 0, none⟩)) rfl (r_field 102 _ 0 rfl (yA (hO o 1)) zU102 rfl (n := 0) isz_9 rfl) (kR hK),
  fun ac W hb o q K hK => op_u (u := .string s0) rfl (r_load 9 _ rfl (yA (dR q 0 3)) (yC (HN1.out.below hb HN1.out.lt) 0 rfl) zU9 rfl) (kR hK),
  fun ac W hb o q K hK => op_call (u := .bool v0) (c := true) (want_free rfl) 111 _ _ rfl (#[.string s0]) (fun hc => by simp [(yA (dR q 1 4))]) Tryz.func111 (by kernel_rfl) (by kernel_rfl) (fun hc => H0.out W (HB1.out.trans (hb.mono HB1.out.size))) (fun w' hbl => hK _ _ rfl hbl),
  fun ac W hb o q K hK => op_u (u := .bool (!v0)) rfl (r_not _ _ rfl (yA (dR q 2 5))) (kR hK),
  fun ac W hb o q K hK => op_u (u := .bool (!v0)) rfl (r_move _ rfl (yA (dR q 3 6))) (kR hK),
  fun ac W hb o q K hK => op_g (u := .pointer (some ⟨w.heap.size, 1, none⟩)) (wQ (dR q 4 7)) (fun hc => r_field 102 _ 1 rfl (yA (hO o 1)) zU102 rfl (n := 0) isz_9 rfl) (kR hK),
  fun ac W hb o q K hK => op_g (u := .string s1) (wQ (dR q 4 7)) (fun hc => r_load 9 _ rfl (yB (dR q 5 8) hc) (yC (HN1.out.below hb HN1.out.lt) 1 rfl) zU9 rfl) (kR hK),
  fun ac W hb o q K hK => op_call (u := .bool v1) (wQ (dR q 4 7)) 111 _ _ rfl (#[.string s1]) (fun hc => by simp [(yB (dR q 6 9) hc)]) Tryz.func111 (by kernel_rfl) (by kernel_rfl) (fun hc => H1.out W (HB1.out.trans (hb.mono HB1.out.size))) (fun w' hbl => hK _ _ rfl hbl),
  fun ac W hb o q K hK => op_g (u := .bool (!v1)) (wQ (dR q 4 7)) (fun hc => r_not _ _ rfl (yB (dR q 7 10) hc)) (kR hK),
  fun ac W hb o q K hK => op_u (u := .bool ((!v0) || (!v1))) rfl (r_or _ _ _ rfl (yA (dR q 4 7)) rfl (fun hb => yB (dR q 8 11) (by simp [hb]))) (kR hK),
  fun ac W hb o q K hK => op_u (u := .bool ((!v0) || (!v1))) rfl (r_assign _ rfl (yA (dR q 9 12))) (kR hK), trivial⟩ ?_
 intro ae W hb hdef hlen hold hall
 have hv := dep_val (hall 10 2 rfl)
 have HB2 := Hi (HB1.out.trans (hb.mono HB1.out.size))
 clear hb hold hall hlen
 obtain ⟨tm, df⟩ := ae
 dsimp only at hdef hv
 subst hdef
 have HV := Hi hv
 clear hv
 go_wp2
 (try simp only [Exit.inBlock, Exit.then])
 refine bodyPost_ret (results_tmp rfl _ _ _) rfl ?_
 exact ⟨by rw [zP, HV.out]; rfl, HB2.out⟩
theorem SlAt.kept {α : Type} {w : World} {lo : Option Nat} {e : TypeId} {size bytes : Nat} {s : Sl} {L : List α} {cells : List α → List Value} (h : SlAt w lo e size bytes s L.length (cells L)) (h0 : cells [] = []) (l : List Int) (t : Int) : SlAt w none e size bytes (kS l t s) (if t ∈ l then L else []).length (cells (if t ∈ l then L else [])) := by
 unfold kS
 split
 · exact h.any
 · rw [h0]
   exact ⟨fun _ => ⟨rfl, rfl⟩, Nat.le_refl _, Nat.zero_le _, (by show 0 * bytes ≤ _; rw [Nat.zero_mul]; exact Nat.zero_le _), rfl, ⟨(by show 0 = 0 * size; rw [Nat.zero_mul]), fun h => absurd h (by decide)⟩, fun b hb => nomatch hb⟩
theorem FAt.kept {w : World} {lo : Option Nat} {f : OpF} {d a k0 k1 k2 k3 k4 i : Sl} (h : FAt w lo f d a k0 k1 k2 k3 k4 i) : FAt w none (keptF f) (kS tD f.t d) (kS tA f.t a) (kS tZ f.t k0) (kS tZ f.t k1) (kS tZ f.t k2) (kS tZ f.t k3) (kS tZ f.t k4) (kS tT f.t i) :=
 ⟨h.d.kept rfl tD f.t, h.a.kept rfl tA f.t, h.k0.kept rfl tZ f.t, h.k1.kept rfl tZ f.t, h.k2.kept rfl tZ f.t, h.k3.kept rfl tZ f.t, h.k4.kept rfl tZ f.t, h.i.kept rfl tT f.t⟩
end Go.Proofs.YtpjjnmdfgcfnmaaGreatDoor
