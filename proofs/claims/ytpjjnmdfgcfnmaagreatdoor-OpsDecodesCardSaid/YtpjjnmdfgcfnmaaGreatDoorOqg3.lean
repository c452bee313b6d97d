/- ops.get: the types that hold no lists of texts, no operations, part 3. (printed by gen_p24.py) -/
import Derived.Test.YtpjjnmdfgcfnmaaGreatDoorOqj
set_option linter.unusedVariables false
set_option linter.unusedSimpArgs false
namespace Go.Proofs.YtpjjnmdfgcfnmaaGreatDoor
open Go.RowKit

set_option maxRecDepth 100000 in
set_option maxHeartbeats 40000000 in
theorem get_g6 (t : Int) (htt : t ∈ ([121, 6, 9, 103, 104] : List Int)) (B : Nat → Prop) (R c p : Nat) (A : Option Addr) (l : List UInt8) (w : World) (cv : Value) (h : Rdr w B R A c l p) :
    Calls Tryz.prog 84 #[.pointer (some ⟨R, 0, none⟩), .int .i32 t, cv] w fun e w' => Rend B R c A l (vOpF w.heap.size) (gFld t l p) w e w' := by
  have hg : gFld t l p = ((gText 4096).bind fun x1 => Rg.ret ({ zF t with p := bs x1 } : OpF)) l p := by
    unfold gFld
    simp only [List.mem_cons, List.not_mem_nil, or_false] at htt
    rcases htt with rfl | rfl | rfl | rfl | rfl <;> rfl
  have HG0 := Lib.hid hg
  obtain ⟨wa, hwa⟩ : ∃ wa, w.alloc (.cells #[.int .i32 0, .string ⟨#[]⟩, .slice none 0 0, .slice none 0 0, .int .i32 0, .int .i32 0, .bool false, .int .i64 0, .int .i64 0, .int .i64 0, .int .i64 0, .slice none 0 0, .slice none 0 0, .slice none 0 0, .slice none 0 0, .slice none 0 0, .int .i32 0, .slice none 0 0, .slice none 0 0] 29) = wa := ⟨_, rfl⟩
  have hza : wa.heap.size = w.heap.size + 1 := by rw [← hwa]; simp
  obtain ⟨w1, hw1⟩ : ∃ w1, wa.alloc (.cells ((zF t).row nilS nilS nilS nilS nilS nilS nilS nilS nilS).toArray 29) = w1 := ⟨_, rfl⟩
  have hwf : (Lit.int .i32 t).wf = true := by
    simp only [List.mem_cons, List.not_mem_nil, or_false] at htt
    rcases htt with rfl | rfl | rfl | rfl | rfl <;> rfl
  have H0 := Lib.hid (GSt.start h (t := t) hwf hwa hw1)
  obtain ⟨kn, hkn⟩ : ∃ k, k = kindN t := ⟨_, rfl⟩
  have hk0 : (kn == 0) = false := by
    rw [hkn]
    simp only [List.mem_cons, List.not_mem_nil, or_false] at htt
    rcases htt with rfl | rfl | rfl | rfl | rfl <;> decide
  have hk5 : (kn == 5) = false := by
    rw [hkn]
    simp only [List.mem_cons, List.not_mem_nil, or_false] at htt
    rcases htt with rfl | rfl | rfl | rfl | rfl <;> decide
  have HK : Hid (∀ W, Calls Tryz.prog 11 #[.int .i32 t] W fun e w' => e = .returned (.int .i64 kn) ∧ w' = W) := fun W => by rw [hkn]; exact kind_any t W
  clear hkn hwf
  obtain ⟨n0, n1, n2, n3, n4, n5, n6, n7, n8, n9, n10, n11, n12, n13, n14, n15, n16, n17, n18, n19, n20, n21, _⟩ := sw_all (cs := [(-10), 14, 22, 101, (-11), 11, 107, 1, 15, 19, 21, 2, 13, 5, 7, 120, 3, 4, 8, 12, 106, 18]) htt rfl
  clear htt
  clear h hg
  go_enter Tryz.func84, Tryz.ntmps84
  go_wp2_with (first
    | ((with_reducible show wpList _ _ _ (Oper.mk (some 7) _ _ _ _ _ :: _) _ _)
       refine wpList_newrow rfl rfl 29 rfl 7 rfl (.tmp 11) rfl rfl ((zF t).row nilS nilS nilS nilS nilS nilS nilS nilS nilS).toArray (fun _ => rfl) (show 7 < 160 by decide) zer_op isz_29 (row_one _ _ _ _ _ _ _ _ _ _) ?_
       rw [hw1])
    | (go_at_call 11
       refine (HK.out _).mono ?_
       rintro e w2 ⟨rfl, he⟩
       obtain rfl := he.symm
       refine Hid.out ?_))
  have ht := rText_any B R c p A l 4096 _ H0.out.rdr
  rcases h1 : (gText 4096) l p with ⟨x1, q1⟩ | ⟨er, q1⟩
  rotate_left
  · rw [h1] at ht
    have HT := Lib.hid ht
    have HGE := Lib.hid (HG0.out.trans (gb_no h1))
    clear ht h1
    refine Lib.hid ?_
    go_wp2_with (go_at_call 125; refine HT.out.mono ?_; rintro e w2 ⟨rfl, hkp, hR⟩; have HN := Lib.hid (H0.out.read hkp hR); clear hkp hR)
    exact ⟨rfl, Rend.no HGE.out HN.out.kp HN.out.rdr⟩
  rw [h1] at ht
  have HT := Lib.hid ht
  have hg := HG0.out.trans (gb_ev h1)
  have HG1 := Lib.hid hg
  have HX : Hid ((bs x1).size ≤ reachBytes) := by have := gText_most h1; unfold Hid reachBytes; rw [bs_size]; omega
  clear ht h1 hg HG0
  refine Lib.hid ?_
  go_wp2_with (go_at_call 125; refine HT.out.mono ?_; rintro e w2 ⟨⟨v, rfl, rfl⟩, hkp, hR⟩; have HN := Lib.hid (H0.out.read hkp hR); clear hkp hR; refine Hid.out ?_)
  have kc : w2.cell? ⟨w.heap.size + 1, 1, none⟩ = some (.string ⟨#[]⟩) := blk_cell HN.out.blk 1 rfl
  have kf := HN.out.blk.frozen 1
  have H1 := Lib.hid (HN.out.set_p (x := ⟨x1.toArray⟩) HX.out)
  clear HT H0 HN HX
  refine Lib.hid ?_
  go_wp2_with (first
    | ((with_reducible show wpList _ _ _ (Oper.mk (some 159) _ _ _ _ _ :: _) _ _)
       refine wpList_load_row rfl 29 (.tmp 7) rfl (w.heap.size + 1) rfl 29 _ _ _ H1.out.blk Tryz.underlying29 rfl isz_29 ?_)
    | ((with_reducible show wpList _ _ _ (Oper.mk none (.store _ (.tmp 6) _) _ _ _ _ :: _) _ _)
       refine wpList_store_row rfl 29 (.tmp 6) (.tmp 159) rfl w.heap.size (({ zF t with p := bs x1 } : OpF).row nilS nilS nilS nilS nilS nilS nilS nilS nilS).toArray rfl rfl 29 _ H1.out.res isz_29 rfl (row_one _ _ _ _ _ _ _ _ _ _) ?_
       have hfin := H1.out.fin (({ zF t with p := bs x1 } : OpF).row nilS nilS nilS nilS nilS nilS nilS nilS nilS).toArray
       have hbz := cells_setRow (cs := (({ zF t with p := bs x1 } : OpF).row nilS nilS nilS nilS nilS nilS nilS nilS nilS).toArray) H1.out.res
       generalize hww : World.setRow _ _ _ = wz at hfin hbz ⊢
       have HFN := Lib.hid hfin
       have HBZ := Lib.hid hbz
       clear hww hfin hbz))
  refine bodyPost_ret (results_cell_row rfl _ _ w.heap.size 29 _ _ _ rfl HBZ.out Tryz.underlying29 rfl isz_29) rfl ?_
  exact Rend.yes HG1.out ⟨nilS, nilS, nilS, nilS, nilS, nilS, nilS, nilS, rfl, HFN.out.2.2, H1.out.ok⟩ HFN.out.1 HFN.out.2.1
set_option maxRecDepth 100000 in
set_option maxHeartbeats 40000000 in
theorem get_g9 (t : Int) (htt : t ∈ ([(-10)] : List Int)) (B : Nat → Prop) (R c p : Nat) (A : Option Addr) (l : List UInt8) (w : World) (cv : Value) (h : Rdr w B R A c l p) :
    Calls Tryz.prog 84 #[.pointer (some ⟨R, 0, none⟩), .int .i32 t, cv] w fun e w' => Rend B R c A l (vOpF w.heap.size) (gFld t l p) w e w' := by
  have hg : gFld t l p = ((gInt).bind fun x1 => (gGet 16 8 gIdO).bind fun x2 => Rg.ret ({ (⟨(zF t).t, (zF t).p, (zF t).l, (zF t).L, (zF t).fl, (zF t).ve, (zF t).wa, (zF t).ct, (zF t).by_, (zF t).tl, (zF t).zx, (zF t).K0, (zF t).K1, (zF t).K2, (zF t).K3, (zF t).K4, x1, (zF t).I⟩ : OpF) with I := x2 } : OpF)) l p := by
    unfold gFld
    simp only [List.mem_cons, List.not_mem_nil, or_false] at htt
    rcases htt with rfl <;> rfl
  have HG0 := Lib.hid hg
  obtain ⟨wa, hwa⟩ : ∃ wa, w.alloc (.cells #[.int .i32 0, .string ⟨#[]⟩, .slice none 0 0, .slice none 0 0, .int .i32 0, .int .i32 0, .bool false, .int .i64 0, .int .i64 0, .int .i64 0, .int .i64 0, .slice none 0 0, .slice none 0 0, .slice none 0 0, .slice none 0 0, .slice none 0 0, .int .i32 0, .slice none 0 0, .slice none 0 0] 29) = wa := ⟨_, rfl⟩
  have hza : wa.heap.size = w.heap.size + 1 := by rw [← hwa]; simp
  obtain ⟨w1, hw1⟩ : ∃ w1, wa.alloc (.cells ((zF t).row nilS nilS nilS nilS nilS nilS nilS nilS nilS).toArray 29) = w1 := ⟨_, rfl⟩
  have hwf : (Lit.int .i32 t).wf = true := by
    simp only [List.mem_cons, List.not_mem_nil, or_false] at htt
    rcases htt with rfl <;> rfl
  have H0 := Lib.hid (GSt.start h (t := t) hwf hwa hw1)
  obtain ⟨kn, hkn⟩ : ∃ k, k = kindN t := ⟨_, rfl⟩
  have hk0 : (kn == 0) = false := by
    rw [hkn]
    simp only [List.mem_cons, List.not_mem_nil, or_false] at htt
    rcases htt with rfl <;> decide
  have hk5 : (kn == 5) = false := by
    rw [hkn]
    simp only [List.mem_cons, List.not_mem_nil, or_false] at htt
    rcases htt with rfl <;> decide
  have HK : Hid (∀ W, Calls Tryz.prog 11 #[.int .i32 t] W fun e w' => e = .returned (.int .i64 kn) ∧ w' = W) := fun W => by rw [hkn]; exact kind_any t W
  clear hkn hwf
  obtain ⟨n0, n1, n2, n3, n4, n5, n6, n7, n8, n9, n10, n11, n12, n13, n14, n15, n16, n17, n18, n19, n20, _⟩ := sw_all (cs := [14, 22, 101, (-11), 11, 107, 1, 15, 19, 21, 2, 13, 5, 7, 120, 3, 4, 8, 12, 106, 18]) htt rfl
  have S : ((t == (-10)) = true) := by
    simp only [List.mem_cons, List.not_mem_nil, or_false] at htt
    rcases htt with rfl <;> decide
  clear htt
  clear h hg
  go_enter Tryz.func84, Tryz.ntmps84
  go_wp2_with (first
    | ((with_reducible show wpList _ _ _ (Oper.mk (some 7) _ _ _ _ _ :: _) _ _)
       refine wpList_newrow rfl rfl 29 rfl 7 rfl (.tmp 11) rfl rfl ((zF t).row nilS nilS nilS nilS nilS nilS nilS nilS nilS).toArray (fun _ => rfl) (show 7 < 160 by decide) zer_op isz_29 (row_one _ _ _ _ _ _ _ _ _ _) ?_
       rw [hw1])
    | (go_at_call 11
       refine (HK.out _).mono ?_
       rintro e w2 ⟨rfl, he⟩
       obtain rfl := he.symm
       refine Hid.out ?_))
  have ht := rInt_any B R c p A l _ H0.out.rdr
  rcases h1 : (gInt) l p with ⟨x1, q1⟩ | ⟨er, q1⟩
  rotate_left
  · rw [h1] at ht
    have HT := Lib.hid ht
    have HGE := Lib.hid (HG0.out.trans (gb_no h1))
    clear ht h1
    refine Lib.hid ?_
    go_wp2_with (go_at_call 60; refine HT.out.mono ?_; rintro e w2 ⟨rfl, hkp, hR⟩; have HN := Lib.hid (H0.out.read hkp hR); clear hkp hR)
    exact ⟨rfl, Rend.no HGE.out HN.out.kp HN.out.rdr⟩
  rw [h1] at ht
  have HT := Lib.hid ht
  have hg := HG0.out.trans (gb_ev h1)
  have HG1 := Lib.hid hg
  have HX := Lib.hid (gInt_wf h1)
  clear ht h1 hg HG0
  refine Lib.hid ?_
  go_wp2_with (go_at_call 60; refine HT.out.mono ?_; rintro e w2 ⟨⟨v, rfl, rfl⟩, hkp, hR⟩; have HN := Lib.hid (H0.out.read hkp hR); clear hkp hR; refine Hid.out ?_)
  have kc : w2.cell? ⟨w.heap.size + 1, 16, none⟩ = some (.int .i32 0) := blk_cell HN.out.blk 16 rfl
  have kf := HN.out.blk.frozen 16
  have H1 := Lib.hid (HN.out.set_to HX.out)
  clear HT H0 HN HX
  have ht := aclGetIds_any B R c q1 A l _ H1.out.rdr
  rcases h1 : (gGet 16 8 gIdO) l q1 with ⟨x2, q2⟩ | ⟨er, q2⟩
  rotate_left
  · rw [h1] at ht
    have HT := Lib.hid ht
    have HGE := Lib.hid (HG1.out.trans (gb_no h1))
    clear ht h1
    refine Lib.hid ?_
    go_wp2_with (go_at_call 120; refine HT.out.mono ?_; rintro e w2 ⟨rfl, hkp, hR⟩; have HN := Lib.hid (H1.out.read hkp hR); clear hkp hR)
    exact ⟨rfl, Rend.no HGE.out HN.out.kp HN.out.rdr⟩
  rw [h1] at ht
  have HT := Lib.hid ht
  have hg := HG1.out.trans (gb_ev h1)
  have HG2 := Lib.hid hg
  have HX : Hid (x2.length * 32 ≤ reachBytes) := by have := (gGet_all (Q := fun _ => True) (fun _ _ _ _ _ => trivial) h1).1; unfold Hid reachBytes; omega
  have HY : Hid (∀ y ∈ x2, y.1.size ≤ reachBytes ∧ y.2.size ≤ reachBytes) := fun y hy => by
    obtain ⟨y2, y3⟩ := (gGet_all (Q := fun y : ByteArray × ByteArray => y.1.size ≤ 256 ∧ y.2.size ≤ 256) (fun _ _ _ _ h => gIdO_ok h) h1).2 y hy
    exact ⟨Nat.le_trans y2 (by decide), Nat.le_trans y3 (by decide)⟩
  clear ht h1 hg HG1
  refine Lib.hid ?_
  go_wp2_with (go_at_call 120; refine HT.out.mono ?_; rintro e w3 ⟨⟨v, rfl, iA, ic, hve, ho⟩, hkp, hR⟩; subst hve; have HO := Lib.hid (own_base ho H1.out.size); clear ho; have HN := Lib.hid (H1.out.read hkp hR); clear hkp hR; refine Hid.out ?_)
  have kc : w3.cell? ⟨w.heap.size + 1, 17, none⟩ = some (.slice none 0 0) := blk_cell HN.out.blk 17 rfl
  have kf := HN.out.blk.frozen 17
  have H2 := Lib.hid (HN.out.set_i HO.out HX.out HY.out)
  clear HT H1 HN HX HO HY
  refine Lib.hid ?_
  go_wp2_with (first
    | ((with_reducible show wpList _ _ _ (Oper.mk (some 31) _ _ _ _ _ :: _) _ _)
       refine wpList_load_row rfl 29 (.tmp 7) rfl (w.heap.size + 1) rfl 29 _ _ _ H2.out.blk Tryz.underlying29 rfl isz_29 ?_)
    | ((with_reducible show wpList _ _ _ (Oper.mk none (.store _ (.tmp 6) _) _ _ _ _ :: _) _ _)
       refine wpList_store_row rfl 29 (.tmp 6) (.tmp 31) rfl w.heap.size (({ (⟨(zF t).t, (zF t).p, (zF t).l, (zF t).L, (zF t).fl, (zF t).ve, (zF t).wa, (zF t).ct, (zF t).by_, (zF t).tl, (zF t).zx, (zF t).K0, (zF t).K1, (zF t).K2, (zF t).K3, (zF t).K4, x1, (zF t).I⟩ : OpF) with I := x2 } : OpF).row nilS nilS nilS nilS nilS nilS nilS ⟨iA, x2.length, ic⟩ nilS).toArray rfl rfl 29 _ H2.out.res isz_29 rfl (row_one _ _ _ _ _ _ _ _ _ _) ?_
       have hfin := H2.out.fin (({ (⟨(zF t).t, (zF t).p, (zF t).l, (zF t).L, (zF t).fl, (zF t).ve, (zF t).wa, (zF t).ct, (zF t).by_, (zF t).tl, (zF t).zx, (zF t).K0, (zF t).K1, (zF t).K2, (zF t).K3, (zF t).K4, x1, (zF t).I⟩ : OpF) with I := x2 } : OpF).row nilS nilS nilS nilS nilS nilS nilS ⟨iA, x2.length, ic⟩ nilS).toArray
       have hbz := cells_setRow (cs := (({ (⟨(zF t).t, (zF t).p, (zF t).l, (zF t).L, (zF t).fl, (zF t).ve, (zF t).wa, (zF t).ct, (zF t).by_, (zF t).tl, (zF t).zx, (zF t).K0, (zF t).K1, (zF t).K2, (zF t).K3, (zF t).K4, x1, (zF t).I⟩ : OpF) with I := x2 } : OpF).row nilS nilS nilS nilS nilS nilS nilS ⟨iA, x2.length, ic⟩ nilS).toArray) H2.out.res
       generalize hww : World.setRow _ _ _ = wz at hfin hbz ⊢
       have HFN := Lib.hid hfin
       have HBZ := Lib.hid hbz
       clear hww hfin hbz))
  refine bodyPost_ret (results_cell_row rfl _ _ w.heap.size 29 _ _ _ rfl HBZ.out Tryz.underlying29 rfl isz_29) rfl ?_
  exact Rend.yes HG2.out ⟨nilS, nilS, nilS, nilS, nilS, nilS, nilS, ⟨iA, x2.length, ic⟩, rfl, HFN.out.2.2, H2.out.ok⟩ HFN.out.1 HFN.out.2.1
set_option maxRecDepth 100000 in
set_option maxHeartbeats 40000000 in
theorem get_g5 (t : Int) (htt : t ∈ ([120] : List Int)) (B : Nat → Prop) (R c p : Nat) (A : Option Addr) (l : List UInt8) (w : World) (cv : Value) (h : Rdr w B R A c l p) :
    Calls Tryz.prog 84 #[.pointer (some ⟨R, 0, none⟩), .int .i32 t, cv] w fun e w' => Rend B R c A l (vOpF w.heap.size) (gFld t l p) w e w' := by
  have hg : gFld t l p = ((gText 4096).bind fun x1 => (gLong).bind fun x2 => (gLong).bind fun x3 => Rg.ret ({ { { zF t with p := bs x1 } with ct := x2 } with by_ := x3 } : OpF)) l p := by
    unfold gFld
    simp only [List.mem_cons, List.not_mem_nil, or_false] at htt
    rcases htt with rfl <;> rfl
  have HG0 := Lib.hid hg
  obtain ⟨wa, hwa⟩ : ∃ wa, w.alloc (.cells #[.int .i32 0, .string ⟨#[]⟩, .slice none 0 0, .slice none 0 0, .int .i32 0, .int .i32 0, .bool false, .int .i64 0, .int .i64 0, .int .i64 0, .int .i64 0, .slice none 0 0, .slice none 0 0, .slice none 0 0, .slice none 0 0, .slice none 0 0, .int .i32 0, .slice none 0 0, .slice none 0 0] 29) = wa := ⟨_, rfl⟩
  have hza : wa.heap.size = w.heap.size + 1 := by rw [← hwa]; simp
  obtain ⟨w1, hw1⟩ : ∃ w1, wa.alloc (.cells ((zF t).row nilS nilS nilS nilS nilS nilS nilS nilS nilS).toArray 29) = w1 := ⟨_, rfl⟩
  have hwf : (Lit.int .i32 t).wf = true := by
    simp only [List.mem_cons, List.not_mem_nil, or_false] at htt
    rcases htt with rfl <;> rfl
  have H0 := Lib.hid (GSt.start h (t := t) hwf hwa hw1)
  obtain ⟨kn, hkn⟩ : ∃ k, k = kindN t := ⟨_, rfl⟩
  have hk0 : (kn == 0) = false := by
    rw [hkn]
    simp only [List.mem_cons, List.not_mem_nil, or_false] at htt
    rcases htt with rfl <;> decide
  have hk5 : (kn == 5) = false := by
    rw [hkn]
    simp only [List.mem_cons, List.not_mem_nil, or_false] at htt
    rcases htt with rfl <;> decide
  have HK : Hid (∀ W, Calls Tryz.prog 11 #[.int .i32 t] W fun e w' => e = .returned (.int .i64 kn) ∧ w' = W) := fun W => by rw [hkn]; exact kind_any t W
  clear hkn hwf
  obtain ⟨n0, n1, n2, n3, n4, n5, n6, n7, n8, n9, n10, n11, n12, n13, n14, n15, n16, n17, n18, n19, n20, _⟩ := sw_all (cs := [(-10), 14, 22, 101, (-11), 11, 107, 1, 15, 19, 21, 2, 13, 5, 7, 3, 4, 8, 12, 106, 18]) htt rfl
  have S : ((t == 120) = true) := by
    simp only [List.mem_cons, List.not_mem_nil, or_false] at htt
    rcases htt with rfl <;> decide
  clear htt
  clear h hg
  go_enter Tryz.func84, Tryz.ntmps84
  go_wp2_with (first
    | ((with_reducible show wpList _ _ _ (Oper.mk (some 7) _ _ _ _ _ :: _) _ _)
       refine wpList_newrow rfl rfl 29 rfl 7 rfl (.tmp 11) rfl rfl ((zF t).row nilS nilS nilS nilS nilS nilS nilS nilS nilS).toArray (fun _ => rfl) (show 7 < 160 by decide) zer_op isz_29 (row_one _ _ _ _ _ _ _ _ _ _) ?_
       rw [hw1])
    | (go_at_call 11
       refine (HK.out _).mono ?_
       rintro e w2 ⟨rfl, he⟩
       obtain rfl := he.symm
       refine Hid.out ?_))
  have ht := rText_any B R c p A l 4096 _ H0.out.rdr
  rcases h1 : (gText 4096) l p with ⟨x1, q1⟩ | ⟨er, q1⟩
  rotate_left
  · rw [h1] at ht
    have HT := Lib.hid ht
    have HGE := Lib.hid (HG0.out.trans (gb_no h1))
    clear ht h1
    refine Lib.hid ?_
    go_wp2_with (go_at_call 125; refine HT.out.mono ?_; rintro e w2 ⟨rfl, hkp, hR⟩; have HN := Lib.hid (H0.out.read hkp hR); clear hkp hR)
    exact ⟨rfl, Rend.no HGE.out HN.out.kp HN.out.rdr⟩
  rw [h1] at ht
  have HT := Lib.hid ht
  have hg := HG0.out.trans (gb_ev h1)
  have HG1 := Lib.hid hg
  have HX : Hid ((bs x1).size ≤ reachBytes) := by have := gText_most h1; unfold Hid reachBytes; rw [bs_size]; omega
  clear ht h1 hg HG0
  refine Lib.hid ?_
  go_wp2_with (go_at_call 125; refine HT.out.mono ?_; rintro e w2 ⟨⟨v, rfl, rfl⟩, hkp, hR⟩; have HN := Lib.hid (H0.out.read hkp hR); clear hkp hR; refine Hid.out ?_)
  have kc : w2.cell? ⟨w.heap.size + 1, 1, none⟩ = some (.string ⟨#[]⟩) := blk_cell HN.out.blk 1 rfl
  have kf := HN.out.blk.frozen 1
  have H1 := Lib.hid (HN.out.set_p (x := ⟨x1.toArray⟩) HX.out)
  clear HT H0 HN HX
  have ht := rLong_any B R c q1 A l _ H1.out.rdr
  rcases h1 : (gLong) l q1 with ⟨x2, q2⟩ | ⟨er, q2⟩
  rotate_left
  · rw [h1] at ht
    have HT := Lib.hid ht
    have HGE := Lib.hid (HG1.out.trans (gb_no h1))
    clear ht h1
    refine Lib.hid ?_
    go_wp2_with (go_at_call 122; refine HT.out.mono ?_; rintro e w2 ⟨rfl, hkp, hR⟩; have HN := Lib.hid (H1.out.read hkp hR); clear hkp hR)
    exact ⟨rfl, Rend.no HGE.out HN.out.kp HN.out.rdr⟩
  rw [h1] at ht
  have HT := Lib.hid ht
  have hg := HG1.out.trans (gb_ev h1)
  have HG2 := Lib.hid hg
  have HX := Lib.hid (gLong_wf h1)
  clear ht h1 hg HG1
  refine Lib.hid ?_
  go_wp2_with (go_at_call 122; refine HT.out.mono ?_; rintro e w3 ⟨⟨v, rfl, rfl⟩, hkp, hR⟩; have HN := Lib.hid (H1.out.read hkp hR); clear hkp hR; refine Hid.out ?_)
  have kc : w3.cell? ⟨w.heap.size + 1, 7, none⟩ = some (.int .i64 0) := blk_cell HN.out.blk 7 rfl
  have kf := HN.out.blk.frozen 7
  have H2 := Lib.hid (HN.out.set_ct HX.out)
  clear HT H1 HN HX
  have ht := rLong_any B R c q2 A l _ H2.out.rdr
  rcases h1 : (gLong) l q2 with ⟨x3, q3⟩ | ⟨er, q3⟩
  rotate_left
  · rw [h1] at ht
    have HT := Lib.hid ht
    have HGE := Lib.hid (HG2.out.trans (gb_no h1))
    clear ht h1
    refine Lib.hid ?_
    go_wp2_with (go_at_call 122; refine HT.out.mono ?_; rintro e w2 ⟨rfl, hkp, hR⟩; have HN := Lib.hid (H2.out.read hkp hR); clear hkp hR)
    exact ⟨rfl, Rend.no HGE.out HN.out.kp HN.out.rdr⟩
  rw [h1] at ht
  have HT := Lib.hid ht
  have hg := HG2.out.trans (gb_ev h1)
  have HG3 := Lib.hid hg
  have HX := Lib.hid (gLong_wf h1)
  clear ht h1 hg HG2
  refine Lib.hid ?_
  go_wp2_with (go_at_call 122; refine HT.out.mono ?_; rintro e w4 ⟨⟨v, rfl, rfl⟩, hkp, hR⟩; have HN := Lib.hid (H2.out.read hkp hR); clear hkp hR; refine Hid.out ?_)
  have kc : w4.cell? ⟨w.heap.size + 1, 8, none⟩ = some (.int .i64 0) := blk_cell HN.out.blk 8 rfl
  have kf := HN.out.blk.frozen 8
  have H3 := Lib.hid (HN.out.set_by HX.out)
  clear HT H2 HN HX
  refine Lib.hid ?_
  go_wp2_with (first
    | ((with_reducible show wpList _ _ _ (Oper.mk (some 159) _ _ _ _ _ :: _) _ _)
       refine wpList_load_row rfl 29 (.tmp 7) rfl (w.heap.size + 1) rfl 29 _ _ _ H3.out.blk Tryz.underlying29 rfl isz_29 ?_)
    | ((with_reducible show wpList _ _ _ (Oper.mk none (.store _ (.tmp 6) _) _ _ _ _ :: _) _ _)
       refine wpList_store_row rfl 29 (.tmp 6) (.tmp 159) rfl w.heap.size (({ { { zF t with p := bs x1 } with ct := x2 } with by_ := x3 } : OpF).row nilS nilS nilS nilS nilS nilS nilS nilS nilS).toArray rfl rfl 29 _ H3.out.res isz_29 rfl (row_one _ _ _ _ _ _ _ _ _ _) ?_
       have hfin := H3.out.fin (({ { { zF t with p := bs x1 } with ct := x2 } with by_ := x3 } : OpF).row nilS nilS nilS nilS nilS nilS nilS nilS nilS).toArray
       have hbz := cells_setRow (cs := (({ { { zF t with p := bs x1 } with ct := x2 } with by_ := x3 } : OpF).row nilS nilS nilS nilS nilS nilS nilS nilS nilS).toArray) H3.out.res
       generalize hww : World.setRow _ _ _ = wz at hfin hbz ⊢
       have HFN := Lib.hid hfin
       have HBZ := Lib.hid hbz
       clear hww hfin hbz))
  refine bodyPost_ret (results_cell_row rfl _ _ w.heap.size 29 _ _ _ rfl HBZ.out Tryz.underlying29 rfl isz_29) rfl ?_
  exact Rend.yes HG3.out ⟨nilS, nilS, nilS, nilS, nilS, nilS, nilS, nilS, rfl, HFN.out.2.2, H3.out.ok⟩ HFN.out.1 HFN.out.2.1
end Go.Proofs.YtpjjnmdfgcfnmaaGreatDoor
