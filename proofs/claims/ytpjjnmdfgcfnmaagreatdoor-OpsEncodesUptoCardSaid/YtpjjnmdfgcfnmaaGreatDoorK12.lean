/- Part 12 of a proof: lemmas and walks. -/
import Derived.Test.YtpjjnmdfgcfnmaaGreatDoorK10
import Derived.Test.YtpjjnmdfgcfnmaaGreatDoorK11
import Derived.Test.YtpjjnmdfgcfnmaaGreatDoorK4
import Derived.Test.YtpjjnmdfgcfnmaaGreatDoorK9
set_option linter.unusedVariables false
set_option linter.unusedSimpArgs false
set_option maxRecDepth 100000
set_option maxHeartbeats 40000000
namespace Go.Proofs.YtpjjnmdfgcfnmaaGreatDoor
open Go.RowKit

abbrev Oqg3R1 : Array Value := #[.int .i32 0, .string ⟨#[]⟩, .slice none 0 0, .slice none 0 0, .int .i32 0, .int .i32 0, .bool false, .int .i64 0, .int .i64 0, .int .i64 0, .int .i64 0, .slice none 0 0, .slice none 0 0, .slice none 0 0, .slice none 0 0, .slice none 0 0, .int .i32 0, .slice none 0 0, .slice none 0 0]

theorem get_g6 (t : Int) (htt : t ∈ ([121, 6, 9, 103, 104] : List Int)) (B : Nat → Prop) (R c p : Nat) (A : Option Addr) (l : List UInt8) (w : World) (cv : Value) (h : Rdr w B R A c l p) :
 Calls Tryz.prog 84 #[.pointer (some ⟨R, 0, none⟩), .int .i32 t, cv] w fun e w' => Rend B R c A l (vOpF w.heap.size) (gFld t l p) w e w' := by
 have hg : gFld t l p = ((gText 4096).bind fun x1 => Rg.ret ({ zF t with p := bs x1 } : OpF)) l p := by
  unfold gFld
  simp only [zH, zI, or_false] at htt
  rcases htt with rfl | rfl | rfl | rfl | rfl <;> rfl
 have HG0 := Hi hg
 obtain ⟨wa, hwa⟩ := xa w (Oqg3R1) 29
 have hza : wa.heap.size = w.heap.size + 1 := by rw [← hwa]; simp
 obtain ⟨w1, hw1⟩ := xa wa ((zF t).row nilS nilS nilS nilS nilS nilS nilS nilS nilS).toArray 29
 have hwf : (Lit.int .i32 t).wf = true := by
  simp only [zH, zI, or_false] at htt
  rcases htt with rfl | rfl | rfl | rfl | rfl <;> rfl
 have H0 := Hi (GSt.start h (t := t) hwf hwa hw1)
 obtain ⟨kn, hkn⟩ : ∃ k, k = kindN t := ⟨_, rfl⟩
 have hk0 : (kn == 0) = false := by
  rw [hkn]
  simp only [zH, zI, or_false] at htt
  rcases htt with rfl | rfl | rfl | rfl | rfl <;> decide
 have hk5 : (kn == 5) = false := by
  rw [hkn]
  simp only [zH, zI, or_false] at htt
  rcases htt with rfl | rfl | rfl | rfl | rfl <;> decide
 have HK : Hid (∀ W, Calls Tryz.prog 11 #[.int .i32 t] W fun e w' => e = .returned (.int .i64 kn) ∧ w' = W) := fun W => by rw [hkn]; exact kind_any t W
 clear hkn hwf
 obtain ⟨n0, n1, n2, n3, n4, n5, n6, n7, n8, n9, n10, n11, n12, n13, n14, n15, n16, n17, n18, n19, n20, n21, _⟩ := sw_all (cs := [(-10), 14, 22, 101, (-11), 11, 107, 1, 15, 19, 21, 2, 13, 5, 7, 120, 3, 4, 8, 12, 106, 18]) htt rfl
 clear htt
 clear h hg
 go_enter Tryz.func84, Tryz.ntmps84
 go_wp2_with (first
  | (with_reducible refine wpAq 7 ?_
     refine wpList_newrow rfl rfl 29 rfl 7 rfl (.tmp 11) rfl rfl ((zF t).row nilS nilS nilS nilS nilS nilS nilS nilS nilS).toArray (fun _ => rfl) (show 7 < 160 by decide) zer_op isz_29 (row_one _ _ _ _ _ _ _ _ _ _) ?_
     rw [hw1])
  | (go_at_call 11
     refine (HK.out _).mono ?_
     rintro e w2 ⟨rfl, he⟩
     obtain rfl := he.symm
     refine Hid.out ?_))
 have ht := rText_any B R c p A l 4096 _ H0.out.rdr
 rcases h1 : (gText 4096) l p with ⟨x1, q1⟩ | ⟨er, q1⟩
 rotate_left
 · rw [h1] at ht
   have HT := Hi ht
   have HGE := Hi (HG0.out.trans (gb_no h1))
   clear ht h1
   refine Hi ?_
   go_wp2_with (go_at_call 125; refine HT.out.mono ?_; rintro e w2 ⟨rfl, hkp, hR⟩; have HN := Hi (H0.out.read hkp hR); clear hkp hR)
   exact ⟨rfl, Rend.no HGE.out HN.out.kp HN.out.rdr⟩
 rw [h1] at ht
 have HT := Hi ht
 have hg := HG0.out.trans (gb_ev h1)
 have HG1 := Hi hg
 have HX : Hid ((bs x1).size ≤ reachBytes) := by have := gText_most h1; unfold Hid reachBytes; rw [bs_size]; omega
 clear ht h1 hg HG0
 refine Hi ?_
 go_wp2_with (go_at_call 125; refine HT.out.mono ?_; rintro e w2 ⟨⟨v, rfl, rfl⟩, hkp, hR⟩; have HN := Hi (H0.out.read hkp hR); clear hkp hR; refine Hid.out ?_)
 have kc : w2.cell? ⟨w.heap.size + 1, 1, none⟩ = some (.string ⟨#[]⟩) := yC HN.out.blk 1 rfl
 have kf := HN.out.blk.frozen 1
 have H1 := Hi (HN.out.set_p (x := ⟨x1.toArray⟩) HX.out)
 clear HT H0 HN HX
 refine Hi ?_
 go_wp2_with (first
  | (with_reducible refine wpAq 159 ?_
     refine wpList_load_row rfl 29 (.tmp 7) rfl (w.heap.size + 1) rfl 29 _ _ _ H1.out.blk zU29 rfl isz_29 ?_)
  | (with_reducible refine wpSt 6 ?_
     refine wpList_store_row rfl 29 (.tmp 6) (.tmp 159) rfl w.heap.size (({ zF t with p := bs x1 } : OpF).row nilS nilS nilS nilS nilS nilS nilS nilS nilS).toArray rfl rfl 29 _ H1.out.res isz_29 rfl (row_one _ _ _ _ _ _ _ _ _ _) ?_
     have hfin := H1.out.fin (({ zF t with p := bs x1 } : OpF).row nilS nilS nilS nilS nilS nilS nilS nilS nilS).toArray
     have hbz := cells_setRow (cs := (({ zF t with p := bs x1 } : OpF).row nilS nilS nilS nilS nilS nilS nilS nilS nilS).toArray) H1.out.res
     generalize hww : World.setRow _ _ _ = wz at hfin hbz ⊢
     have HFN := Hi hfin
     have HBZ := Hi hbz
     clear hww hfin hbz))
 refine bodyPost_ret (results_cell_row rfl _ _ w.heap.size 29 _ _ _ rfl HBZ.out zU29 rfl isz_29) rfl ?_
 exact Rend.yes HG1.out ⟨nilS, nilS, nilS, nilS, nilS, nilS, nilS, nilS, rfl, HFN.out.2.2, H1.out.ok⟩ HFN.out.1 HFN.out.2.1
theorem get_g9 (t : Int) (htt : t ∈ ([(-10)] : List Int)) (B : Nat → Prop) (R c p : Nat) (A : Option Addr) (l : List UInt8) (w : World) (cv : Value) (h : Rdr w B R A c l p) :
 Calls Tryz.prog 84 #[.pointer (some ⟨R, 0, none⟩), .int .i32 t, cv] w fun e w' => Rend B R c A l (vOpF w.heap.size) (gFld t l p) w e w' := by
 have hg : gFld t l p = ((gInt).bind fun x1 => (gGet 16 8 gIdO).bind fun x2 => Rg.ret ({ (⟨(zF t).t, (zF t).p, (zF t).l, (zF t).L, (zF t).fl, (zF t).ve, (zF t).wa, (zF t).ct, (zF t).by_, (zF t).tl, (zF t).zx, (zF t).K0, (zF t).K1, (zF t).K2, (zF t).K3, (zF t).K4, x1, (zF t).I⟩ : OpF) with I := x2 } : OpF)) l p := by
  unfold gFld
  simp only [zH, zI, or_false] at htt
  rcases htt with rfl <;> rfl
 have HG0 := Hi hg
 obtain ⟨wa, hwa⟩ := xa w (Oqg3R1) 29
 have hza : wa.heap.size = w.heap.size + 1 := by rw [← hwa]; simp
 obtain ⟨w1, hw1⟩ := xa wa ((zF t).row nilS nilS nilS nilS nilS nilS nilS nilS nilS).toArray 29
 have hwf : (Lit.int .i32 t).wf = true := by
  simp only [zH, zI, or_false] at htt
  rcases htt with rfl <;> rfl
 have H0 := Hi (GSt.start h (t := t) hwf hwa hw1)
 obtain ⟨kn, hkn⟩ : ∃ k, k = kindN t := ⟨_, rfl⟩
 have hk0 : (kn == 0) = false := by
  rw [hkn]
  simp only [zH, zI, or_false] at htt
  rcases htt with rfl <;> decide
 have hk5 : (kn == 5) = false := by
  rw [hkn]
  simp only [zH, zI, or_false] at htt
  rcases htt with rfl <;> decide
 have HK : Hid (∀ W, Calls Tryz.prog 11 #[.int .i32 t] W fun e w' => e = .returned (.int .i64 kn) ∧ w' = W) := fun W => by rw [hkn]; exact kind_any t W
 clear hkn hwf
 obtain ⟨n0, n1, n2, n3, n4, n5, n6, n7, n8, n9, n10, n11, n12, n13, n14, n15, n16, n17, n18, n19, n20, _⟩ := sw_all (cs := [14, 22, 101, (-11), 11, 107, 1, 15, 19, 21, 2, 13, 5, 7, 120, 3, 4, 8, 12, 106, 18]) htt rfl
 have S : ((t == (-10)) = true) := by
  simp only [zH, zI, or_false] at htt
  rcases htt with rfl <;> decide
 clear htt
 clear h hg
 go_enter Tryz.func84, Tryz.ntmps84
 go_wp2_with (first
  | (with_reducible refine wpAq 7 ?_
     refine wpList_newrow rfl rfl 29 rfl 7 rfl (.tmp 11) rfl rfl ((zF t).row nilS nilS nilS nilS nilS nilS nilS nilS nilS).toArray (fun _ => rfl) (show 7 < 160 by decide) zer_op isz_29 (row_one _ _ _ _ _ _ _ _ _ _) ?_
     rw [hw1])
  | (go_at_call 11
     refine (HK.out _).mono ?_
     rintro e w2 ⟨rfl, he⟩
     obtain rfl := he.symm
     refine Hid.out ?_))
 have ht := rInt_any B R c p A l _ H0.out.rdr
 rcases h1 : (gInt) l p with ⟨x1, q1⟩ | ⟨er, q1⟩
 rotate_left
 · rw [h1] at ht
   have HT := Hi ht
   have HGE := Hi (HG0.out.trans (gb_no h1))
   clear ht h1
   refine Hi ?_
   go_wp2_with (go_at_call 60; refine HT.out.mono ?_; rintro e w2 ⟨rfl, hkp, hR⟩; have HN := Hi (H0.out.read hkp hR); clear hkp hR)
   exact ⟨rfl, Rend.no HGE.out HN.out.kp HN.out.rdr⟩
 rw [h1] at ht
 have HT := Hi ht
 have hg := HG0.out.trans (gb_ev h1)
 have HG1 := Hi hg
 have HX := Hi (gInt_wf h1)
 clear ht h1 hg HG0
 refine Hi ?_
 go_wp2_with (go_at_call 60; refine HT.out.mono ?_; rintro e w2 ⟨⟨v, rfl, rfl⟩, hkp, hR⟩; have HN := Hi (H0.out.read hkp hR); clear hkp hR; refine Hid.out ?_)
 have kc : w2.cell? ⟨w.heap.size + 1, 16, none⟩ = some (.int .i32 0) := yC HN.out.blk 16 rfl
 have kf := HN.out.blk.frozen 16
 have H1 := Hi (HN.out.set_to HX.out)
 clear HT H0 HN HX
 have ht := aclGetIds_any B R c q1 A l _ H1.out.rdr
 rcases h1 : (gGet 16 8 gIdO) l q1 with ⟨x2, q2⟩ | ⟨er, q2⟩
 rotate_left
 · rw [h1] at ht
   have HT := Hi ht
   have HGE := Hi (HG1.out.trans (gb_no h1))
   clear ht h1
   refine Hi ?_
   go_wp2_with (go_at_call 120; refine HT.out.mono ?_; rintro e w2 ⟨rfl, hkp, hR⟩; have HN := Hi (H1.out.read hkp hR); clear hkp hR)
   exact ⟨rfl, Rend.no HGE.out HN.out.kp HN.out.rdr⟩
 rw [h1] at ht
 have HT := Hi ht
 have hg := HG1.out.trans (gb_ev h1)
 have HG2 := Hi hg
 have HX : Hid (x2.length * 32 ≤ reachBytes) := by have := (gGet_all (Q := fun _ => True) (fun _ _ _ _ _ => trivial) h1).1; unfold Hid reachBytes; omega
 have HY : Hid (∀ y ∈ x2, y.1.size ≤ reachBytes ∧ y.2.size ≤ reachBytes) := fun y hy => by
  obtain ⟨y2, y3⟩ := (gGet_all (Q := fun y : ByteArray × ByteArray => y.1.size ≤ 256 ∧ y.2.size ≤ 256) (fun _ _ _ _ h => gIdO_ok h) h1).2 y hy
  exact ⟨Nat.le_trans y2 (by decide), Nat.le_trans y3 (by decide)⟩
 clear ht h1 hg HG1
 refine Hi ?_
 go_wp2_with (go_at_call 120; refine HT.out.mono ?_; rintro e w3 ⟨⟨v, rfl, iA, ic, hve, ho⟩, hkp, hR⟩; subst hve; have HO := Hi (own_base ho H1.out.size); clear ho; have HN := Hi (H1.out.read hkp hR); clear hkp hR; refine Hid.out ?_)
 have kc : w3.cell? ⟨w.heap.size + 1, 17, none⟩ = some (.slice none 0 0) := yC HN.out.blk 17 rfl
 have kf := HN.out.blk.frozen 17
 have H2 := Hi (HN.out.set_i HO.out HX.out HY.out)
 clear HT H1 HN HX HO HY
 refine Hi ?_
 go_wp2_with (first
  | (with_reducible refine wpAq 31 ?_
     refine wpList_load_row rfl 29 (.tmp 7) rfl (w.heap.size + 1) rfl 29 _ _ _ H2.out.blk zU29 rfl isz_29 ?_)
  | (with_reducible refine wpSt 6 ?_
     refine wpList_store_row rfl 29 (.tmp 6) (.tmp 31) rfl w.heap.size (({ (⟨(zF t).t, (zF t).p, (zF t).l, (zF t).L, (zF t).fl, (zF t).ve, (zF t).wa, (zF t).ct, (zF t).by_, (zF t).tl, (zF t).zx, (zF t).K0, (zF t).K1, (zF t).K2, (zF t).K3, (zF t).K4, x1, (zF t).I⟩ : OpF) with I := x2 } : OpF).row nilS nilS nilS nilS nilS nilS nilS ⟨iA, x2.length, ic⟩ nilS).toArray rfl rfl 29 _ H2.out.res isz_29 rfl (row_one _ _ _ _ _ _ _ _ _ _) ?_
     have hfin := H2.out.fin (({ (⟨(zF t).t, (zF t).p, (zF t).l, (zF t).L, (zF t).fl, (zF t).ve, (zF t).wa, (zF t).ct, (zF t).by_, (zF t).tl, (zF t).zx, (zF t).K0, (zF t).K1, (zF t).K2, (zF t).K3, (zF t).K4, x1, (zF t).I⟩ : OpF) with I := x2 } : OpF).row nilS nilS nilS nilS nilS nilS nilS ⟨iA, x2.length, ic⟩ nilS).toArray
     have hbz := cells_setRow (cs := (({ (⟨(zF t).t, (zF t).p, (zF t).l, (zF t).L, (zF t).fl, (zF t).ve, (zF t).wa, (zF t).ct, (zF t).by_, (zF t).tl, (zF t).zx, (zF t).K0, (zF t).K1, (zF t).K2, (zF t).K3, (zF t).K4, x1, (zF t).I⟩ : OpF) with I := x2 } : OpF).row nilS nilS nilS nilS nilS nilS nilS ⟨iA, x2.length, ic⟩ nilS).toArray) H2.out.res
     generalize hww : World.setRow _ _ _ = wz at hfin hbz ⊢
     have HFN := Hi hfin
     have HBZ := Hi hbz
     clear hww hfin hbz))
 refine bodyPost_ret (results_cell_row rfl _ _ w.heap.size 29 _ _ _ rfl HBZ.out zU29 rfl isz_29) rfl ?_
 exact Rend.yes HG2.out ⟨nilS, nilS, nilS, nilS, nilS, nilS, nilS, ⟨iA, x2.length, ic⟩, rfl, HFN.out.2.2, H2.out.ok⟩ HFN.out.1 HFN.out.2.1
theorem get_g5 (t : Int) (htt : t ∈ ([120] : List Int)) (B : Nat → Prop) (R c p : Nat) (A : Option Addr) (l : List UInt8) (w : World) (cv : Value) (h : Rdr w B R A c l p) :
 Calls Tryz.prog 84 #[.pointer (some ⟨R, 0, none⟩), .int .i32 t, cv] w fun e w' => Rend B R c A l (vOpF w.heap.size) (gFld t l p) w e w' := by
 have hg : gFld t l p = ((gText 4096).bind fun x1 => (gLong).bind fun x2 => (gLong).bind fun x3 => Rg.ret ({ { { zF t with p := bs x1 } with ct := x2 } with by_ := x3 } : OpF)) l p := by
  unfold gFld
  simp only [zH, zI, or_false] at htt
  rcases htt with rfl <;> rfl
 have HG0 := Hi hg
 obtain ⟨wa, hwa⟩ := xa w (Oqg3R1) 29
 have hza : wa.heap.size = w.heap.size + 1 := by rw [← hwa]; simp
 obtain ⟨w1, hw1⟩ := xa wa ((zF t).row nilS nilS nilS nilS nilS nilS nilS nilS nilS).toArray 29
 have hwf : (Lit.int .i32 t).wf = true := by
  simp only [zH, zI, or_false] at htt
  rcases htt with rfl <;> rfl
 have H0 := Hi (GSt.start h (t := t) hwf hwa hw1)
 obtain ⟨kn, hkn⟩ : ∃ k, k = kindN t := ⟨_, rfl⟩
 have hk0 : (kn == 0) = false := by
  rw [hkn]
  simp only [zH, zI, or_false] at htt
  rcases htt with rfl <;> decide
 have hk5 : (kn == 5) = false := by
  rw [hkn]
  simp only [zH, zI, or_false] at htt
  rcases htt with rfl <;> decide
 have HK : Hid (∀ W, Calls Tryz.prog 11 #[.int .i32 t] W fun e w' => e = .returned (.int .i64 kn) ∧ w' = W) := fun W => by rw [hkn]; exact kind_any t W
 clear hkn hwf
 obtain ⟨n0, n1, n2, n3, n4, n5, n6, n7, n8, n9, n10, n11, n12, n13, n14, n15, n16, n17, n18, n19, n20, _⟩ := sw_all (cs := [(-10), 14, 22, 101, (-11), 11, 107, 1, 15, 19, 21, 2, 13, 5, 7, 3, 4, 8, 12, 106, 18]) htt rfl
 have S : ((t == 120) = true) := by
  simp only [zH, zI, or_false] at htt
  rcases htt with rfl <;> decide
 clear htt
 clear h hg
 go_enter Tryz.func84, Tryz.ntmps84
 go_wp2_with (first
  | (with_reducible refine wpAq 7 ?_
     refine wpList_newrow rfl rfl 29 rfl 7 rfl (.tmp 11) rfl rfl ((zF t).row nilS nilS nilS nilS nilS nilS nilS nilS nilS).toArray (fun _ => rfl) (show 7 < 160 by decide) zer_op isz_29 (row_one _ _ _ _ _ _ _ _ _ _) ?_
     rw [hw1])
  | (go_at_call 11
     refine (HK.out _).mono ?_
     rintro e w2 ⟨rfl, he⟩
     obtain rfl := he.symm
     refine Hid.out ?_))
 have ht := rText_any B R c p A l 4096 _ H0.out.rdr
 rcases h1 : (gText 4096) l p with ⟨x1, q1⟩ | ⟨er, q1⟩
 rotate_left
 · rw [h1] at ht
   have HT := Hi ht
   have HGE := Hi (HG0.out.trans (gb_no h1))
   clear ht h1
   refine Hi ?_
   go_wp2_with (go_at_call 125; refine HT.out.mono ?_; rintro e w2 ⟨rfl, hkp, hR⟩; have HN := Hi (H0.out.read hkp hR); clear hkp hR)
   exact ⟨rfl, Rend.no HGE.out HN.out.kp HN.out.rdr⟩
 rw [h1] at ht
 have HT := Hi ht
 have hg := HG0.out.trans (gb_ev h1)
 have HG1 := Hi hg
 have HX : Hid ((bs x1).size ≤ reachBytes) := by have := gText_most h1; unfold Hid reachBytes; rw [bs_size]; omega
 clear ht h1 hg HG0
 refine Hi ?_
 go_wp2_with (go_at_call 125; refine HT.out.mono ?_; rintro e w2 ⟨⟨v, rfl, rfl⟩, hkp, hR⟩; have HN := Hi (H0.out.read hkp hR); clear hkp hR; refine Hid.out ?_)
 have kc : w2.cell? ⟨w.heap.size + 1, 1, none⟩ = some (.string ⟨#[]⟩) := yC HN.out.blk 1 rfl
 have kf := HN.out.blk.frozen 1
 have H1 := Hi (HN.out.set_p (x := ⟨x1.toArray⟩) HX.out)
 clear HT H0 HN HX
 have ht := rLong_any B R c q1 A l _ H1.out.rdr
 rcases h1 : (gLong) l q1 with ⟨x2, q2⟩ | ⟨er, q2⟩
 rotate_left
 · rw [h1] at ht
   have HT := Hi ht
   have HGE := Hi (HG1.out.trans (gb_no h1))
   clear ht h1
   refine Hi ?_
   go_wp2_with (go_at_call 122; refine HT.out.mono ?_; rintro e w2 ⟨rfl, hkp, hR⟩; have HN := Hi (H1.out.read hkp hR); clear hkp hR)
   exact ⟨rfl, Rend.no HGE.out HN.out.kp HN.out.rdr⟩
 rw [h1] at ht
 have HT := Hi ht
 have hg := HG1.out.trans (gb_ev h1)
 have HG2 := Hi hg
 have HX := Hi (gLong_wf h1)
 clear ht h1 hg HG1
 refine Hi ?_
 go_wp2_with (go_at_call 122; refine HT.out.mono ?_; rintro e w3 ⟨⟨v, rfl, rfl⟩, hkp, hR⟩; have HN := Hi (H1.out.read hkp hR); clear hkp hR; refine Hid.out ?_)
 have kc : w3.cell? ⟨w.heap.size + 1, 7, none⟩ = some (.int .i64 0) := yC HN.out.blk 7 rfl
 have kf := HN.out.blk.frozen 7
 have H2 := Hi (HN.out.set_ct HX.out)
 clear HT H1 HN HX
 have ht := rLong_any B R c q2 A l _ H2.out.rdr
 rcases h1 : (gLong) l q2 with ⟨x3, q3⟩ | ⟨er, q3⟩
 rotate_left
 · rw [h1] at ht
   have HT := Hi ht
   have HGE := Hi (HG2.out.trans (gb_no h1))
   clear ht h1
   refine Hi ?_
   go_wp2_with (go_at_call 122; refine HT.out.mono ?_; rintro e w2 ⟨rfl, hkp, hR⟩; have HN := Hi (H2.out.read hkp hR); clear hkp hR)
   exact ⟨rfl, Rend.no HGE.out HN.out.kp HN.out.rdr⟩
 rw [h1] at ht
 have HT := Hi ht
 have hg := HG2.out.trans (gb_ev h1)
 have HG3 := Hi hg
 have HX := Hi (gLong_wf h1)
 clear ht h1 hg HG2
 refine Hi ?_
 go_wp2_with (go_at_call 122; refine HT.out.mono ?_; rintro e w4 ⟨⟨v, rfl, rfl⟩, hkp, hR⟩; have HN := Hi (H2.out.read hkp hR); clear hkp hR; refine Hid.out ?_)
 have kc : w4.cell? ⟨w.heap.size + 1, 8, none⟩ = some (.int .i64 0) := yC HN.out.blk 8 rfl
 have kf := HN.out.blk.frozen 8
 have H3 := Hi (HN.out.set_by HX.out)
 clear HT H2 HN HX
 refine Hi ?_
 go_wp2_with (first
  | (with_reducible refine wpAq 159 ?_
     refine wpList_load_row rfl 29 (.tmp 7) rfl (w.heap.size + 1) rfl 29 _ _ _ H3.out.blk zU29 rfl isz_29 ?_)
  | (with_reducible refine wpSt 6 ?_
     refine wpList_store_row rfl 29 (.tmp 6) (.tmp 159) rfl w.heap.size (({ { { zF t with p := bs x1 } with ct := x2 } with by_ := x3 } : OpF).row nilS nilS nilS nilS nilS nilS nilS nilS nilS).toArray rfl rfl 29 _ H3.out.res isz_29 rfl (row_one _ _ _ _ _ _ _ _ _ _) ?_
     have hfin := H3.out.fin (({ { { zF t with p := bs x1 } with ct := x2 } with by_ := x3 } : OpF).row nilS nilS nilS nilS nilS nilS nilS nilS nilS).toArray
     have hbz := cells_setRow (cs := (({ { { zF t with p := bs x1 } with ct := x2 } with by_ := x3 } : OpF).row nilS nilS nilS nilS nilS nilS nilS nilS nilS).toArray) H3.out.res
     generalize hww : World.setRow _ _ _ = wz at hfin hbz ⊢
     have HFN := Hi hfin
     have HBZ := Hi hbz
     clear hww hfin hbz))
 refine bodyPost_ret (results_cell_row rfl _ _ w.heap.size 29 _ _ _ rfl HBZ.out zU29 rfl isz_29) rfl ?_
 exact Rend.yes HG3.out ⟨nilS, nilS, nilS, nilS, nilS, nilS, nilS, nilS, rfl, HFN.out.2.2, H3.out.ok⟩ HFN.out.1 HFN.out.2.1

abbrev Oqg4R1 : Array Value := #[.int .i32 0, .string ⟨#[]⟩, .slice none 0 0, .slice none 0 0, .int .i32 0, .int .i32 0, .bool false, .int .i64 0, .int .i64 0, .int .i64 0, .int .i64 0, .slice none 0 0, .slice none 0 0, .slice none 0 0, .slice none 0 0, .slice none 0 0, .int .i32 0, .slice none 0 0, .slice none 0 0]

theorem get_g7 (t : Int) (htt : t ∈ ([3, 4, 8, 12] : List Int)) (B : Nat → Prop) (R c p : Nat) (A : Option Addr) (l : List UInt8) (w : World) (cv : Value) (h : Rdr w B R A c l p) :
 Calls Tryz.prog 84 #[.pointer (some ⟨R, 0, none⟩), .int .i32 t, cv] w fun e w' => Rend B R c A l (vOpF w.heap.size) (gFld t l p) w e w' := by
 have hg : gFld t l p = ((gText 4096).bind fun x1 => (gBool).bind fun x2 => Rg.ret ({ { zF t with p := bs x1 } with wa := x2 } : OpF)) l p := by
  unfold gFld
  simp only [zH, zI, or_false] at htt
  rcases htt with rfl | rfl | rfl | rfl <;> rfl
 have HG0 := Hi hg
 obtain ⟨wa, hwa⟩ := xa w (Oqg4R1) 29
 have hza : wa.heap.size = w.heap.size + 1 := by rw [← hwa]; simp
 obtain ⟨w1, hw1⟩ := xa wa ((zF t).row nilS nilS nilS nilS nilS nilS nilS nilS nilS).toArray 29
 have hwf : (Lit.int .i32 t).wf = true := by
  simp only [zH, zI, or_false] at htt
  rcases htt with rfl | rfl | rfl | rfl <;> rfl
 have H0 := Hi (GSt.start h (t := t) hwf hwa hw1)
 obtain ⟨kn, hkn⟩ : ∃ k, k = kindN t := ⟨_, rfl⟩
 have hk0 : (kn == 0) = false := by
  rw [hkn]
  simp only [zH, zI, or_false] at htt
  rcases htt with rfl | rfl | rfl | rfl <;> decide
 have hk5 : (kn == 5) = false := by
  rw [hkn]
  simp only [zH, zI, or_false] at htt
  rcases htt with rfl | rfl | rfl | rfl <;> decide
 have HK : Hid (∀ W, Calls Tryz.prog 11 #[.int .i32 t] W fun e w' => e = .returned (.int .i64 kn) ∧ w' = W) := fun W => by rw [hkn]; exact kind_any t W
 clear hkn hwf
 obtain ⟨n0, n1, n2, n3, n4, n5, n6, n7, n8, n9, n10, n11, n12, n13, n14, n15, n16, n17, _⟩ := sw_all (cs := [(-10), 14, 22, 101, (-11), 11, 107, 1, 15, 19, 21, 2, 13, 5, 7, 120, 106, 18]) htt rfl
 have S : ((t == 3) = true) ∨ ((t == 3) = false ∧ (t == 4) = true) ∨ ((t == 3) = false ∧ (t == 4) = false ∧ (t == 8) = true) ∨ ((t == 3) = false ∧ (t == 4) = false ∧ (t == 8) = false ∧ (t == 12) = true) := by
  simp only [zH, zI, or_false] at htt
  rcases htt with rfl | rfl | rfl | rfl <;> decide
 clear htt
 rcases S with s0 | ⟨s0, s1⟩ | ⟨s0, s1, s2⟩ | ⟨s0, s1, s2, s3⟩
 all_goals
  clear h hg
  go_enter Tryz.func84, Tryz.ntmps84
  go_wp2_with (first
   | (with_reducible refine wpAq 7 ?_
      refine wpList_newrow rfl rfl 29 rfl 7 rfl (.tmp 11) rfl rfl ((zF t).row nilS nilS nilS nilS nilS nilS nilS nilS nilS).toArray (fun _ => rfl) (show 7 < 160 by decide) zer_op isz_29 (row_one _ _ _ _ _ _ _ _ _ _) ?_
      rw [hw1])
   | (go_at_call 11
      refine (HK.out _).mono ?_
      rintro e w2 ⟨rfl, he⟩
      obtain rfl := he.symm
      refine Hid.out ?_))
  have ht := rText_any B R c p A l 4096 _ H0.out.rdr
  rcases h1 : (gText 4096) l p with ⟨x1, q1⟩ | ⟨er, q1⟩
  rotate_left
  · rw [h1] at ht
    have HT := Hi ht
    have HGE := Hi (HG0.out.trans (gb_no h1))
    clear ht h1
    refine Hi ?_
    go_wp2_with (go_at_call 125; refine HT.out.mono ?_; rintro e w2 ⟨rfl, hkp, hR⟩; have HN := Hi (H0.out.read hkp hR); clear hkp hR)
    exact ⟨rfl, Rend.no HGE.out HN.out.kp HN.out.rdr⟩
  rw [h1] at ht
  have HT := Hi ht
  have hg := HG0.out.trans (gb_ev h1)
  have HG1 := Hi hg
  have HX : Hid ((bs x1).size ≤ reachBytes) := by have := gText_most h1; unfold Hid reachBytes; rw [bs_size]; omega
  clear ht h1 hg HG0
  refine Hi ?_
  go_wp2_with (go_at_call 125; refine HT.out.mono ?_; rintro e w2 ⟨⟨v, rfl, rfl⟩, hkp, hR⟩; have HN := Hi (H0.out.read hkp hR); clear hkp hR; refine Hid.out ?_)
  have kc : w2.cell? ⟨w.heap.size + 1, 1, none⟩ = some (.string ⟨#[]⟩) := yC HN.out.blk 1 rfl
  have kf := HN.out.blk.frozen 1
  have H1 := Hi (HN.out.set_p (x := ⟨x1.toArray⟩) HX.out)
  clear HT H0 HN HX
  have ht := rBool_any B R c q1 A l _ H1.out.rdr
  rcases h1 : (gBool) l q1 with ⟨x2, q2⟩ | ⟨er, q2⟩
  rotate_left
  · rw [h1] at ht
    have HT := Hi ht
    have HGE := Hi (HG1.out.trans (gb_no h1))
    clear ht h1
    refine Hi ?_
    go_wp2_with (go_at_call 128; refine HT.out.mono ?_; rintro e w2 ⟨rfl, hkp, hR⟩; have HN := Hi (H1.out.read hkp hR); clear hkp hR)
    exact ⟨rfl, Rend.no HGE.out HN.out.kp HN.out.rdr⟩
  rw [h1] at ht
  have HT := Hi ht
  have hg := HG1.out.trans (gb_ev h1)
  have HG2 := Hi hg
  clear ht h1 hg HG1
  refine Hi ?_
  go_wp2_with (go_at_call 128; refine HT.out.mono ?_; rintro e w3 ⟨⟨v, rfl, rfl⟩, hkp, hR⟩; have HN := Hi (H1.out.read hkp hR); clear hkp hR; refine Hid.out ?_)
  have kc : w3.cell? ⟨w.heap.size + 1, 6, none⟩ = some (.bool false) := yC HN.out.blk 6 rfl
  have kf := HN.out.blk.frozen 6
  have H2 := Hi (HN.out.set_wa x2)
  clear HT H1 HN
  refine Hi ?_
  go_wp2_with (first
   | (with_reducible refine wpAq 159 ?_
      refine wpList_load_row rfl 29 (.tmp 7) rfl (w.heap.size + 1) rfl 29 _ _ _ H2.out.blk zU29 rfl isz_29 ?_)
   | (with_reducible refine wpSt 6 ?_
      refine wpList_store_row rfl 29 (.tmp 6) (.tmp 159) rfl w.heap.size (({ { zF t with p := bs x1 } with wa := x2 } : OpF).row nilS nilS nilS nilS nilS nilS nilS nilS nilS).toArray rfl rfl 29 _ H2.out.res isz_29 rfl (row_one _ _ _ _ _ _ _ _ _ _) ?_
      have hfin := H2.out.fin (({ { zF t with p := bs x1 } with wa := x2 } : OpF).row nilS nilS nilS nilS nilS nilS nilS nilS nilS).toArray
      have hbz := cells_setRow (cs := (({ { zF t with p := bs x1 } with wa := x2 } : OpF).row nilS nilS nilS nilS nilS nilS nilS nilS nilS).toArray) H2.out.res
      generalize hww : World.setRow _ _ _ = wz at hfin hbz ⊢
      have HFN := Hi hfin
      have HBZ := Hi hbz
      clear hww hfin hbz))
  refine bodyPost_ret (results_cell_row rfl _ _ w.heap.size 29 _ _ _ rfl HBZ.out zU29 rfl isz_29) rfl ?_
  exact Rend.yes HG2.out ⟨nilS, nilS, nilS, nilS, nilS, nilS, nilS, nilS, rfl, HFN.out.2.2, H2.out.ok⟩ HFN.out.1 HFN.out.2.1
theorem get_g8 (t : Int) (htt : t ∈ ([106, 18] : List Int)) (B : Nat → Prop) (R c p : Nat) (A : Option Addr) (l : List UInt8) (w : World) (cv : Value) (h : Rdr w B R A c l p) :
 Calls Tryz.prog 84 #[.pointer (some ⟨R, 0, none⟩), .int .i32 t, cv] w fun e w' => Rend B R c A l (vOpF w.heap.size) (gFld t l p) w e w' := by
 have hg : gFld t l p = ((gText 4096).bind fun x1 => (gInt).bind fun x2 => Rg.ret ({ { zF t with p := bs x1 } with fl := x2 } : OpF)) l p := by
  unfold gFld
  simp only [zH, zI, or_false] at htt
  rcases htt with rfl | rfl <;> rfl
 have HG0 := Hi hg
 obtain ⟨wa, hwa⟩ := xa w (Oqg4R1) 29
 have hza : wa.heap.size = w.heap.size + 1 := by rw [← hwa]; simp
 obtain ⟨w1, hw1⟩ := xa wa ((zF t).row nilS nilS nilS nilS nilS nilS nilS nilS nilS).toArray 29
 have hwf : (Lit.int .i32 t).wf = true := by
  simp only [zH, zI, or_false] at htt
  rcases htt with rfl | rfl <;> rfl
 have H0 := Hi (GSt.start h (t := t) hwf hwa hw1)
 obtain ⟨kn, hkn⟩ : ∃ k, k = kindN t := ⟨_, rfl⟩
 have hk0 : (kn == 0) = false := by
  rw [hkn]
  simp only [zH, zI, or_false] at htt
  rcases htt with rfl | rfl <;> decide
 have hk5 : (kn == 5) = false := by
  rw [hkn]
  simp only [zH, zI, or_false] at htt
  rcases htt with rfl | rfl <;> decide
 have HK : Hid (∀ W, Calls Tryz.prog 11 #[.int .i32 t] W fun e w' => e = .returned (.int .i64 kn) ∧ w' = W) := fun W => by rw [hkn]; exact kind_any t W
 clear hkn hwf
 obtain ⟨n0, n1, n2, n3, n4, n5, n6, n7, n8, n9, n10, n11, n12, n13, n14, n15, n16, n17, n18, n19, _⟩ := sw_all (cs := [(-10), 14, 22, 101, (-11), 11, 107, 1, 15, 19, 21, 2, 13, 5, 7, 120, 3, 4, 8, 12]) htt rfl
 have S : ((t == 106) = true) ∨ ((t == 106) = false ∧ (t == 18) = true) := by
  simp only [zH, zI, or_false] at htt
  rcases htt with rfl | rfl <;> decide
 clear htt
 rcases S with s0 | ⟨s0, s1⟩
 all_goals
  clear h hg
  go_enter Tryz.func84, Tryz.ntmps84
  go_wp2_with (first
   | (with_reducible refine wpAq 7 ?_
      refine wpList_newrow rfl rfl 29 rfl 7 rfl (.tmp 11) rfl rfl ((zF t).row nilS nilS nilS nilS nilS nilS nilS nilS nilS).toArray (fun _ => rfl) (show 7 < 160 by decide) zer_op isz_29 (row_one _ _ _ _ _ _ _ _ _ _) ?_
      rw [hw1])
   | (go_at_call 11
      refine (HK.out _).mono ?_
      rintro e w2 ⟨rfl, he⟩
      obtain rfl := he.symm
      refine Hid.out ?_))
  have ht := rText_any B R c p A l 4096 _ H0.out.rdr
  rcases h1 : (gText 4096) l p with ⟨x1, q1⟩ | ⟨er, q1⟩
  rotate_left
  · rw [h1] at ht
    have HT := Hi ht
    have HGE := Hi (HG0.out.trans (gb_no h1))
    clear ht h1
    refine Hi ?_
    go_wp2_with (go_at_call 125; refine HT.out.mono ?_; rintro e w2 ⟨rfl, hkp, hR⟩; have HN := Hi (H0.out.read hkp hR); clear hkp hR)
    exact ⟨rfl, Rend.no HGE.out HN.out.kp HN.out.rdr⟩
  rw [h1] at ht
  have HT := Hi ht
  have hg := HG0.out.trans (gb_ev h1)
  have HG1 := Hi hg
  have HX : Hid ((bs x1).size ≤ reachBytes) := by have := gText_most h1; unfold Hid reachBytes; rw [bs_size]; omega
  clear ht h1 hg HG0
  refine Hi ?_
  go_wp2_with (go_at_call 125; refine HT.out.mono ?_; rintro e w2 ⟨⟨v, rfl, rfl⟩, hkp, hR⟩; have HN := Hi (H0.out.read hkp hR); clear hkp hR; refine Hid.out ?_)
  have kc : w2.cell? ⟨w.heap.size + 1, 1, none⟩ = some (.string ⟨#[]⟩) := yC HN.out.blk 1 rfl
  have kf := HN.out.blk.frozen 1
  have H1 := Hi (HN.out.set_p (x := ⟨x1.toArray⟩) HX.out)
  clear HT H0 HN HX
  have ht := rInt_any B R c q1 A l _ H1.out.rdr
  rcases h1 : (gInt) l q1 with ⟨x2, q2⟩ | ⟨er, q2⟩
  rotate_left
  · rw [h1] at ht
    have HT := Hi ht
    have HGE := Hi (HG1.out.trans (gb_no h1))
    clear ht h1
    refine Hi ?_
    go_wp2_with (go_at_call 60; refine HT.out.mono ?_; rintro e w2 ⟨rfl, hkp, hR⟩; have HN := Hi (H1.out.read hkp hR); clear hkp hR)
    exact ⟨rfl, Rend.no HGE.out HN.out.kp HN.out.rdr⟩
  rw [h1] at ht
  have HT := Hi ht
  have hg := HG1.out.trans (gb_ev h1)
  have HG2 := Hi hg
  have HX := Hi (gInt_wf h1)
  clear ht h1 hg HG1
  refine Hi ?_
  go_wp2_with (go_at_call 60; refine HT.out.mono ?_; rintro e w3 ⟨⟨v, rfl, rfl⟩, hkp, hR⟩; have HN := Hi (H1.out.read hkp hR); clear hkp hR; refine Hid.out ?_)
  have kc : w3.cell? ⟨w.heap.size + 1, 4, none⟩ = some (.int .i32 0) := yC HN.out.blk 4 rfl
  have kf := HN.out.blk.frozen 4
  have H2 := Hi (HN.out.set_fl HX.out)
  clear HT H1 HN HX
  refine Hi ?_
  go_wp2_with (first
   | (with_reducible refine wpAq 159 ?_
      refine wpList_load_row rfl 29 (.tmp 7) rfl (w.heap.size + 1) rfl 29 _ _ _ H2.out.blk zU29 rfl isz_29 ?_)
   | (with_reducible refine wpSt 6 ?_
      refine wpList_store_row rfl 29 (.tmp 6) (.tmp 159) rfl w.heap.size (({ { zF t with p := bs x1 } with fl := x2 } : OpF).row nilS nilS nilS nilS nilS nilS nilS nilS nilS).toArray rfl rfl 29 _ H2.out.res isz_29 rfl (row_one _ _ _ _ _ _ _ _ _ _) ?_
      have hfin := H2.out.fin (({ { zF t with p := bs x1 } with fl := x2 } : OpF).row nilS nilS nilS nilS nilS nilS nilS nilS nilS).toArray
      have hbz := cells_setRow (cs := (({ { zF t with p := bs x1 } with fl := x2 } : OpF).row nilS nilS nilS nilS nilS nilS nilS nilS nilS).toArray) H2.out.res
      generalize hww : World.setRow _ _ _ = wz at hfin hbz ⊢
      have HFN := Hi hfin
      have HBZ := Hi hbz
      clear hww hfin hbz))
  refine bodyPost_ret (results_cell_row rfl _ _ w.heap.size 29 _ _ _ rfl HBZ.out zU29 rfl isz_29) rfl ?_
  exact Rend.yes HG2.out ⟨nilS, nilS, nilS, nilS, nilS, nilS, nilS, nilS, rfl, HFN.out.2.2, H2.out.ok⟩ HFN.out.1 HFN.out.2.1
theorem get_g10 (t : Int) (htt : t ∈ ([(-11), 11, 107] : List Int)) (B : Nat → Prop) (R c p : Nat) (A : Option Addr) (l : List UInt8) (w : World) (cv : Value) (h : Rdr w B R A c l p) :
 Calls Tryz.prog 84 #[.pointer (some ⟨R, 0, none⟩), .int .i32 t, cv] w fun e w' => Rend B R c A l (vOpF w.heap.size) (gFld t l p) w e w' := by
 have hg : gFld t l p = (Rg.ret (zF t : OpF)) l p := by
  unfold gFld
  simp only [zH, zI, or_false] at htt
  rcases htt with rfl | rfl | rfl <;> rfl
 have HG0 := Hi hg
 obtain ⟨wa, hwa⟩ := xa w (Oqg4R1) 29
 have hza : wa.heap.size = w.heap.size + 1 := by rw [← hwa]; simp
 obtain ⟨w1, hw1⟩ := xa wa ((zF t).row nilS nilS nilS nilS nilS nilS nilS nilS nilS).toArray 29
 have hwf : (Lit.int .i32 t).wf = true := by
  simp only [zH, zI, or_false] at htt
  rcases htt with rfl | rfl | rfl <;> rfl
 have H0 := Hi (GSt.start h (t := t) hwf hwa hw1)
 obtain ⟨kn, hkn⟩ : ∃ k, k = kindN t := ⟨_, rfl⟩
 have hk0 : (kn == 0) = false := by
  rw [hkn]
  simp only [zH, zI, or_false] at htt
  rcases htt with rfl | rfl | rfl <;> decide
 have hk5 : (kn == 5) = false := by
  rw [hkn]
  simp only [zH, zI, or_false] at htt
  rcases htt with rfl | rfl | rfl <;> decide
 have HK : Hid (∀ W, Calls Tryz.prog 11 #[.int .i32 t] W fun e w' => e = .returned (.int .i64 kn) ∧ w' = W) := fun W => by rw [hkn]; exact kind_any t W
 clear hkn hwf
 obtain ⟨n0, n1, n2, n3, n4, n5, n6, n7, n8, n9, n10, n11, n12, n13, n14, n15, n16, n17, n18, _⟩ := sw_all (cs := [(-10), 14, 22, 101, 1, 15, 19, 21, 2, 13, 5, 7, 120, 3, 4, 8, 12, 106, 18]) htt rfl
 have S : ((t == (-11)) = true) ∨ ((t == (-11)) = false ∧ (t == 11) = true) ∨ ((t == (-11)) = false ∧ (t == 11) = false ∧ (t == 107) = true) := by
  simp only [zH, zI, or_false] at htt
  rcases htt with rfl | rfl | rfl <;> decide
 clear htt
 rcases S with s0 | ⟨s0, s1⟩ | ⟨s0, s1, s2⟩
 all_goals
  clear h hg
  go_enter Tryz.func84, Tryz.ntmps84
  go_wp2_with (first
   | (with_reducible refine wpAq 7 ?_
      refine wpList_newrow rfl rfl 29 rfl 7 rfl (.tmp 11) rfl rfl ((zF t).row nilS nilS nilS nilS nilS nilS nilS nilS nilS).toArray (fun _ => rfl) (show 7 < 160 by decide) zer_op isz_29 (row_one _ _ _ _ _ _ _ _ _ _) ?_
      rw [hw1])
   | (go_at_call 11
      refine (HK.out _).mono ?_
      rintro e w2 ⟨rfl, he⟩
      obtain rfl := he.symm
      refine Hid.out ?_))
  refine Hi ?_
  go_wp2_with (first
   | (with_reducible refine wpAq 83 ?_
      refine wpList_load_row rfl 29 (.tmp 7) rfl (w.heap.size + 1) rfl 29 _ _ _ H0.out.blk zU29 rfl isz_29 ?_)
   | (with_reducible refine wpSt 6 ?_
      refine wpList_store_row rfl 29 (.tmp 6) (.tmp 83) rfl w.heap.size ((zF t : OpF).row nilS nilS nilS nilS nilS nilS nilS nilS nilS).toArray rfl rfl 29 _ H0.out.res isz_29 rfl (row_one _ _ _ _ _ _ _ _ _ _) ?_
      have hfin := H0.out.fin ((zF t : OpF).row nilS nilS nilS nilS nilS nilS nilS nilS nilS).toArray
      have hbz := cells_setRow (cs := ((zF t : OpF).row nilS nilS nilS nilS nilS nilS nilS nilS nilS).toArray) H0.out.res
      generalize hww : World.setRow _ _ _ = wz at hfin hbz ⊢
      have HFN := Hi hfin
      have HBZ := Hi hbz
      clear hww hfin hbz))
  refine bodyPost_ret (results_cell_row rfl _ _ w.heap.size 29 _ _ _ rfl HBZ.out zU29 rfl isz_29) rfl ?_
  exact Rend.yes HG0.out ⟨nilS, nilS, nilS, nilS, nilS, nilS, nilS, nilS, rfl, HFN.out.2.2, H0.out.ok⟩ HFN.out.1 HFN.out.2.1

abbrev OqmR1 : Array Value := #[.int .i32 0, .string ⟨#[]⟩, .slice none 0 0, .slice none 0 0, .int .i32 0, .int .i32 0, .bool false, .int .i64 0, .int .i64 0, .int .i64 0, .int .i64 0, .slice none 0 0, .slice none 0 0, .slice none 0 0, .slice none 0 0, .slice none 0 0, .int .i32 0, .slice none 0 0, .slice none 0 0]

theorem get_14 (n : Nat) (HSub : SubsOk n) (B : Nat → Prop) (R c p C : Nat) (A : Option Addr) (l : List UInt8) (k : Cnt) (w : World) (h : Rdr w B R A c l p) (hC : Blk w C 120 k.row) (hCR : C ≠ R) (hCB : ¬ B C) (hk : k.Ok) (hd : k.depth < 8) (hp : l.length - p < n) :
 Calls Tryz.prog 84 #[.pointer (some ⟨R, 0, none⟩), .int .i32 14, .pointer (some ⟨C, 0, none⟩)] w fun e w' => RendX [R, C] B R c A l (vGet w.heap.size C k.depth) (opWith (gSubs n) 14 k l p) w e w' := by
 obtain ⟨wa, hwa⟩ := xa w (OqmR1) 29
 have hza : wa.heap.size = w.heap.size + 1 := by rw [← hwa]; simp
 obtain ⟨w1, hw1⟩ := xa wa ((zF 14).row nilS nilS nilS nilS nilS nilS nilS nilS nilS).toArray 29
 have h0 := GSt.start h (t := 14) rfl hwa hw1
 have hz1 : w1.heap.size = w.heap.size + 2 := by rw [← hw1]; simp [hza]
 have hba : Below w.heap.size w w1 := by
  have h1 := zV hwa
  have h2 := zV hw1
  exact h1.trans (h2.mono h1.size)
 have hCl := hC.lt
 have hRl := h.lt
 have hC1 : Blk w1 C 120 k.row := hC.below hba hC.lt
 have HK : Hid (∀ W, Calls Tryz.prog 11 #[.int .i32 14] W fun e w' => e = .returned (.int .i64 2) ∧ w' = W) := fun W => by
  have h := kind_any 14 W
  rwa [show kindN 14 = 2 from by decide] at h
 have hop : opWith (gSubs n) 14 k l p = ((gSubs n 14 ⟨k.parts, k.multis, k.depth + 1⟩).map fun r => ((.mk (zF 14) r.1, ⟨r.2.parts, r.2.multis, r.2.depth - 1⟩) : OpC × Cnt)) l p := by
  unfold opWith
  rw [if_neg (by decide), if_pos rfl]
 have c2 : w1.cell? ⟨C, 2, none⟩ = some (.int .i64 (k.depth : Int)) := yC hC1 2 rfl
 have f2 := hC1.frozen 2
 obtain ⟨w2, hw2⟩ : ∃ w2, w1.setCell ⟨C, 2, none⟩ (.int .i64 ((k.depth : Int) + 1)) = w2 := ⟨_, rfl⟩
 have hk2 : Kp [C] w1 w2 := by rw [← hw2]; exact Kp.setCell ⟨C, 2, none⟩ _
 have hC2 : Blk w2 C 120 (Cnt.row ⟨k.parts, k.multis, k.depth + 1⟩) := by
  rw [← hw2]
  have := hC1.set_ 2 (.int .i64 ((k.depth : Int) + 1))
  simpa [Cnt.row] using this
 have hR2 : Rdr w2 B R A c l p := h0.rdr.kp hk2 (by simpa using hCR.symm) (by simpa using hCB)
 have hz2 : w2.heap.size = w.heap.size + 2 := by rw [← hw2]; simpa using hz1
 have hs := HSub B R c p C A l 14 ⟨k.parts, k.multis, k.depth + 1⟩ w2 hR2 hC2 hCR hCB ⟨hk.parts, hk.multis, hd⟩ hp
 have HP2 : Hid (Blk w2 (w.heap.size + 1) 29 ((zF 14).row nilS nilS nilS nilS nilS nilS nilS nilS nilS).toArray) := h0.blk.kp hk2 (by simp; omega)
 have HZ2 : Hid (Blk w2 w.heap.size 29 (OqmR1)) := h0.res.kp hk2 (by simp; omega)
 have HK02 : Hid (Kp [R, C] w w2) := (Kp.of_below hba).trans (hk2.to (Kp.refl [] _) (fun x hx _ => by simp at hx; simp [hx]) (fun _ h => by cases h))
 have hdn : k.depth ≤ 8 := hk.depth
 have HOP := Hi hop
 have HKO := Hi hk
 clear h h0 hC hC1 hC2 hR2 hk2 hop hk HSub
 rcases h1 : gSubs n 14 ⟨k.parts, k.multis, k.depth + 1⟩ l p with ⟨⟨xs, k'⟩, q⟩ | ⟨er, q⟩
 rotate_left
 · rw [h1] at hs
   have HS := Hi hs
   have HGE : Hid (opWith (gSubs n) 14 k l p = .inr (er, q)) := by unfold Hid; rw [HOP.out]; unfold Rg.map; rw [h1]
   clear hs h1
   go_enter Tryz.func84, Tryz.ntmps84
   go_wp2_with (first
    | (with_reducible refine wpAq 7 ?_
       refine wpList_newrow rfl rfl 29 rfl 7 rfl (.tmp 11) rfl rfl ((zF 14).row nilS nilS nilS nilS nilS nilS nilS nilS nilS).toArray (fun _ => rfl) (show 7 < 160 by decide) zer_op isz_29 (row_one _ _ _ _ _ _ _ _ _ _) ?_
       rw [hw1])
    | (go_at_call 11; refine (HK.out _).mono ?_; rintro e w3 ⟨rfl, he⟩; obtain rfl := he.symm)
    | (go_at_call 121; refine HS.out.mono ?_; rintro e w3 ⟨rfl, hkp, hR⟩; have HN := Hi hkp; have HR := Hi hR; clear hkp hR))
   exact ⟨rfl, RendX.no HGE.out (HK02.out.trans HN.out) HR.out⟩
 rw [h1] at hs
 have HS := Hi hs
 have HGE : Hid (opWith (gSubs n) 14 k l p = .inl ((.mk (zF 14) xs, ⟨k'.parts, k'.multis, k'.depth - 1⟩), q)) := by unfold Hid; rw [HOP.out]; unfold Rg.map; rw [h1]
 clear hs h1
 go_enter Tryz.func84, Tryz.ntmps84
 go_wp2_with (first
  | (with_reducible refine wpAq 7 ?_
     refine wpList_newrow rfl rfl 29 rfl 7 rfl (.tmp 11) rfl rfl ((zF 14).row nilS nilS nilS nilS nilS nilS nilS nilS nilS).toArray (fun _ => rfl) (show 7 < 160 by decide) zer_op isz_29 (row_one _ _ _ _ _ _ _ _ _ _) ?_
     rw [hw1])
  | (go_at_call 11; refine (HK.out _).mono ?_; rintro e w3 ⟨rfl, he⟩; obtain rfl := he.symm)
  | (go_at_call 121; refine HS.out.mono ?_; rintro e w3 ⟨⟨v, rfl, hb3, hko, hdep, A', c', Q, b, hve, hQ, hq, hbb, hF⟩, hkp, hR⟩; subst hve; have HB3 := Hi hb3; have HKO3 := Hi hko; have HD3 := Hi hdep; have HQ := Hi hQ; have HF := Hi hF; have HK3 := Hi hkp; have HR3 := Hi hR; clear hb3 hko hdep hQ hF hkp hR; refine Hid.out ?_))
 clear c2 f2 HS
 have hz3 := HK3.out.size
 have HP3 : Hid (Blk w3 (w.heap.size + 1) 29 ((zF 14).row nilS nilS nilS nilS nilS nilS nilS nilS nilS).toArray) := HP2.out.kp HK3.out (by simp; omega)
 have HZ3 : Hid (Blk w3 w.heap.size 29 (OqmR1)) := HZ2.out.kp HK3.out (by simp; omega)
 have c18 : w3.cell? ⟨w.heap.size + 1, 18, none⟩ = some (.slice none 0 0) := yC HP3.out 18 rfl
 have f18 := HP3.out.frozen 18
 obtain ⟨w4, hw4⟩ : ∃ w4, w3.setCell ⟨w.heap.size + 1, 18, none⟩ (.slice A' Q.length c') = w4 := ⟨_, rfl⟩
 have hk4 : Kp [w.heap.size + 1] w3 w4 := by rw [← hw4]; exact Kp.setCell ⟨w.heap.size + 1, 18, none⟩ _
 have HP4 : Hid (Blk w4 (w.heap.size + 1) 29 ((zF 14).row nilS nilS nilS nilS nilS nilS nilS nilS ⟨A', Q.length, c'⟩).toArray) := by unfold Hid; rw [← hw4]; exact HP3.out.set_ 18 _
 have HZ4 : Hid (Blk w4 w.heap.size 29 (OqmR1)) := HZ3.out.kp hk4 (by simp)
 have hB4 : Blk w4 C 120 k'.row := HB3.out.kp hk4 (by simp; omega)
 have c42 : w4.cell? ⟨C, 2, none⟩ = some (.int .i64 (k'.depth : Int)) := yC hB4 2 rfl
 have f42 := hB4.frozen 2
 have HK4 := Hi hk4
 have hd3 := HD3.out
 try dsimp only at hd3
 rw [hd3] at c42
 obtain ⟨w5, hw5⟩ : ∃ w5, w4.setCell ⟨C, 2, none⟩ (.int .i64 (k.depth : Int)) = w5 := ⟨_, rfl⟩
 have hk5 : Kp [C] w4 w5 := by rw [← hw5]; exact Kp.setCell ⟨C, 2, none⟩ _
 have HB5 : Hid (Blk w5 C 120 (Cnt.row ⟨k'.parts, k'.multis, k'.depth - 1⟩)) := by
  unfold Hid
  rw [← hw5]
  have := hB4.set_ 2 (.int .i64 (k.depth : Int))
  simpa [Cnt.row, hd3] using this
 have HP : Hid (Blk w5 (w.heap.size + 1) 29 ((zF 14).row nilS nilS nilS nilS nilS nilS nilS nilS ⟨A', Q.length, c'⟩).toArray) := HP4.out.kp hk5 (by simp; omega)
 have HZ : Hid (Blk w5 w.heap.size 29 (OqmR1)) := HZ4.out.kp hk5 (by simp; omega)
 have HK5 := Hi hk5
 have hadd : ((k.depth : Int) + 1 - 1) = (k.depth : Int) := by omega
 clear hk4 hB4 hk5 hd3
 refine Hi ?_
 go_wp2_with (first
  | (with_reducible refine wpAq 54 ?_
     refine wpList_load_row rfl 29 (.tmp 7) rfl (w.heap.size + 1) rfl 29 _ _ _ HP.out zU29 rfl isz_29 ?_)
  | (with_reducible refine wpSt 6 ?_
     refine wpList_store_row rfl 29 (.tmp 6) (.tmp 54) rfl w.heap.size ((zF 14).row nilS nilS nilS nilS nilS nilS nilS nilS ⟨A', Q.length, c'⟩).toArray rfl rfl 29 _ HZ.out isz_29 rfl (row_one _ _ _ _ _ _ _ _ _ _) ?_
     have hbz := cells_setRow (cs := ((zF 14).row nilS nilS nilS nilS nilS nilS nilS nilS ⟨A', Q.length, c'⟩).toArray) HZ.out
     have hkz : Kp [w.heap.size] _ _ := Kp.setRow (w := w5) w.heap.size ((zF 14).row nilS nilS nilS nilS nilS nilS nilS nilS ⟨A', Q.length, c'⟩).toArray
     generalize hww : World.setRow _ _ _ = wz at hkz hbz ⊢
     have HBZ := Hi hbz
     have HKZ := Hi hkz
     clear hww hkz hbz))
 refine bodyPost_ret (results_cell_row rfl _ _ w.heap.size 29 _ _ _ rfl HBZ.out zU29 rfl isz_29) rfl ?_
 have hz5 : w5.heap.size = w3.heap.size := by rw [← hw5, ← hw4]; simp
 have hkA : Kp [R, C] w w5 := ((HK02.out.trans HK3.out).to HK4.out (fun _ h _ => h) (fun y hy hl => by simp at hy; omega)).trans (HK5.out.to (Kp.refl [] _) (fun x hx _ => by simp at hx; simp [hx]) (fun _ h => by cases h))
 have hkB : Kp [R, C] w wz := hkA.to HKZ.out (fun _ h _ => h) (fun y hy hl => by simp at hy; omega)
 have hR5 : Rdr w5 B R A c l q := (HR3.out.kp HK4.out (by simp; omega) (fun x hx => HR3.out.new (by simp at hx; omega))).kp HK5.out (by simpa using hCR.symm) (by simpa using hCB)
 have hRz : Rdr wz B R A c l q := hR5.kp HKZ.out (by simp; omega) (fun x hx => HR3.out.new (by simp at hx; omega))
 have hFz := ((HF.out.kp HK4.out (by simp; omega)).kp HK5.out (by simp; omega)).kp HKZ.out (by simp; omega)
 have hFA := hFz.at_ (by unfold reachBytes; omega)
 have hAt : At wz (some b) (.mk (zF 14) (Q.map Prod.fst)) ((zF 14).row nilS nilS nilS nilS nilS nilS nilS nilS ⟨A', Q.length, c'⟩) := .mk (zF 14) nilS nilS nilS nilS nilS nilS nilS nilS ⟨A', Q.length, c'⟩ Q (zF_ok rfl) (SlAt.zero _ _ _ _ _) (SlAt.zero _ _ _ _ _) (SlAt.zero _ _ _ _ _) (SlAt.zero _ _ _ _ _) (SlAt.zero _ _ _ _ _) (SlAt.zero _ _ _ _ _) (SlAt.zero _ _ _ _ _) (SlAt.zero _ _ _ _ _) hFA.1 hFA.2
 rw [HQ.out] at hAt
 exact RendX.yes HGE.out ⟨HB5.out.kp HKZ.out (by simp; omega), ⟨HKO3.out.parts, HKO3.out.multis, by have := HKO3.out.depth; dsimp only; omega⟩, (by have := HD3.out; dsimp only at this ⊢; omega), _, rfl, hAt.lo rfl (by omega)⟩ hkB hRz

theorem get_22 (n : Nat) (HSub : SubsOk n) (B : Nat → Prop) (R c p C : Nat) (A : Option Addr) (l : List UInt8) (k : Cnt) (w : World) (h : Rdr w B R A c l p) (hC : Blk w C 120 k.row) (hCR : C ≠ R) (hCB : ¬ B C) (hk : k.Ok) (hp : l.length - p < n) :
 Calls Tryz.prog 84 #[.pointer (some ⟨R, 0, none⟩), .int .i32 22, .pointer (some ⟨C, 0, none⟩)] w fun e w' => RendX [R, C] B R c A l (vGet w.heap.size C k.depth) (opWith (gSubs n) 22 k l p) w e w' := by
 obtain ⟨wa, hwa⟩ := xa w (OqmR1) 29
 have hza : wa.heap.size = w.heap.size + 1 := by rw [← hwa]; simp
 obtain ⟨w1, hw1⟩ := xa wa ((zF 22).row nilS nilS nilS nilS nilS nilS nilS nilS nilS).toArray 29
 have h0 := GSt.start h (t := 22) rfl hwa hw1
 have hz1 : w1.heap.size = w.heap.size + 2 := by rw [← hw1]; simp [hza]
 have hba : Below w.heap.size w w1 := by
  have h1 := zV hwa
  have h2 := zV hw1
  exact h1.trans (h2.mono h1.size)
 have hCl := hC.lt
 have hRl := h.lt
 have hC1 : Blk w1 C 120 k.row := hC.below hba hC.lt
 have HK : Hid (∀ W, Calls Tryz.prog 11 #[.int .i32 22] W fun e w' => e = .returned (.int .i64 1) ∧ w' = W) := fun W => by
  have h := kind_any 22 W
  rwa [show kindN 22 = 1 from by decide] at h
 have hop : opWith (gSubs n) 22 k l p = ((gSubs n 22 ⟨0, 0, 0⟩).map fun r => ((.mk (zF 22) r.1, k) : OpC × Cnt)) l p := by
  unfold opWith
  rw [if_neg (by decide), if_neg (by decide), if_pos rfl]
 obtain ⟨w2, hw2⟩ := xa w1 #[.int .i64 0, .int .i64 0, .int .i64 0] 120
 have hb2 := zV hw2
 have hC2 : Blk w2 (w.heap.size + 2) 120 (Cnt.row ⟨0, 0, 0⟩) := by
  have : Blk w2 w1.heap.size 120 #[.int .i64 0, .int .i64 0, .int .i64 0] := by rw [← hw2]; exact Blk.new _ _ _
  rwa [hz1] at this
 have hR2 : Rdr w2 B R A c l p := h0.rdr.later hb2
 have hz2 : w2.heap.size = w.heap.size + 3 := by rw [← hw2]; simp [hz1]
 have hs := HSub B R c p (w.heap.size + 2) A l 22 ⟨0, 0, 0⟩ w2 hR2 hC2 (by omega) (h.new (by omega)) ⟨by decide, by decide, by decide⟩ hp
 have HP2 : Hid (Blk w2 (w.heap.size + 1) 29 ((zF 22).row nilS nilS nilS nilS nilS nilS nilS nilS nilS).toArray) := h0.blk.below hb2 h0.blk.lt
 have HZ2 : Hid (Blk w2 w.heap.size 29 (OqmR1)) := h0.res.below hb2 h0.res.lt
 have HC0 : Hid (Blk w2 C 120 k.row) := hC1.below hb2 hC1.lt
 have HK02 : Hid (Kp [R, C] w w2) := (Kp.of_below hba).later hb2
 have HOP := Hi hop
 have HKO := Hi hk
 clear h h0 hC hC1 hC2 hR2 hb2 hop hk HSub
 rcases h1 : gSubs n 22 ⟨0, 0, 0⟩ l p with ⟨⟨xs, k'⟩, q⟩ | ⟨er, q⟩
 rotate_left
 · rw [h1] at hs
   have HS := Hi hs
   have HGE : Hid (opWith (gSubs n) 22 k l p = .inr (er, q)) := by unfold Hid; rw [HOP.out]; unfold Rg.map; rw [h1]
   clear hs h1
   go_enter Tryz.func84, Tryz.ntmps84
   go_wp2_with (first
    | (with_reducible refine wpAq 7 ?_
       refine wpList_newrow rfl rfl 29 rfl 7 rfl (.tmp 11) rfl rfl ((zF 22).row nilS nilS nilS nilS nilS nilS nilS nilS nilS).toArray (fun _ => rfl) (show 7 < 160 by decide) zer_op isz_29 (row_one _ _ _ _ _ _ _ _ _ _) ?_
       rw [hw1])
    | (go_at_call 11; refine (HK.out _).mono ?_; rintro e w3 ⟨rfl, he⟩; obtain rfl := he.symm)
    | (go_at_call 121; refine HS.out.mono ?_; rintro e w3 ⟨rfl, hkp, hR⟩; have HN := Hi hkp; have HR := Hi hR; clear hkp hR))
   exact ⟨rfl, RendX.no HGE.out (HK02.out.to HN.out (fun _ h _ => h) (fun y hy hl => by simp at hy; rcases hy with rfl | rfl; simp; omega)) HR.out⟩
 rw [h1] at hs
 have HS := Hi hs
 have HGE : Hid (opWith (gSubs n) 22 k l p = .inl ((.mk (zF 22) xs, k), q)) := by unfold Hid; rw [HOP.out]; unfold Rg.map; rw [h1]
 clear hs h1
 go_enter Tryz.func84, Tryz.ntmps84
 go_wp2_with (first
  | (with_reducible refine wpAq 7 ?_
     refine wpList_newrow rfl rfl 29 rfl 7 rfl (.tmp 11) rfl rfl ((zF 22).row nilS nilS nilS nilS nilS nilS nilS nilS nilS).toArray (fun _ => rfl) (show 7 < 160 by decide) zer_op isz_29 (row_one _ _ _ _ _ _ _ _ _ _) ?_
     rw [hw1])
  | (go_at_call 11; refine (HK.out _).mono ?_; rintro e w3 ⟨rfl, he⟩; obtain rfl := he.symm)
  | (go_at_call 121; refine HS.out.mono ?_; rintro e w3 ⟨⟨v, rfl, hb3, hko, hdep, A', c', Q, b, hve, hQ, hq, hbb, hF⟩, hkp, hR⟩; subst hve; have HQ := Hi hQ; have HF := Hi hF; have HK3 := Hi hkp; have HR3 := Hi hR; clear hb3 hko hdep hQ hF hkp hR; refine Hid.out ?_))
 clear HS
 have hz3 := HK3.out.size
 have HP3 : Hid (Blk w3 (w.heap.size + 1) 29 ((zF 22).row nilS nilS nilS nilS nilS nilS nilS nilS nilS).toArray) := HP2.out.kp HK3.out (by simp; omega)
 have HZ3 : Hid (Blk w3 w.heap.size 29 (OqmR1)) := HZ2.out.kp HK3.out (by simp; omega)
 have HC3 : Hid (Blk w3 C 120 k.row) := HC0.out.kp HK3.out (by simp; omega)
 have c18 : w3.cell? ⟨w.heap.size + 1, 18, none⟩ = some (.slice none 0 0) := yC HP3.out 18 rfl
 have f18 := HP3.out.frozen 18
 obtain ⟨w4, hw4⟩ : ∃ w4, w3.setCell ⟨w.heap.size + 1, 18, none⟩ (.slice A' Q.length c') = w4 := ⟨_, rfl⟩
 have hk4 : Kp [w.heap.size + 1] w3 w4 := by rw [← hw4]; exact Kp.setCell ⟨w.heap.size + 1, 18, none⟩ _
 have HP : Hid (Blk w4 (w.heap.size + 1) 29 ((zF 22).row nilS nilS nilS nilS nilS nilS nilS nilS ⟨A', Q.length, c'⟩).toArray) := by unfold Hid; rw [← hw4]; exact HP3.out.set_ 18 _
 have HZ : Hid (Blk w4 w.heap.size 29 (OqmR1)) := HZ3.out.kp hk4 (by simp)
 have HC4 : Hid (Blk w4 C 120 k.row) := HC3.out.kp hk4 (by simp; omega)
 have HK4 := Hi hk4
 clear hk4
 refine Hi ?_
 go_wp2_with (first
  | (with_reducible refine wpAq 63 ?_
     refine wpList_load_row rfl 29 (.tmp 7) rfl (w.heap.size + 1) rfl 29 _ _ _ HP.out zU29 rfl isz_29 ?_)
  | (with_reducible refine wpSt 6 ?_
     refine wpList_store_row rfl 29 (.tmp 6) (.tmp 63) rfl w.heap.size ((zF 22).row nilS nilS nilS nilS nilS nilS nilS nilS ⟨A', Q.length, c'⟩).toArray rfl rfl 29 _ HZ.out isz_29 rfl (row_one _ _ _ _ _ _ _ _ _ _) ?_
     have hbz := cells_setRow (cs := ((zF 22).row nilS nilS nilS nilS nilS nilS nilS nilS ⟨A', Q.length, c'⟩).toArray) HZ.out
     have hkz : Kp [w.heap.size] _ _ := Kp.setRow (w := w4) w.heap.size ((zF 22).row nilS nilS nilS nilS nilS nilS nilS nilS ⟨A', Q.length, c'⟩).toArray
     generalize hww : World.setRow _ _ _ = wz at hkz hbz ⊢
     have HBZ := Hi hbz
     have HKZ := Hi hkz
     clear hww hkz hbz))
 refine bodyPost_ret (results_cell_row rfl _ _ w.heap.size 29 _ _ _ rfl HBZ.out zU29 rfl isz_29) rfl ?_
 have hz4 : w4.heap.size = w3.heap.size := by rw [← hw4]; simp
 have hkA : Kp [R, C] w w4 := (HK02.out.to HK3.out (fun _ h _ => h) (fun y hy hl => by simp at hy; rcases hy with rfl | rfl; simp; omega)).to HK4.out (fun _ h _ => h) (fun y hy hl => by simp at hy; omega)
 have hkB : Kp [R, C] w wz := hkA.to HKZ.out (fun _ h _ => h) (fun y hy hl => by simp at hy; omega)
 have hR4 : Rdr w4 B R A c l q := HR3.out.kp HK4.out (by simp; omega) (fun x hx => HR3.out.new (by simp at hx; omega))
 have hRz : Rdr wz B R A c l q := hR4.kp HKZ.out (by simp; omega) (fun x hx => HR3.out.new (by simp at hx; omega))
 have hFz := (HF.out.kp HK4.out (by simp; omega)).kp HKZ.out (by simp; omega)
 have hFA := hFz.at_ (by unfold reachBytes; omega)
 have hAt : At wz (some b) (.mk (zF 22) (Q.map Prod.fst)) ((zF 22).row nilS nilS nilS nilS nilS nilS nilS nilS ⟨A', Q.length, c'⟩) := .mk (zF 22) nilS nilS nilS nilS nilS nilS nilS nilS ⟨A', Q.length, c'⟩ Q (zF_ok rfl) (SlAt.zero _ _ _ _ _) (SlAt.zero _ _ _ _ _) (SlAt.zero _ _ _ _ _) (SlAt.zero _ _ _ _ _) (SlAt.zero _ _ _ _ _) (SlAt.zero _ _ _ _ _) (SlAt.zero _ _ _ _ _) (SlAt.zero _ _ _ _ _) hFA.1 hFA.2
 rw [HQ.out] at hAt
 exact RendX.yes HGE.out ⟨HC4.out.kp HKZ.out (by simp; omega), HKO.out, rfl, _, rfl, hAt.lo rfl (by omega)⟩ hkB hRz


theorem get_any (n : Nat) (HSub : SubsOk n) : GetOk n := fun B R c p C A l t k w ht h hC hCR hCB hk hd hp => by
 by_cases hb : kindN t = 0 ∨ kindN t = 5
 · have hop : opWith (gSubs n) t k l p = .inr (110, p) := by unfold opWith; rw [if_pos hb]; rfl
   rw [hop]
   refine (get_bad B R c p A l w _ t hb ht h).mono fun e w' h => ?_
   obtain ⟨rfl, hkp, hR⟩ := h
   exact ⟨rfl, hkp.mono (fun x hx _ => by simp at hx; simp [hx]), hR⟩
 have htt := kind_types (fun e => hb (.inl e))
 simp only [ownTypes, zH, zI, or_false] at htt
 rcases htt with rfl | rfl | rfl | rfl | rfl | rfl | rfl | rfl | rfl | rfl | rfl | rfl | rfl | rfl | rfl | rfl | rfl | rfl | rfl | rfl | rfl | rfl | rfl | rfl | rfl | rfl | rfl | rfl
 · exact getX_of (get_g0 1 (by decide) B R c p A l w _ h) (opWith_fld (by decide) (by decide)) hC hCR hk
 · exact getX_of (get_g0 15 (by decide) B R c p A l w _ h) (opWith_fld (by decide) (by decide)) hC hCR hk
 · exact getX_of (get_g0 19 (by decide) B R c p A l w _ h) (opWith_fld (by decide) (by decide)) hC hCR hk
 · exact getX_of (get_g1 21 (by decide) B R c p A l w _ h) (opWith_fld (by decide) (by decide)) hC hCR hk
 · exact getX_of (get_g2 2 (by decide) B R c p A l w _ h) (opWith_fld (by decide) (by decide)) hC hCR hk
 · exact getX_of (get_g2 13 (by decide) B R c p A l w _ h) (opWith_fld (by decide) (by decide)) hC hCR hk
 · exact getX_of (get_g3 5 (by decide) B R c p A l w _ h) (opWith_fld (by decide) (by decide)) hC hCR hk
 · exact getX_of (get_g4 7 (by decide) B R c p A l w _ h) (opWith_fld (by decide) (by decide)) hC hCR hk
 · exact getX_of (get_g5 120 (by decide) B R c p A l w _ h) (opWith_fld (by decide) (by decide)) hC hCR hk
 · exact getX_of (get_g6 121 (by decide) B R c p A l w _ h) (opWith_fld (by decide) (by decide)) hC hCR hk
 · exact get_14 n HSub B R c p C A l k w h hC hCR hCB hk (hd rfl) hp
 · exact getX_of (get_g9 (-10) (by decide) B R c p A l w _ h) (opWith_fld (by decide) (by decide)) hC hCR hk
 · exact getX_of (get_g10 (-11) (by decide) B R c p A l w _ h) (opWith_fld (by decide) (by decide)) hC hCR hk
 · exact absurd (Or.inr (by decide)) hb
 · exact getX_of (get_g7 3 (by decide) B R c p A l w _ h) (opWith_fld (by decide) (by decide)) hC hCR hk
 · exact getX_of (get_g7 4 (by decide) B R c p A l w _ h) (opWith_fld (by decide) (by decide)) hC hCR hk
 · exact getX_of (get_g7 8 (by decide) B R c p A l w _ h) (opWith_fld (by decide) (by decide)) hC hCR hk
 · exact getX_of (get_g7 12 (by decide) B R c p A l w _ h) (opWith_fld (by decide) (by decide)) hC hCR hk
 · exact getX_of (get_g6 6 (by decide) B R c p A l w _ h) (opWith_fld (by decide) (by decide)) hC hCR hk
 · exact getX_of (get_g6 9 (by decide) B R c p A l w _ h) (opWith_fld (by decide) (by decide)) hC hCR hk
 · exact getX_of (get_g6 103 (by decide) B R c p A l w _ h) (opWith_fld (by decide) (by decide)) hC hCR hk
 · exact getX_of (get_g6 104 (by decide) B R c p A l w _ h) (opWith_fld (by decide) (by decide)) hC hCR hk
 · exact getX_of (get_g8 106 (by decide) B R c p A l w _ h) (opWith_fld (by decide) (by decide)) hC hCR hk
 · exact getX_of (get_g10 11 (by decide) B R c p A l w _ h) (opWith_fld (by decide) (by decide)) hC hCR hk
 · exact getX_of (get_g8 18 (by decide) B R c p A l w _ h) (opWith_fld (by decide) (by decide)) hC hCR hk
 · exact get_22 n HSub B R c p C A l k w h hC hCR hCB hk hp
 · exact getX_of (get_101 B R c p A l w _ h) (by unfold opWith; rw [if_neg (by decide), if_neg (by decide), if_neg (by decide), if_pos rfl]) hC hCR hk
 · exact getX_of (get_g10 107 (by decide) B R c p A l w _ h) (opWith_fld (by decide) (by decide)) hC hCR hk

def pListsB (f : OpF) : List UInt8 := f.lists.flatMap fun L => bInt L.length ++ bTexts L
def fldB (f : OpF) : List UInt8 :=
 if f.t ∈ ([1, 15, 19] : List Int) then bBuf f.p.data.toList ++ bBuf f.l ++ (bInt f.L.length ++ pAclsB f.L) ++ bInt f.fl
 else if f.t ∈ ([21] : List Int) then bBuf f.p.data.toList ++ bBuf f.l ++ (bInt f.L.length ++ pAclsB f.L) ++ bInt f.fl ++ bLong f.tl
 else if f.t ∈ ([2, 13] : List Int) then bBuf f.p.data.toList ++ bInt f.ve
 else if f.t ∈ ([5] : List Int) then bBuf f.p.data.toList ++ bBuf f.l ++ bInt f.ve
 else if f.t ∈ ([7] : List Int) then bBuf f.p.data.toList ++ (bInt f.L.length ++ pAclsB f.L) ++ bInt f.ve
 else if f.t ∈ ([120] : List Int) then bBuf f.p.data.toList ++ bLong f.ct ++ bLong f.by_
 else if f.t ∈ ([121, 6, 9, 103, 104] : List Int) then bBuf f.p.data.toList
 else if f.t ∈ ([3, 4, 8, 12] : List Int) then bBuf f.p.data.toList ++ bBool f.wa
 else if f.t ∈ ([106, 18] : List Int) then bBuf f.p.data.toList ++ bInt f.fl
 else if f.t ∈ ([-10] : List Int) then bInt f.to ++ (bInt f.I.length ++ pIdsB f.I)
 else if f.t = 101 then bLong f.zx ++ pListsB f
 else []
structure PutSt (w0 w w1 : World) (base g : Nat) (v : Value) (l : List UInt8) (cs : Array Value) : Prop where
 base0 : w0.heap.size ≤ base
 bg : base ≤ g
 b0 : Below w0.heap.size w0 w
 b1 : Below w.heap.size w w1
 bw : base ≤ w.heap.size
 z1 : w1.heap.size = w.heap.size + 1
 wr : Wr w1 base g v l
 blk : Blk w1 w.heap.size 29 cs
 ne : w.heap.size ∉ g :: v.ownBlock.toList
 own : ∀ x, v.ownBlock = some x → w0.heap.size ≤ x
theorem PutSt.mk' {w0 w : World} {base g : Nat} {v : Value} {l : List UInt8} (cs : Array Value) (hw : w0.heap.size ≤ base) (hg : base ≤ g) (hb0 : Below w0.heap.size w0 w) (hv : Wr w base g v l) (hbase : base ≤ w.heap.size) : PutSt w0 w (w.alloc (.cells cs 29)) base g v l cs where
 base0 := hw
 bg := hg
 b0 := hb0
 b1 := zT.alloc zR _
 bw := hbase
 z1 := by simp
 wr := hv.later (zT.alloc zR _)
 blk := Blk.new _ _ _
 ne := fun hx => by
  rcases zH.1 hx with hx | hx
  · have := hv.lt
    omega
  · have := (hv.2.lt w.heap.size (by simpa using hx)).2
    omega
 own := fun x hx => Nat.le_trans hw (hv.2.lt x hx).1
section
variable {w0 w w1 W : World} {base g : Nat} {v v' : Value} {l k : List UInt8} {cs : Array Value}
theorem PutSt.cell (h : PutSt w0 w w1 base g v l cs) (hp : Wrote base g v v' l k w1 W) (j : Nat) {u : Value} (hu : cs[j]? = some u) : W.cell? ⟨w.heap.size, j, none⟩ = some u := yC (h.blk.kp hp.2.1 h.ne) j hu
theorem PutSt.below (h : PutSt w0 w w1 base g v l cs) (hp : Wrote base g v v' l k w1 W) : Below w0.heap.size w0 W :=
 (h.b0.trans (h.b1.mono h.b0.size)).trans (hp.below (B := w0.heap.size) (Nat.le_trans h.base0 h.bg) h.own (Nat.le_trans h.b0.size h.b1.size))
theorem PutSt.le (h : PutSt w0 w w1 base g v l cs) (hp : Wrote base g v v' l k w1 W) : base ≤ W.heap.size := Nat.le_trans h.bw (Nat.le_trans h.b1.size hp.size)
theorem PutSt.sep (h : PutSt w0 w w1 base g v l cs) (hp : Wrote base g v v' l k w1 W) {W' : World} {size n : Nat} {A : Option Addr} {xs : List Value} (hr : Reads W' w0.heap.size size A n xs) : 0 < n → ∀ ad, A = some ad → ad.block ≠ g ∧ v'.ownBlock ≠ some ad.block := fun hn ad e => by
 obtain ⟨ad', e', hb, _⟩ := hr.2 hn
 rw [e] at e'
 injection e' with e'
 subst e'
 have h1 := h.base0
 have h2 := h.bg
 refine ⟨by omega, fun e2 => ?_⟩
 have := (hp.1.2.lt _ e2).1
 omega
end

theorem put_g0 {w0 w : World} {lo : Option Nat} (t : Int) (htt : t ∈ ([1, 15, 19] : List Int)) (f : OpF) (d a k0 k1 k2 k3 k4 i s : Sl) (base g : Nat) (v : Value) (l : List UInt8) (ht : f.t = t) (h : FAt w0 lo f d a k0 k1 k2 k3 k4 i) (hw : w0.heap.size ≤ base) (hg : base ≤ g) (hb0 : Below w0.heap.size w0 w) (hv : Wr w base g v l) (hbase : base ≤ w.heap.size) (hsz : l.length + (fldB f).length + 64 ≤ 140737488355328) :
 Calls Tryz.prog 23 #[.pointer (some ⟨g, 0, none⟩), .agg (f.row d a k0 k1 k2 k3 k4 i s).toArray] w fun e w' => e = .returned (.tuple #[]) ∧ ∃ v', Wrote base g v v' l (fldB f) w w' := by
 have hfb : fldB f = bBuf f.p.data.toList ++ bBuf f.l ++ (bInt f.L.length ++ pAclsB f.L) ++ bInt f.fl := by
  unfold fldB
  rw [ht]
  clear ht
  simp only [zH, zI, or_false] at htt
  rcases htt with rfl | rfl | rfl <;> rfl
 rw [hfb] at hsz ⊢
 clear hfb
 have HS0 := PutSt.mk' (f.row d a k0 k1 k2 k3 k4 i s).toArray hw hg hb0 hv hbase
 obtain ⟨w1, hw1⟩ := xa w (f.row d a k0 k1 k2 k3 k4 i s).toArray 29
 rw [hw1] at HS0
 have HS := Hi HS0
 have HF := Hi h
 have HP0 : Hid (Wrote base g v v l [] w1 w1) := Wrote.start HS0.wr
 have d0 := HS0.cell HP0.out 0 (u := .int .i32 t) (by rw [← ht]; rfl)
 have d1 := HS0.cell HP0.out 1 (u := .string f.p) rfl
 have hla := h.a.len
 have hli := h.i.len
 simp only [zG, bBuf_len, bInt_len, bLong_len, bBool, zJ, zK, ← bsize_eq] at hsz
 obtain ⟨cs, hcs⟩ : ∃ cs : Array Value, cs = (f.row d a k0 k1 k2 k3 k4 i s).toArray := ⟨_, rfl⟩
 rw [← hcs] at hw1 ⊢
 clear HS0 h hw hg hb0 hv hbase ht hcs
 obtain ⟨n0, n1, n2, n3, n4, n5, n6, n7, n8, n9, n10, n11, n12, n13, n14, n15, n16, n17, n18, n19, n20, _⟩ := sw_all (cs := [21, 2, 13, 5, 7, 120, 121, 6, 9, 103, 104, 3, 4, 8, 12, 101, 106, 18, (-10), 14, 22]) htt rfl
 have S : ((t == 1) = true) ∨ ((t == 1) = false ∧ (t == 15) = true) ∨ ((t == 1) = false ∧ (t == 15) = false ∧ (t == 19) = true) := by
  simp only [zH, zI, or_false] at htt
  rcases htt with rfl | rfl | rfl <;> decide
 clear htt
 rcases S with s0 | ⟨s0, s1⟩ | ⟨s0, s1, s2⟩
 all_goals
  go_enter Tryz.func23, Tryz.ntmps23
  go_wp2_with (first
   | (go_at_call 42
      refine (wText_any base g v _ f.p _ HP0.out.1 (HS.out.le HP0.out) (by simp only [zG, bBuf_len, bInt_len, bLong_len, bBool, zJ, zK, ← bsize_eq]; omega)).mono ?_
      rintro e w2 ⟨rfl, v1, hp⟩
      have HP1 := Hi (HP0.out.cat zT hp)
      clear hp
      have d2 := HS.out.cell HP1.out 2 (u := .slice d.A d.n d.c) rfl
      clear HP0 d1)
   | (go_at_call 43
      refine (wBuffer_any base g v1 _ f.l d.A d.n d.c w0.heap.size _ HP1.out.1 (HF.out.d.reads.below (HS.out.below HP1.out)) (Nat.le_trans HS.out.base0 (HS.out.le HP1.out)) (HS.out.sep HP1.out HF.out.d.reads) (HS.out.le HP1.out) (by simp only [zG, bBuf_len, bInt_len, bLong_len, bBool, zJ, zK, ← bsize_eq]; omega)).mono ?_
      rintro e w3 ⟨rfl, v2, hp⟩
      have HP2 := Hi (HP1.out.cat zT hp)
      clear hp
      have d3 := HS.out.cell HP2.out 3 (u := .slice a.A a.n a.c) rfl
      clear HP1 d2)
   | (go_at_call 44
      refine (aclPut_any base g v2 _ a.A a.n a.c w0.heap.size f.L _ HP2.out.1 (HF.out.a.reads.below (HS.out.below HP2.out)) HS.out.base0 HS.out.bg (HS.out.le HP2.out) (Nat.le_trans (HF.out.a.bd (by decide)) (by decide)) (by simp only [zG, bBuf_len, bInt_len, bLong_len, bBool, zJ, zK, ← bsize_eq]; omega)).mono ?_
      rintro e w4 ⟨rfl, v3, hp⟩
      have HP3 := Hi (HP2.out.cat zT hp)
      clear hp
      have d4 := HS.out.cell HP3.out 4 (u := .int .i32 f.fl) rfl
      clear HP2 d3)
   | (go_at_call 40
      refine (wInt_any base g v3 _ _ _ HP3.out.1 (HS.out.le HP3.out) (by simp only [zG, bBuf_len, bInt_len, bLong_len, bBool, zJ, zK, ← bsize_eq]; omega)).mono ?_
      rintro e w5 ⟨rfl, v4, hp⟩
      have HP4 := Hi (HP3.out.cat zT hp)
      clear hp
      clear HP3 d4))
  go_end0
  have HPE := HP4.out
  rw [← hla] at HPE
  exact ⟨rfl, v4, HPE.from HS.out.b1⟩
theorem put_g1 {w0 w : World} {lo : Option Nat} (t : Int) (htt : t ∈ ([21] : List Int)) (f : OpF) (d a k0 k1 k2 k3 k4 i s : Sl) (base g : Nat) (v : Value) (l : List UInt8) (ht : f.t = t) (h : FAt w0 lo f d a k0 k1 k2 k3 k4 i) (hw : w0.heap.size ≤ base) (hg : base ≤ g) (hb0 : Below w0.heap.size w0 w) (hv : Wr w base g v l) (hbase : base ≤ w.heap.size) (hsz : l.length + (fldB f).length + 64 ≤ 140737488355328) :
 Calls Tryz.prog 23 #[.pointer (some ⟨g, 0, none⟩), .agg (f.row d a k0 k1 k2 k3 k4 i s).toArray] w fun e w' => e = .returned (.tuple #[]) ∧ ∃ v', Wrote base g v v' l (fldB f) w w' := by
 have hfb : fldB f = bBuf f.p.data.toList ++ bBuf f.l ++ (bInt f.L.length ++ pAclsB f.L) ++ bInt f.fl ++ bLong f.tl := by
  unfold fldB
  rw [ht]
  clear ht
  simp only [zH, zI, or_false] at htt
  rcases htt with rfl <;> rfl
 rw [hfb] at hsz ⊢
 clear hfb
 have HS0 := PutSt.mk' (f.row d a k0 k1 k2 k3 k4 i s).toArray hw hg hb0 hv hbase
 obtain ⟨w1, hw1⟩ := xa w (f.row d a k0 k1 k2 k3 k4 i s).toArray 29
 rw [hw1] at HS0
 have HS := Hi HS0
 have HF := Hi h
 have HP0 : Hid (Wrote base g v v l [] w1 w1) := Wrote.start HS0.wr
 have d0 := HS0.cell HP0.out 0 (u := .int .i32 t) (by rw [← ht]; rfl)
 have d1 := HS0.cell HP0.out 1 (u := .string f.p) rfl
 have hla := h.a.len
 have hli := h.i.len
 simp only [zG, bBuf_len, bInt_len, bLong_len, bBool, zJ, zK, ← bsize_eq] at hsz
 obtain ⟨cs, hcs⟩ : ∃ cs : Array Value, cs = (f.row d a k0 k1 k2 k3 k4 i s).toArray := ⟨_, rfl⟩
 rw [← hcs] at hw1 ⊢
 clear HS0 h hw hg hb0 hv hbase ht hcs
 obtain ⟨n0, n1, n2, n3, n4, n5, n6, n7, n8, n9, n10, n11, n12, n13, n14, n15, n16, n17, n18, n19, n20, n21, n22, _⟩ := sw_all (cs := [1, 15, 19, 2, 13, 5, 7, 120, 121, 6, 9, 103, 104, 3, 4, 8, 12, 101, 106, 18, (-10), 14, 22]) htt rfl
 have S : ((t == 21) = true) := by
  simp only [zH, zI, or_false] at htt
  rcases htt with rfl <;> decide
 clear htt
 go_enter Tryz.func23, Tryz.ntmps23
 go_wp2_with (first
  | (go_at_call 42
     refine (wText_any base g v _ f.p _ HP0.out.1 (HS.out.le HP0.out) (by simp only [zG, bBuf_len, bInt_len, bLong_len, bBool, zJ, zK, ← bsize_eq]; omega)).mono ?_
     rintro e w2 ⟨rfl, v1, hp⟩
     have HP1 := Hi (HP0.out.cat zT hp)
     clear hp
     have d2 := HS.out.cell HP1.out 2 (u := .slice d.A d.n d.c) rfl
     clear HP0 d1)
  | (go_at_call 43
     refine (wBuffer_any base g v1 _ f.l d.A d.n d.c w0.heap.size _ HP1.out.1 (HF.out.d.reads.below (HS.out.below HP1.out)) (Nat.le_trans HS.out.base0 (HS.out.le HP1.out)) (HS.out.sep HP1.out HF.out.d.reads) (HS.out.le HP1.out) (by simp only [zG, bBuf_len, bInt_len, bLong_len, bBool, zJ, zK, ← bsize_eq]; omega)).mono ?_
     rintro e w3 ⟨rfl, v2, hp⟩
     have HP2 := Hi (HP1.out.cat zT hp)
     clear hp
     have d3 := HS.out.cell HP2.out 3 (u := .slice a.A a.n a.c) rfl
     clear HP1 d2)
  | (go_at_call 44
     refine (aclPut_any base g v2 _ a.A a.n a.c w0.heap.size f.L _ HP2.out.1 (HF.out.a.reads.below (HS.out.below HP2.out)) HS.out.base0 HS.out.bg (HS.out.le HP2.out) (Nat.le_trans (HF.out.a.bd (by decide)) (by decide)) (by simp only [zG, bBuf_len, bInt_len, bLong_len, bBool, zJ, zK, ← bsize_eq]; omega)).mono ?_
     rintro e w4 ⟨rfl, v3, hp⟩
     have HP3 := Hi (HP2.out.cat zT hp)
     clear hp
     have d4 := HS.out.cell HP3.out 4 (u := .int .i32 f.fl) rfl
     clear HP2 d3)
  | (go_at_call 40
     refine (wInt_any base g v3 _ _ _ HP3.out.1 (HS.out.le HP3.out) (by simp only [zG, bBuf_len, bInt_len, bLong_len, bBool, zJ, zK, ← bsize_eq]; omega)).mono ?_
     rintro e w5 ⟨rfl, v4, hp⟩
     have HP4 := Hi (HP3.out.cat zT hp)
     clear hp
     have d9 := HS.out.cell HP4.out 9 (u := .int .i64 f.tl) rfl
     clear HP3 d4)
  | (go_at_call 45
     refine (wLong_any base g v4 _ _ _ HP4.out.1 (HS.out.le HP4.out) (by simp only [zG, bBuf_len, bInt_len, bLong_len, bBool, zJ, zK, ← bsize_eq]; omega)).mono ?_
     rintro e w6 ⟨rfl, v5, hp⟩
     have HP5 := Hi (HP4.out.cat zT hp)
     clear hp
     clear HP4 d9))
 go_end0
 have HPE := HP5.out
 rw [← hla] at HPE
 exact ⟨rfl, v5, HPE.from HS.out.b1⟩
theorem put_g2 {w0 w : World} {lo : Option Nat} (t : Int) (htt : t ∈ ([2, 13] : List Int)) (f : OpF) (d a k0 k1 k2 k3 k4 i s : Sl) (base g : Nat) (v : Value) (l : List UInt8) (ht : f.t = t) (h : FAt w0 lo f d a k0 k1 k2 k3 k4 i) (hw : w0.heap.size ≤ base) (hg : base ≤ g) (hb0 : Below w0.heap.size w0 w) (hv : Wr w base g v l) (hbase : base ≤ w.heap.size) (hsz : l.length + (fldB f).length + 64 ≤ 140737488355328) :
 Calls Tryz.prog 23 #[.pointer (some ⟨g, 0, none⟩), .agg (f.row d a k0 k1 k2 k3 k4 i s).toArray] w fun e w' => e = .returned (.tuple #[]) ∧ ∃ v', Wrote base g v v' l (fldB f) w w' := by
 have hfb : fldB f = bBuf f.p.data.toList ++ bInt f.ve := by
  unfold fldB
  rw [ht]
  clear ht
  simp only [zH, zI, or_false] at htt
  rcases htt with rfl | rfl <;> rfl
 rw [hfb] at hsz ⊢
 clear hfb
 have HS0 := PutSt.mk' (f.row d a k0 k1 k2 k3 k4 i s).toArray hw hg hb0 hv hbase
 obtain ⟨w1, hw1⟩ := xa w (f.row d a k0 k1 k2 k3 k4 i s).toArray 29
 rw [hw1] at HS0
 have HS := Hi HS0
 have HF := Hi h
 have HP0 : Hid (Wrote base g v v l [] w1 w1) := Wrote.start HS0.wr
 have d0 := HS0.cell HP0.out 0 (u := .int .i32 t) (by rw [← ht]; rfl)
 have d1 := HS0.cell HP0.out 1 (u := .string f.p) rfl
 have hla := h.a.len
 have hli := h.i.len
 simp only [zG, bBuf_len, bInt_len, bLong_len, bBool, zJ, zK, ← bsize_eq] at hsz
 obtain ⟨cs, hcs⟩ : ∃ cs : Array Value, cs = (f.row d a k0 k1 k2 k3 k4 i s).toArray := ⟨_, rfl⟩
 rw [← hcs] at hw1 ⊢
 clear HS0 h hw hg hb0 hv hbase ht hcs
 obtain ⟨n0, n1, n2, n3, n4, n5, n6, n7, n8, n9, n10, n11, n12, n13, n14, n15, n16, n17, n18, n19, n20, n21, _⟩ := sw_all (cs := [1, 15, 19, 21, 5, 7, 120, 121, 6, 9, 103, 104, 3, 4, 8, 12, 101, 106, 18, (-10), 14, 22]) htt rfl
 have S : ((t == 2) = true) ∨ ((t == 2) = false ∧ (t == 13) = true) := by
  simp only [zH, zI, or_false] at htt
  rcases htt with rfl | rfl <;> decide
 clear htt
 rcases S with s0 | ⟨s0, s1⟩
 all_goals
  go_enter Tryz.func23, Tryz.ntmps23
  go_wp2_with (first
   | (go_at_call 42
      refine (wText_any base g v _ f.p _ HP0.out.1 (HS.out.le HP0.out) (by simp only [zG, bBuf_len, bInt_len, bLong_len, bBool, zJ, zK, ← bsize_eq]; omega)).mono ?_
      rintro e w2 ⟨rfl, v1, hp⟩
      have HP1 := Hi (HP0.out.cat zT hp)
      clear hp
      have d5 := HS.out.cell HP1.out 5 (u := .int .i32 f.ve) rfl
      clear HP0 d1)
   | (go_at_call 40
      refine (wInt_any base g v1 _ _ _ HP1.out.1 (HS.out.le HP1.out) (by simp only [zG, bBuf_len, bInt_len, bLong_len, bBool, zJ, zK, ← bsize_eq]; omega)).mono ?_
      rintro e w3 ⟨rfl, v2, hp⟩
      have HP2 := Hi (HP1.out.cat zT hp)
      clear hp
      clear HP1 d5))
  go_end0
  have HPE := HP2.out
  exact ⟨rfl, v2, HPE.from HS.out.b1⟩
theorem put_g3 {w0 w : World} {lo : Option Nat} (t : Int) (htt : t ∈ ([5] : List Int)) (f : OpF) (d a k0 k1 k2 k3 k4 i s : Sl) (base g : Nat) (v : Value) (l : List UInt8) (ht : f.t = t) (h : FAt w0 lo f d a k0 k1 k2 k3 k4 i) (hw : w0.heap.size ≤ base) (hg : base ≤ g) (hb0 : Below w0.heap.size w0 w) (hv : Wr w base g v l) (hbase : base ≤ w.heap.size) (hsz : l.length + (fldB f).length + 64 ≤ 140737488355328) :
 Calls Tryz.prog 23 #[.pointer (some ⟨g, 0, none⟩), .agg (f.row d a k0 k1 k2 k3 k4 i s).toArray] w fun e w' => e = .returned (.tuple #[]) ∧ ∃ v', Wrote base g v v' l (fldB f) w w' := by
 have hfb : fldB f = bBuf f.p.data.toList ++ bBuf f.l ++ bInt f.ve := by
  unfold fldB
  rw [ht]
  clear ht
  simp only [zH, zI, or_false] at htt
  rcases htt with rfl <;> rfl
 rw [hfb] at hsz ⊢
 clear hfb
 have HS0 := PutSt.mk' (f.row d a k0 k1 k2 k3 k4 i s).toArray hw hg hb0 hv hbase
 obtain ⟨w1, hw1⟩ := xa w (f.row d a k0 k1 k2 k3 k4 i s).toArray 29
 rw [hw1] at HS0
 have HS := Hi HS0
 have HF := Hi h
 have HP0 : Hid (Wrote base g v v l [] w1 w1) := Wrote.start HS0.wr
 have d0 := HS0.cell HP0.out 0 (u := .int .i32 t) (by rw [← ht]; rfl)
 have d1 := HS0.cell HP0.out 1 (u := .string f.p) rfl
 have hla := h.a.len
 have hli := h.i.len
 simp only [zG, bBuf_len, bInt_len, bLong_len, bBool, zJ, zK, ← bsize_eq] at hsz
 obtain ⟨cs, hcs⟩ : ∃ cs : Array Value, cs = (f.row d a k0 k1 k2 k3 k4 i s).toArray := ⟨_, rfl⟩
 rw [← hcs] at hw1 ⊢
 clear HS0 h hw hg hb0 hv hbase ht hcs
 obtain ⟨n0, n1, n2, n3, n4, n5, n6, n7, n8, n9, n10, n11, n12, n13, n14, n15, n16, n17, n18, n19, n20, n21, n22, _⟩ := sw_all (cs := [1, 15, 19, 21, 2, 13, 7, 120, 121, 6, 9, 103, 104, 3, 4, 8, 12, 101, 106, 18, (-10), 14, 22]) htt rfl
 have S : ((t == 5) = true) := by
  simp only [zH, zI, or_false] at htt
  rcases htt with rfl <;> decide
 clear htt
 go_enter Tryz.func23, Tryz.ntmps23
 go_wp2_with (first
  | (go_at_call 42
     refine (wText_any base g v _ f.p _ HP0.out.1 (HS.out.le HP0.out) (by simp only [zG, bBuf_len, bInt_len, bLong_len, bBool, zJ, zK, ← bsize_eq]; omega)).mono ?_
     rintro e w2 ⟨rfl, v1, hp⟩
     have HP1 := Hi (HP0.out.cat zT hp)
     clear hp
     have d2 := HS.out.cell HP1.out 2 (u := .slice d.A d.n d.c) rfl
     clear HP0 d1)
  | (go_at_call 43
     refine (wBuffer_any base g v1 _ f.l d.A d.n d.c w0.heap.size _ HP1.out.1 (HF.out.d.reads.below (HS.out.below HP1.out)) (Nat.le_trans HS.out.base0 (HS.out.le HP1.out)) (HS.out.sep HP1.out HF.out.d.reads) (HS.out.le HP1.out) (by simp only [zG, bBuf_len, bInt_len, bLong_len, bBool, zJ, zK, ← bsize_eq]; omega)).mono ?_
     rintro e w3 ⟨rfl, v2, hp⟩
     have HP2 := Hi (HP1.out.cat zT hp)
     clear hp
     have d5 := HS.out.cell HP2.out 5 (u := .int .i32 f.ve) rfl
     clear HP1 d2)
  | (go_at_call 40
     refine (wInt_any base g v2 _ _ _ HP2.out.1 (HS.out.le HP2.out) (by simp only [zG, bBuf_len, bInt_len, bLong_len, bBool, zJ, zK, ← bsize_eq]; omega)).mono ?_
     rintro e w4 ⟨rfl, v3, hp⟩
     have HP3 := Hi (HP2.out.cat zT hp)
     clear hp
     clear HP2 d5))
 go_end0
 have HPE := HP3.out
 exact ⟨rfl, v3, HPE.from HS.out.b1⟩
theorem put_g4 {w0 w : World} {lo : Option Nat} (t : Int) (htt : t ∈ ([7] : List Int)) (f : OpF) (d a k0 k1 k2 k3 k4 i s : Sl) (base g : Nat) (v : Value) (l : List UInt8) (ht : f.t = t) (h : FAt w0 lo f d a k0 k1 k2 k3 k4 i) (hw : w0.heap.size ≤ base) (hg : base ≤ g) (hb0 : Below w0.heap.size w0 w) (hv : Wr w base g v l) (hbase : base ≤ w.heap.size) (hsz : l.length + (fldB f).length + 64 ≤ 140737488355328) :
 Calls Tryz.prog 23 #[.pointer (some ⟨g, 0, none⟩), .agg (f.row d a k0 k1 k2 k3 k4 i s).toArray] w fun e w' => e = .returned (.tuple #[]) ∧ ∃ v', Wrote base g v v' l (fldB f) w w' := by
 have hfb : fldB f = bBuf f.p.data.toList ++ (bInt f.L.length ++ pAclsB f.L) ++ bInt f.ve := by
  unfold fldB
  rw [ht]
  clear ht
  simp only [zH, zI, or_false] at htt
  rcases htt with rfl <;> rfl
 rw [hfb] at hsz ⊢
 clear hfb
 have HS0 := PutSt.mk' (f.row d a k0 k1 k2 k3 k4 i s).toArray hw hg hb0 hv hbase
 obtain ⟨w1, hw1⟩ := xa w (f.row d a k0 k1 k2 k3 k4 i s).toArray 29
 rw [hw1] at HS0
 have HS := Hi HS0
 have HF := Hi h
 have HP0 : Hid (Wrote base g v v l [] w1 w1) := Wrote.start HS0.wr
 have d0 := HS0.cell HP0.out 0 (u := .int .i32 t) (by rw [← ht]; rfl)
 have d1 := HS0.cell HP0.out 1 (u := .string f.p) rfl
 have hla := h.a.len
 have hli := h.i.len
 simp only [zG, bBuf_len, bInt_len, bLong_len, bBool, zJ, zK, ← bsize_eq] at hsz
 obtain ⟨cs, hcs⟩ : ∃ cs : Array Value, cs = (f.row d a k0 k1 k2 k3 k4 i s).toArray := ⟨_, rfl⟩
 rw [← hcs] at hw1 ⊢
 clear HS0 h hw hg hb0 hv hbase ht hcs
 obtain ⟨n0, n1, n2, n3, n4, n5, n6, n7, n8, n9, n10, n11, n12, n13, n14, n15, n16, n17, n18, n19, n20, n21, n22, _⟩ := sw_all (cs := [1, 15, 19, 21, 2, 13, 5, 120, 121, 6, 9, 103, 104, 3, 4, 8, 12, 101, 106, 18, (-10), 14, 22]) htt rfl
 have S : ((t == 7) = true) := by
  simp only [zH, zI, or_false] at htt
  rcases htt with rfl <;> decide
 clear htt
 go_enter Tryz.func23, Tryz.ntmps23
 go_wp2_with (first
  | (go_at_call 42
     refine (wText_any base g v _ f.p _ HP0.out.1 (HS.out.le HP0.out) (by simp only [zG, bBuf_len, bInt_len, bLong_len, bBool, zJ, zK, ← bsize_eq]; omega)).mono ?_
     rintro e w2 ⟨rfl, v1, hp⟩
     have HP1 := Hi (HP0.out.cat zT hp)
     clear hp
     have d3 := HS.out.cell HP1.out 3 (u := .slice a.A a.n a.c) rfl
     clear HP0 d1)
  | (go_at_call 44
     refine (aclPut_any base g v1 _ a.A a.n a.c w0.heap.size f.L _ HP1.out.1 (HF.out.a.reads.below (HS.out.below HP1.out)) HS.out.base0 HS.out.bg (HS.out.le HP1.out) (Nat.le_trans (HF.out.a.bd (by decide)) (by decide)) (by simp only [zG, bBuf_len, bInt_len, bLong_len, bBool, zJ, zK, ← bsize_eq]; omega)).mono ?_
     rintro e w3 ⟨rfl, v2, hp⟩
     have HP2 := Hi (HP1.out.cat zT hp)
     clear hp
     have d5 := HS.out.cell HP2.out 5 (u := .int .i32 f.ve) rfl
     clear HP1 d3)
  | (go_at_call 40
     refine (wInt_any base g v2 _ _ _ HP2.out.1 (HS.out.le HP2.out) (by simp only [zG, bBuf_len, bInt_len, bLong_len, bBool, zJ, zK, ← bsize_eq]; omega)).mono ?_
     rintro e w4 ⟨rfl, v3, hp⟩
     have HP3 := Hi (HP2.out.cat zT hp)
     clear hp
     clear HP2 d5))
 go_end0
 have HPE := HP3.out
 rw [← hla] at HPE
 exact ⟨rfl, v3, HPE.from HS.out.b1⟩
theorem put_g5 {w0 w : World} {lo : Option Nat} (t : Int) (htt : t ∈ ([120] : List Int)) (f : OpF) (d a k0 k1 k2 k3 k4 i s : Sl) (base g : Nat) (v : Value) (l : List UInt8) (ht : f.t = t) (h : FAt w0 lo f d a k0 k1 k2 k3 k4 i) (hw : w0.heap.size ≤ base) (hg : base ≤ g) (hb0 : Below w0.heap.size w0 w) (hv : Wr w base g v l) (hbase : base ≤ w.heap.size) (hsz : l.length + (fldB f).length + 64 ≤ 140737488355328) :
 Calls Tryz.prog 23 #[.pointer (some ⟨g, 0, none⟩), .agg (f.row d a k0 k1 k2 k3 k4 i s).toArray] w fun e w' => e = .returned (.tuple #[]) ∧ ∃ v', Wrote base g v v' l (fldB f) w w' := by
 have hfb : fldB f = bBuf f.p.data.toList ++ bLong f.ct ++ bLong f.by_ := by
  unfold fldB
  rw [ht]
  clear ht
  simp only [zH, zI, or_false] at htt
  rcases htt with rfl <;> rfl
 rw [hfb] at hsz ⊢
 clear hfb
 have HS0 := PutSt.mk' (f.row d a k0 k1 k2 k3 k4 i s).toArray hw hg hb0 hv hbase
 obtain ⟨w1, hw1⟩ := xa w (f.row d a k0 k1 k2 k3 k4 i s).toArray 29
 rw [hw1] at HS0
 have HS := Hi HS0
 have HF := Hi h
 have HP0 : Hid (Wrote base g v v l [] w1 w1) := Wrote.start HS0.wr
 have d0 := HS0.cell HP0.out 0 (u := .int .i32 t) (by rw [← ht]; rfl)
 have d1 := HS0.cell HP0.out 1 (u := .string f.p) rfl
 have hla := h.a.len
 have hli := h.i.len
 simp only [zG, bBuf_len, bInt_len, bLong_len, bBool, zJ, zK, ← bsize_eq] at hsz
 obtain ⟨cs, hcs⟩ : ∃ cs : Array Value, cs = (f.row d a k0 k1 k2 k3 k4 i s).toArray := ⟨_, rfl⟩
 rw [← hcs] at hw1 ⊢
 clear HS0 h hw hg hb0 hv hbase ht hcs
 obtain ⟨n0, n1, n2, n3, n4, n5, n6, n7, n8, n9, n10, n11, n12, n13, n14, n15, n16, n17, n18, n19, n20, n21, n22, _⟩ := sw_all (cs := [1, 15, 19, 21, 2, 13, 5, 7, 121, 6, 9, 103, 104, 3, 4, 8, 12, 101, 106, 18, (-10), 14, 22]) htt rfl
 have S : ((t == 120) = true) := by
  simp only [zH, zI, or_false] at htt
  rcases htt with rfl <;> decide
 clear htt
 go_enter Tryz.func23, Tryz.ntmps23
 go_wp2_with (first
  | (go_at_call 42
     refine (wText_any base g v _ f.p _ HP0.out.1 (HS.out.le HP0.out) (by simp only [zG, bBuf_len, bInt_len, bLong_len, bBool, zJ, zK, ← bsize_eq]; omega)).mono ?_
     rintro e w2 ⟨rfl, v1, hp⟩
     have HP1 := Hi (HP0.out.cat zT hp)
     clear hp
     have d7 := HS.out.cell HP1.out 7 (u := .int .i64 f.ct) rfl
     clear HP0 d1)
  | (go_at_call 45
     refine (wLong_any base g v1 _ _ _ HP1.out.1 (HS.out.le HP1.out) (by simp only [zG, bBuf_len, bInt_len, bLong_len, bBool, zJ, zK, ← bsize_eq]; omega)).mono ?_
     rintro e w3 ⟨rfl, v2, hp⟩
     have HP2 := Hi (HP1.out.cat zT hp)
     clear hp
     have d8 := HS.out.cell HP2.out 8 (u := .int .i64 f.by_) rfl
     clear HP1 d7)
  | (go_at_call 45
     refine (wLong_any base g v2 _ _ _ HP2.out.1 (HS.out.le HP2.out) (by simp only [zG, bBuf_len, bInt_len, bLong_len, bBool, zJ, zK, ← bsize_eq]; omega)).mono ?_
     rintro e w4 ⟨rfl, v3, hp⟩
     have HP3 := Hi (HP2.out.cat zT hp)
     clear hp
     clear HP2 d8))
 go_end0
 have HPE := HP3.out
 exact ⟨rfl, v3, HPE.from HS.out.b1⟩
theorem put_g6 {w0 w : World} {lo : Option Nat} (t : Int) (htt : t ∈ ([121, 6, 9, 103, 104] : List Int)) (f : OpF) (d a k0 k1 k2 k3 k4 i s : Sl) (base g : Nat) (v : Value) (l : List UInt8) (ht : f.t = t) (h : FAt w0 lo f d a k0 k1 k2 k3 k4 i) (hw : w0.heap.size ≤ base) (hg : base ≤ g) (hb0 : Below w0.heap.size w0 w) (hv : Wr w base g v l) (hbase : base ≤ w.heap.size) (hsz : l.length + (fldB f).length + 64 ≤ 140737488355328) :
 Calls Tryz.prog 23 #[.pointer (some ⟨g, 0, none⟩), .agg (f.row d a k0 k1 k2 k3 k4 i s).toArray] w fun e w' => e = .returned (.tuple #[]) ∧ ∃ v', Wrote base g v v' l (fldB f) w w' := by
 have hfb : fldB f = bBuf f.p.data.toList := by
  unfold fldB
  rw [ht]
  clear ht
  simp only [zH, zI, or_false] at htt
  rcases htt with rfl | rfl | rfl | rfl | rfl <;> rfl
 rw [hfb] at hsz ⊢
 clear hfb
 have HS0 := PutSt.mk' (f.row d a k0 k1 k2 k3 k4 i s).toArray hw hg hb0 hv hbase
 obtain ⟨w1, hw1⟩ := xa w (f.row d a k0 k1 k2 k3 k4 i s).toArray 29
 rw [hw1] at HS0
 have HS := Hi HS0
 have HF := Hi h
 have HP0 : Hid (Wrote base g v v l [] w1 w1) := Wrote.start HS0.wr
 have d0 := HS0.cell HP0.out 0 (u := .int .i32 t) (by rw [← ht]; rfl)
 have d1 := HS0.cell HP0.out 1 (u := .string f.p) rfl
 have hla := h.a.len
 have hli := h.i.len
 simp only [zG, bBuf_len, bInt_len, bLong_len, bBool, zJ, zK, ← bsize_eq] at hsz
 obtain ⟨cs, hcs⟩ : ∃ cs : Array Value, cs = (f.row d a k0 k1 k2 k3 k4 i s).toArray := ⟨_, rfl⟩
 rw [← hcs] at hw1 ⊢
 clear HS0 h hw hg hb0 hv hbase ht hcs
 obtain ⟨n0, n1, n2, n3, n4, n5, n6, n7, n8, n9, n10, n11, n12, n13, n14, n15, n16, n17, n18, _⟩ := sw_all (cs := [1, 15, 19, 21, 2, 13, 5, 7, 120, 3, 4, 8, 12, 101, 106, 18, (-10), 14, 22]) htt rfl
 have S : ((t == 121) = true) ∨ ((t == 121) = false ∧ (t == 6) = true) ∨ ((t == 121) = false ∧ (t == 6) = false ∧ (t == 9) = true) ∨ ((t == 121) = false ∧ (t == 6) = false ∧ (t == 9) = false ∧ (t == 103) = true) ∨ ((t == 121) = false ∧ (t == 6) = false ∧ (t == 9) = false ∧ (t == 103) = false ∧ (t == 104) = true) := by
  simp only [zH, zI, or_false] at htt
  rcases htt with rfl | rfl | rfl | rfl | rfl <;> decide
 clear htt
 rcases S with s0 | ⟨s0, s1⟩ | ⟨s0, s1, s2⟩ | ⟨s0, s1, s2, s3⟩ | ⟨s0, s1, s2, s3, s4⟩
 all_goals
  go_enter Tryz.func23, Tryz.ntmps23
  go_wp2_with (first
   | (go_at_call 42
      refine (wText_any base g v _ f.p _ HP0.out.1 (HS.out.le HP0.out) (by simp only [zG, bBuf_len, bInt_len, bLong_len, bBool, zJ, zK, ← bsize_eq]; omega)).mono ?_
      rintro e w2 ⟨rfl, v1, hp⟩
      have HP1 := Hi (HP0.out.cat zT hp)
      clear hp
      clear HP0 d1))
  go_end0
  have HPE := HP1.out
  exact ⟨rfl, v1, HPE.from HS.out.b1⟩
theorem put_g7 {w0 w : World} {lo : Option Nat} (t : Int) (htt : t ∈ ([3, 4, 8, 12] : List Int)) (f : OpF) (d a k0 k1 k2 k3 k4 i s : Sl) (base g : Nat) (v : Value) (l : List UInt8) (ht : f.t = t) (h : FAt w0 lo f d a k0 k1 k2 k3 k4 i) (hw : w0.heap.size ≤ base) (hg : base ≤ g) (hb0 : Below w0.heap.size w0 w) (hv : Wr w base g v l) (hbase : base ≤ w.heap.size) (hsz : l.length + (fldB f).length + 64 ≤ 140737488355328) :
 Calls Tryz.prog 23 #[.pointer (some ⟨g, 0, none⟩), .agg (f.row d a k0 k1 k2 k3 k4 i s).toArray] w fun e w' => e = .returned (.tuple #[]) ∧ ∃ v', Wrote base g v v' l (fldB f) w w' := by
 have hfb : fldB f = bBuf f.p.data.toList ++ bBool f.wa := by
  unfold fldB
  rw [ht]
  clear ht
  simp only [zH, zI, or_false] at htt
  rcases htt with rfl | rfl | rfl | rfl <;> rfl
 rw [hfb] at hsz ⊢
 clear hfb
 have HS0 := PutSt.mk' (f.row d a k0 k1 k2 k3 k4 i s).toArray hw hg hb0 hv hbase
 obtain ⟨w1, hw1⟩ := xa w (f.row d a k0 k1 k2 k3 k4 i s).toArray 29
 rw [hw1] at HS0
 have HS := Hi HS0
 have HF := Hi h
 have HP0 : Hid (Wrote base g v v l [] w1 w1) := Wrote.start HS0.wr
 have d0 := HS0.cell HP0.out 0 (u := .int .i32 t) (by rw [← ht]; rfl)
 have d1 := HS0.cell HP0.out 1 (u := .string f.p) rfl
 have hla := h.a.len
 have hli := h.i.len
 simp only [zG, bBuf_len, bInt_len, bLong_len, bBool, zJ, zK, ← bsize_eq] at hsz
 obtain ⟨cs, hcs⟩ : ∃ cs : Array Value, cs = (f.row d a k0 k1 k2 k3 k4 i s).toArray := ⟨_, rfl⟩
 rw [← hcs] at hw1 ⊢
 clear HS0 h hw hg hb0 hv hbase ht hcs
 obtain ⟨n0, n1, n2, n3, n4, n5, n6, n7, n8, n9, n10, n11, n12, n13, n14, n15, n16, n17, n18, n19, _⟩ := sw_all (cs := [1, 15, 19, 21, 2, 13, 5, 7, 120, 121, 6, 9, 103, 104, 101, 106, 18, (-10), 14, 22]) htt rfl
 have S : ((t == 3) = true) ∨ ((t == 3) = false ∧ (t == 4) = true) ∨ ((t == 3) = false ∧ (t == 4) = false ∧ (t == 8) = true) ∨ ((t == 3) = false ∧ (t == 4) = false ∧ (t == 8) = false ∧ (t == 12) = true) := by
  simp only [zH, zI, or_false] at htt
  rcases htt with rfl | rfl | rfl | rfl <;> decide
 clear htt
 rcases S with s0 | ⟨s0, s1⟩ | ⟨s0, s1, s2⟩ | ⟨s0, s1, s2, s3⟩
 all_goals
  go_enter Tryz.func23, Tryz.ntmps23
  go_wp2_with (first
   | (go_at_call 42
      refine (wText_any base g v _ f.p _ HP0.out.1 (HS.out.le HP0.out) (by simp only [zG, bBuf_len, bInt_len, bLong_len, bBool, zJ, zK, ← bsize_eq]; omega)).mono ?_
      rintro e w2 ⟨rfl, v1, hp⟩
      have HP1 := Hi (HP0.out.cat zT hp)
      clear hp
      have d6 := HS.out.cell HP1.out 6 (u := .bool f.wa) rfl
      clear HP0 d1)
   | (go_at_call 46
      refine (wBool_any base g v1 _ _ _ HP1.out.1 (HS.out.le HP1.out) (by simp only [zG, bBuf_len, bInt_len, bLong_len, bBool, zJ, zK, ← bsize_eq]; omega)).mono ?_
      rintro e w3 ⟨rfl, v2, hp⟩
      have HP2 := Hi (HP1.out.cat zT hp)
      clear hp
      clear HP1 d6))
  go_end0
  have HPE := HP2.out
  exact ⟨rfl, v2, HPE.from HS.out.b1⟩
theorem put_g8 {w0 w : World} {lo : Option Nat} (t : Int) (htt : t ∈ ([106, 18] : List Int)) (f : OpF) (d a k0 k1 k2 k3 k4 i s : Sl) (base g : Nat) (v : Value) (l : List UInt8) (ht : f.t = t) (h : FAt w0 lo f d a k0 k1 k2 k3 k4 i) (hw : w0.heap.size ≤ base) (hg : base ≤ g) (hb0 : Below w0.heap.size w0 w) (hv : Wr w base g v l) (hbase : base ≤ w.heap.size) (hsz : l.length + (fldB f).length + 64 ≤ 140737488355328) :
 Calls Tryz.prog 23 #[.pointer (some ⟨g, 0, none⟩), .agg (f.row d a k0 k1 k2 k3 k4 i s).toArray] w fun e w' => e = .returned (.tuple #[]) ∧ ∃ v', Wrote base g v v' l (fldB f) w w' := by
 have hfb : fldB f = bBuf f.p.data.toList ++ bInt f.fl := by
  unfold fldB
  rw [ht]
  clear ht
  simp only [zH, zI, or_false] at htt
  rcases htt with rfl | rfl <;> rfl
 rw [hfb] at hsz ⊢
 clear hfb
 have HS0 := PutSt.mk' (f.row d a k0 k1 k2 k3 k4 i s).toArray hw hg hb0 hv hbase
 obtain ⟨w1, hw1⟩ := xa w (f.row d a k0 k1 k2 k3 k4 i s).toArray 29
 rw [hw1] at HS0
 have HS := Hi HS0
 have HF := Hi h
 have HP0 : Hid (Wrote base g v v l [] w1 w1) := Wrote.start HS0.wr
 have d0 := HS0.cell HP0.out 0 (u := .int .i32 t) (by rw [← ht]; rfl)
 have d1 := HS0.cell HP0.out 1 (u := .string f.p) rfl
 have hla := h.a.len
 have hli := h.i.len
 simp only [zG, bBuf_len, bInt_len, bLong_len, bBool, zJ, zK, ← bsize_eq] at hsz
 obtain ⟨cs, hcs⟩ : ∃ cs : Array Value, cs = (f.row d a k0 k1 k2 k3 k4 i s).toArray := ⟨_, rfl⟩
 rw [← hcs] at hw1 ⊢
 clear HS0 h hw hg hb0 hv hbase ht hcs
 obtain ⟨n0, n1, n2, n3, n4, n5, n6, n7, n8, n9, n10, n11, n12, n13, n14, n15, n16, n17, n18, n19, n20, n21, _⟩ := sw_all (cs := [1, 15, 19, 21, 2, 13, 5, 7, 120, 121, 6, 9, 103, 104, 3, 4, 8, 12, 101, (-10), 14, 22]) htt rfl
 have S : ((t == 106) = true) ∨ ((t == 106) = false ∧ (t == 18) = true) := by
  simp only [zH, zI, or_false] at htt
  rcases htt with rfl | rfl <;> decide
 clear htt
 rcases S with s0 | ⟨s0, s1⟩
 all_goals
  go_enter Tryz.func23, Tryz.ntmps23
  go_wp2_with (first
   | (go_at_call 42
      refine (wText_any base g v _ f.p _ HP0.out.1 (HS.out.le HP0.out) (by simp only [zG, bBuf_len, bInt_len, bLong_len, bBool, zJ, zK, ← bsize_eq]; omega)).mono ?_
      rintro e w2 ⟨rfl, v1, hp⟩
      have HP1 := Hi (HP0.out.cat zT hp)
      clear hp
      have d4 := HS.out.cell HP1.out 4 (u := .int .i32 f.fl) rfl
      clear HP0 d1)
   | (go_at_call 40
      refine (wInt_any base g v1 _ _ _ HP1.out.1 (HS.out.le HP1.out) (by simp only [zG, bBuf_len, bInt_len, bLong_len, bBool, zJ, zK, ← bsize_eq]; omega)).mono ?_
      rintro e w3 ⟨rfl, v2, hp⟩
      have HP2 := Hi (HP1.out.cat zT hp)
      clear hp
      clear HP1 d4))
  go_end0
  have HPE := HP2.out
  exact ⟨rfl, v2, HPE.from HS.out.b1⟩
theorem put_g9 {w0 w : World} {lo : Option Nat} (t : Int) (htt : t ∈ ([(-10)] : List Int)) (f : OpF) (d a k0 k1 k2 k3 k4 i s : Sl) (base g : Nat) (v : Value) (l : List UInt8) (ht : f.t = t) (h : FAt w0 lo f d a k0 k1 k2 k3 k4 i) (hw : w0.heap.size ≤ base) (hg : base ≤ g) (hb0 : Below w0.heap.size w0 w) (hv : Wr w base g v l) (hbase : base ≤ w.heap.size) (hsz : l.length + (fldB f).length + 64 ≤ 140737488355328) :
 Calls Tryz.prog 23 #[.pointer (some ⟨g, 0, none⟩), .agg (f.row d a k0 k1 k2 k3 k4 i s).toArray] w fun e w' => e = .returned (.tuple #[]) ∧ ∃ v', Wrote base g v v' l (fldB f) w w' := by
 have hfb : fldB f = bInt f.to ++ (bInt f.I.length ++ pIdsB f.I) := by
  unfold fldB
  rw [ht]
  clear ht
  simp only [zH, zI, or_false] at htt
  rcases htt with rfl <;> rfl
 rw [hfb] at hsz ⊢
 clear hfb
 have HS0 := PutSt.mk' (f.row d a k0 k1 k2 k3 k4 i s).toArray hw hg hb0 hv hbase
 obtain ⟨w1, hw1⟩ := xa w (f.row d a k0 k1 k2 k3 k4 i s).toArray 29
 rw [hw1] at HS0
 have HS := Hi HS0
 have HF := Hi h
 have HP0 : Hid (Wrote base g v v l [] w1 w1) := Wrote.start HS0.wr
 have d0 := HS0.cell HP0.out 0 (u := .int .i32 t) (by rw [← ht]; rfl)
 have d16 := HS0.cell HP0.out 16 (u := .int .i32 f.to) rfl
 have hla := h.a.len
 have hli := h.i.len
 simp only [zG, bBuf_len, bInt_len, bLong_len, bBool, zJ, zK, ← bsize_eq] at hsz
 obtain ⟨cs, hcs⟩ : ∃ cs : Array Value, cs = (f.row d a k0 k1 k2 k3 k4 i s).toArray := ⟨_, rfl⟩
 rw [← hcs] at hw1 ⊢
 clear HS0 h hw hg hb0 hv hbase ht hcs
 obtain ⟨n0, n1, n2, n3, n4, n5, n6, n7, n8, n9, n10, n11, n12, n13, n14, n15, n16, n17, n18, n19, n20, n21, n22, _⟩ := sw_all (cs := [1, 15, 19, 21, 2, 13, 5, 7, 120, 121, 6, 9, 103, 104, 3, 4, 8, 12, 101, 106, 18, 14, 22]) htt rfl
 have S : ((t == (-10)) = true) := by
  simp only [zH, zI, or_false] at htt
  rcases htt with rfl <;> decide
 clear htt
 go_enter Tryz.func23, Tryz.ntmps23
 go_wp2_with (first
  | (go_at_call 40
     refine (wInt_any base g v _ _ _ HP0.out.1 (HS.out.le HP0.out) (by simp only [zG, bBuf_len, bInt_len, bLong_len, bBool, zJ, zK, ← bsize_eq]; omega)).mono ?_
     rintro e w2 ⟨rfl, v1, hp⟩
     have HP1 := Hi (HP0.out.cat zT hp)
     clear hp
     have d17 := HS.out.cell HP1.out 17 (u := .slice i.A i.n i.c) rfl
     clear HP0 d16)
  | (go_at_call 48
     refine (aclPutIds_any base g v1 _ i.A i.n i.c w0.heap.size f.I _ HP1.out.1 (HF.out.i.reads.below (HS.out.below HP1.out)) HS.out.base0 HS.out.bg (HS.out.le HP1.out) (Nat.le_trans (HF.out.i.bd (by decide)) (by decide)) (by simp only [zG, bBuf_len, bInt_len, bLong_len, bBool, zJ, zK, ← bsize_eq]; omega)).mono ?_
     rintro e w3 ⟨rfl, v2, hp⟩
     have HP2 := Hi (HP1.out.cat zT hp)
     clear hp
     clear HP1 d17))
 go_end0
 have HPE := HP2.out
 rw [← hli] at HPE
 exact ⟨rfl, v2, HPE.from HS.out.b1⟩
end Go.Proofs.YtpjjnmdfgcfnmaaGreatDoor
