/- ops.get: the types that hold no lists of texts, no operations, part 1. (printed by gen_p24.py) -/
import Derived.Test.YtpjjnmdfgcfnmaaGreatDoorOqj
set_option linter.unusedVariables false
set_option linter.unusedSimpArgs false
namespace Go.Proofs.YtpjjnmdfgcfnmaaGreatDoor
open Go.RowKit

set_option maxRecDepth 100000 in
set_option maxHeartbeats 40000000 in
theorem get_g0 (t : Int) (htt : t ∈ ([1, 15, 19] : List Int)) (B : Nat → Prop) (R c p : Nat) (A : Option Addr) (l : List UInt8) (w : World) (cv : Value) (h : Rdr w B R A c l p) :
    Calls Tryz.prog 84 #[.pointer (some ⟨R, 0, none⟩), .int .i32 t, cv] w fun e w' => Rend B R c A l (vOpF w.heap.size) (gFld t l p) w e w' := by
  have hg : gFld t l p = ((gText 4096).bind fun x1 => (gBuf 1048575).bind fun x2 => (gGet 16 12 gAcl).bind fun x3 => (gInt).bind fun x4 => Rg.ret ({ { { { zF t with p := bs x1 } with l := x2 } with L := x3 } with fl := x4 } : OpF)) l p := by
    unfold gFld
    simp only [List.mem_cons, List.not_mem_nil, or_false] at htt
    rcases htt with rfl | rfl | rfl <;> rfl
  have HG0 := Lib.hid hg
  obtain ⟨wa, hwa⟩ : ∃ wa, w.alloc (.cells #[.int .i32 0, .string ⟨#[]⟩, .slice none 0 0, .slice none 0 0, .int .i32 0, .int .i32 0, .bool false, .int .i64 0, .int .i64 0, .int .i64 0, .int .i64 0, .slice none 0 0, .slice none 0 0, .slice none 0 0, .slice none 0 0, .slice none 0 0, .int .i32 0, .slice none 0 0, .slice none 0 0] 29) = wa := ⟨_, rfl⟩
  have hza : wa.heap.size = w.heap.size + 1 := by rw [← hwa]; simp
  obtain ⟨w1, hw1⟩ : ∃ w1, wa.alloc (.cells ((zF t).row nilS nilS nilS nilS nilS nilS nilS nilS nilS).toArray 29) = w1 := ⟨_, rfl⟩
  have hwf : (Lit.int .i32 t).wf = true := by
    simp only [List.mem_cons, List.not_mem_nil, or_false] at htt
    rcases htt with rfl | rfl | rfl <;> rfl
  have H0 := Lib.hid (GSt.start h (t := t) hwf hwa hw1)
  obtain ⟨kn, hkn⟩ : ∃ k, k = kindN t := ⟨_, rfl⟩
  have hk0 : (kn == 0) = false := by
    rw [hkn]
    simp only [List.mem_cons, List.not_mem_nil, or_false] at htt
    rcases htt with rfl | rfl | rfl <;> decide
  have hk5 : (kn == 5) = false := by
    rw [hkn]
    simp only [List.mem_cons, List.not_mem_nil, or_false] at htt
    rcases htt with rfl | rfl | rfl <;> decide
  have HK : Hid (∀ W, Calls Tryz.prog 11 #[.int .i32 t] W fun e w' => e = .returned (.int .i64 kn) ∧ w' = W) := fun W => by rw [hkn]; exact kind_any t W
  clear hkn hwf
  obtain ⟨n0, n1, n2, n3, n4, n5, n6, n7, n8, n9, n10, n11, n12, n13, n14, n15, n16, n17, n18, _⟩ := sw_all (cs := [(-10), 14, 22, 101, (-11), 11, 107, 21, 2, 13, 5, 7, 120, 3, 4, 8, 12, 106, 18]) htt rfl
  have S : ((t == 1) = true) ∨ ((t == 1) = false ∧ (t == 15) = true) ∨ ((t == 1) = false ∧ (t == 15) = false ∧ (t == 19) = true) := by
    simp only [List.mem_cons, List.not_mem_nil, or_false] at htt
    rcases htt with rfl | rfl | rfl <;> decide
  clear htt
  rcases S with s0 | ⟨s0, s1⟩ | ⟨s0, s1, s2⟩
  all_goals
    clear h hg
    go_enter Tryz.func84, Tryz.ntmps84
    go_wp2_with (first
      | ((with_reducible show wpList _ _ _ (Oper.mk (some 7) _ _ _ _ _ :: _) _ _)
         refine wpList_newrow rfl rfl 29 rfl 7 rfl (.tmp 11) rfl rfl ((zF t).row nilS nilS nilS nilS nilS nilS nilS nilS nilS).toArray (fun _ => rfl) (show 7 < 160 by decide) zer_op isz_29 (row_one _ _ _ _ _ _ _ _ _ _) ?_
         rw [hw1])
      | (go_at_call 11
         refine (HK.out _).mono ?_
         rintro e w2 ⟨rfl, he⟩
         obtain rfl := he.symm
         refine Hid.out ?_))
    have ht := rText_any B R c p A l 4096 _ H0.out.rdr
    rcases h1 : (gText 4096) l p with ⟨x1, q1⟩ | ⟨er, q1⟩
    rotate_left
    · rw [h1] at ht
      have HT := Lib.hid ht
      have HGE := Lib.hid (HG0.out.trans (gb_no h1))
      clear ht h1
      refine Lib.hid ?_
      go_wp2_with (go_at_call 125; refine HT.out.mono ?_; rintro e w2 ⟨rfl, hkp, hR⟩; have HN := Lib.hid (H0.out.read hkp hR); clear hkp hR)
      exact ⟨rfl, Rend.no HGE.out HN.out.kp HN.out.rdr⟩
    rw [h1] at ht
    have HT := Lib.hid ht
    have hg := HG0.out.trans (gb_ev h1)
    have HG1 := Lib.hid hg
    have HX : Hid ((bs x1).size ≤ reachBytes) := by have := gText_most h1; unfold Hid reachBytes; rw [bs_size]; omega
    clear ht h1 hg HG0
    refine Lib.hid ?_
    go_wp2_with (go_at_call 125; refine HT.out.mono ?_; rintro e w2 ⟨⟨v, rfl, rfl⟩, hkp, hR⟩; have HN := Lib.hid (H0.out.read hkp hR); clear hkp hR; refine Hid.out ?_)
    have kc : w2.cell? ⟨w.heap.size + 1, 1, none⟩ = some (.string ⟨#[]⟩) := blk_cell HN.out.blk 1 rfl
    have kf := HN.out.blk.frozen 1
    have H1 := Lib.hid (HN.out.set_p (x := ⟨x1.toArray⟩) HX.out)
    clear HT H0 HN HX
    have ht := rBuffer_any B R c q1 A l 1048575 _ H1.out.rdr
    rcases h1 : (gBuf 1048575) l q1 with ⟨x2, q2⟩ | ⟨er, q2⟩
    rotate_left
    · rw [h1] at ht
      have HT := Lib.hid ht
      have HGE := Lib.hid (HG1.out.trans (gb_no h1))
      clear ht h1
      refine Lib.hid ?_
      go_wp2_with (go_at_call 126; refine HT.out.mono ?_; rintro e w2 ⟨rfl, hkp, hR⟩; have HN := Lib.hid (H1.out.read hkp hR); clear hkp hR)
      exact ⟨rfl, Rend.no HGE.out HN.out.kp HN.out.rdr⟩
    rw [h1] at ht
    have HT := Lib.hid ht
    have hg := HG1.out.trans (gb_ev h1)
    have HG2 := Lib.hid hg
    have HX : Hid (x2.length * 1 ≤ reachBytes) := by have := gBuf_most h1; unfold Hid reachBytes; omega
    clear ht h1 hg HG1
    refine Lib.hid ?_
    go_wp2_with (go_at_call 126; refine HT.out.mono ?_; rintro e w3 ⟨⟨v, rfl, dA, dc, hve, ho⟩, hkp, hR⟩; subst hve; have HO := Lib.hid (own_base ho H1.out.size); clear ho; have HN := Lib.hid (H1.out.read hkp hR); clear hkp hR; refine Hid.out ?_)
    have kc : w3.cell? ⟨w.heap.size + 1, 2, none⟩ = some (.slice none 0 0) := blk_cell HN.out.blk 2 rfl
    have kf := HN.out.blk.frozen 2
    have H2 := Lib.hid (HN.out.set_d HO.out HX.out)
    clear HT H1 HN HX HO
    have ht := aclGet_any B R c q2 A l _ H2.out.rdr
    rcases h1 : (gGet 16 12 gAcl) l q2 with ⟨x3, q3⟩ | ⟨er, q3⟩
    rotate_left
    · rw [h1] at ht
      have HT := Lib.hid ht
      have HGE := Lib.hid (HG2.out.trans (gb_no h1))
      clear ht h1
      refine Lib.hid ?_
      go_wp2_with (go_at_call 127; refine HT.out.mono ?_; rintro e w2 ⟨rfl, hkp, hR⟩; have HN := Lib.hid (H2.out.read hkp hR); clear hkp hR)
      exact ⟨rfl, Rend.no HGE.out HN.out.kp HN.out.rdr⟩
    rw [h1] at ht
    have HT := Lib.hid ht
    have hg := HG2.out.trans (gb_ev h1)
    have HG3 := Lib.hid hg
    have HX : Hid (x3.length * 40 ≤ reachBytes) := by have := (gGet_all (Q := fun _ => True) (fun _ _ _ _ _ => trivial) h1).1; unfold Hid reachBytes; omega
    have HY : Hid (∀ y ∈ x3, (Lit.int .i32 y.1).wf = true ∧ y.2.1.size ≤ reachBytes ∧ y.2.2.size ≤ reachBytes) := fun y hy => by
      obtain ⟨y1, y2, y3⟩ := (gGet_all (Q := fun y : AclT => (Lit.int .i32 y.1).wf = true ∧ y.2.1.size ≤ 256 ∧ y.2.2.size ≤ 256) (fun _ _ _ _ h => gAcl_ok h) h1).2 y hy
      exact ⟨y1, Nat.le_trans y2 (by decide), Nat.le_trans y3 (by decide)⟩
    clear ht h1 hg HG2
    refine Lib.hid ?_
    go_wp2_with (go_at_call 127; refine HT.out.mono ?_; rintro e w4 ⟨⟨v, rfl, aA, ac, hve, ho⟩, hkp, hR⟩; subst hve; have HO := Lib.hid (own_base ho H2.out.size); clear ho; have HN := Lib.hid (H2.out.read hkp hR); clear hkp hR; refine Hid.out ?_)
    have kc : w4.cell? ⟨w.heap.size + 1, 3, none⟩ = some (.slice none 0 0) := blk_cell HN.out.blk 3 rfl
    have kf := HN.out.blk.frozen 3
    have H3 := Lib.hid (HN.out.set_a HO.out HX.out HY.out)
    clear HT H2 HN HX HO HY
    have ht := rInt_any B R c q3 A l _ H3.out.rdr
    rcases h1 : (gInt) l q3 with ⟨x4, q4⟩ | ⟨er, q4⟩
    rotate_left
    · rw [h1] at ht
      have HT := Lib.hid ht
      have HGE := Lib.hid (HG3.out.trans (gb_no h1))
      clear ht h1
      refine Lib.hid ?_
      go_wp2_with (go_at_call 60; refine HT.out.mono ?_; rintro e w2 ⟨rfl, hkp, hR⟩; have HN := Lib.hid (H3.out.read hkp hR); clear hkp hR)
      exact ⟨rfl, Rend.no HGE.out HN.out.kp HN.out.rdr⟩
    rw [h1] at ht
    have HT := Lib.hid ht
    have hg := HG3.out.trans (gb_ev h1)
    have HG4 := Lib.hid hg
    have HX := Lib.hid (gInt_wf h1)
    clear ht h1 hg HG3
    refine Lib.hid ?_
    go_wp2_with (go_at_call 60; refine HT.out.mono ?_; rintro e w5 ⟨⟨v, rfl, rfl⟩, hkp, hR⟩; have HN := Lib.hid (H3.out.read hkp hR); clear hkp hR; refine Hid.out ?_)
    have kc : w5.cell? ⟨w.heap.size + 1, 4, none⟩ = some (.int .i32 0) := blk_cell HN.out.blk 4 rfl
    have kf := HN.out.blk.frozen 4
    have H4 := Lib.hid (HN.out.set_fl HX.out)
    clear HT H3 HN HX
    refine Lib.hid ?_
    go_wp2_with (first
      | ((with_reducible show wpList _ _ _ (Oper.mk (some 159) _ _ _ _ _ :: _) _ _)
         refine wpList_load_row rfl 29 (.tmp 7) rfl (w.heap.size + 1) rfl 29 _ _ _ H4.out.blk Tryz.underlying29 rfl isz_29 ?_)
      | ((with_reducible show wpList _ _ _ (Oper.mk none (.store _ (.tmp 6) _) _ _ _ _ :: _) _ _)
         refine wpList_store_row rfl 29 (.tmp 6) (.tmp 159) rfl w.heap.size (({ { { { zF t with p := bs x1 } with l := x2 } with L := x3 } with fl := x4 } : OpF).row ⟨dA, x2.length, dc⟩ ⟨aA, x3.length, ac⟩ nilS nilS nilS nilS nilS nilS nilS).toArray rfl rfl 29 _ H4.out.res isz_29 rfl (row_one _ _ _ _ _ _ _ _ _ _) ?_
         have hfin := H4.out.fin (({ { { { zF t with p := bs x1 } with l := x2 } with L := x3 } with fl := x4 } : OpF).row ⟨dA, x2.length, dc⟩ ⟨aA, x3.length, ac⟩ nilS nilS nilS nilS nilS nilS nilS).toArray
         have hbz := cells_setRow (cs := (({ { { { zF t with p := bs x1 } with l := x2 } with L := x3 } with fl := x4 } : OpF).row ⟨dA, x2.length, dc⟩ ⟨aA, x3.length, ac⟩ nilS nilS nilS nilS nilS nilS nilS).toArray) H4.out.res
         generalize hww : World.setRow _ _ _ = wz at hfin hbz ⊢
         have HFN := Lib.hid hfin
         have HBZ := Lib.hid hbz
         clear hww hfin hbz))
    refine bodyPost_ret (results_cell_row rfl _ _ w.heap.size 29 _ _ _ rfl HBZ.out Tryz.underlying29 rfl isz_29) rfl ?_
    exact Rend.yes HG4.out ⟨⟨dA, x2.length, dc⟩, ⟨aA, x3.length, ac⟩, nilS, nilS, nilS, nilS, nilS, nilS, rfl, HFN.out.2.2, H4.out.ok⟩ HFN.out.1 HFN.out.2.1
end Go.Proofs.YtpjjnmdfgcfnmaaGreatDoor
