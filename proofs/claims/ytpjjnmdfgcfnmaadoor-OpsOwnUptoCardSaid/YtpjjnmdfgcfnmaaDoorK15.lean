/- Part 15 of a proof: lemmas and walks. -/
import Derived.Test.YtpjjnmdfgcfnmaaDoorK11
import Derived.Test.YtpjjnmdfgcfnmaaDoorK14
import Derived.Test.YtpjjnmdfgcfnmaaDoorK13
import Derived.Test.YtpjjnmdfgcfnmaaDoorK12
import Derived.Test.YtpjjnmdfgcfnmaaDoorK7
import Derived.Test.YtpjjnmdfgcfnmaaDoorK0
import Derived.Test.YtpjjnmdfgcfnmaaDoorK6
set_option linter.unusedVariables false
set_option linter.unusedSimpArgs false
set_option maxRecDepth 100000
set_option maxHeartbeats 32000000
namespace Go.Proofs.YtpjjnmdfgcfnmaaDoor
open Go.RowKit

abbrev OqmR1 : Array Value := #[.int .i32 0, .string ⟨#[]⟩, .slice none 0 0, .slice none 0 0, .int .i32 0, .int .i32 0, .bool false, .int .i64 0, .int .i64 0, .int .i64 0, .int .i64 0, .slice none 0 0, .slice none 0 0, .slice none 0 0, .slice none 0 0, .slice none 0 0, .int .i32 0, .slice none 0 0, .slice none 0 0]

theorem get_14 (n : Nat) (HSub : SubsOk n) (B : Nat → Prop) (R c p C : Nat) (A : Option Addr) (l : List UInt8) (k : Cnt) (w : World) (h : Rdr w B R A c l p) (hC : Blk w C 97 k.row) (hCR : C ≠ R) (hCB : ¬ B C) (hk : k.Ok) (hd : k.depth < 8) (hp : l.length - p < n) :
 Calls Tryd.prog 58 #[.pointer (some ⟨R, 0, none⟩), .int .i32 14, .pointer (some ⟨C, 0, none⟩)] w fun e w' => RendX [R, C] B R c A l (vGet w.heap.size C k.depth) (opWith (gSubs n) 14 k l p) w e w' := by
 obtain ⟨wa, hwa⟩ := xa w (OqmR1) 29
 have hza : wa.heap.size = w.heap.size + 1 := by rw [← hwa]; simp
 obtain ⟨w1, hw1⟩ := xa wa ((zF 14).row nilS nilS nilS nilS nilS nilS nilS nilS nilS).toArray 29
 have h0 := GSt.start h (t := 14) rfl hwa hw1
 have hz1 : w1.heap.size = w.heap.size + 2 := by rw [← hw1]; simp [hza]
 have hba : Below w.heap.size w w1 := by
  have h1 := zV hwa
  have h2 := zV hw1
  exact h1.trans (h2.mono h1.size)
 have hCl := hC.lt
 have hRl := h.lt
 have hC1 : Blk w1 C 97 k.row := hC.below hba hC.lt
 have HK : Hid (∀ W, Calls Tryd.prog 12 #[.int .i32 14] W fun e w' => e = .returned (.int .i64 2) ∧ w' = W) := fun W => by
  have h := kind_any 14 W
  rwa [show kindN 14 = 2 from by decide] at h
 have hop : opWith (gSubs n) 14 k l p = ((gSubs n 14 ⟨k.parts, k.multis, k.depth + 1⟩).map fun r => ((.mk (zF 14) r.1, ⟨r.2.parts, r.2.multis, r.2.depth - 1⟩) : OpC × Cnt)) l p := by
  unfold opWith
  rw [if_neg (by decide), if_pos rfl]
 have c2 : w1.cell? ⟨C, 2, none⟩ = some (.int .i64 (k.depth : Int)) := yC hC1 2 rfl
 have f2 := hC1.frozen 2
 obtain ⟨w2, hw2⟩ : ∃ w2, w1.setCell ⟨C, 2, none⟩ (.int .i64 ((k.depth : Int) + 1)) = w2 := ⟨_, rfl⟩
 have hk2 : Kp [C] w1 w2 := by rw [← hw2]; exact Kp.setCell ⟨C, 2, none⟩ _
 have hC2 : Blk w2 C 97 (Cnt.row ⟨k.parts, k.multis, k.depth + 1⟩) := by
  rw [← hw2]
  have := hC1.set_ 2 (.int .i64 ((k.depth : Int) + 1))
  simpa [Cnt.row] using this
 have hR2 : Rdr w2 B R A c l p := h0.rdr.kp hk2 (by simpa using hCR.symm) (by simpa using hCB)
 have hz2 : w2.heap.size = w.heap.size + 2 := by rw [← hw2]; simpa using hz1
 have hs := HSub B R c p C A l 14 ⟨k.parts, k.multis, k.depth + 1⟩ w2 hR2 hC2 hCR hCB ⟨hk.parts, hk.multis, hd⟩ hp
 have HP2 : Hid (Blk w2 (w.heap.size + 1) 29 ((zF 14).row nilS nilS nilS nilS nilS nilS nilS nilS nilS).toArray) := h0.blk.kp hk2 (by simp; omega)
 have HZ2 : Hid (Blk w2 w.heap.size 29 (OqmR1)) := h0.res.kp hk2 (by simp; omega)
 have HK02 : Hid (Kp [R, C] w w2) := (Kp.of_below hba).trans (hk2.to (Kp.refl [] _) (fun x hx _ => by simp at hx; simp [hx]) (fun _ h => by cases h))
 have hdn : k.depth ≤ 8 := hk.depth
 have HOP := Hi hop
 have HKO := Hi hk
 clear h h0 hC hC1 hC2 hR2 hk2 hop hk HSub
 rcases h1 : gSubs n 14 ⟨k.parts, k.multis, k.depth + 1⟩ l p with ⟨⟨xs, k'⟩, q⟩ | ⟨er, q⟩
 rotate_left
 · rw [h1] at hs
   have HS := Hi hs
   have HGE : Hid (opWith (gSubs n) 14 k l p = .inr (er, q)) := by unfold Hid; rw [HOP.out]; unfold Rg.map; rw [h1]
   clear hs h1
   go_enter Tryd.func58, Tryd.ntmps58
   go_wp2_with (first
    | (with_reducible refine wpAq 7 ?_
       refine wpList_newrow rfl rfl 29 rfl 7 rfl (.tmp 11) rfl rfl ((zF 14).row nilS nilS nilS nilS nilS nilS nilS nilS nilS).toArray (fun _ => rfl) (show 7 < 160 by decide) zer_op isz_29 (row_one _ _ _ _ _ _ _ _ _ _) ?_
       rw [hw1])
    | (go_at_call 12; refine (HK.out _).mono ?_; rintro e w3 ⟨rfl, he⟩; obtain rfl := he.symm)
    | (go_at_call 85; refine HS.out.mono ?_; rintro e w3 ⟨rfl, hkp, hR⟩; have HN := Hi hkp; have HR := Hi hR; clear hkp hR))
   exact ⟨rfl, RendX.no HGE.out (HK02.out.trans HN.out) HR.out⟩
 rw [h1] at hs
 have HS := Hi hs
 have HGE : Hid (opWith (gSubs n) 14 k l p = .inl ((.mk (zF 14) xs, ⟨k'.parts, k'.multis, k'.depth - 1⟩), q)) := by unfold Hid; rw [HOP.out]; unfold Rg.map; rw [h1]
 clear hs h1
 go_enter Tryd.func58, Tryd.ntmps58
 go_wp2_with (first
  | (with_reducible refine wpAq 7 ?_
     refine wpList_newrow rfl rfl 29 rfl 7 rfl (.tmp 11) rfl rfl ((zF 14).row nilS nilS nilS nilS nilS nilS nilS nilS nilS).toArray (fun _ => rfl) (show 7 < 160 by decide) zer_op isz_29 (row_one _ _ _ _ _ _ _ _ _ _) ?_
     rw [hw1])
  | (go_at_call 12; refine (HK.out _).mono ?_; rintro e w3 ⟨rfl, he⟩; obtain rfl := he.symm)
  | (go_at_call 85; refine HS.out.mono ?_; rintro e w3 ⟨⟨v, rfl, hb3, hko, hdep, A', c', Q, b, hve, hQ, hq, hbb, hF⟩, hkp, hR⟩; subst hve; have HB3 := Hi hb3; have HKO3 := Hi hko; have HD3 := Hi hdep; have HQ := Hi hQ; have HF := Hi hF; have HK3 := Hi hkp; have HR3 := Hi hR; clear hb3 hko hdep hQ hF hkp hR; refine Hid.out ?_))
 clear c2 f2 HS
 have hz3 := HK3.out.size
 have HP3 : Hid (Blk w3 (w.heap.size + 1) 29 ((zF 14).row nilS nilS nilS nilS nilS nilS nilS nilS nilS).toArray) := HP2.out.kp HK3.out (by simp; omega)
 have HZ3 : Hid (Blk w3 w.heap.size 29 (OqmR1)) := HZ2.out.kp HK3.out (by simp; omega)
 have c18 : w3.cell? ⟨w.heap.size + 1, 18, none⟩ = some (.slice none 0 0) := yC HP3.out 18 rfl
 have f18 := HP3.out.frozen 18
 obtain ⟨w4, hw4⟩ : ∃ w4, w3.setCell ⟨w.heap.size + 1, 18, none⟩ (.slice A' Q.length c') = w4 := ⟨_, rfl⟩
 have hk4 : Kp [w.heap.size + 1] w3 w4 := by rw [← hw4]; exact Kp.setCell ⟨w.heap.size + 1, 18, none⟩ _
 have HP4 : Hid (Blk w4 (w.heap.size + 1) 29 ((zF 14).row nilS nilS nilS nilS nilS nilS nilS nilS ⟨A', Q.length, c'⟩).toArray) := by unfold Hid; rw [← hw4]; exact HP3.out.set_ 18 _
 have HZ4 : Hid (Blk w4 w.heap.size 29 (OqmR1)) := HZ3.out.kp hk4 (by simp)
 have hB4 : Blk w4 C 97 k'.row := HB3.out.kp hk4 (by simp; omega)
 have c42 : w4.cell? ⟨C, 2, none⟩ = some (.int .i64 (k'.depth : Int)) := yC hB4 2 rfl
 have f42 := hB4.frozen 2
 have HK4 := Hi hk4
 have hd3 := HD3.out
 try dsimp only at hd3
 rw [hd3] at c42
 obtain ⟨w5, hw5⟩ : ∃ w5, w4.setCell ⟨C, 2, none⟩ (.int .i64 (k.depth : Int)) = w5 := ⟨_, rfl⟩
 have hk5 : Kp [C] w4 w5 := by rw [← hw5]; exact Kp.setCell ⟨C, 2, none⟩ _
 have HB5 : Hid (Blk w5 C 97 (Cnt.row ⟨k'.parts, k'.multis, k'.depth - 1⟩)) := by
  unfold Hid
  rw [← hw5]
  have := hB4.set_ 2 (.int .i64 (k.depth : Int))
  simpa [Cnt.row, hd3] using this
 have HP : Hid (Blk w5 (w.heap.size + 1) 29 ((zF 14).row nilS nilS nilS nilS nilS nilS nilS nilS ⟨A', Q.length, c'⟩).toArray) := HP4.out.kp hk5 (by simp; omega)
 have HZ : Hid (Blk w5 w.heap.size 29 (OqmR1)) := HZ4.out.kp hk5 (by simp; omega)
 have HK5 := Hi hk5
 have hadd : ((k.depth : Int) + 1 - 1) = (k.depth : Int) := by omega
 clear hk4 hB4 hk5 hd3
 refine Hi ?_
 go_wp2_with (first
  | (with_reducible refine wpAq 54 ?_
     refine wpList_load_row rfl 29 (.tmp 7) rfl (w.heap.size + 1) rfl 29 _ _ _ HP.out zU29 rfl isz_29 ?_)
  | (with_reducible refine wpSt 6 ?_
     refine wpList_store_row rfl 29 (.tmp 6) (.tmp 54) rfl w.heap.size ((zF 14).row nilS nilS nilS nilS nilS nilS nilS nilS ⟨A', Q.length, c'⟩).toArray rfl rfl 29 _ HZ.out isz_29 rfl (row_one _ _ _ _ _ _ _ _ _ _) ?_
     have hbz := cells_setRow (cs := ((zF 14).row nilS nilS nilS nilS nilS nilS nilS nilS ⟨A', Q.length, c'⟩).toArray) HZ.out
     have hkz : Kp [w.heap.size] _ _ := Kp.setRow (w := w5) w.heap.size ((zF 14).row nilS nilS nilS nilS nilS nilS nilS nilS ⟨A', Q.length, c'⟩).toArray
     generalize hww : World.setRow _ _ _ = wz at hkz hbz ⊢
     have HBZ := Hi hbz
     have HKZ := Hi hkz
     clear hww hkz hbz))
 refine bodyPost_ret (results_cell_row rfl _ _ w.heap.size 29 _ _ _ rfl HBZ.out zU29 rfl isz_29) rfl ?_
 have hz5 : w5.heap.size = w3.heap.size := by rw [← hw5, ← hw4]; simp
 have hkA : Kp [R, C] w w5 := ((HK02.out.trans HK3.out).to HK4.out (fun _ h _ => h) (fun y hy hl => by simp at hy; omega)).trans (HK5.out.to (Kp.refl [] _) (fun x hx _ => by simp at hx; simp [hx]) (fun _ h => by cases h))
 have hkB : Kp [R, C] w wz := hkA.to HKZ.out (fun _ h _ => h) (fun y hy hl => by simp at hy; omega)
 have hR5 : Rdr w5 B R A c l q := (HR3.out.kp HK4.out (by simp; omega) (fun x hx => HR3.out.new (by simp at hx; omega))).kp HK5.out (by simpa using hCR.symm) (by simpa using hCB)
 have hRz : Rdr wz B R A c l q := hR5.kp HKZ.out (by simp; omega) (fun x hx => HR3.out.new (by simp at hx; omega))
 have hFz := ((HF.out.kp HK4.out (by simp; omega)).kp HK5.out (by simp; omega)).kp HKZ.out (by simp; omega)
 have hFA := hFz.at_ (by unfold reachBytes; omega)
 have hAt : At wz (some b) (.mk (zF 14) (Q.map Prod.fst)) ((zF 14).row nilS nilS nilS nilS nilS nilS nilS nilS ⟨A', Q.length, c'⟩) := .mk (zF 14) nilS nilS nilS nilS nilS nilS nilS nilS ⟨A', Q.length, c'⟩ Q (zF_ok rfl) (SlAt.zero _ _ _ _ _) (SlAt.zero _ _ _ _ _) (SlAt.zero _ _ _ _ _) (SlAt.zero _ _ _ _ _) (SlAt.zero _ _ _ _ _) (SlAt.zero _ _ _ _ _) (SlAt.zero _ _ _ _ _) (SlAt.zero _ _ _ _ _) hFA.1 hFA.2
 rw [HQ.out] at hAt
 exact RendX.yes HGE.out ⟨HB5.out.kp HKZ.out (by simp; omega), ⟨HKO3.out.parts, HKO3.out.multis, by have := HKO3.out.depth; dsimp only; omega⟩, (by have := HD3.out; dsimp only at this ⊢; omega), _, rfl, hAt.lo rfl (by omega)⟩ hkB hRz

theorem get_22 (n : Nat) (HSub : SubsOk n) (B : Nat → Prop) (R c p C : Nat) (A : Option Addr) (l : List UInt8) (k : Cnt) (w : World) (h : Rdr w B R A c l p) (hC : Blk w C 97 k.row) (hCR : C ≠ R) (hCB : ¬ B C) (hk : k.Ok) (hp : l.length - p < n) :
 Calls Tryd.prog 58 #[.pointer (some ⟨R, 0, none⟩), .int .i32 22, .pointer (some ⟨C, 0, none⟩)] w fun e w' => RendX [R, C] B R c A l (vGet w.heap.size C k.depth) (opWith (gSubs n) 22 k l p) w e w' := by
 obtain ⟨wa, hwa⟩ := xa w (OqmR1) 29
 have hza : wa.heap.size = w.heap.size + 1 := by rw [← hwa]; simp
 obtain ⟨w1, hw1⟩ := xa wa ((zF 22).row nilS nilS nilS nilS nilS nilS nilS nilS nilS).toArray 29
 have h0 := GSt.start h (t := 22) rfl hwa hw1
 have hz1 : w1.heap.size = w.heap.size + 2 := by rw [← hw1]; simp [hza]
 have hba : Below w.heap.size w w1 := by
  have h1 := zV hwa
  have h2 := zV hw1
  exact h1.trans (h2.mono h1.size)
 have hCl := hC.lt
 have hRl := h.lt
 have hC1 : Blk w1 C 97 k.row := hC.below hba hC.lt
 have HK : Hid (∀ W, Calls Tryd.prog 12 #[.int .i32 22] W fun e w' => e = .returned (.int .i64 1) ∧ w' = W) := fun W => by
  have h := kind_any 22 W
  rwa [show kindN 22 = 1 from by decide] at h
 have hop : opWith (gSubs n) 22 k l p = ((gSubs n 22 ⟨0, 0, 0⟩).map fun r => ((.mk (zF 22) r.1, k) : OpC × Cnt)) l p := by
  unfold opWith
  rw [if_neg (by decide), if_neg (by decide), if_pos rfl]
 obtain ⟨w2, hw2⟩ := xa w1 #[.int .i64 0, .int .i64 0, .int .i64 0] 97
 have hb2 := zV hw2
 have hC2 : Blk w2 (w.heap.size + 2) 97 (Cnt.row ⟨0, 0, 0⟩) := by
  have : Blk w2 w1.heap.size 97 #[.int .i64 0, .int .i64 0, .int .i64 0] := by rw [← hw2]; exact Blk.new _ _ _
  rwa [hz1] at this
 have hR2 : Rdr w2 B R A c l p := h0.rdr.later hb2
 have hz2 : w2.heap.size = w.heap.size + 3 := by rw [← hw2]; simp [hz1]
 have hs := HSub B R c p (w.heap.size + 2) A l 22 ⟨0, 0, 0⟩ w2 hR2 hC2 (by omega) (h.new (by omega)) ⟨by decide, by decide, by decide⟩ hp
 have HP2 : Hid (Blk w2 (w.heap.size + 1) 29 ((zF 22).row nilS nilS nilS nilS nilS nilS nilS nilS nilS).toArray) := h0.blk.below hb2 h0.blk.lt
 have HZ2 : Hid (Blk w2 w.heap.size 29 (OqmR1)) := h0.res.below hb2 h0.res.lt
 have HC0 : Hid (Blk w2 C 97 k.row) := hC1.below hb2 hC1.lt
 have HK02 : Hid (Kp [R, C] w w2) := (Kp.of_below hba).later hb2
 have HOP := Hi hop
 have HKO := Hi hk
 clear h h0 hC hC1 hC2 hR2 hb2 hop hk HSub
 rcases h1 : gSubs n 22 ⟨0, 0, 0⟩ l p with ⟨⟨xs, k'⟩, q⟩ | ⟨er, q⟩
 rotate_left
 · rw [h1] at hs
   have HS := Hi hs
   have HGE : Hid (opWith (gSubs n) 22 k l p = .inr (er, q)) := by unfold Hid; rw [HOP.out]; unfold Rg.map; rw [h1]
   clear hs h1
   go_enter Tryd.func58, Tryd.ntmps58
   go_wp2_with (first
    | (with_reducible refine wpAq 7 ?_
       refine wpList_newrow rfl rfl 29 rfl 7 rfl (.tmp 11) rfl rfl ((zF 22).row nilS nilS nilS nilS nilS nilS nilS nilS nilS).toArray (fun _ => rfl) (show 7 < 160 by decide) zer_op isz_29 (row_one _ _ _ _ _ _ _ _ _ _) ?_
       rw [hw1])
    | (go_at_call 12; refine (HK.out _).mono ?_; rintro e w3 ⟨rfl, he⟩; obtain rfl := he.symm)
    | (go_at_call 85; refine HS.out.mono ?_; rintro e w3 ⟨rfl, hkp, hR⟩; have HN := Hi hkp; have HR := Hi hR; clear hkp hR))
   exact ⟨rfl, RendX.no HGE.out (HK02.out.to HN.out (fun _ h _ => h) (fun y hy hl => by simp at hy; rcases hy with rfl | rfl; simp; omega)) HR.out⟩
 rw [h1] at hs
 have HS := Hi hs
 have HGE : Hid (opWith (gSubs n) 22 k l p = .inl ((.mk (zF 22) xs, k), q)) := by unfold Hid; rw [HOP.out]; unfold Rg.map; rw [h1]
 clear hs h1
 go_enter Tryd.func58, Tryd.ntmps58
 go_wp2_with (first
  | (with_reducible refine wpAq 7 ?_
     refine wpList_newrow rfl rfl 29 rfl 7 rfl (.tmp 11) rfl rfl ((zF 22).row nilS nilS nilS nilS nilS nilS nilS nilS nilS).toArray (fun _ => rfl) (show 7 < 160 by decide) zer_op isz_29 (row_one _ _ _ _ _ _ _ _ _ _) ?_
     rw [hw1])
  | (go_at_call 12; refine (HK.out _).mono ?_; rintro e w3 ⟨rfl, he⟩; obtain rfl := he.symm)
  | (go_at_call 85; refine HS.out.mono ?_; rintro e w3 ⟨⟨v, rfl, hb3, hko, hdep, A', c', Q, b, hve, hQ, hq, hbb, hF⟩, hkp, hR⟩; subst hve; have HQ := Hi hQ; have HF := Hi hF; have HK3 := Hi hkp; have HR3 := Hi hR; clear hb3 hko hdep hQ hF hkp hR; refine Hid.out ?_))
 clear HS
 have hz3 := HK3.out.size
 have HP3 : Hid (Blk w3 (w.heap.size + 1) 29 ((zF 22).row nilS nilS nilS nilS nilS nilS nilS nilS nilS).toArray) := HP2.out.kp HK3.out (by simp; omega)
 have HZ3 : Hid (Blk w3 w.heap.size 29 (OqmR1)) := HZ2.out.kp HK3.out (by simp; omega)
 have HC3 : Hid (Blk w3 C 97 k.row) := HC0.out.kp HK3.out (by simp; omega)
 have c18 : w3.cell? ⟨w.heap.size + 1, 18, none⟩ = some (.slice none 0 0) := yC HP3.out 18 rfl
 have f18 := HP3.out.frozen 18
 obtain ⟨w4, hw4⟩ : ∃ w4, w3.setCell ⟨w.heap.size + 1, 18, none⟩ (.slice A' Q.length c') = w4 := ⟨_, rfl⟩
 have hk4 : Kp [w.heap.size + 1] w3 w4 := by rw [← hw4]; exact Kp.setCell ⟨w.heap.size + 1, 18, none⟩ _
 have HP : Hid (Blk w4 (w.heap.size + 1) 29 ((zF 22).row nilS nilS nilS nilS nilS nilS nilS nilS ⟨A', Q.length, c'⟩).toArray) := by unfold Hid; rw [← hw4]; exact HP3.out.set_ 18 _
 have HZ : Hid (Blk w4 w.heap.size 29 (OqmR1)) := HZ3.out.kp hk4 (by simp)
 have HC4 : Hid (Blk w4 C 97 k.row) := HC3.out.kp hk4 (by simp; omega)
 have HK4 := Hi hk4
 clear hk4
 refine Hi ?_
 go_wp2_with (first
  | (with_reducible refine wpAq 63 ?_
     refine wpList_load_row rfl 29 (.tmp 7) rfl (w.heap.size + 1) rfl 29 _ _ _ HP.out zU29 rfl isz_29 ?_)
  | (with_reducible refine wpSt 6 ?_
     refine wpList_store_row rfl 29 (.tmp 6) (.tmp 63) rfl w.heap.size ((zF 22).row nilS nilS nilS nilS nilS nilS nilS nilS ⟨A', Q.length, c'⟩).toArray rfl rfl 29 _ HZ.out isz_29 rfl (row_one _ _ _ _ _ _ _ _ _ _) ?_
     have hbz := cells_setRow (cs := ((zF 22).row nilS nilS nilS nilS nilS nilS nilS nilS ⟨A', Q.length, c'⟩).toArray) HZ.out
     have hkz : Kp [w.heap.size] _ _ := Kp.setRow (w := w4) w.heap.size ((zF 22).row nilS nilS nilS nilS nilS nilS nilS nilS ⟨A', Q.length, c'⟩).toArray
     generalize hww : World.setRow _ _ _ = wz at hkz hbz ⊢
     have HBZ := Hi hbz
     have HKZ := Hi hkz
     clear hww hkz hbz))
 refine bodyPost_ret (results_cell_row rfl _ _ w.heap.size 29 _ _ _ rfl HBZ.out zU29 rfl isz_29) rfl ?_
 have hz4 : w4.heap.size = w3.heap.size := by rw [← hw4]; simp
 have hkA : Kp [R, C] w w4 := (HK02.out.to HK3.out (fun _ h _ => h) (fun y hy hl => by simp at hy; rcases hy with rfl | rfl; simp; omega)).to HK4.out (fun _ h _ => h) (fun y hy hl => by simp at hy; omega)
 have hkB : Kp [R, C] w wz := hkA.to HKZ.out (fun _ h _ => h) (fun y hy hl => by simp at hy; omega)
 have hR4 : Rdr w4 B R A c l q := HR3.out.kp HK4.out (by simp; omega) (fun x hx => HR3.out.new (by simp at hx; omega))
 have hRz : Rdr wz B R A c l q := hR4.kp HKZ.out (by simp; omega) (fun x hx => HR3.out.new (by simp at hx; omega))
 have hFz := (HF.out.kp HK4.out (by simp; omega)).kp HKZ.out (by simp; omega)
 have hFA := hFz.at_ (by unfold reachBytes; omega)
 have hAt : At wz (some b) (.mk (zF 22) (Q.map Prod.fst)) ((zF 22).row nilS nilS nilS nilS nilS nilS nilS nilS ⟨A', Q.length, c'⟩) := .mk (zF 22) nilS nilS nilS nilS nilS nilS nilS nilS ⟨A', Q.length, c'⟩ Q (zF_ok rfl) (SlAt.zero _ _ _ _ _) (SlAt.zero _ _ _ _ _) (SlAt.zero _ _ _ _ _) (SlAt.zero _ _ _ _ _) (SlAt.zero _ _ _ _ _) (SlAt.zero _ _ _ _ _) (SlAt.zero _ _ _ _ _) (SlAt.zero _ _ _ _ _) hFA.1 hFA.2
 rw [HQ.out] at hAt
 exact RendX.yes HGE.out ⟨HC4.out.kp HKZ.out (by simp; omega), HKO.out, rfl, _, rfl, hAt.lo rfl (by omega)⟩ hkB hRz


theorem get_any (n : Nat) (HSub : SubsOk n) : GetOk n := fun B R c p C A l t k w ht h hC hCR hCB hk hd hp => by
 by_cases hb : kindN t = 0 ∨ kindN t = 5
 · have hop : opWith (gSubs n) t k l p = .inr (110, p) := by unfold opWith; rw [if_pos hb]; rfl
   rw [hop]
   refine (get_bad B R c p A l w _ t hb ht h).mono fun e w' h => ?_
   obtain ⟨rfl, hkp, hR⟩ := h
   exact ⟨rfl, hkp.mono (fun x hx _ => by simp at hx; simp [hx]), hR⟩
 have htt := kind_types (fun e => hb (.inl e))
 simp only [ownTypes, zH, zI, or_false] at htt
 rcases htt with rfl | rfl | rfl | rfl | rfl | rfl | rfl | rfl | rfl | rfl | rfl | rfl | rfl | rfl | rfl | rfl | rfl | rfl | rfl | rfl | rfl | rfl | rfl | rfl | rfl | rfl | rfl | rfl
 · exact getX_of (get_g0 1 (by decide) B R c p A l w _ h) (opWith_fld (by decide) (by decide)) hC hCR hk
 · exact getX_of (get_g0 15 (by decide) B R c p A l w _ h) (opWith_fld (by decide) (by decide)) hC hCR hk
 · exact getX_of (get_g0 19 (by decide) B R c p A l w _ h) (opWith_fld (by decide) (by decide)) hC hCR hk
 · exact getX_of (get_g1 21 (by decide) B R c p A l w _ h) (opWith_fld (by decide) (by decide)) hC hCR hk
 · exact getX_of (get_g2 2 (by decide) B R c p A l w _ h) (opWith_fld (by decide) (by decide)) hC hCR hk
 · exact getX_of (get_g2 13 (by decide) B R c p A l w _ h) (opWith_fld (by decide) (by decide)) hC hCR hk
 · exact getX_of (get_g3 5 (by decide) B R c p A l w _ h) (opWith_fld (by decide) (by decide)) hC hCR hk
 · exact getX_of (get_g4 7 (by decide) B R c p A l w _ h) (opWith_fld (by decide) (by decide)) hC hCR hk
 · exact getX_of (get_g5 120 (by decide) B R c p A l w _ h) (opWith_fld (by decide) (by decide)) hC hCR hk
 · exact getX_of (get_g6 121 (by decide) B R c p A l w _ h) (opWith_fld (by decide) (by decide)) hC hCR hk
 · exact get_14 n HSub B R c p C A l k w h hC hCR hCB hk (hd rfl) hp
 · exact getX_of (get_g9 (-10) (by decide) B R c p A l w _ h) (opWith_fld (by decide) (by decide)) hC hCR hk
 · exact getX_of (get_g10 (-11) (by decide) B R c p A l w _ h) (opWith_fld (by decide) (by decide)) hC hCR hk
 · exact absurd (Or.inr (by decide)) hb
 · exact getX_of (get_g7 3 (by decide) B R c p A l w _ h) (opWith_fld (by decide) (by decide)) hC hCR hk
 · exact getX_of (get_g7 4 (by decide) B R c p A l w _ h) (opWith_fld (by decide) (by decide)) hC hCR hk
 · exact getX_of (get_g7 8 (by decide) B R c p A l w _ h) (opWith_fld (by decide) (by decide)) hC hCR hk
 · exact getX_of (get_g7 12 (by decide) B R c p A l w _ h) (opWith_fld (by decide) (by decide)) hC hCR hk
 · exact getX_of (get_g6 6 (by decide) B R c p A l w _ h) (opWith_fld (by decide) (by decide)) hC hCR hk
 · exact getX_of (get_g6 9 (by decide) B R c p A l w _ h) (opWith_fld (by decide) (by decide)) hC hCR hk
 · exact getX_of (get_g6 103 (by decide) B R c p A l w _ h) (opWith_fld (by decide) (by decide)) hC hCR hk
 · exact getX_of (get_g6 104 (by decide) B R c p A l w _ h) (opWith_fld (by decide) (by decide)) hC hCR hk
 · exact getX_of (get_g8 106 (by decide) B R c p A l w _ h) (opWith_fld (by decide) (by decide)) hC hCR hk
 · exact getX_of (get_g10 11 (by decide) B R c p A l w _ h) (opWith_fld (by decide) (by decide)) hC hCR hk
 · exact getX_of (get_g8 18 (by decide) B R c p A l w _ h) (opWith_fld (by decide) (by decide)) hC hCR hk
 · exact get_22 n HSub B R c p C A l k w h hC hCR hCB hk hp
 · exact getX_of (get_101 B R c p A l w _ h) (by unfold opWith; rw [if_neg (by decide), if_neg (by decide), if_neg (by decide), if_pos rfl]) hC hCR hk
 · exact getX_of (get_g10 107 (by decide) B R c p A l w _ h) (opWith_fld (by decide) (by decide)) hC hCR hk

structure SSt (w0 : World) (B : Nat → Prop) (R c : Nat) (A : Option Addr) (l : List UInt8) (C q : Nat) (k : Cnt) (v : Value) (Q : List (OpC × List Value)) (w : World) : Prop where
 rdr : Rdr w B R A c l q
 blk : Blk w C 97 k.row
 kp : Kp [R, C] w0 w
 fl : FlatSt w0.heap.size v Q w
 nR : C ≠ R
 nB : ¬ B C
 old : R < w0.heap.size ∧ C < w0.heap.size
section
variable {w0 w w' : World} {B : Nat → Prop} {R c C q q' : Nat} {A : Option Addr} {l : List UInt8} {k k' : Cnt} {v : Value} {Q : List (OpC × List Value)}
theorem SSt.read (h : SSt w0 B R c A l C q k v Q w) (hk : Kp [R] w w') (hR : Rdr w' B R A c l q') : SSt w0 B R c A l C q' k v Q w' :=
 ⟨hR, h.blk.kp hk (by simpa using h.nR), h.kp.to hk (fun _ h _ => h) (fun y hy _ => by simp at hy; simp [hy]), h.fl.kp hk (by have := h.old; simp; omega), h.nR, h.nB, h.old⟩
theorem SSt.draw (h : SSt w0 B R c A l C q k v Q w) (n : Nat) : SSt w0 B R c A l C q k v Q (w.drewN n) :=
 have hk : Kp [] w (w.drewN n) := Kp.drewN n
 ⟨h.rdr.kp hk (by simp) (by simp), h.blk.kp hk (by simp), h.kp.to hk (fun _ h _ => h) (fun y hy _ => by cases hy), h.fl.kp hk (by simp), h.nR, h.nB, h.old⟩
theorem SSt.set_ (h : SSt w0 B R c A l C q k v Q w) (j : Nat) (u : Value) (hr : k.row.setIfInBounds j u = k'.row) : SSt w0 B R c A l C q k' v Q (w.setCell ⟨C, j, none⟩ u) :=
 have hk : Kp [C] w (w.setCell ⟨C, j, none⟩ u) := Kp.setCell ⟨C, j, none⟩ u
 ⟨h.rdr.kp hk (by simpa using h.nR.symm) (by simpa using h.nB), by rw [← hr]; exact h.blk.set_ j u, h.kp.to hk (fun _ h _ => h) (fun y hy _ => by simp at hy; simp [hy]), h.fl.kp hk (by have := h.old; simp; omega), h.nR, h.nB, h.old⟩
theorem SSt.got (h : SSt w0 B R c A l C q k v Q w) (hk : Kp [R, C] w w') (hR : Rdr w' B R A c l q') (hb : Blk w' C 97 k'.row) : SSt w0 B R c A l C q' k' v Q w' :=
 ⟨hR, hb, h.kp.trans hk, h.fl.kp hk (by have := h.old; simp; omega), h.nR, h.nB, h.old⟩
theorem SSt.keep (h : SSt w0 B R c A l C q k v Q w) (hk : Kp [] w w') : SSt w0 B R c A l C q k v Q w' :=
 ⟨h.rdr.kp hk (by simp) (by simp), h.blk.kp hk (by simp), h.kp.to hk (fun _ h _ => h) (fun y hy _ => by cases hy), h.fl.kp hk (by simp), h.nR, h.nB, h.old⟩
theorem SSt.push (h : SSt w0 B R c A l C q k v Q w) {b : Nat} {x : OpC} {cs : List Value} {v' : Value} (hx : Win w b w.heap.size x cs) (hb : w0.heap.size ≤ b) (hv : ∀ g, v.ownBlock = some g → g < b)
 (hown : w'.ownsRow w0.heap.size 29 19 v' (Q.length + 1) (Q.flatMap Prod.snd ++ cs)) (hg : w.grownBy w' v.ownBlock) (hat : v'.ownBlock = v.ownBlock ∨ v'.ownBlock = some w.heap.size) : SSt w0 B R c A l C q k v' (Q ++ [(x, cs)]) w' := by
 have hk := Kp.of_grown hg
 have ho : ∀ y ∈ v.ownBlock.toList, w0.heap.size ≤ y := fun y hy => (h.fl.own.lt y (by simpa using hy)).1
 have hold := h.old
 refine ⟨h.rdr.kp hk (fun hy => by have := ho _ hy; omega) (fun y hy hB => by have := ho _ hy; have := h.rdr.old y hB; omega), h.blk.kp hk (fun hy => by have := ho _ hy; omega), h.kp.to hk (fun _ h _ => h) (fun y hy hl => by have := ho _ hy; omega), ?_, h.nR, h.nB, hold⟩
 exact h.fl.snoc (r := (x, cs)) hx hb hv hown hg hat
end
theorem one_count (x : OpC) : 1 ≤ x.parts + x.multis := by
 obtain ⟨f, S⟩ := x
 rw [OpC.parts, OpC.multis]
 split <;> omega
theorem pre_inr {xs : List OpC} {r : ((List OpC × Cnt) × Nat) ⊕ (Int × Nat)} {e : Int × Nat} (h : r = .inr e) : pre xs r = .inr e := by rw [h]; rfl
def itemR (e : Bool) (t i : Int) (k : Cnt) (S : Int → Cnt → Rg (List OpC × Cnt)) : Rg (List OpC × Cnt) := if e = true then Rg.ret ([], k) else if (k.more t).big t = true then gFailR 3 else itemOf S i t k
def numR (e : Bool) (t i : Int) (k : Cnt) (S : Int → Cnt → Rg (List OpC × Cnt)) : Rg (List OpC × Cnt) := gInt.bind fun z => if (z != -1) = true then gFailR 22 else itemR e t i k S
def markR (t i : Int) (k : Cnt) (S : Int → Cnt → Rg (List OpC × Cnt)) : Rg (List OpC × Cnt) := gBool.bind fun e => if (e != (t == -1)) = true then gFailR 22 else numR e t i k S
def hdrR (t i : Int) (k : Cnt) (S : Int → Cnt → Rg (List OpC × Cnt)) : Rg (List OpC × Cnt) := if (t != -1 && !mayN t i) = true then gFailR 110 else markR t i k S
theorem subs_any (n : Nat) (HG0 : ∀ m, m < n → GetOk m) : SubsOk n := by
 intro B R c p C A l i k w h hC hCR hCB hk hp
 have HGET := Hi HG0
 have HKO := Hi hk
 have HS0 : Hid (SSt w B R c A l C p k (.slice none 0 0) [] w) := ⟨h, hC, Kp.refl _ _, FlatSt.nil w, hCR, hCB, h.lt, hC.lt⟩
 have hll := h.len
 have hpl := h.here
 obtain ⟨i0, hi0, hz0, hzi1, hzi2⟩ := info_parts op_info
 clear h hC hk HG0
 go_enter Tryd.func85, Tryd.ntmps85
 go_wp2
 go_loopw [7] (fun v7 wr => ∃ (m q : Nat) (k1 : Cnt) (A1 : Option Addr) (c1 : Nat) (Q : List (OpC × List Value)), v7 = .slice A1 Q.length c1 ∧ m ≤ n ∧ l.length - q < m ∧ Q.length ≤ k1.parts + k1.multis ∧ Hid (gSubs n i k l p = pre (Q.map Prod.fst) (gSubs m i k1 l q)) ∧ Hid (k1.Ok ∧ k1.depth = k.depth) ∧ Hid (SSt w B R c A l C q k1 (.slice A1 Q.length c1) Q wr)) (fun _ wr => l.length - (intOf ((wr.cell? ⟨R, 1, none⟩).getD undef)).toNat)
 case atStart => exact ⟨n, p, k, none, 0, [], rfl, Nat.le_refl _, hp, Nat.zero_le _, (by unfold Hid; rw [List.map_nil, pre_nil]), ⟨HKO.out, rfl⟩, HS0.out⟩
 case round =>
  clear HS0
  obtain ⟨m, q, k1, A1, c1, Q, rfl, hmn, hqm, hql, HG, HK1, HS⟩ := hrel
  obtain ⟨m', rfl⟩ : ∃ m', m = m' + 1 := ⟨m - 1, by omega⟩
  have hg : gSubs n i k l p = pre (Q.map Prod.fst) ((gInt.bind fun t => hdrR t i k1 (gSubs m')) l q) := HG.out
  have HG1 := Hi hg
  have hk1 := HK1.out.1
  have hkp := hk1.parts
  have hkm := hk1.multis
  have hkd := hk1.depth
  have hq2 : Q.length ≤ 2048 := by omega
  have hnn : (0 : Int) ≤ ((l.length - q : Nat) : Int) := by omega
  clear hg HG hk1
  go_wp2_with (go_at_call 82; refine (left_any B R c q A l _ HS.out.rdr).mono ?_; rintro e w2 ⟨rfl, nn, rfl⟩; have H0 := Hi (HS.out.draw nn); refine Hid.out ?_)
  have HKI : Hid (∀ (t : Int) (W : World), True) := fun _ _ => trivial
  have HMA := HKI
  have ht := rInt_any B R c q A l _ H0.out.rdr
  rcases h1 : gInt l q with ⟨t, q1⟩ | ⟨er, q1⟩
  rotate_left
  · rw [h1] at ht
    have HT := Hi ht
    have HGE := Hi (HG1.out.trans (pre_inr (gb_no h1)))
    clear ht h1
    refine Hi ?_
    go_wp2_with (first
     | (go_at_call 12; refine (HKI.out _).mono ?_; rintro e w3 ⟨rfl, he⟩; obtain rfl := he.symm)
     | (go_at_call 53; refine (HMA.out _).mono ?_; rintro e w3 ⟨rfl, he⟩; obtain rfl := he.symm)
     | (go_at_call 29; refine HT.out.mono ?_; rintro e w3 ⟨rfl, hkp, hR⟩; have HN := Hi (H0.out.read hkp hR); clear hkp hR))
    exact ⟨rfl, RendX.no HGE.out HN.out.kp HN.out.rdr⟩
  rw [h1] at ht
  have hleq1 : q ≤ q1 := (int_bk h1).2.1
  have HT := Hi ht
  have HG2 : Hid (gSubs n i k l p = pre (Q.map Prod.fst) ((hdrR t i k1 (gSubs m')) l q1)) := HG1.out.trans (congrArg (pre (Q.map Prod.fst)) (gb_ev h1))
  have hq4 : q + 4 ≤ l.length ∧ q + 4 ≤ q1 := by have := gInt_inl h1; omega
  have HWF := Hi (gInt_wf h1)
  clear ht h1 HG1 HKI HMA
  obtain ⟨kn, hkn⟩ : ∃ x, x = kindN t := ⟨_, rfl⟩
  have HKN := Hi hkn
  have HKI : Hid (∀ W, Calls Tryd.prog 12 #[.int .i32 t] W fun e w' => e = .returned (.int .i64 kn) ∧ w' = W) := fun W => by rw [hkn]; exact kind_any t W
  clear hkn
  have HMA : Hid (∀ W, Calls Tryd.prog 53 #[.int .i32 t, .int .i32 i] W fun e w' => e = .returned (.bool (mayN t i)) ∧ w' = W) := fun W => may_any t i W
  refine Hi ?_
  go_wp2_with (first
   | (go_at_call 12; refine (HKI.out _).mono ?_; rintro e w3 ⟨rfl, he⟩; obtain rfl := he.symm)
   | (go_at_call 53; refine (HMA.out _).mono ?_; rintro e w3 ⟨rfl, he⟩; obtain rfl := he.symm)
   | (go_at_call 29; refine HT.out.mono ?_; rintro e w3 ⟨⟨v, rfl, rfl⟩, hkp, hR⟩; have H1 := Hi (H0.out.read hkp hR); clear hkp hR; refine Hid.out ?_))
  clear HT H0
  by_cases htm : t = -1
  · subst htm
    have HG3 : Hid (gSubs n i k l p = pre (Q.map Prod.fst) ((markR (-1) i k1 (gSubs m')) l q1)) := HG2.out.trans (by unfold hdrR; rw [if_neg (by simp)])
    clear HG2
    have ht := rBool_any B R c q1 A l _ H1.out.rdr
    rcases h1 : gBool l q1 with ⟨e, q2⟩ | ⟨er, q2⟩
    rotate_left
    · rw [h1] at ht
      have HT := Hi ht
      have HGE := Hi (HG3.out.trans (pre_inr (gb_no h1)))
      clear ht h1
      refine Hi ?_
      go_wp2_with (first
       | (go_at_call 12; refine (HKI.out _).mono ?_; rintro e w3 ⟨rfl, he⟩; obtain rfl := he.symm)
       | (go_at_call 92; refine HT.out.mono ?_; rintro e w3 ⟨rfl, hkp, hR⟩; have HN := Hi (H1.out.read hkp hR); clear hkp hR))
      exact ⟨rfl, RendX.no HGE.out HN.out.kp HN.out.rdr⟩
    rw [h1] at ht
    have hleq2 : q1 ≤ q2 := (bool_bk' h1).2.1
    have HT := Hi ht
    have HG4 : Hid (gSubs n i k l p = pre (Q.map Prod.fst) ((if (e != ((-1 : Int) == -1)) = true then gFailR 22 else numR e (-1) i k1 (gSubs m')) l q2)) := HG3.out.trans (congrArg (pre (Q.map Prod.fst)) (gb_ev h1))
    clear ht h1 HG3
    refine Hi ?_
    go_wp2_with (first
     | (go_at_call 12; refine (HKI.out _).mono ?_; rintro e w3 ⟨rfl, he⟩; obtain rfl := he.symm)
     | (go_at_call 92; refine HT.out.mono ?_; rintro e w4 ⟨⟨v, rfl, rfl⟩, hkp, hR⟩; have H2 := Hi (H1.out.read hkp hR); clear hkp hR; refine Hid.out ?_))
    clear HT H1
    cases e
    · have HGE : Hid (gSubs n i k l p = .inr (22, q2)) := HG4.out.trans (pre_inr (by rw [if_pos (by decide)]; rfl))
      refine Hi ?_
      go_wp2_with (first
       | (go_at_call 12; refine (HKI.out _).mono ?_; rintro e w3 ⟨rfl, he⟩; obtain rfl := he.symm)
       | (go_at_call 53; refine (HMA.out _).mono ?_; rintro e w3 ⟨rfl, he⟩; obtain rfl := he.symm)
       | (go_at_call 83; refine (fail_any B R c _ A l 22 rfl _ H2.out.rdr).mono ?_; rintro e w3 ⟨rfl, he⟩; obtain rfl := he))
      exact ⟨rfl, RendX.no HGE.out H2.out.kp H2.out.rdr⟩
    have HG5 : Hid (gSubs n i k l p = pre (Q.map Prod.fst) ((numR true (-1) i k1 (gSubs m')) l q2)) := HG4.out.trans (by rw [if_neg (by decide)])
    clear HG4
    have ht := rInt_any B R c q2 A l _ H2.out.rdr
    rcases h1 : gInt l q2 with ⟨z, q3⟩ | ⟨er, q3⟩
    rotate_left
    · rw [h1] at ht
      have HT := Hi ht
      have HGE := Hi (HG5.out.trans (pre_inr (gb_no h1)))
      clear ht h1
      refine Hi ?_
      go_wp2_with (first
       | (go_at_call 29; refine HT.out.mono ?_; rintro e w3 ⟨rfl, hkp, hR⟩; have HN := Hi (H2.out.read hkp hR); clear hkp hR))
      exact ⟨rfl, RendX.no HGE.out HN.out.kp HN.out.rdr⟩
    rw [h1] at ht
    have hleq3 : q2 ≤ q3 := (int_bk h1).2.1
    have HT := Hi ht
    have HG6 : Hid (gSubs n i k l p = pre (Q.map Prod.fst) ((if (z != -1) = true then gFailR 22 else itemR true (-1) i k1 (gSubs m')) l q3)) := HG5.out.trans (congrArg (pre (Q.map Prod.fst)) (gb_ev h1))
    clear ht h1 HG5
    by_cases hz : z = -1
    rotate_left
    · have HGE : Hid (gSubs n i k l p = .inr (22, q3)) := HG6.out.trans (pre_inr (by rw [if_pos (by simpa using hz)]; rfl))
      have hzb : (z != -1) = true := by simpa using hz
      clear hz
      refine Hi ?_
      go_wp2_with (first
       | (go_at_call 29; refine HT.out.mono ?_; rintro e w5 ⟨⟨v, rfl, rfl⟩, hkp, hR⟩; have H3 := Hi (H2.out.read hkp hR); clear hkp hR; refine Hid.out ?_))
      clear HT H2
      refine Hi ?_
      go_wp2_with (first
       | (go_at_call 83; refine (fail_any B R c _ A l 22 rfl _ H3.out.rdr).mono ?_; rintro e w3 ⟨rfl, he⟩; obtain rfl := he))
      exact ⟨rfl, RendX.no HGE.out H3.out.kp H3.out.rdr⟩
    subst hz
    have HGE : Hid (gSubs n i k l p = .inl ((Q.map Prod.fst, k1), q3)) := HG6.out.trans (by rw [if_neg (by decide)]; show (Sum.inl ((Q.map Prod.fst ++ [], k1), q3) : ((List OpC × Cnt) × Nat) ⊕ (Int × Nat)) = _; rw [List.append_nil])
    clear HG6
    refine Hi ?_
    go_wp2_with (first
     | (go_at_call 29; refine HT.out.mono ?_; rintro e w5 ⟨⟨v, rfl, rfl⟩, hkp, hR⟩; have H3 := Hi (H2.out.read hkp hR); clear hkp hR; refine Hid.out ?_))
    clear HT H2
    refine Hi ?_
    go_wp2
    go_ret
    exact RendX.yes HGE.out ⟨H3.out.blk, HK1.out.1, HK1.out.2, A1, c1, Q, w.heap.size, rfl, rfl, hq2, Nat.le_refl _, H3.out.fl⟩ H3.out.kp H3.out.rdr
  have htb : (t != -1) = true := by simpa using htm
  have htc : (t == -1) = false := by simpa using htm
  by_cases hmy : mayN t i = true
  rotate_left
  · have hmf : mayN t i = false := by simpa using hmy
    have HGE : Hid (gSubs n i k l p = .inr (110, q1)) := HG2.out.trans (pre_inr (by unfold hdrR; rw [hmf, htb]; rfl))
    rw [hmf] at HMA
    clear hmy hmf htm
    refine Hi ?_
    go_wp2_with (first
     | (go_at_call 12; refine (HKI.out _).mono ?_; rintro e w3 ⟨rfl, he⟩; obtain rfl := he.symm)
     | (go_at_call 53; refine (HMA.out _).mono ?_; rintro e w3 ⟨rfl, he⟩; obtain rfl := he.symm)
     | (go_at_call 83; refine (fail_any B R c _ A l 110 rfl _ H1.out.rdr).mono ?_; rintro e w3 ⟨rfl, he⟩; obtain rfl := he))
    exact ⟨rfl, RendX.no HGE.out H1.out.kp H1.out.rdr⟩
  have HG3 : Hid (gSubs n i k l p = pre (Q.map Prod.fst) ((markR t i k1 (gSubs m')) l q1)) := HG2.out.trans (by unfold hdrR; rw [if_neg (by rw [hmy, htb]; decide)])
  rw [hmy] at HMA
  clear HG2 hmy htm
  have ht := rBool_any B R c q1 A l _ H1.out.rdr
  rcases h1 : gBool l q1 with ⟨e, q2⟩ | ⟨er, q2⟩
  rotate_left
  · rw [h1] at ht
    have HT := Hi ht
    have HGE := Hi (HG3.out.trans (pre_inr (gb_no h1)))
    clear ht h1
    refine Hi ?_
    go_wp2_with (first
     | (go_at_call 12; refine (HKI.out _).mono ?_; rintro e w3 ⟨rfl, he⟩; obtain rfl := he.symm)
     | (go_at_call 53; refine (HMA.out _).mono ?_; rintro e w3 ⟨rfl, he⟩; obtain rfl := he.symm)
     | (go_at_call 92; refine HT.out.mono ?_; rintro e w3 ⟨rfl, hkp, hR⟩; have HN := Hi (H1.out.read hkp hR); clear hkp hR))
    exact ⟨rfl, RendX.no HGE.out HN.out.kp HN.out.rdr⟩
  rw [h1] at ht
  have hleq2 : q1 ≤ q2 := (bool_bk' h1).2.1
  have HT := Hi ht
  have HG4 : Hid (gSubs n i k l p = pre (Q.map Prod.fst) ((if (e != (t == -1)) = true then gFailR 22 else numR e t i k1 (gSubs m')) l q2)) := HG3.out.trans (congrArg (pre (Q.map Prod.fst)) (gb_ev h1))
  clear ht h1 HG3
  refine Hi ?_
  go_wp2_with (first
   | (go_at_call 12; refine (HKI.out _).mono ?_; rintro e w3 ⟨rfl, he⟩; obtain rfl := he.symm)
   | (go_at_call 53; refine (HMA.out _).mono ?_; rintro e w3 ⟨rfl, he⟩; obtain rfl := he.symm)
   | (go_at_call 92; refine HT.out.mono ?_; rintro e w4 ⟨⟨v, rfl, rfl⟩, hkp, hR⟩; have H2 := Hi (H1.out.read hkp hR); clear hkp hR; refine Hid.out ?_))
  clear HT H1
  rw [htc] at HG4
  cases e
  rotate_left
  · have HGE : Hid (gSubs n i k l p = .inr (22, q2)) := HG4.out.trans (pre_inr (by rw [if_pos (by decide)]; rfl))
    refine Hi ?_
    go_wp2_with (first
     | (go_at_call 12; refine (HKI.out _).mono ?_; rintro e w3 ⟨rfl, he⟩; obtain rfl := he.symm)
     | (go_at_call 53; refine (HMA.out _).mono ?_; rintro e w3 ⟨rfl, he⟩; obtain rfl := he.symm)
     | (go_at_call 83; refine (fail_any B R c _ A l 22 rfl _ H2.out.rdr).mono ?_; rintro e w3 ⟨rfl, he⟩; obtain rfl := he))
    exact ⟨rfl, RendX.no HGE.out H2.out.kp H2.out.rdr⟩
  have HG5 : Hid (gSubs n i k l p = pre (Q.map Prod.fst) ((numR false t i k1 (gSubs m')) l q2)) := HG4.out.trans (by rw [if_neg (by decide)])
  clear HG4
  have ht := rInt_any B R c q2 A l _ H2.out.rdr
  rcases h1 : gInt l q2 with ⟨z, q3⟩ | ⟨er, q3⟩
  rotate_left
  · rw [h1] at ht
    have HT := Hi ht
    have HGE := Hi (HG5.out.trans (pre_inr (gb_no h1)))
    clear ht h1
    refine Hi ?_
    go_wp2_with (first
     | (go_at_call 29; refine HT.out.mono ?_; rintro e w3 ⟨rfl, hkp, hR⟩; have HN := Hi (H2.out.read hkp hR); clear hkp hR))
    exact ⟨rfl, RendX.no HGE.out HN.out.kp HN.out.rdr⟩
  rw [h1] at ht
  have hleq3 : q2 ≤ q3 := (int_bk h1).2.1
  have HT := Hi ht
  have HG6 : Hid (gSubs n i k l p = pre (Q.map Prod.fst) ((if (z != -1) = true then gFailR 22 else itemR false t i k1 (gSubs m')) l q3)) := HG5.out.trans (congrArg (pre (Q.map Prod.fst)) (gb_ev h1))
  clear ht h1 HG5
  by_cases hz : z = -1
  rotate_left
  · have HGE : Hid (gSubs n i k l p = .inr (22, q3)) := HG6.out.trans (pre_inr (by rw [if_pos (by simpa using hz)]; rfl))
    have hzb : (z != -1) = true := by simpa using hz
    clear hz
    refine Hi ?_
    go_wp2_with (first
     | (go_at_call 29; refine HT.out.mono ?_; rintro e w5 ⟨⟨v, rfl, rfl⟩, hkp, hR⟩; have H3 := Hi (H2.out.read hkp hR); clear hkp hR; refine Hid.out ?_))
    clear HT H2
    refine Hi ?_
    go_wp2_with (first
     | (go_at_call 83; refine (fail_any B R c _ A l 22 rfl _ H3.out.rdr).mono ?_; rintro e w3 ⟨rfl, he⟩; obtain rfl := he))
    exact ⟨rfl, RendX.no HGE.out H3.out.kp H3.out.rdr⟩
  subst hz
  have HG7 : Hid (gSubs n i k l p = pre (Q.map Prod.fst) ((itemR false t i k1 (gSubs m')) l q3)) := HG6.out.trans (by rw [if_neg (by decide)])
  clear HG6
  refine Hi ?_
  go_wp2_with (first
   | (go_at_call 29; refine HT.out.mono ?_; rintro e w5 ⟨⟨v, rfl, rfl⟩, hkp, hR⟩; have H3 := Hi (H2.out.read hkp hR); clear hkp hR; refine Hid.out ?_))
  clear HT H2
  have hmm : k1.multis ≤ 1024 := hkm
  by_cases hk2 : kn = 2
  · subst hk2
    have ht14 : t = 14 := kind_14.1 HKN.out.symm
    subst ht14
    have hc1 := yC H3.out.blk (u := .int .i64 (k1.multis : Int)) 1 rfl
    have hf1 := H3.out.blk.frozen 1
    obtain ⟨w6, hw6⟩ : ∃ w6, w5.setCell ⟨C, 1, none⟩ (.int .i64 ((k1.multis : Int) + 1)) = w6 := ⟨_, rfl⟩
    have H4 : Hid (SSt w B R c A l C q3 ⟨k1.parts, k1.multis + 1, k1.depth⟩ (.slice A1 Q.length c1) Q w6) := by
     unfold Hid
     rw [← hw6]
     exact H3.out.set_ 1 _ (by unfold Cnt.row; simp)
    have hd0 := yC H4.out.blk (u := .int .i64 (k1.parts : Int)) 0 rfl
    have hd1 : w6.cell? ⟨C, 1, none⟩ = some (.int .i64 ((k1.multis : Int) + 1)) := by
     rw [yC H4.out.blk (u := .int .i64 ((k1.multis + 1 : Nat) : Int)) 1 rfl, Int.natCast_add]
     rfl
    have hd2 := yC H4.out.blk (u := .int .i64 (k1.depth : Int)) 2 rfl
    have HMO : Hid (k1.more 14 = ⟨k1.parts, k1.multis + 1, k1.depth⟩) := more_multis
    have hpp : ¬ (1024 : Int) < k1.parts := by omega
    by_cases hbm : (1024 : Int) < (k1.multis : Int) + 1
    · have HGE : Hid (gSubs n i k l p = .inr (3, q3)) := HG7.out.trans (pre_inr (by unfold itemR; rw [if_neg (by decide), HMO.out, if_pos (by unfold Cnt.big; dsimp only; rw [show decide (((k1.multis + 1 : Nat) : Int) > 1024) = true from decide_eq_true (by omega)]; rfl)]; rfl))
      refine Hi ?_
      go_wp2_with (first
       | (go_at_call 83; refine (fail_any B R c _ A l 3 rfl _ H4.out.rdr).mono ?_; rintro e w3 ⟨rfl, he⟩; obtain rfl := he))
      exact ⟨rfl, RendX.no HGE.out H4.out.kp H4.out.rdr⟩
    by_cases hbd : (k1.depth : Int) = 8
    · have hbe : ((k1.depth : Int) == 8) = true := by simpa using hbd
      have HGE : Hid (gSubs n i k l p = .inr (3, q3)) := HG7.out.trans (pre_inr (by unfold itemR; rw [if_neg (by decide), HMO.out, if_pos (by unfold Cnt.big; dsimp only; rw [hbe, show (kindN 14 == 2) = true from by decide]; simp)]; rfl))
      clear hbd
      refine Hi ?_
      go_wp2_with (first
       | (go_at_call 83; refine (fail_any B R c _ A l 3 rfl _ H4.out.rdr).mono ?_; rintro e w3 ⟨rfl, he⟩; obtain rfl := he))
      exact ⟨rfl, RendX.no HGE.out H4.out.kp H4.out.rdr⟩
    have hbe : ((k1.depth : Int) == 8) = false := by simpa using hbd
    have HBIG : Hid ((k1.more 14).big 14 = false) := by unfold Hid; rw [HMO.out]; unfold Cnt.big; dsimp only; rw [hbe]; simp; omega
    have HK2 : Hid ((⟨k1.parts, k1.multis + 1, k1.depth⟩ : Cnt).Ok) := ⟨hkp, by dsimp only; omega, hkd⟩
    have HD8 : Hid ((14 : Int) = 14 → (⟨k1.parts, k1.multis + 1, k1.depth⟩ : Cnt).depth < 8) := fun _ => by dsimp only; omega
    clear hbd
    have HGI : Hid (gSubs n i k l p = pre (Q.map Prod.fst) (itemOf (gSubs m') i 14 k1 l q3)) := HG7.out.trans (by unfold itemR; rw [if_neg (by decide), HBIG.out, if_neg (by decide)])
    have hget := HGET.out m' (by omega) B R c q3 C A l 14 ⟨k1.parts, k1.multis + 1, k1.depth⟩ w6 HWF.out H4.out.rdr H4.out.blk H4.out.nR H4.out.nB HK2.out HD8.out (by have := H4.out.rdr.here; omega)
    rcases h1 : opWith (gSubs m') 14 ⟨k1.parts, k1.multis + 1, k1.depth⟩ l q3 with ⟨⟨x, k3⟩, q4⟩ | ⟨er, q4⟩
    rotate_left
    · rw [h1] at hget
      have HT := Hi hget
      have HGE : Hid (gSubs n i k l p = .inr (er, q4)) := HGI.out.trans (pre_itemno _ (by rw [HMO.out]; exact h1))
      clear hget h1
      refine Hi ?_
      go_wp2_with (first
       | (go_at_call 58; refine HT.out.mono ?_; rintro e w7 ⟨rfl, hkp7, hR7⟩; have HKP := Hi (H4.out.kp.trans hkp7); have HR := Hi hR7; clear hkp7 hR7))
      exact ⟨rfl, RendX.no HGE.out HKP.out HR.out⟩
    rw [h1] at hget
    have HT := Hi hget
    have HGN : Hid (gSubs n i k l p = pre ((Q ++ [(x, ([] : List Value))]).map Prod.fst) (gSubs m' i k3 l q4)) := HGI.out.trans (by rw [List.map_append]; exact pre_item _ (by rw [HMO.out]; exact h1))
    obtain ⟨f1, f2, f3, f4, f5, f6, _⟩ := op_forth (subs_forth m') h1 H4.out.rdr.here HK2.out HD8.out
    have hle4 : q3 ≤ q4 := f1.2.1
    have hq4l : q4 ≤ l.length := f1.2.2
    have HK3 : Hid (Q.length + 1 ≤ k3.parts + k3.multis ∧ k3.Ok ∧ k3.depth = k1.depth) := by
     have ha := after_more x k1
     rw [f2, HMO.out] at ha
     rw [ha] at f4
     have := one_count x
     refine ⟨?_, f5, ?_⟩
     · rw [f4]; dsimp only; omega
     · rw [f4]
    have HWV : Hid (∀ g, (Value.slice A1 Q.length c1).ownBlock = some g → g < w6.heap.size) := fun g hg => H4.out.fl.lt hg
    have hfl6 : w.heap.size ≤ w6.heap.size := H4.out.fl.bs
    clear hget h1 f1 f2 f3 f4 f5 f6 HG7 HGI
    refine Hi ?_
    go_wp2_with (first
     | (go_at_call 58
        refine HT.out.mono ?_
        rintro e w7 ⟨⟨v, rfl, hblk, hok, hdep, cs, rfl, hat⟩, hkp7, hR7⟩
        have H7 := Hi (H4.out.got hkp7 hR7 hblk)
        have HAT := Hi hat
        have hz7 : w6.heap.size ≤ w7.heap.size := hkp7.size
        have HRS : Hid ((Value.agg cs.toArray).cells.size = 19) := (by unfold Hid; show cs.toArray.size = 19; rw [zO, hat.len])
        clear hkp7 hR7 hblk hok hdep hat)
     | (refine wpList_build1 rfl 27 29 (.tmp 87) rfl (.agg cs.toArray) rfl 19 zU27 isz_29 zer_op (by decide) HRS.out ?_
        obtain ⟨w8, hw8⟩ := xa w7 (cs.toArray) 29
        have hc8 : (Value.agg cs.toArray).cells = cs.toArray := rfl
        rw [hc8, hw8]
        have hb8 := zV hw8
        have hn8 := zW hw8
        have H8 := Hi (H7.out.keep (Kp.of_below hb8))
        have HW8 : Hid (Win w8 w6.heap.size w8.heap.size x cs) := Win.new (HAT.out.later hb8)
        have HR8 : Hid (Reads w8 w8.heap.size 19 (some ⟨w7.heap.size, 0, none⟩) 1 cs) := ⟨(by rw [HAT.out.len]), fun _ => ⟨⟨w7.heap.size, 0, none⟩, rfl, hn8.lt, fun j u hj => (by rw [zN, Nat.zero_add, hn8.cell]; simpa using hj)⟩⟩
        have HO8 : Hid (∀ u ∈ cs, u.oneCell' = true) := fun v hv => (by
         have := HAT.out.one
         rw [zQ] at this
         exact this v (by simpa using hv))
        have HOW : Hid (w8.ownsRow w.heap.size 29 19 (.slice A1 Q.length c1) Q.length (Q.flatMap Prod.snd)) := H8.out.fl.own
        clear hw8 hc8 hb8 hn8)
     | (at_builtin
        refine wpList_append_any _ rfl (.tmp 83) (.tmp 88) _ rfl w.heap.size 29 i0 _ 19 296 zU27 hi0 hz0 hzi1 hzi2 rfl (by decide) (.slice A1 Q.length c1) Q.length (Q.flatMap Prod.snd) rfl HOW.out w8.heap.size (some ⟨w7.heap.size, 0, none⟩) 1 1 cs rfl HR8.out HO8.out (by unfold maxLen; omega) (by omega) H8.out.fl.bs ?_
        intro v9 w9 hown9 hg9 hat9
        obtain ⟨A9, c9, rfl⟩ := slice_form hown9
        have H9 : Hid (SSt w B R c A l C q4 k3 (.slice A9 (Q.length + 1) c9) (Q ++ [(x, cs)]) w9) := H8.out.push HW8.out hfl6 HWV.out hown9 hg9 hat9
        clear hown9 hg9 hat9))
    go_roundw
    case rel => exact ⟨m', q4, k3, A9, c9, Q ++ [(x, cs)], by rw [zG]; rfl, by omega, by omega, by rw [zG]; exact HK3.out.1, by unfold Hid; rw [List.map_append] at *; exact HGN.out, ⟨HK3.out.2.1, HK3.out.2.2.trans HK1.out.2⟩, by unfold Hid; rw [zG]; exact H9.out⟩
    case measure =>
     have e9 := H9.out.rdr.blk.cell 1
     have e0 := HS.out.rdr.blk.cell 1
     rw [e9, e0]
     simp [intOf]
     omega
  have ht14 : ¬ t = 14 := fun e => hk2 (HKN.out.trans (kind_14.2 e))
  have hkf : (kn == 2) = false := by simpa using hk2
  have hc0 := yC H3.out.blk (u := .int .i64 (k1.parts : Int)) 0 rfl
  have hf0 := H3.out.blk.frozen 0
  obtain ⟨w6, hw6⟩ : ∃ w6, w5.setCell ⟨C, 0, none⟩ (.int .i64 ((k1.parts : Int) + 1)) = w6 := ⟨_, rfl⟩
  have H4 : Hid (SSt w B R c A l C q3 ⟨k1.parts + 1, k1.multis, k1.depth⟩ (.slice A1 Q.length c1) Q w6) := by
   unfold Hid
   rw [← hw6]
   exact H3.out.set_ 0 _ (by unfold Cnt.row; simp)
  have hd0 : w6.cell? ⟨C, 0, none⟩ = some (.int .i64 ((k1.parts : Int) + 1)) := by
   rw [yC H4.out.blk (u := .int .i64 ((k1.parts + 1 : Nat) : Int)) 0 rfl, Int.natCast_add]
   rfl
  have hd1 := yC H4.out.blk (u := .int .i64 (k1.multis : Int)) 1 rfl
  have HMO : Hid (k1.more t = ⟨k1.parts + 1, k1.multis, k1.depth⟩) := more_parts ht14
  have hmq : ¬ (1024 : Int) < k1.multis := by omega
  have HKF : Hid ((kindN t == 2) = false) := by unfold Hid; rw [← HKN.out]; exact hkf
  have HT14 := Hi ht14
  clear ht14
  by_cases hbm : (1024 : Int) < (k1.parts : Int) + 1
  · have HGE : Hid (gSubs n i k l p = .inr (3, q3)) := HG7.out.trans (pre_inr (by unfold itemR; rw [if_neg (by decide), HMO.out, if_pos (by unfold Cnt.big; dsimp only; rw [show decide (((k1.parts + 1 : Nat) : Int) > 1024) = true from decide_eq_true (by omega)]; simp)]; rfl))
    refine Hi ?_
    go_wp2_with (first
     | (go_at_call 83; refine (fail_any B R c _ A l 3 rfl _ H4.out.rdr).mono ?_; rintro e w3 ⟨rfl, he⟩; obtain rfl := he))
    exact ⟨rfl, RendX.no HGE.out H4.out.kp H4.out.rdr⟩
  have HBIG : Hid ((k1.more t).big t = false) := by unfold Hid; rw [HMO.out]; unfold Cnt.big; dsimp only; rw [HKF.out]; simp; omega
  have HK2 : Hid ((⟨k1.parts + 1, k1.multis, k1.depth⟩ : Cnt).Ok) := ⟨by dsimp only; omega, hkm, hkd⟩
  have HD8 : Hid (t = 14 → (⟨k1.parts + 1, k1.multis, k1.depth⟩ : Cnt).depth < 8) := fun e => absurd e HT14.out
  have HGI : Hid (gSubs n i k l p = pre (Q.map Prod.fst) (itemOf (gSubs m') i t k1 l q3)) := HG7.out.trans (by unfold itemR; rw [if_neg (by decide), HBIG.out, if_neg (by decide)])
  have hget := HGET.out m' (by omega) B R c q3 C A l t ⟨k1.parts + 1, k1.multis, k1.depth⟩ w6 HWF.out H4.out.rdr H4.out.blk H4.out.nR H4.out.nB HK2.out HD8.out (by have := H4.out.rdr.here; omega)
  rcases h1 : opWith (gSubs m') t ⟨k1.parts + 1, k1.multis, k1.depth⟩ l q3 with ⟨⟨x, k3⟩, q4⟩ | ⟨er, q4⟩
  rotate_left
  · rw [h1] at hget
    have HT := Hi hget
    have HGE : Hid (gSubs n i k l p = .inr (er, q4)) := HGI.out.trans (pre_itemno _ (by rw [HMO.out]; exact h1))
    clear hget h1
    refine Hi ?_
    go_wp2_with (first
     | (go_at_call 58; refine HT.out.mono ?_; rintro e w7 ⟨rfl, hkp7, hR7⟩; have HKP := Hi (H4.out.kp.trans hkp7); have HR := Hi hR7; clear hkp7 hR7))
    exact ⟨rfl, RendX.no HGE.out HKP.out HR.out⟩
  rw [h1] at hget
  have HT := Hi hget
  have HGN : Hid (gSubs n i k l p = pre ((Q ++ [(x, ([] : List Value))]).map Prod.fst) (gSubs m' i k3 l q4)) := HGI.out.trans (by rw [List.map_append]; exact pre_item _ (by rw [HMO.out]; exact h1))
  obtain ⟨f1, f2, f3, f4, f5, f6, _⟩ := op_forth (subs_forth m') h1 H4.out.rdr.here HK2.out HD8.out
  have hle4 : q3 ≤ q4 := f1.2.1
  have hq4l : q4 ≤ l.length := f1.2.2
  have HK3 : Hid (Q.length + 1 ≤ k3.parts + k3.multis ∧ k3.Ok ∧ k3.depth = k1.depth) := by
   have ha := after_more x k1
   rw [f2, HMO.out] at ha
   rw [ha] at f4
   have := one_count x
   refine ⟨?_, f5, ?_⟩
   · rw [f4]; dsimp only; omega
   · rw [f4]
  have HWV : Hid (∀ g, (Value.slice A1 Q.length c1).ownBlock = some g → g < w6.heap.size) := fun g hg => H4.out.fl.lt hg
  have hfl6 : w.heap.size ≤ w6.heap.size := H4.out.fl.bs
  clear hget h1 f1 f2 f3 f4 f5 f6 HG7 HGI
  refine Hi ?_
  go_wp2_with (first
   | (go_at_call 58
      refine HT.out.mono ?_
      rintro e w7 ⟨⟨v, rfl, hblk, hok, hdep, cs, rfl, hat⟩, hkp7, hR7⟩
      have H7 := Hi (H4.out.got hkp7 hR7 hblk)
      have HAT := Hi hat
      have hz7 : w6.heap.size ≤ w7.heap.size := hkp7.size
      have HRS : Hid ((Value.agg cs.toArray).cells.size = 19) := (by unfold Hid; show cs.toArray.size = 19; rw [zO, hat.len])
      clear hkp7 hR7 hblk hok hdep hat)
   | (refine wpList_build1 rfl 27 29 (.tmp 87) rfl (.agg cs.toArray) rfl 19 zU27 isz_29 zer_op (by decide) HRS.out ?_
      obtain ⟨w8, hw8⟩ := xa w7 (cs.toArray) 29
      have hc8 : (Value.agg cs.toArray).cells = cs.toArray := rfl
      rw [hc8, hw8]
      have hb8 := zV hw8
      have hn8 := zW hw8
      have H8 := Hi (H7.out.keep (Kp.of_below hb8))
      have HW8 : Hid (Win w8 w6.heap.size w8.heap.size x cs) := Win.new (HAT.out.later hb8)
      have HR8 : Hid (Reads w8 w8.heap.size 19 (some ⟨w7.heap.size, 0, none⟩) 1 cs) := ⟨(by rw [HAT.out.len]), fun _ => ⟨⟨w7.heap.size, 0, none⟩, rfl, hn8.lt, fun j u hj => (by rw [zN, Nat.zero_add, hn8.cell]; simpa using hj)⟩⟩
      have HO8 : Hid (∀ u ∈ cs, u.oneCell' = true) := fun v hv => (by
       have := HAT.out.one
       rw [zQ] at this
       exact this v (by simpa using hv))
      have HOW : Hid (w8.ownsRow w.heap.size 29 19 (.slice A1 Q.length c1) Q.length (Q.flatMap Prod.snd)) := H8.out.fl.own
      clear hw8 hc8 hb8 hn8)
   | (at_builtin
      refine wpList_append_any _ rfl (.tmp 83) (.tmp 88) _ rfl w.heap.size 29 i0 _ 19 296 zU27 hi0 hz0 hzi1 hzi2 rfl (by decide) (.slice A1 Q.length c1) Q.length (Q.flatMap Prod.snd) rfl HOW.out w8.heap.size (some ⟨w7.heap.size, 0, none⟩) 1 1 cs rfl HR8.out HO8.out (by unfold maxLen; omega) (by omega) H8.out.fl.bs ?_
      intro v9 w9 hown9 hg9 hat9
      obtain ⟨A9, c9, rfl⟩ := slice_form hown9
      have H9 : Hid (SSt w B R c A l C q4 k3 (.slice A9 (Q.length + 1) c9) (Q ++ [(x, cs)]) w9) := H8.out.push HW8.out hfl6 HWV.out hown9 hg9 hat9
      clear hown9 hg9 hat9))
  go_roundw
  case rel => exact ⟨m', q4, k3, A9, c9, Q ++ [(x, cs)], by rw [zG]; rfl, by omega, by omega, by rw [zG]; exact HK3.out.1, by unfold Hid; rw [List.map_append] at *; exact HGN.out, ⟨HK3.out.2.1, HK3.out.2.2.trans HK1.out.2⟩, by unfold Hid; rw [zG]; exact H9.out⟩
  case measure =>
   have e9 := H9.out.rdr.blk.cell 1
   have e0 := HS.out.rdr.blk.cell 1
   rw [e9, e0]
   simp [intOf]
   omega
theorem subs_all : ∀ n, SubsOk n := fun n => by
 induction n using Nat.strongRecOn with
 | ind n ih => exact subs_any n fun m hm => get_any m (ih m hm)
theorem get_all (n : Nat) : GetOk n := get_any n (subs_all n)

theorem get_allT (t : Int) (n : Nat) : GetT t n := fun B R c p C A l k w => get_all n B R c p C A l t k w
theorem opDecode_any (c n : Nat) (A : Option Addr) (l : List UInt8) (w : World) (hr : Reads w w.heap.size 1 A n (bcells l)) (hnc : n ≤ c) (hn : n ≤ 140737488355328) (hnil : A = none → c = 0) (hE : Env w) :
 Calls Tryd.prog 13 #[.slice A n c] w fun e w' => Decoded l w e w' := opDecode_of c n A l w (fun _ _ t _ _ _ => get_allT t _) hr hnc hn hnil hE

theorem req_back {z : Int} {x : OpC} (h : x.encE = 0) (hg : x.good) (hz : (Lit.int .i32 z).wf = true) (rest : List UInt8) : gReq (encB z x ++ rest) 0 = .inl ((z, x), (encB z x).length) := by
 obtain ⟨l, hl⟩ : ∃ l, l = encB z x ++ rest := ⟨_, rfl⟩
 have ha : Atb l 0 (encB z x) := by rw [hl]; exact (Atb.all _).left
 rw [← hl]
 unfold encB at ha ⊢
 obtain ⟨h1, h5⟩ := encE_parts h
 obtain ⟨a1, a2, a3, a4⟩ := rightE_parts h1
 have hwf : (Lit.int .i32 x.f.t).wf = true := by
  obtain ⟨f, S⟩ := x
  rw [OpC.good] at hg
  exact hg.1.t
 have e1 := wb_int hz l 0 ha.left.left
 have e2 := wb_int hwf l _ ha.left.right
 have hr := ha.right
 rw [zG, ← Nat.add_assoc] at hr
 have e3 := op_back x (l.length + 1) ⟨0, 1, 0⟩ l (0 + (bInt z).length + (bInt x.f.t).length) a1 hg h5 (fun ht => by
  obtain ⟨f, S⟩ := x
  have ht : f.t = 14 := ht
  rw [OpC.depth, if_pos ht] at a2
  rw [OpC.parts, if_pos ht] at a3
  rw [OpC.multis, if_pos ht] at a4
  show 0 + partsL S ≤ 1024 ∧ 1 + multisL S ≤ 1024 ∧ 0 + 1 + depthL S ≤ 8
  omega) hr (by omega)
 unfold gReq
 rw [gb_ev e1, gb_ev e2]
 unfold Rg.map gOp Rg.map
 rw [e3]
 simp only [zG, Nat.zero_add]
theorem dec_back {z : Int} {x : OpC} (h : x.encE = 0) (hg : x.good) (hz : (Lit.int .i32 z).wf = true) : decO (encB z x) = .inr (z, x) := by
 have := req_back h hg hz []
 rw [List.append_nil] at this
 exact decO_eq this rfl

theorem enc_len {z : Int} {x : OpC} (h : x.bulk ≤ 1048576) : (encB z x).length ≤ 6000000 := by
 have := x.putB_le
 unfold encB
 simp only [zG, bInt_len]
 omega
theorem ReqRow.ct {w w0 : World} {lo : Option Nat} {g : Nat} {z : Int} {x : OpC} {cs : List Value} (h : ReqRow w g z x cs) (ha : At w0 lo x cs) : w.cell? ⟨g, 1, none⟩ = some (.int .i32 x.f.t) := yC h.blk 1 (by have := ha.c0; simpa using this)
structure ReqFit (cq : Array Value) (cs : List Value) : Prop where
 size : 20 = cq.size
 zero : ((Tryd.prog.info? 31).bind (·.zero)).map (·.cells.size) = some cq.size
 info : (Tryd.prog.info? 31).map (·.size) = some cq.size
 one : cq.all (·.oneCell') = true
 op : (Tryd.prog.info? 29).map (·.size) = some cs.length
theorem ReqFit.mk' {w : World} {lo : Option Nat} {z : Int} {x : OpC} {cs : List Value} {cq : Array Value} (hcq : cq = (Value.int .i32 z :: cs).toArray) (hat : At w lo x cs) : ReqFit cq cs := by
 have hsz : 20 = cq.size := by rw [hcq, zO, zM, hat.len]
 refine ⟨hsz, by rw [← hsz]; kernel_rfl, by rw [← hsz]; exact req_size, ?_, by rw [hat.len]; exact isz_29⟩
 have := hat.one
 rw [zQ] at this ⊢
 intro v hv
 rw [hcq] at hv
 rcases zH.1 (by simpa using hv) with rfl | hv
 · rfl
 · exact this v (by simpa using hv)

theorem listed_lenO {R : List (OpC × List Value)} {x : OpC} (h : R.map Prod.fst = x.flatten) : R.length ≤ x.nodes := by
 have h1 : R.length = x.flatten.length := by rw [← h, List.length_map]
 have h2 := (OpC.counts_le x).1
 unfold OpC.flatten at h1
 split at h1
 · rw [zK] at h1; omega
 · have := OpC.flat_len x; omega
theorem wpList_bld {P : Program} {ops : Array Oper} {rest : List Oper} {o : Oper} {a : Act} {w : World} {Q : Exit → Act → World → Prop} (hg : o.guard = none) (t : TypeId) (parts : Array (Nat × Operand)) (ho : o.op = .build t parts) (v : Value)
 (hr : ∀ w, (Instr.build t (parts.map fun (i, x) => (i, a.eval x))).run P w = .ok v w) (h : wpList P ops Q rest (a.put o.dst v) w) : wpList P ops Q (o :: rest) a w :=
 wpList_plain hg fun _ hK => by
  unfold Oper.wp execOp
  simp only [ho, Sem.run_bind, hr, Result.andThen_ok]
  exact hK _ _ h
theorem list19O {α : Type} {c : List α} (hc : c.length = 19) : ∃ c0 c1 c2 c3 c4 c5 c6 c7 c8 c9 c10 c11 c12 c13 c14 c15 c16 c17 c18, c = [c0, c1, c2, c3, c4, c5, c6, c7, c8, c9, c10, c11, c12, c13, c14, c15, c16, c17, c18] := by
 match c, hc with
 | [c0, c1, c2, c3, c4, c5, c6, c7, c8, c9, c10, c11, c12, c13, c14, c15, c16, c17, c18], _ => exact ⟨_, _, _, _, _, _, _, _, _, _, _, _, _, _, _, _, _, _, _, rfl⟩
theorem run_build_own (c : List Value) (hc : c.length = 19) (w : World) : (Instr.build 31 #[(1, .agg c.toArray)]).run Tryd.prog w = .ok (.agg (Value.int .i32 0 :: c).toArray) w := by
 obtain ⟨c0, c1, c2, c3, c4, c5, c6, c7, c8, c9, c10, c11, c12, c13, c14, c15, c16, c17, c18, rfl⟩ := list19O hc
 clear hc
 kernel_rfl
theorem row_tail {w : World} {g : Nat} {t : TypeId} {z : Value} {cs : List Value} (h : Blk w g t (z :: cs).toArray) : ∀ j v, cs[j]? = some v → w.cell? ((⟨g, 1, none⟩ : Addr).add j) = some v := fun j v hv => by
 rw [zN, Nat.add_comm]
 exact yC h (j + 1) (by simpa using hv)
section
variable {w : World} {lo : Option Nat} {x : OpC} {cs : List Value} (h : At w lo x cs)
include h
theorem At.infoL : (Tryd.prog.info? 29).map (·.size) = some cs.length := by rw [h.len]; exact isz_29
theorem At.infoA : (Tryd.prog.info? 29).map (·.size) = some cs.toArray.size := by rw [zO, h.len]; exact isz_29
theorem At.zeroA : ((Tryd.prog.info? 29).bind (·.zero)).map (·.cells.size) = some cs.toArray.size := by rw [zO, h.len]; exact zer_op
theorem At.infoR (z : Int) : (Tryd.prog.info? 31).map (·.size) = some (Value.int .i32 z :: cs).toArray.size := by rw [zO, zM, h.len]; exact req_size
theorem At.zeroR (z : Int) : ((Tryd.prog.info? 31).bind (·.zero)).map (·.cells.size) = some (Value.int .i32 z :: cs).toArray.size := by rw [zO, zM, h.len]; kernel_rfl
theorem At.oneR (z : Int) : (Value.int .i32 z :: cs).toArray.all (·.oneCell') = true := by
 have h := h.one
 rw [zQ] at h ⊢
 intro v hv
 simp at hv
 rcases hv with rfl | hv
 · rfl
 · exact h v (by simpa using hv)
end

theorem ownsLaw_walk {w : World} {z : Int} {x : OpC} {xs : List Value} (h : At w none x xs) (hbulk : x.bulk ≤ 1048576) (E : Env w) :
 Calls Tryd.prog 6 #[.agg (Value.int .i32 z :: xs).toArray] w fun e w' => e = .returned (.bool true) ∧ Below w.heap.size w w' := by
 have HAL : Hid (∀ W, Below w.heap.size w W → Calls Tryd.prog 8 #[] W fun e w' => e = .returned (.bool true) ∧ Below W.heap.size W w') := fun W hW => alive_any W (E.below hW)
 have HGX : Hid (∀ W, Below w.heap.size w W → Calls Tryd.prog 9 #[.agg xs.toArray] W fun e w' => e = .returned (.bool (decide (3000 < x.cnt 0))) ∧ Below W.heap.size W w') := fun W hW => great_any h W hW
 have HXI : Hid ((Tryd.prog.info? 29).map (·.size) = some xs.length) := by unfold Hid; rw [h.len]; exact isz_29
 have hgood := h.good
 obtain ⟨w1, hw1⟩ : ∃ v, w.alloc (.cells (Value.int .i32 z :: xs).toArray 31) = v := ⟨_, rfl⟩
 have hb1 := newB hw1
 have hk1 := newK hw1
 have HB1 := Hi hb1
 have HQ : Hid (∀ W, Below w1.heap.size w1 W → Blk W w.heap.size 31 (Value.int .i32 z :: xs).toArray) := fun W hW => hk1.below hW hk1.lt
 have HE : Hid (∀ W, Below w.heap.size w W → Env W) := fun W hW => E.below hW
 by_cases hg : 3000 < x.cnt 0
 · rw [decide_eq_true hg] at HGX
   clear h E hgood hb1 hk1
   go_enter Tryd.func6, Tryd.ntmps6
   go_wp2_with (first
    | (go_at_call 8
       refine (HAL.out _ HB1.out).mono ?_
       rintro e w2 ⟨rfl, hb⟩
       have HB2 := hidT HB1 hb
       have HB12 := Hi hb
       clear hb)
    | (with_reducible refine wpAt 16 ?_
       refine wpList_load_at (by rfl) 29 (.tmp 15) rfl ⟨w.heap.size, 1, none⟩ rfl xs _ (row_tail (HQ.out _ HB12.out)) zU29 rfl HXI.out ?_)
    | (go_at_call 9
       refine (HGX.out _ HB2.out).mono ?_
       rintro e w3 ⟨rfl, hb⟩
       have HB3 := hidT HB2 hb
       have HB13 := hidT HB12 hb
       clear hb))
   go_ret
   exact ⟨rfl, HB3.out⟩
 have hnod : x.nodes ≤ 3000 := by
  have := OpC.nodes_cnt x 0 (by omega)
  omega
 rw [decide_eq_false hg] at HGX
 have HCR : Hid (∀ W, Below w.heap.size w W → Calls Tryd.prog 18 #[.agg xs.toArray] W (Cloned W x)) := fun W hW => refClone_any h W hW
 have HSM : Hid (∀ W c, At W none x c → Below w.heap.size w W → Calls Tryd.prog 14 #[.agg c.toArray, .agg xs.toArray] W fun e w' => e = .returned (.bool true) ∧ Below W.heap.size W w') := fun W c hc hW => by
  obtain ⟨b', h3, h4⟩ := same_any hc (h.later hW)
  obtain rfl : b' = true := h3.2 rfl
  exact h4 W zT
 have HBU : Hid (x.bulk ≤ 1000000000) := Nat.le_trans hbulk (by omega)
 have HEL : Hid ((encB 0 x).length ≤ 6000000) := enc_len (z := 0) hbulk
 have HNM : Hid (x.nodes ≤ 1000000) := Nat.le_trans hnod (by omega)
 obtain ⟨nn, hnn⟩ : ∃ n, n = x.nodes := ⟨_, rfl⟩
 have hn3 : nn ≤ 3000 := by rw [hnn]; exact hnod
 have HNN := Hi hnn
 have HGO := Hi hgood
 obtain ⟨i0, hi0, hz0, hzi1, hzi2⟩ := info_parts u8_info
 clear h E hgood hb1 hk1 hbulk hg hnod hnn
 go_enter Tryd.func6, Tryd.ntmps6
 go_wp2_with (first
  | (go_at_call 8
     refine (HAL.out _ HB1.out).mono ?_
     rintro e w2 ⟨rfl, hb⟩
     have HB2 := hidT HB1 hb
     have HB12 := Hi hb
     clear hb)
  | (with_reducible refine wpAt 16 ?_
     refine wpList_load_at (by rfl) 29 (.tmp 15) rfl ⟨w.heap.size, 1, none⟩ rfl xs _ (row_tail (HQ.out _ HB12.out)) zU29 rfl HXI.out ?_)
  | (go_at_call 9
     refine (HGX.out _ HB2.out).mono ?_
     rintro e w3 ⟨rfl, hb⟩
     have HB3 := hidT HB2 hb
     have HB13 := hidT HB12 hb
     clear hb)
  | (with_reducible refine wpAt 19 ?_
     refine wpList_load_at (by rfl) 29 (.tmp 18) rfl ⟨w.heap.size, 1, none⟩ rfl xs _ (row_tail (HQ.out _ HB13.out)) zU29 rfl HXI.out ?_)
  | (go_at_call 18
     refine (HCR.out _ HB3.out).mono ?_
     rintro e w4 ⟨cc, rfl, hcc, hb⟩
     have HB4 := hidT HB3 hb
     have HB14 := hidT HB13 hb
     have HC4 := Hi hcc
     clear hb hcc)
  | (with_reducible refine wpAt 3 ?_
     refine wpList_newrow rfl rfl 29 rfl 3 rfl (.tmp 20) rfl rfl cc.toArray (fun _ => rfl) (show 3 < 67 by decide) HC4.out.zeroA HC4.out.infoA HC4.out.one ?_
     obtain ⟨w5, hw5⟩ : ∃ v, w4.alloc (.cells cc.toArray 29) = v := ⟨_, rfl⟩
     rw [hw5]
     have HB5 := hidT HB4 (newB hw5)
     have HB15 := hidT HB14 (newB hw5)
     have HC5 : Hid (∀ W, Below w5.heap.size w5 W → At W none x cc) := (fun W hW => ((HC4.out.later (newB hw5)).later hW).any)
     have HK5 : Hid (∀ W, Below w5.heap.size w5 W → Blk W w4.heap.size 29 cc.toArray) := (fun W hW => (newK hw5).below hW (newK hw5).lt)
     clear hw5)
  | (with_reducible refine wpAt 21 ?_
     refine wpList_load_row rfl 29 (.tmp 3) rfl w4.heap.size rfl 29 _ _ _ (HK5.out _ zT) zU29 rfl HC4.out.infoA ?_)
  | (go_at_call 19
     refine (opClone_any (HC5.out _ zT) w5 zT).mono ?_
     rintro e w6 ⟨ca, rfl, hca, hb⟩
     have HB56 := Hi hb
     have HD6 := Hi hca
     clear hb hca)
  | (with_reducible refine wpAt 4 ?_
     refine wpList_newrow rfl rfl 29 rfl 4 rfl (.tmp 22) rfl rfl ca.toArray (fun _ => rfl) (show 4 < 67 by decide) HD6.out.zeroA HD6.out.infoA HD6.out.one ?_
     obtain ⟨w7, hw7⟩ : ∃ v, w6.alloc (.cells ca.toArray 29) = v := ⟨_, rfl⟩
     rw [hw7]
     have HB67 := Hi (newB hw7)
     have HK7 := Hi (newK hw7)
     clear hw7)
  | (with_reducible refine wpAt 23 ?_
     refine wpList_load_row rfl 29 (.tmp 4) rfl w6.heap.size rfl 29 _ _ _ HK7.out zU29 rfl HD6.out.infoA ?_)
  | (go_at_call 20
     refine (spoil_any HD6.out rfl HB56.out.size w7 ca (SplB.of_below HB67.out HB56.out.size) (LikeL.refl _)).mono ?_
     rintro e w8 ⟨rfl, hs⟩
     have HB58 : Hid (Below w5.heap.size w5 w8) := ((HB56.out.trans (HB67.out.mono HB56.out.size)).trans hs.below)
     clear hs)
  | (with_reducible refine wpAt 25 ?_
     refine wpList_load_row rfl 29 (.tmp 3) rfl w4.heap.size rfl 29 _ _ _ (HK5.out _ HB58.out) zU29 rfl HC4.out.infoA ?_)
  | (go_at_call 15
     refine (flatten_any (HC5.out _ HB58.out) (HE.out _ (HB5.out.trans (HB58.out.mono HB5.out.size))) HBU.out HNM.out).mono ?_
     rintro e w9 ⟨A, c, R, base, rfl, hR, hbase, hF, hb⟩
     have HB59 := hidT HB58 hb
     have HBA : Hid (w5.heap.size ≤ base) := (Nat.le_trans HB58.out.size hbase)
     have HF := Hi hF
     have hlR := listed_lenO hR
     clear hb hF hR hbase))
 rw [← HNN.out] at hlR
 have HSL : Hid (SlAt w9 (some base) 29 19 296 ⟨A, R.length, c⟩ R.length (R.flatMap Prod.snd)) := SlAt.of_own HF.out.own (by have := hlR; unfold reachBytes; omega)
 have HAT : Hid (∀ q ∈ R, At w9 (some base) q.1 q.2) := fun q hq => by
  obtain ⟨b, e, h1, h2, _⟩ := HF.out.win q hq
  exact h2.at_.lo rfl h1
 have HBS : Hid (base ≤ w9.heap.size) := HF.out.bs
 have hlim : R.length ≤ 3000 := Nat.le_trans hlR hn3
 clear hlR
 go_loopw [6] (fun v6 wr => ∃ k : Nat, k ≤ R.length ∧ v6 = .int .i64 (k : Int) ∧ SplB base w9 wr) (fun v6 _ => R.length - (intOf v6).toNat)
 case atStart => exact ⟨0, by omega, rfl, SplB.refl _ _⟩
 case round =>
  obtain ⟨k, hkn, rfl, hwr⟩ := hrel
  have HWR := Hi hwr
  by_cases hk : k < R.length
  · obtain ⟨g, cr, hA, hlr, hrc⟩ := spl_row HSL.out (fun q hq => (HAT.out q hq).len) hwr hk
    have hih := spoil_any (HAT.out _ (List.getElem_mem hk)) rfl HBS.out wr cr hwr hlr
    have HIK := Hi hih
    have HRC := Hi hrc
    have HCRR : Hid ((Tryd.prog.info? 29).map (·.size) = some cr.length) := by unfold Hid; rw [hlr.1, (HAT.out _ (List.getElem_mem hk)).len]; exact isz_29
    dsimp only at hA
    subst hA
    clear hlr hrc hih hwr
    go_wp2_with (first
     | ((with_reducible refine wpAt 36 ?_); refine wpList_load_at (by rfl) 29 (.tmp 35) rfl ⟨g, k * 19, none⟩ rfl cr _ HRC.out zU29 rfl HCRR.out ?_)
     | (go_at_call 20
        refine HIK.out.mono ?_
        rintro e ws ⟨rfl, h3⟩
        have HW5 : Hid (SplB base w9 ws) := HWR.out.trans h3
        clear h3))
    go_roundw
    case rel => exact ⟨k + 1, by omega, by go_num, HW5.out⟩
    case measure => simp [intOf]; omega
  · have hbr : Below w5.heap.size w9 wr := hwr.below.mono HBA.out
    have HB5R : Hid (Below w5.heap.size w5 wr) := HB59.out.trans hbr
    have HBR := hidT HB5 HB5R.out
    have HENC : Hid (∀ W, Below w5.heap.size w5 W → Below w.heap.size w W → Calls Tryd.prog 10 #[.agg (Value.int .i32 0 :: cc).toArray] W (Encoded W 0 x)) := fun W h1 h2 => encode_any 0 (HC5.out W h1) (HE.out W h2) HBU.out
    obtain ⟨ee, hee⟩ : ∃ n, n = x.encE := ⟨_, rfl⟩
    unfold Encoded at HENC
    rw [← hee] at HENC
    obtain ⟨l, hl⟩ : ∃ n, n = encB 0 x := ⟨_, rfl⟩
    obtain ⟨n, hn⟩ : ∃ n, n = l.length := ⟨_, rfl⟩
    have hnr : n ≤ 140737488355328 := by
     have := HEL.out
     rw [hn, hl]
     omega
    have hnm : n ≤ maxLen := by
     have := HEL.out
     rw [hn, hl]
     unfold maxLen
     omega
    rw [← hl, ← hn] at HENC
    by_cases he : ee = 0
    · have HDEC : Hid (decO l = .inr (0, x)) := by
       unfold Hid
       rw [hl]
       exact dec_back (by rw [← hee]; exact he) HGO.out rfl
      subst he
      clear hwr hbr hee hl hn
      go_wp2_with (first
       | (with_reducible refine wpAt 39 ?_
          refine wpList_load_row rfl 29 (.tmp 3) rfl w4.heap.size rfl 29 _ _ _ (HK5.out _ HB5R.out) zU29 rfl HC4.out.infoA ?_)
       | (with_reducible refine wpAt 40 ?_
          refine wpList_bld rfl 31 #[(1, .tmp 39)] rfl (.agg (Value.int .i32 0 :: cc).toArray) (fun W => by simp only [List.map_toArray, List.map_cons, List.map_nil]; exact run_build_own cc HC4.out.len W) ?_)
       | (go_at_call 10
          refine (HENC.out _ HB5R.out HBR.out).mono ?_
          rintro e w10 ⟨hb, hc⟩
          obtain ⟨_, eb, A2, c2, _, rfl, hown⟩ := hc.resolve_left (fun h => h.1 rfl)
          have HB10 := hidT HBR hb
          have HB50 := hidT HB5R hb
          have HO10 := Hi hown
          obtain ⟨w11, hw11⟩ : ∃ v, w10.alloc (.cells #[] 5) = v := ⟨_, rfl⟩
          have HB1011 := Hi (newB hw11)
          have HOW : Hid (w11.ownsRow w10.heap.size 5 1 (.slice (some ⟨w10.heap.size, 0, none⟩) 0 0) 0 []) := (by unfold Hid; rw [← hw11]; exact World.ownsRow_made w10 #[] 0 zR (by decide) rfl)
          clear hb hc hown)
       | (at_builtin
          refine wpList_append_any _ rfl (.tmp 46) (.tmp 47) _ rfl w10.heap.size 5 i0 _ 1 1 zU22 hi0 hz0 hzi1 hzi2 rfl (by decide) (.slice (some ⟨w10.heap.size, 0, none⟩) 0 0) 0 [] rfl HOW.out w10.heap.size A2 n c2 (bcells l) rfl ((Reads.of_own HO10.out).below HB1011.out) (bcells_one _) (by omega) (by omega) HB1011.out.size ?_
          intro v12 w12 ho2 hg2 hat2
          rw [Nat.zero_add, List.nil_append] at ho2
          obtain ⟨A3, c3, rfl⟩ := slice_form ho2
          have HO12 := Hi ho2
          have HB1012 : Hid (Below w10.heap.size w10 w12) := (HB1011.out.grown hg2 HB1011.out.size (fun k hk => by cases hk; exact Nat.le_refl _))
          have HB12' := hidT HB10 HB1012.out
          have HB512 := hidT HB50 HB1012.out
          clear ho2 hg2 hat2)
       | (go_at_call 13
          refine (opDecode_any c3 n A3 l w12 (Reads.of_own HO12.out) (own_capO HO12.out) (by omega) (fun h => (own_nil HO12.out h).2) (HE.out _ HB12'.out)).mono ?_
          rintro e w13 ⟨hb, hd⟩
          rw [HDEC.out] at hd
          obtain ⟨cd, rfl, hat⟩ := hd
          have HB1213 := Hi hb
          have HA13 := Hi hat
          clear hb hat)
       | (with_reducible refine wpAt 10 ?_
          refine wpList_newrow rfl rfl 31 rfl 10 rfl (.tmp 52) rfl rfl (Value.int .i32 0 :: cd).toArray (fun _ => rfl) (show 10 < 67 by decide) (HA13.out.zeroR 0) (HA13.out.infoR 0) (HA13.out.oneR 0) ?_
          obtain ⟨w14, hw14⟩ : ∃ v, w13.alloc (.cells (Value.int .i32 0 :: cd).toArray 31) = v := ⟨_, rfl⟩
          rw [hw14]
          have HB1314 := Hi (newB hw14)
          have HK14 := Hi (newK hw14)
          clear hw14)
       | (with_reducible refine wpAt 56 ?_
          refine wpList_load_at (by rfl) 29 (.tmp 55) rfl ⟨w13.heap.size, 1, none⟩ rfl cd _ (row_tail HK14.out) zU29 rfl HA13.out.infoL ?_)
       | (go_at_call 20
          refine (spoil_any HA13.out rfl HB1213.out.size w14 cd (SplB.of_below HB1314.out HB1213.out.size) (LikeL.refl _)).mono ?_
          rintro e w15 ⟨rfl, hs⟩
          have hb : Below w12.heap.size w12 w15 := ((HB1213.out.trans (HB1314.out.mono HB1213.out.size)).trans hs.below)
          have HB15' := hidT HB12' hb
          have HB5X := hidT HB512 hb
          have hcv1 := run_string_of_bytes (P := Tryd.prog) (w := w15) (src := 22) (e := 5) zU22 zU5 (Reads.of_own (own_below HO12.out hb)) (c := c3) 9 zU9
          have hcv2 := run_string_of_bytes (P := Tryd.prog) (w := w15) (src := 22) (e := 5) zU22 zU5 (Reads.of_own (own_below HO10.out (HB1012.out.trans (hb.mono HB1012.out.size)))) (c := c2) 9 zU9
          clear hs hb)
       | (with_reducible refine wpAt 63 ?_
          refine wpList_load_row rfl 29 (.tmp 3) rfl w4.heap.size rfl 29 _ _ _ (HK5.out _ HB5X.out) zU29 rfl HC4.out.infoA ?_)
       | (with_reducible refine wpAt 65 ?_
          refine wpList_load_at (by rfl) 29 (.tmp 64) rfl ⟨w.heap.size, 1, none⟩ rfl xs _ (row_tail (HQ.out _ (HB15.out.trans (HB5X.out.mono HB15.out.size)))) zU29 rfl HXI.out ?_)
       | (go_at_call 14
          refine (HSM.out _ cc (HC5.out _ HB5X.out) HB15'.out).mono ?_
          rintro e we ⟨rfl, hb⟩
          have HBE := hidT HB15' hb
          clear hb))
      go_ret
      exact ⟨rfl, HBE.out⟩
    · have heb : (ee == 0) = false := by simpa using he
      clear hwr hbr hee hl hn
      go_wp2_with (first
       | (with_reducible refine wpAt 39 ?_
          refine wpList_load_row rfl 29 (.tmp 3) rfl w4.heap.size rfl 29 _ _ _ (HK5.out _ HB5R.out) zU29 rfl HC4.out.infoA ?_)
       | (with_reducible refine wpAt 40 ?_
          refine wpList_bld rfl 31 #[(1, .tmp 39)] rfl (.agg (Value.int .i32 0 :: cc).toArray) (fun W => by simp only [List.map_toArray, List.map_cons, List.map_nil]; exact run_build_own cc HC4.out.len W) ?_)
       | (go_at_call 10
          refine (HENC.out _ HB5R.out HBR.out).mono ?_
          rintro e w10 ⟨hb, hc⟩
          obtain rfl := (hc.resolve_right (fun h => he h.1)).2
          have HB10 := hidT HBR hb
          have HB5X := hidT HB5R hb
          clear hb hc)
       | (with_reducible refine wpAt 63 ?_
          refine wpList_load_row rfl 29 (.tmp 3) rfl w4.heap.size rfl 29 _ _ _ (HK5.out _ HB5X.out) zU29 rfl HC4.out.infoA ?_)
       | (with_reducible refine wpAt 65 ?_
          refine wpList_load_at (by rfl) 29 (.tmp 64) rfl ⟨w.heap.size, 1, none⟩ rfl xs _ (row_tail (HQ.out _ (HB15.out.trans (HB5X.out.mono HB15.out.size)))) zU29 rfl HXI.out ?_)
       | (go_at_call 14
          refine (HSM.out _ cc (HC5.out _ HB5X.out) HB10.out).mono ?_
          rintro e we ⟨rfl, hb⟩
          have HBE := hidT HB10 hb
          clear hb))
      go_ret
      exact ⟨rfl, HBE.out⟩
section
open Go.ChangeShapes Go.WideShapes Go.ChangeAt Go.RowKit

section
variable {H : Type} {enc : TypeId × Value → H} {W : World} {base : Nat}
theorem rdd_of {P : Program} {v : Value} {d : DataW H} {p : List MemPlace} {t : TypeId} {ts : List TypeId} {ds : List (DataW H)} (j : Nat) (h : DataW.Trod enc P W 0 (fun _ => true) true t v d p)
 (hsz : (DataW.weightsEach P ts ds).all (· ≤ reachBytes) = true) (ht : ts[j]? = some t) (hd : ds[j]? = some d) : RdD enc P W t v.cells.toList d := by
 obtain ⟨fuel, hf⟩ := h
 exact ⟨fuel, _, hf, fun n hn => by simpa using List.all_eq_true.1 hsz _ (DataW.weights_mem_each ht hd n hn)⟩
theorem bulkAll_part {d : DataW H} {l : List (DataW H)} (h : d ∈ l) : Rows.uptoBulk d ≤ Rows.uptoBulkAll l := by
 induction l with
 | nil => cases h
 | cons x r ih =>
   simp only [Rows.uptoBulkAll]
   rcases zH.1 h with e | e
   · subst e; omega
   · have := ih e; omega
theorem agg_arg {t : TypeId} {fs : Array Field} (ht : Tryd.prog.underlying t = some (.struct fs)) {v : Value} (hv : Value.okWide Tryd.prog W .any base t v) {cs0 : List Value} (hcs : v.cells.toList = cs0) : v = .agg cs0.toArray := by
 obtain ⟨cs, rfl, _⟩ : ∃ cs, v = .agg cs ∧ True := by
  unfold Value.okWide at hv
  rw [ht] at hv
  obtain ⟨cs, h, _⟩ := hv
  exact ⟨cs, h, trivial⟩
 have : cs = cs0.toArray := Array.ext' (by simpa [Value.cells] using hcs)
 rw [this]
end
theorem env_laid {l : List (String × DataW Unit)} {W : World} (hlaid : laidMetH Tryd.prog l W) (hp : (l.all fun x => x.2.handleName?.isNone) = true) (m1 : ("unicode/utf8.first", Rows.laid_unicode_utf8_first) ∈ l) (m2 : ("unicode/utf8.acceptRanges", Rows.laid_unicode_utf8_acceptRanges) ∈ l) : Env W := env_of hlaid hp m1 m2
open Go.ChangeShapes Go.WideShapes Go.ChangeAt Go.RowKit

section
variable {H : Type} {enc : TypeId × Value → H} {W : World} {base : Nat}
theorem req_argO {v : Value} {d : DataW H} (hv : Value.okWide Tryd.prog W .any base 31 v) (h : RdD enc Tryd.prog W 31 v.cells.toList d) : ∃ (z : Int) (x : OpC) (xs : List Value), v = .agg (Value.int .i32 z :: xs).toArray ∧ (Lit.int .i32 z).wf = true ∧ At W none x xs ∧ x.bulk ≤ Rows.uptoBulk d := by
 obtain ⟨hl, ds, hds, hbu, hf⟩ := h.structU zU31
 rw [show Tryd.prog.cellsOf 31 = 20 by kernel_rfl] at hl
 obtain ⟨d0, d1, rfl⟩ : ∃ d0 d1, ds = [d0, d1] := by
  match ds, hds with
  | [d0, d1], _ => exact ⟨_, _, rfl⟩
 have h0 : RdD enc Tryd.prog W 21 ((v.cells.toList.drop 0).take (Tryd.prog.cellsOf 21)) d0 := (hf 0 _ _ rfl rfl).2
 have h1 : RdD enc Tryd.prog W 29 ((v.cells.toList.drop 1).take (Tryd.prog.cellsOf 29)) d1 := (hf 1 _ _ rfl rfl).2
 rw [show Tryd.prog.cellsOf 21 = 1 by kernel_rfl] at h0
 rw [show Tryd.prog.cellsOf 29 = 19 by kernel_rfl] at h1
 obtain ⟨cs, hcs⟩ : ∃ cs, cs = v.cells.toList := ⟨_, rfl⟩
 rw [← hcs] at hl h0 h1
 obtain ⟨c, r, rfl⟩ : ∃ c r, cs = c :: r := by
  match cs, hl with
  | c :: r, _ => exact ⟨_, _, rfl⟩
 obtain ⟨z, e0, w0⟩ := h0.rd.int zU21
 have e0 : c = .int .i32 z := by simpa using e0
 subst e0
 have hr : r.length = 19 := by simpa using hl
 have h1 : RdD enc Tryd.prog W 29 r d1 := by
  have : ((Value.int .i32 z :: r).drop 1).take 19 = r := by simp [List.take_of_length_le, hr]
  rwa [this] at h1
 obtain ⟨x, hx, hb⟩ := op_openN (SizeOf.sizeOf d1) d1 zR _ h1
 simp only [Rows.uptoBulkAll] at hbu
 exact ⟨z, x, r, agg_arg zU31 hv hcs.symm, w0, hx, by omega⟩
end
end
section
open Go.ChangeShapes Go.WideShapes Go.ChangeAt Go.RowKit

theorem opsOwn_walk {H : Type} (enc : TypeId × Value → H) (base : Nat) (W : World) (v0 : Value) (d0 : DataW H) (p0 : List MemPlace) (hv0 : Value.okWide Tryd.prog W .any base 31 v0) (h0 : DataW.Trod enc Tryd.prog W 0 (fun _ => true) true 31 v0 d0 p0)
 (hsz : (DataW.weightsEach Tryd.prog ([31] : List TypeId) ([d0] : List (DataW H))).all (· ≤ reachBytes) = true)
 (hk : Rows.uptoBulkAll ([d0] : List (DataW H)) ≤ 1048576) (hlaid : laidMetH Tryd.prog Rows.opsOwnUptoRow.laid W) :
 Calls Tryd.prog 6 #[v0] W fun e W' => e = .returned (.bool true) ∧ Below W.heap.size W W' := by
 obtain ⟨z, x, xs, rfl, hz, hx, hb⟩ := req_argO hv0 (rdd_of 0 h0 hsz rfl rfl)
 have e0 := bulkAll_part (d := d0) (l := [d0]) (by simp)
 exact ownsLaw_walk hx (by omega) (env_laid hlaid (by kernel_rfl) (by simp [Rows.opsOwnUptoRow]) (by simp [Rows.opsOwnUptoRow]))
end
end Go.Proofs.YtpjjnmdfgcfnmaaDoor
