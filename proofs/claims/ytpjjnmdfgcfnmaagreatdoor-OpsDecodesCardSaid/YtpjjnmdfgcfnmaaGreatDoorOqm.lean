/- ops.get of any type, by what ops.subs does. (printed by gen_p27.py) -/
import Derived.Test.YtpjjnmdfgcfnmaaGreatDoorOqp
import Derived.Test.YtpjjnmdfgcfnmaaGreatDoorOq25
import Derived.Test.YtpjjnmdfgcfnmaaGreatDoorOqg1
import Derived.Test.YtpjjnmdfgcfnmaaGreatDoorOqg2
import Derived.Test.YtpjjnmdfgcfnmaaGreatDoorOqg3
import Derived.Test.YtpjjnmdfgcfnmaaGreatDoorOqg4
set_option linter.unusedVariables false
set_option linter.unusedSimpArgs false
namespace Go.Proofs.YtpjjnmdfgcfnmaaGreatDoor
open Go.RowKit

set_option maxRecDepth 100000 in
set_option maxHeartbeats 8000000 in
theorem get_14 (n : Nat) (HSub : SubsOk n) (B : Nat → Prop) (R c p C : Nat) (A : Option Addr) (l : List UInt8) (k : Cnt) (w : World) (h : Rdr w B R A c l p) (hC : Blk w C 120 k.row) (hCR : C ≠ R) (hCB : ¬ B C) (hk : k.Ok) (hd : k.depth < 8) (hp : l.length - p < n) :
    Calls Tryz.prog 84 #[.pointer (some ⟨R, 0, none⟩), .int .i32 14, .pointer (some ⟨C, 0, none⟩)] w fun e w' => RendX [R, C] B R c A l (vGet w.heap.size C k.depth) (opWith (gSubs n) 14 k l p) w e w' := by
  obtain ⟨wa, hwa⟩ : ∃ wa, w.alloc (.cells #[.int .i32 0, .string ⟨#[]⟩, .slice none 0 0, .slice none 0 0, .int .i32 0, .int .i32 0, .bool false, .int .i64 0, .int .i64 0, .int .i64 0, .int .i64 0, .slice none 0 0, .slice none 0 0, .slice none 0 0, .slice none 0 0, .slice none 0 0, .int .i32 0, .slice none 0 0, .slice none 0 0] 29) = wa := ⟨_, rfl⟩
  have hza : wa.heap.size = w.heap.size + 1 := by rw [← hwa]; simp
  obtain ⟨w1, hw1⟩ : ∃ w1, wa.alloc (.cells ((zF 14).row nilS nilS nilS nilS nilS nilS nilS nilS nilS).toArray 29) = w1 := ⟨_, rfl⟩
  have h0 := GSt.start h (t := 14) rfl hwa hw1
  have hz1 : w1.heap.size = w.heap.size + 2 := by rw [← hw1]; simp [hza]
  have hba : Below w.heap.size w w1 := by
    have h1 : Below w.heap.size w wa := by rw [← hwa]; exact (Below.refl _ _).alloc (Nat.le_refl _) _
    have h2 : Below wa.heap.size wa w1 := by rw [← hw1]; exact (Below.refl _ _).alloc (Nat.le_refl _) _
    exact h1.trans (h2.mono h1.size)
  have hCl := hC.lt
  have hRl := h.lt
  have hC1 : Blk w1 C 120 k.row := hC.below hba hC.lt
  have HK : Hid (∀ W, Calls Tryz.prog 11 #[.int .i32 14] W fun e w' => e = .returned (.int .i64 2) ∧ w' = W) := fun W => by
    have h := kind_any 14 W
    rwa [show kindN 14 = 2 from by decide] at h
  have hop : opWith (gSubs n) 14 k l p = ((gSubs n 14 ⟨k.parts, k.multis, k.depth + 1⟩).map fun r => ((.mk (zF 14) r.1, ⟨r.2.parts, r.2.multis, r.2.depth - 1⟩) : OpC × Cnt)) l p := by
    unfold opWith
    rw [if_neg (by decide), if_pos rfl]
  have c2 : w1.cell? ⟨C, 2, none⟩ = some (.int .i64 (k.depth : Int)) := blk_cell hC1 2 rfl
  have f2 := hC1.frozen 2
  obtain ⟨w2, hw2⟩ : ∃ w2, w1.setCell ⟨C, 2, none⟩ (.int .i64 ((k.depth : Int) + 1)) = w2 := ⟨_, rfl⟩
  have hk2 : Kp [C] w1 w2 := by rw [← hw2]; exact Kp.setCell ⟨C, 2, none⟩ _
  have hC2 : Blk w2 C 120 (Cnt.row ⟨k.parts, k.multis, k.depth + 1⟩) := by
    rw [← hw2]
    have := hC1.set_ 2 (.int .i64 ((k.depth : Int) + 1))
    simpa [Cnt.row] using this
  have hR2 : Rdr w2 B R A c l p := h0.rdr.kp hk2 (by simpa using hCR.symm) (by simpa using hCB)
  have hz2 : w2.heap.size = w.heap.size + 2 := by rw [← hw2]; simpa using hz1
  have hs := HSub B R c p C A l 14 ⟨k.parts, k.multis, k.depth + 1⟩ w2 hR2 hC2 hCR hCB ⟨hk.parts, hk.multis, hd⟩ hp
  have HP2 : Hid (Blk w2 (w.heap.size + 1) 29 ((zF 14).row nilS nilS nilS nilS nilS nilS nilS nilS nilS).toArray) := h0.blk.kp hk2 (by simp; omega)
  have HZ2 : Hid (Blk w2 w.heap.size 29 #[.int .i32 0, .string ⟨#[]⟩, .slice none 0 0, .slice none 0 0, .int .i32 0, .int .i32 0, .bool false, .int .i64 0, .int .i64 0, .int .i64 0, .int .i64 0, .slice none 0 0, .slice none 0 0, .slice none 0 0, .slice none 0 0, .slice none 0 0, .int .i32 0, .slice none 0 0, .slice none 0 0]) := h0.res.kp hk2 (by simp; omega)
  have HK02 : Hid (Kp [R, C] w w2) := (Kp.of_below hba).trans (hk2.to (Kp.refl [] _) (fun x hx _ => by simp at hx; simp [hx]) (fun _ h => by cases h))
  have hdn : k.depth ≤ 8 := hk.depth
  have HOP := Lib.hid hop
  have HKO := Lib.hid hk
  clear h h0 hC hC1 hC2 hR2 hk2 hop hk HSub
  rcases h1 : gSubs n 14 ⟨k.parts, k.multis, k.depth + 1⟩ l p with ⟨⟨xs, k'⟩, q⟩ | ⟨er, q⟩
  rotate_left
  · rw [h1] at hs
    have HS := Lib.hid hs
    have HGE : Hid (opWith (gSubs n) 14 k l p = .inr (er, q)) := by unfold Hid; rw [HOP.out]; unfold Rg.map; rw [h1]
    clear hs h1
    go_enter Tryz.func84, Tryz.ntmps84
    go_wp2_with (first
      | ((with_reducible show wpList _ _ _ (Oper.mk (some 7) _ _ _ _ _ :: _) _ _)
         refine wpList_newrow rfl rfl 29 rfl 7 rfl (.tmp 11) rfl rfl ((zF 14).row nilS nilS nilS nilS nilS nilS nilS nilS nilS).toArray (fun _ => rfl) (show 7 < 160 by decide) zer_op isz_29 (row_one _ _ _ _ _ _ _ _ _ _) ?_
         rw [hw1])
      | (go_at_call 11; refine (HK.out _).mono ?_; rintro e w3 ⟨rfl, he⟩; obtain rfl := he.symm)
      | (go_at_call 121; refine HS.out.mono ?_; rintro e w3 ⟨rfl, hkp, hR⟩; have HN := Lib.hid hkp; have HR := Lib.hid hR; clear hkp hR))
    exact ⟨rfl, RendX.no HGE.out (HK02.out.trans HN.out) HR.out⟩
  rw [h1] at hs
  have HS := Lib.hid hs
  have HGE : Hid (opWith (gSubs n) 14 k l p = .inl ((.mk (zF 14) xs, ⟨k'.parts, k'.multis, k'.depth - 1⟩), q)) := by unfold Hid; rw [HOP.out]; unfold Rg.map; rw [h1]
  clear hs h1
  go_enter Tryz.func84, Tryz.ntmps84
  go_wp2_with (first
    | ((with_reducible show wpList _ _ _ (Oper.mk (some 7) _ _ _ _ _ :: _) _ _)
       refine wpList_newrow rfl rfl 29 rfl 7 rfl (.tmp 11) rfl rfl ((zF 14).row nilS nilS nilS nilS nilS nilS nilS nilS nilS).toArray (fun _ => rfl) (show 7 < 160 by decide) zer_op isz_29 (row_one _ _ _ _ _ _ _ _ _ _) ?_
       rw [hw1])
    | (go_at_call 11; refine (HK.out _).mono ?_; rintro e w3 ⟨rfl, he⟩; obtain rfl := he.symm)
    | (go_at_call 121; refine HS.out.mono ?_; rintro e w3 ⟨⟨v, rfl, hb3, hko, hdep, A', c', Q, b, hve, hQ, hq, hbb, hF⟩, hkp, hR⟩; subst hve; have HB3 := Lib.hid hb3; have HKO3 := Lib.hid hko; have HD3 := Lib.hid hdep; have HQ := Lib.hid hQ; have HF := Lib.hid hF; have HK3 := Lib.hid hkp; have HR3 := Lib.hid hR; clear hb3 hko hdep hQ hF hkp hR; refine Hid.out ?_))
  clear c2 f2 HS
  have hz3 := HK3.out.size
  have HP3 : Hid (Blk w3 (w.heap.size + 1) 29 ((zF 14).row nilS nilS nilS nilS nilS nilS nilS nilS nilS).toArray) := HP2.out.kp HK3.out (by simp; omega)
  have HZ3 : Hid (Blk w3 w.heap.size 29 #[.int .i32 0, .string ⟨#[]⟩, .slice none 0 0, .slice none 0 0, .int .i32 0, .int .i32 0, .bool false, .int .i64 0, .int .i64 0, .int .i64 0, .int .i64 0, .slice none 0 0, .slice none 0 0, .slice none 0 0, .slice none 0 0, .slice none 0 0, .int .i32 0, .slice none 0 0, .slice none 0 0]) := HZ2.out.kp HK3.out (by simp; omega)
  have c18 : w3.cell? ⟨w.heap.size + 1, 18, none⟩ = some (.slice none 0 0) := blk_cell HP3.out 18 rfl
  have f18 := HP3.out.frozen 18
  obtain ⟨w4, hw4⟩ : ∃ w4, w3.setCell ⟨w.heap.size + 1, 18, none⟩ (.slice A' Q.length c') = w4 := ⟨_, rfl⟩
  have hk4 : Kp [w.heap.size + 1] w3 w4 := by rw [← hw4]; exact Kp.setCell ⟨w.heap.size + 1, 18, none⟩ _
  have HP4 : Hid (Blk w4 (w.heap.size + 1) 29 ((zF 14).row nilS nilS nilS nilS nilS nilS nilS nilS ⟨A', Q.length, c'⟩).toArray) := by unfold Hid; rw [← hw4]; exact HP3.out.set_ 18 _
  have HZ4 : Hid (Blk w4 w.heap.size 29 #[.int .i32 0, .string ⟨#[]⟩, .slice none 0 0, .slice none 0 0, .int .i32 0, .int .i32 0, .bool false, .int .i64 0, .int .i64 0, .int .i64 0, .int .i64 0, .slice none 0 0, .slice none 0 0, .slice none 0 0, .slice none 0 0, .slice none 0 0, .int .i32 0, .slice none 0 0, .slice none 0 0]) := HZ3.out.kp hk4 (by simp)
  have hB4 : Blk w4 C 120 k'.row := HB3.out.kp hk4 (by simp; omega)
  have c42 : w4.cell? ⟨C, 2, none⟩ = some (.int .i64 (k'.depth : Int)) := blk_cell hB4 2 rfl
  have f42 := hB4.frozen 2
  have HK4 := Lib.hid hk4
  have hd3 := HD3.out
  try dsimp only at hd3
  rw [hd3] at c42
  obtain ⟨w5, hw5⟩ : ∃ w5, w4.setCell ⟨C, 2, none⟩ (.int .i64 (k.depth : Int)) = w5 := ⟨_, rfl⟩
  have hk5 : Kp [C] w4 w5 := by rw [← hw5]; exact Kp.setCell ⟨C, 2, none⟩ _
  have HB5 : Hid (Blk w5 C 120 (Cnt.row ⟨k'.parts, k'.multis, k'.depth - 1⟩)) := by
    unfold Hid
    rw [← hw5]
    have := hB4.set_ 2 (.int .i64 (k.depth : Int))
    simpa [Cnt.row, hd3] using this
  have HP : Hid (Blk w5 (w.heap.size + 1) 29 ((zF 14).row nilS nilS nilS nilS nilS nilS nilS nilS ⟨A', Q.length, c'⟩).toArray) := HP4.out.kp hk5 (by simp; omega)
  have HZ : Hid (Blk w5 w.heap.size 29 #[.int .i32 0, .string ⟨#[]⟩, .slice none 0 0, .slice none 0 0, .int .i32 0, .int .i32 0, .bool false, .int .i64 0, .int .i64 0, .int .i64 0, .int .i64 0, .slice none 0 0, .slice none 0 0, .slice none 0 0, .slice none 0 0, .slice none 0 0, .int .i32 0, .slice none 0 0, .slice none 0 0]) := HZ4.out.kp hk5 (by simp; omega)
  have HK5 := Lib.hid hk5
  have hadd : ((k.depth : Int) + 1 - 1) = (k.depth : Int) := by omega
  clear hk4 hB4 hk5 hd3
  refine Lib.hid ?_
  go_wp2_with (first
    | ((with_reducible show wpList _ _ _ (Oper.mk (some 54) _ _ _ _ _ :: _) _ _)
       refine wpList_load_row rfl 29 (.tmp 7) rfl (w.heap.size + 1) rfl 29 _ _ _ HP.out Tryz.underlying29 rfl isz_29 ?_)
    | ((with_reducible show wpList _ _ _ (Oper.mk none (.store _ (.tmp 6) _) _ _ _ _ :: _) _ _)
       refine wpList_store_row rfl 29 (.tmp 6) (.tmp 54) rfl w.heap.size ((zF 14).row nilS nilS nilS nilS nilS nilS nilS nilS ⟨A', Q.length, c'⟩).toArray rfl rfl 29 _ HZ.out isz_29 rfl (row_one _ _ _ _ _ _ _ _ _ _) ?_
       have hbz := cells_setRow (cs := ((zF 14).row nilS nilS nilS nilS nilS nilS nilS nilS ⟨A', Q.length, c'⟩).toArray) HZ.out
       have hkz : Kp [w.heap.size] _ _ := Kp.setRow (w := w5) w.heap.size ((zF 14).row nilS nilS nilS nilS nilS nilS nilS nilS ⟨A', Q.length, c'⟩).toArray
       generalize hww : World.setRow _ _ _ = wz at hkz hbz ⊢
       have HBZ := Lib.hid hbz
       have HKZ := Lib.hid hkz
       clear hww hkz hbz))
  refine bodyPost_ret (results_cell_row rfl _ _ w.heap.size 29 _ _ _ rfl HBZ.out Tryz.underlying29 rfl isz_29) rfl ?_
  have hz5 : w5.heap.size = w3.heap.size := by rw [← hw5, ← hw4]; simp
  have hkA : Kp [R, C] w w5 := ((HK02.out.trans HK3.out).to HK4.out (fun _ h _ => h) (fun y hy hl => by simp at hy; omega)).trans (HK5.out.to (Kp.refl [] _) (fun x hx _ => by simp at hx; simp [hx]) (fun _ h => by cases h))
  have hkB : Kp [R, C] w wz := hkA.to HKZ.out (fun _ h _ => h) (fun y hy hl => by simp at hy; omega)
  have hR5 : Rdr w5 B R A c l q := (HR3.out.kp HK4.out (by simp; omega) (fun x hx => HR3.out.new (by simp at hx; omega))).kp HK5.out (by simpa using hCR.symm) (by simpa using hCB)
  have hRz : Rdr wz B R A c l q := hR5.kp HKZ.out (by simp; omega) (fun x hx => HR3.out.new (by simp at hx; omega))
  have hFz := ((HF.out.kp HK4.out (by simp; omega)).kp HK5.out (by simp; omega)).kp HKZ.out (by simp; omega)
  have hFA := hFz.at_ (by unfold reachBytes; omega)
  have hAt : At wz (some b) (.mk (zF 14) (Q.map Prod.fst)) ((zF 14).row nilS nilS nilS nilS nilS nilS nilS nilS ⟨A', Q.length, c'⟩) := .mk (zF 14) nilS nilS nilS nilS nilS nilS nilS nilS ⟨A', Q.length, c'⟩ Q (zF_ok rfl) (SlAt.zero _ _ _ _ _) (SlAt.zero _ _ _ _ _) (SlAt.zero _ _ _ _ _) (SlAt.zero _ _ _ _ _) (SlAt.zero _ _ _ _ _) (SlAt.zero _ _ _ _ _) (SlAt.zero _ _ _ _ _) (SlAt.zero _ _ _ _ _) hFA.1 hFA.2
  rw [HQ.out] at hAt
  exact RendX.yes HGE.out ⟨HB5.out.kp HKZ.out (by simp; omega), ⟨HKO3.out.parts, HKO3.out.multis, by have := HKO3.out.depth; dsimp only; omega⟩, (by have := HD3.out; dsimp only at this ⊢; omega), _, rfl, hAt.lo rfl (by omega)⟩ hkB hRz

set_option maxRecDepth 100000 in
set_option maxHeartbeats 8000000 in
theorem get_22 (n : Nat) (HSub : SubsOk n) (B : Nat → Prop) (R c p C : Nat) (A : Option Addr) (l : List UInt8) (k : Cnt) (w : World) (h : Rdr w B R A c l p) (hC : Blk w C 120 k.row) (hCR : C ≠ R) (hCB : ¬ B C) (hk : k.Ok) (hp : l.length - p < n) :
    Calls Tryz.prog 84 #[.pointer (some ⟨R, 0, none⟩), .int .i32 22, .pointer (some ⟨C, 0, none⟩)] w fun e w' => RendX [R, C] B R c A l (vGet w.heap.size C k.depth) (opWith (gSubs n) 22 k l p) w e w' := by
  obtain ⟨wa, hwa⟩ : ∃ wa, w.alloc (.cells #[.int .i32 0, .string ⟨#[]⟩, .slice none 0 0, .slice none 0 0, .int .i32 0, .int .i32 0, .bool false, .int .i64 0, .int .i64 0, .int .i64 0, .int .i64 0, .slice none 0 0, .slice none 0 0, .slice none 0 0, .slice none 0 0, .slice none 0 0, .int .i32 0, .slice none 0 0, .slice none 0 0] 29) = wa := ⟨_, rfl⟩
  have hza : wa.heap.size = w.heap.size + 1 := by rw [← hwa]; simp
  obtain ⟨w1, hw1⟩ : ∃ w1, wa.alloc (.cells ((zF 22).row nilS nilS nilS nilS nilS nilS nilS nilS nilS).toArray 29) = w1 := ⟨_, rfl⟩
  have h0 := GSt.start h (t := 22) rfl hwa hw1
  have hz1 : w1.heap.size = w.heap.size + 2 := by rw [← hw1]; simp [hza]
  have hba : Below w.heap.size w w1 := by
    have h1 : Below w.heap.size w wa := by rw [← hwa]; exact (Below.refl _ _).alloc (Nat.le_refl _) _
    have h2 : Below wa.heap.size wa w1 := by rw [← hw1]; exact (Below.refl _ _).alloc (Nat.le_refl _) _
    exact h1.trans (h2.mono h1.size)
  have hCl := hC.lt
  have hRl := h.lt
  have hC1 : Blk w1 C 120 k.row := hC.below hba hC.lt
  have HK : Hid (∀ W, Calls Tryz.prog 11 #[.int .i32 22] W fun e w' => e = .returned (.int .i64 1) ∧ w' = W) := fun W => by
    have h := kind_any 22 W
    rwa [show kindN 22 = 1 from by decide] at h
  have hop : opWith (gSubs n) 22 k l p = ((gSubs n 22 ⟨0, 0, 0⟩).map fun r => ((.mk (zF 22) r.1, k) : OpC × Cnt)) l p := by
    unfold opWith
    rw [if_neg (by decide), if_neg (by decide), if_pos rfl]
  obtain ⟨w2, hw2⟩ : ∃ w2, w1.alloc (.cells #[.int .i64 0, .int .i64 0, .int .i64 0] 120) = w2 := ⟨_, rfl⟩
  have hb2 : Below w1.heap.size w1 w2 := by rw [← hw2]; exact (Below.refl _ _).alloc (Nat.le_refl _) _
  have hC2 : Blk w2 (w.heap.size + 2) 120 (Cnt.row ⟨0, 0, 0⟩) := by
    have : Blk w2 w1.heap.size 120 #[.int .i64 0, .int .i64 0, .int .i64 0] := by rw [← hw2]; exact Blk.new _ _ _
    rwa [hz1] at this
  have hR2 : Rdr w2 B R A c l p := h0.rdr.later hb2
  have hz2 : w2.heap.size = w.heap.size + 3 := by rw [← hw2]; simp [hz1]
  have hs := HSub B R c p (w.heap.size + 2) A l 22 ⟨0, 0, 0⟩ w2 hR2 hC2 (by omega) (h.new (by omega)) ⟨by decide, by decide, by decide⟩ hp
  have HP2 : Hid (Blk w2 (w.heap.size + 1) 29 ((zF 22).row nilS nilS nilS nilS nilS nilS nilS nilS nilS).toArray) := h0.blk.below hb2 h0.blk.lt
  have HZ2 : Hid (Blk w2 w.heap.size 29 #[.int .i32 0, .string ⟨#[]⟩, .slice none 0 0, .slice none 0 0, .int .i32 0, .int .i32 0, .bool false, .int .i64 0, .int .i64 0, .int .i64 0, .int .i64 0, .slice none 0 0, .slice none 0 0, .slice none 0 0, .slice none 0 0, .slice none 0 0, .int .i32 0, .slice none 0 0, .slice none 0 0]) := h0.res.below hb2 h0.res.lt
  have HC0 : Hid (Blk w2 C 120 k.row) := hC1.below hb2 hC1.lt
  have HK02 : Hid (Kp [R, C] w w2) := (Kp.of_below hba).later hb2
  have HOP := Lib.hid hop
  have HKO := Lib.hid hk
  clear h h0 hC hC1 hC2 hR2 hb2 hop hk HSub
  rcases h1 : gSubs n 22 ⟨0, 0, 0⟩ l p with ⟨⟨xs, k'⟩, q⟩ | ⟨er, q⟩
  rotate_left
  · rw [h1] at hs
    have HS := Lib.hid hs
    have HGE : Hid (opWith (gSubs n) 22 k l p = .inr (er, q)) := by unfold Hid; rw [HOP.out]; unfold Rg.map; rw [h1]
    clear hs h1
    go_enter Tryz.func84, Tryz.ntmps84
    go_wp2_with (first
      | ((with_reducible show wpList _ _ _ (Oper.mk (some 7) _ _ _ _ _ :: _) _ _)
         refine wpList_newrow rfl rfl 29 rfl 7 rfl (.tmp 11) rfl rfl ((zF 22).row nilS nilS nilS nilS nilS nilS nilS nilS nilS).toArray (fun _ => rfl) (show 7 < 160 by decide) zer_op isz_29 (row_one _ _ _ _ _ _ _ _ _ _) ?_
         rw [hw1])
      | (go_at_call 11; refine (HK.out _).mono ?_; rintro e w3 ⟨rfl, he⟩; obtain rfl := he.symm)
      | (go_at_call 121; refine HS.out.mono ?_; rintro e w3 ⟨rfl, hkp, hR⟩; have HN := Lib.hid hkp; have HR := Lib.hid hR; clear hkp hR))
    exact ⟨rfl, RendX.no HGE.out (HK02.out.to HN.out (fun _ h _ => h) (fun y hy hl => by simp at hy; rcases hy with rfl | rfl; simp; omega)) HR.out⟩
  rw [h1] at hs
  have HS := Lib.hid hs
  have HGE : Hid (opWith (gSubs n) 22 k l p = .inl ((.mk (zF 22) xs, k), q)) := by unfold Hid; rw [HOP.out]; unfold Rg.map; rw [h1]
  clear hs h1
  go_enter Tryz.func84, Tryz.ntmps84
  go_wp2_with (first
    | ((with_reducible show wpList _ _ _ (Oper.mk (some 7) _ _ _ _ _ :: _) _ _)
       refine wpList_newrow rfl rfl 29 rfl 7 rfl (.tmp 11) rfl rfl ((zF 22).row nilS nilS nilS nilS nilS nilS nilS nilS nilS).toArray (fun _ => rfl) (show 7 < 160 by decide) zer_op isz_29 (row_one _ _ _ _ _ _ _ _ _ _) ?_
       rw [hw1])
    | (go_at_call 11; refine (HK.out _).mono ?_; rintro e w3 ⟨rfl, he⟩; obtain rfl := he.symm)
    | (go_at_call 121; refine HS.out.mono ?_; rintro e w3 ⟨⟨v, rfl, hb3, hko, hdep, A', c', Q, b, hve, hQ, hq, hbb, hF⟩, hkp, hR⟩; subst hve; have HQ := Lib.hid hQ; have HF := Lib.hid hF; have HK3 := Lib.hid hkp; have HR3 := Lib.hid hR; clear hb3 hko hdep hQ hF hkp hR; refine Hid.out ?_))
  clear HS
  have hz3 := HK3.out.size
  have HP3 : Hid (Blk w3 (w.heap.size + 1) 29 ((zF 22).row nilS nilS nilS nilS nilS nilS nilS nilS nilS).toArray) := HP2.out.kp HK3.out (by simp; omega)
  have HZ3 : Hid (Blk w3 w.heap.size 29 #[.int .i32 0, .string ⟨#[]⟩, .slice none 0 0, .slice none 0 0, .int .i32 0, .int .i32 0, .bool false, .int .i64 0, .int .i64 0, .int .i64 0, .int .i64 0, .slice none 0 0, .slice none 0 0, .slice none 0 0, .slice none 0 0, .slice none 0 0, .int .i32 0, .slice none 0 0, .slice none 0 0]) := HZ2.out.kp HK3.out (by simp; omega)
  have HC3 : Hid (Blk w3 C 120 k.row) := HC0.out.kp HK3.out (by simp; omega)
  have c18 : w3.cell? ⟨w.heap.size + 1, 18, none⟩ = some (.slice none 0 0) := blk_cell HP3.out 18 rfl
  have f18 := HP3.out.frozen 18
  obtain ⟨w4, hw4⟩ : ∃ w4, w3.setCell ⟨w.heap.size + 1, 18, none⟩ (.slice A' Q.length c') = w4 := ⟨_, rfl⟩
  have hk4 : Kp [w.heap.size + 1] w3 w4 := by rw [← hw4]; exact Kp.setCell ⟨w.heap.size + 1, 18, none⟩ _
  have HP : Hid (Blk w4 (w.heap.size + 1) 29 ((zF 22).row nilS nilS nilS nilS nilS nilS nilS nilS ⟨A', Q.length, c'⟩).toArray) := by unfold Hid; rw [← hw4]; exact HP3.out.set_ 18 _
  have HZ : Hid (Blk w4 w.heap.size 29 #[.int .i32 0, .string ⟨#[]⟩, .slice none 0 0, .slice none 0 0, .int .i32 0, .int .i32 0, .bool false, .int .i64 0, .int .i64 0, .int .i64 0, .int .i64 0, .slice none 0 0, .slice none 0 0, .slice none 0 0, .slice none 0 0, .slice none 0 0, .int .i32 0, .slice none 0 0, .slice none 0 0]) := HZ3.out.kp hk4 (by simp)
  have HC4 : Hid (Blk w4 C 120 k.row) := HC3.out.kp hk4 (by simp; omega)
  have HK4 := Lib.hid hk4
  clear hk4
  refine Lib.hid ?_
  go_wp2_with (first
    | ((with_reducible show wpList _ _ _ (Oper.mk (some 63) _ _ _ _ _ :: _) _ _)
       refine wpList_load_row rfl 29 (.tmp 7) rfl (w.heap.size + 1) rfl 29 _ _ _ HP.out Tryz.underlying29 rfl isz_29 ?_)
    | ((with_reducible show wpList _ _ _ (Oper.mk none (.store _ (.tmp 6) _) _ _ _ _ :: _) _ _)
       refine wpList_store_row rfl 29 (.tmp 6) (.tmp 63) rfl w.heap.size ((zF 22).row nilS nilS nilS nilS nilS nilS nilS nilS ⟨A', Q.length, c'⟩).toArray rfl rfl 29 _ HZ.out isz_29 rfl (row_one _ _ _ _ _ _ _ _ _ _) ?_
       have hbz := cells_setRow (cs := ((zF 22).row nilS nilS nilS nilS nilS nilS nilS nilS ⟨A', Q.length, c'⟩).toArray) HZ.out
       have hkz : Kp [w.heap.size] _ _ := Kp.setRow (w := w4) w.heap.size ((zF 22).row nilS nilS nilS nilS nilS nilS nilS nilS ⟨A', Q.length, c'⟩).toArray
       generalize hww : World.setRow _ _ _ = wz at hkz hbz ⊢
       have HBZ := Lib.hid hbz
       have HKZ := Lib.hid hkz
       clear hww hkz hbz))
  refine bodyPost_ret (results_cell_row rfl _ _ w.heap.size 29 _ _ _ rfl HBZ.out Tryz.underlying29 rfl isz_29) rfl ?_
  have hz4 : w4.heap.size = w3.heap.size := by rw [← hw4]; simp
  have hkA : Kp [R, C] w w4 := (HK02.out.to HK3.out (fun _ h _ => h) (fun y hy hl => by simp at hy; rcases hy with rfl | rfl; simp; omega)).to HK4.out (fun _ h _ => h) (fun y hy hl => by simp at hy; omega)
  have hkB : Kp [R, C] w wz := hkA.to HKZ.out (fun _ h _ => h) (fun y hy hl => by simp at hy; omega)
  have hR4 : Rdr w4 B R A c l q := HR3.out.kp HK4.out (by simp; omega) (fun x hx => HR3.out.new (by simp at hx; omega))
  have hRz : Rdr wz B R A c l q := hR4.kp HKZ.out (by simp; omega) (fun x hx => HR3.out.new (by simp at hx; omega))
  have hFz := (HF.out.kp HK4.out (by simp; omega)).kp HKZ.out (by simp; omega)
  have hFA := hFz.at_ (by unfold reachBytes; omega)
  have hAt : At wz (some b) (.mk (zF 22) (Q.map Prod.fst)) ((zF 22).row nilS nilS nilS nilS nilS nilS nilS nilS ⟨A', Q.length, c'⟩) := .mk (zF 22) nilS nilS nilS nilS nilS nilS nilS nilS ⟨A', Q.length, c'⟩ Q (zF_ok rfl) (SlAt.zero _ _ _ _ _) (SlAt.zero _ _ _ _ _) (SlAt.zero _ _ _ _ _) (SlAt.zero _ _ _ _ _) (SlAt.zero _ _ _ _ _) (SlAt.zero _ _ _ _ _) (SlAt.zero _ _ _ _ _) (SlAt.zero _ _ _ _ _) hFA.1 hFA.2
  rw [HQ.out] at hAt
  exact RendX.yes HGE.out ⟨HC4.out.kp HKZ.out (by simp; omega), HKO.out, rfl, _, rfl, hAt.lo rfl (by omega)⟩ hkB hRz

end Go.Proofs.YtpjjnmdfgcfnmaaGreatDoor
/- ops.get of any type, by what ops.subs does. (printed by gen_p28.py) -/
namespace Go.Proofs.YtpjjnmdfgcfnmaaGreatDoor
open Go.RowKit

set_option maxRecDepth 100000 in
set_option maxHeartbeats 4000000 in
theorem get_any (n : Nat) (HSub : SubsOk n) : GetOk n := fun B R c p C A l t k w ht h hC hCR hCB hk hd hp => by
  by_cases hb : kindN t = 0 ∨ kindN t = 5
  · have hop : opWith (gSubs n) t k l p = .inr (110, p) := by unfold opWith; rw [if_pos hb]; rfl
    rw [hop]
    refine (get_bad B R c p A l w _ t hb ht h).mono fun e w' h => ?_
    obtain ⟨rfl, hkp, hR⟩ := h
    exact ⟨rfl, hkp.mono (fun x hx _ => by simp at hx; simp [hx]), hR⟩
  have htt := kind_types (fun e => hb (.inl e))
  simp only [ownTypes, List.mem_cons, List.not_mem_nil, or_false] at htt
  rcases htt with rfl | rfl | rfl | rfl | rfl | rfl | rfl | rfl | rfl | rfl | rfl | rfl | rfl | rfl | rfl | rfl | rfl | rfl | rfl | rfl | rfl | rfl | rfl | rfl | rfl | rfl | rfl | rfl
  · exact getX_of (get_g0 1 (by decide) B R c p A l w _ h) (opWith_fld (by decide) (by decide)) hC hCR hk
  · exact getX_of (get_g0 15 (by decide) B R c p A l w _ h) (opWith_fld (by decide) (by decide)) hC hCR hk
  · exact getX_of (get_g0 19 (by decide) B R c p A l w _ h) (opWith_fld (by decide) (by decide)) hC hCR hk
  · exact getX_of (get_g1 21 (by decide) B R c p A l w _ h) (opWith_fld (by decide) (by decide)) hC hCR hk
  · exact getX_of (get_g2 2 (by decide) B R c p A l w _ h) (opWith_fld (by decide) (by decide)) hC hCR hk
  · exact getX_of (get_g2 13 (by decide) B R c p A l w _ h) (opWith_fld (by decide) (by decide)) hC hCR hk
  · exact getX_of (get_g3 5 (by decide) B R c p A l w _ h) (opWith_fld (by decide) (by decide)) hC hCR hk
  · exact getX_of (get_g4 7 (by decide) B R c p A l w _ h) (opWith_fld (by decide) (by decide)) hC hCR hk
  · exact getX_of (get_g5 120 (by decide) B R c p A l w _ h) (opWith_fld (by decide) (by decide)) hC hCR hk
  · exact getX_of (get_g6 121 (by decide) B R c p A l w _ h) (opWith_fld (by decide) (by decide)) hC hCR hk
  · exact get_14 n HSub B R c p C A l k w h hC hCR hCB hk (hd rfl) hp
  · exact getX_of (get_g9 (-10) (by decide) B R c p A l w _ h) (opWith_fld (by decide) (by decide)) hC hCR hk
  · exact getX_of (get_g10 (-11) (by decide) B R c p A l w _ h) (opWith_fld (by decide) (by decide)) hC hCR hk
  · exact absurd (Or.inr (by decide)) hb
  · exact getX_of (get_g7 3 (by decide) B R c p A l w _ h) (opWith_fld (by decide) (by decide)) hC hCR hk
  · exact getX_of (get_g7 4 (by decide) B R c p A l w _ h) (opWith_fld (by decide) (by decide)) hC hCR hk
  · exact getX_of (get_g7 8 (by decide) B R c p A l w _ h) (opWith_fld (by decide) (by decide)) hC hCR hk
  · exact getX_of (get_g7 12 (by decide) B R c p A l w _ h) (opWith_fld (by decide) (by decide)) hC hCR hk
  · exact getX_of (get_g6 6 (by decide) B R c p A l w _ h) (opWith_fld (by decide) (by decide)) hC hCR hk
  · exact getX_of (get_g6 9 (by decide) B R c p A l w _ h) (opWith_fld (by decide) (by decide)) hC hCR hk
  · exact getX_of (get_g6 103 (by decide) B R c p A l w _ h) (opWith_fld (by decide) (by decide)) hC hCR hk
  · exact getX_of (get_g6 104 (by decide) B R c p A l w _ h) (opWith_fld (by decide) (by decide)) hC hCR hk
  · exact getX_of (get_g8 106 (by decide) B R c p A l w _ h) (opWith_fld (by decide) (by decide)) hC hCR hk
  · exact getX_of (get_g10 11 (by decide) B R c p A l w _ h) (opWith_fld (by decide) (by decide)) hC hCR hk
  · exact getX_of (get_g8 18 (by decide) B R c p A l w _ h) (opWith_fld (by decide) (by decide)) hC hCR hk
  · exact get_22 n HSub B R c p C A l k w h hC hCR hCB hk hp
  · exact getX_of (get_101 B R c p A l w _ h) (by unfold opWith; rw [if_neg (by decide), if_neg (by decide), if_neg (by decide), if_pos rfl]) hC hCR hk
  · exact getX_of (get_g10 107 (by decide) B R c p A l w _ h) (opWith_fld (by decide) (by decide)) hC hCR hk
end Go.Proofs.YtpjjnmdfgcfnmaaGreatDoor
