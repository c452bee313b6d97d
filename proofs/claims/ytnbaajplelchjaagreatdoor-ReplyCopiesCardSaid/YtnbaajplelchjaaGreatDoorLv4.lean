/- What must come of one fixed reply: Decode of its bytes: the walks. (printed by gen_l4.py) -/
import Derived.Test.YtnbaajplelchjaaGreatDoorLv2
import Derived.Test.YtnbaajplelchjaaGreatDoorEv2b
set_option linter.unusedVariables false
set_option linter.unusedSimpArgs false
namespace Go.Proofs.YtnbaajplelchjaaGreatDoor
open Go.RowKit

theorem live_g1 : gInt liveB 0 = .inl (1, 4) := by kernel_rfl
theorem live_g2 : gLong liveB 4 = .inl (2, 12) := by kernel_rfl
theorem live_g3 : gInt liveB 12 = .inl (-101, 16) := by kernel_rfl

set_option maxRecDepth 100000 in
set_option maxHeartbeats 8000000 in
theorem decodeF_live (B : Nat → Prop) (R c nb : Nat) (A : Option Addr) (w : World) (h : Rdr w B R A c liveB 0) (hN : Blk w nb 35 #[.int .i32 0, .int .i64 0, .int .i32 0, .int .i32 0, .int .i32 0, .string ⟨#[]⟩, .int .i64 0, .int .i64 0, .int .i64 0, .int .i64 0, .int .i32 0, .int .i32 0, .int .i32 0, .int .i64 0, .int .i32 0, .int .i32 0, .int .i64 0, .slice none 0 0, .slice none 0 0, .slice none 0 0, .int .i32 0, .int .i64 0, .int .i32 0, .slice none 0 0, .slice none 0 0]) (nR : R ≠ nb) (nB : ¬ B nb) :
    Calls Tryz.prog 48 #[.pointer (some ⟨R, 0, none⟩), .pointer (some ⟨nb, 0, none⟩)] w fun e w' => Did B R c A liveB [nb] (fun W => Blk W nb 35 #[.int .i32 1, .int .i64 2, .int .i32 (-101), .int .i32 0, .int .i32 0, .string ⟨#[]⟩, .int .i64 0, .int .i64 0, .int .i64 0, .int .i64 0, .int .i32 0, .int .i32 0, .int .i32 0, .int .i64 0, .int .i32 0, .int .i32 0, .int .i64 0, .slice none 0 0, .slice none 0 0, .slice none 0 0, .int .i32 0, .int .i64 0, .int .i32 0, .slice none 0 0, .slice none 0 0]) (.inl 16) w e w' := by
  have h1 := rInt_any B R c 0 A liveB w h
  rw [live_g1] at h1
  have H1 := Lib.hid h1
  have HN := Lib.hid hN
  clear h h1 hN
  go_enter Tryz.func48, Tryz.ntmps48
  go_wp2_with (go_at_call 49; refine H1.out.mono ?_; rintro e w1 ⟨⟨v, rfl, rfl⟩, hk, hR⟩; have HK1 := Lib.hid hk; have HR1 := Lib.hid hR; have HN1 := Lib.hid (HN.out.kp hk (by simpa using nR.symm)); clear hk hR; refine Hid.out ?_)
  have h2 := rLong_any B R c 4 A liveB w1 HR1.out
  rw [live_g2] at h2
  have H2 := Lib.hid h2
  clear h2
  refine Lib.hid ?_
  go_wp2_with (go_at_call 50; refine H2.out.mono ?_; rintro e w2 ⟨⟨v, rfl, rfl⟩, hk, hR⟩; have HK2 := Lib.hid (HK1.out.trans hk); have HR2 := Lib.hid hR; have HN2 := Lib.hid (HN1.out.kp hk (by simpa using nR.symm)); clear hk hR; refine Hid.out ?_)
  have h3 := rInt_any B R c 12 A liveB w2 HR2.out
  rw [live_g3] at h3
  have H3 := Lib.hid h3
  clear h3
  refine Lib.hid ?_
  go_wp2_with (go_at_call 49; refine H3.out.mono ?_; rintro e w3 ⟨⟨v, rfl, rfl⟩, hk, hR⟩; have HK3 := Lib.hid (HK2.out.trans hk); have HR3 := Lib.hid hR; have HN3 := Lib.hid (HN2.out.kp hk (by simpa using nR.symm)); clear hk hR; refine Hid.out ?_)
  have b0 := HN3.out
  have k0 : w3.cell? ⟨nb, 0, none⟩ = some (.int .i32 0) := lit_cell b0 0 rfl
  have f0 := b0.frozen 0
  obtain ⟨w4, hw4⟩ : ∃ w4, w3.setCell ⟨nb, 0, none⟩ (.int .i32 1) = w4 := ⟨_, rfl⟩
  have b1 := b0.set_ 0 (.int .i32 1)
  have r1 := HR3.out.set nR nB 0 (.int .i32 1)
  have p1 := HK3.out.to (Kp.setCell ⟨nb, 0, none⟩ (.int .i32 1)) (Z := [R, nb]) (fun x hx _ => by simp at hx; simp [hx]) (fun x hx _ => by simp at hx; simp [hx])
  rw [hw4] at b1 r1 p1
  have k1 : w4.cell? ⟨nb, 1, none⟩ = some (.int .i64 0) := lit_cell b1 1 rfl
  have f1 := b1.frozen 1
  obtain ⟨w5, hw5⟩ : ∃ w5, w4.setCell ⟨nb, 1, none⟩ (.int .i64 2) = w5 := ⟨_, rfl⟩
  have b2 := b1.set_ 1 (.int .i64 2)
  have r2 := r1.set nR nB 1 (.int .i64 2)
  have p2 := p1.set_in (g := nb) (by simp) 1 (.int .i64 2)
  rw [hw5] at b2 r2 p2
  have k2 : w5.cell? ⟨nb, 2, none⟩ = some (.int .i32 0) := lit_cell b2 2 rfl
  have f2 := b2.frozen 2
  obtain ⟨w6, hw6⟩ : ∃ w6, w5.setCell ⟨nb, 2, none⟩ (.int .i32 (-101)) = w6 := ⟨_, rfl⟩
  have b3 := b2.set_ 2 (.int .i32 (-101))
  have r3 := r2.set nR nB 2 (.int .i32 (-101))
  have p3 := p2.set_in (g := nb) (by simp) 2 (.int .i32 (-101))
  rw [hw6] at b3 r3 p3
  have k3 : w6.cell? ⟨nb, 2, none⟩ = some (.int .i32 (-101)) := lit_cell b3 2 rfl
  have B3 := Lib.hid b3
  have R3 := Lib.hid r3
  have P3 := Lib.hid p3
  clear b0 b1 b2 b3 r1 r2 r3 p1 p2 p3 HK1 HK2 HK3 HR1 HR2 HR3 HN1 HN2 HN3 HN H1 H2 H3
  refine Lib.hid ?_
  go_wp2
  go_end0
  exact ⟨⟨_, rfl⟩, B3.out, P3.out, R3.out⟩

set_option maxRecDepth 100000 in
theorem liveF_enters (args : Array Value) (W : World) : (callFunc 48 args).run Tryz.prog W = .ok (.enter 48 args) W := by
  have hn : (Tryz.f48.name == "runtime.NumGoroutine") = false := by as_aux_lemma => kernel_rfl
  have hb : Tryz.f48.body.isNone = false := by as_aux_lemma => kernel_rfl
  have hn' : ¬ Tryz.f48.name = "runtime.NumGoroutine" := by simpa using hn
  have hb' : ¬ Tryz.f48.body = none := fun h => by rw [h] at hb; cases hb
  simp [callFunc, Tryz.func48, hn', hb']

theorem allLive_any (c nb b0 : Nat) (A : Option Addr) (w : World) (hr : Reads w b0 1 A 16 (bcells liveB)) (hnc : 16 ≤ c) (hnil : A = none → c = 0) (hE : Env w)
    (hb0 : b0 ≤ nb) (hg : 0 < b0 ∧ 1 < b0) (hN : Blk w nb 35 #[.int .i32 0, .int .i64 0, .int .i32 0, .int .i32 0, .int .i32 0, .string ⟨#[]⟩, .int .i64 0, .int .i64 0, .int .i64 0, .int .i64 0, .int .i32 0, .int .i32 0, .int .i32 0, .int .i64 0, .int .i32 0, .int .i32 0, .int .i64 0, .slice none 0 0, .slice none 0 0, .slice none 0 0, .int .i32 0, .int .i64 0, .int .i32 0, .slice none 0 0, .slice none 0 0]) :
    Calls Tryz.prog 47 #[.slice A 16 c, .func (.func 48) #[] #[.pointer (some ⟨nb, 0, none⟩)]] w fun e w' => e = .returned (.tuple #[.int .i64 16, .int .i64 0]) ∧ Kp [nb] w w' ∧ Blk w' nb 35 #[.int .i32 1, .int .i64 2, .int .i32 (-101), .int .i32 0, .int .i32 0, .string ⟨#[]⟩, .int .i64 0, .int .i64 0, .int .i64 0, .int .i64 0, .int .i32 0, .int .i32 0, .int .i32 0, .int .i64 0, .int .i32 0, .int .i32 0, .int .i64 0, .slice none 0 0, .slice none 0 0, .slice none 0 0, .int .i32 0, .int .i64 0, .int .i32 0, .slice none 0 0, .slice none 0 0] := by
  have hnl := hN.lt
  refine (all_any (fun x => x < b0) c 16 A liveB 48 #[] #[.pointer (some ⟨nb, 0, none⟩)] [nb] (fun W => Blk W nb 35 #[.int .i32 1, .int .i64 2, .int .i32 (-101), .int .i32 0, .int .i32 0, .string ⟨#[]⟩, .int .i64 0, .int .i64 0, .int .i64 0, .int .i64 0, .int .i32 0, .int .i32 0, .int .i32 0, .int .i64 0, .int .i32 0, .int .i32 0, .int .i64 0, .slice none 0 0, .slice none 0 0, .slice none 0 0, .int .i32 0, .int .i64 0, .int .i32 0, .slice none 0 0, .slice none 0 0]) (.inl 16) w (hr.more (by omega)) hnc (by omega) hnil (fun x hx => by omega) hE.tab hg
    (fun h ad e => by obtain ⟨ad', e', hb, _⟩ := hr.2 h; rw [e] at e'; cases e'; exact hb) (fun x hx => by simp at hx; omega) liveF_enters (fun W hk hz hR => ?_)).mono ?_
  · exact decodeF_live (fun x => x < b0) (w.heap.size + 1 + 1) c nb A W hR (hN.kp hk (by simp)) (by omega) (by omega)
  · rintro e w' ⟨rfl, hk, ⟨W', hP, hk2, _, hz⟩, _⟩
    refine ⟨by unfold rAllE rE rAt; rw [liveB_len]; rfl, hk, hP.kp hk2 (by simp; omega)⟩

set_option maxRecDepth 100000 in
set_option maxHeartbeats 8000000 in
theorem decode_live (c : Nat) (A : Option Addr) (w : World) (hr : Reads w w.heap.size 1 A 16 (bcells liveB)) (hnc : 16 ≤ c) (hnil : A = none → c = 0) (hE : Env w) :
    Calls Tryz.prog 17 #[.slice A 16 c] w fun e w' => e = .returned (.tuple #[.agg #[.int .i32 1, .int .i64 2, .int .i32 (-101), .int .i32 0, .int .i32 0, .string ⟨#[]⟩, .int .i64 0, .int .i64 0, .int .i64 0, .int .i64 0, .int .i32 0, .int .i32 0, .int .i32 0, .int .i64 0, .int .i32 0, .int .i32 0, .int .i64 0, .slice none 0 0, .slice none 0 0, .slice none 0 0, .int .i32 0, .int .i64 0, .int .i32 0, .slice none 0 0, .slice none 0 0], .int .i64 0, .int .i64 0]) ∧ Below w.heap.size w w' := by
  obtain ⟨w2, hw2⟩ : ∃ w2, (w.alloc (.cells #[.int .i32 0, .int .i64 0, .int .i32 0, .int .i32 0, .int .i32 0, .string ⟨#[]⟩, .int .i64 0, .int .i64 0, .int .i64 0, .int .i64 0, .int .i32 0, .int .i32 0, .int .i32 0, .int .i64 0, .int .i32 0, .int .i32 0, .int .i64 0, .slice none 0 0, .slice none 0 0, .slice none 0 0, .int .i32 0, .int .i64 0, .int .i32 0, .slice none 0 0, .slice none 0 0] 35)).alloc (.cells #[.int .i32 0, .int .i64 0, .int .i32 0, .int .i32 0, .int .i32 0, .string ⟨#[]⟩, .int .i64 0, .int .i64 0, .int .i64 0, .int .i64 0, .int .i32 0, .int .i32 0, .int .i32 0, .int .i64 0, .int .i32 0, .int .i32 0, .int .i64 0, .slice none 0 0, .slice none 0 0, .slice none 0 0, .int .i32 0, .int .i64 0, .int .i32 0, .slice none 0 0, .slice none 0 0] 35) = w2 := ⟨_, rfl⟩
  have hz2 : w2.heap.size = w.heap.size + 2 := by rw [← hw2]; simp
  have hb2 : Below w.heap.size w w2 := by rw [← hw2]; exact ((Below.refl _ _).alloc (Nat.le_refl _) _).alloc (by simp) _
  have br : Blk w2 w.heap.size 35 #[.int .i32 0, .int .i64 0, .int .i32 0, .int .i32 0, .int .i32 0, .string ⟨#[]⟩, .int .i64 0, .int .i64 0, .int .i64 0, .int .i64 0, .int .i32 0, .int .i32 0, .int .i32 0, .int .i64 0, .int .i32 0, .int .i32 0, .int .i64 0, .slice none 0 0, .slice none 0 0, .slice none 0 0, .int .i32 0, .int .i64 0, .int .i32 0, .slice none 0 0, .slice none 0 0] := by rw [← hw2]; exact (Blk.new _ _ _).alloc _
  have bn : Blk w2 (w.heap.size + 1) 35 #[.int .i32 0, .int .i64 0, .int .i32 0, .int .i32 0, .int .i32 0, .string ⟨#[]⟩, .int .i64 0, .int .i64 0, .int .i64 0, .int .i64 0, .int .i32 0, .int .i32 0, .int .i32 0, .int .i64 0, .int .i32 0, .int .i32 0, .int .i64 0, .slice none 0 0, .slice none 0 0, .slice none 0 0, .int .i32 0, .int .i64 0, .int .i32 0, .slice none 0 0, .slice none 0 0] := by rw [← hw2]; exact Blk.new' (by simp)
  have hA := allLive_any c (w.heap.size + 1) w.heap.size A w2 (hr.below hb2) hnc hnil (hE.below hb2) (by omega) ⟨hE.g1, hE.g2⟩ bn
  have HA := Lib.hid hA
  have HB2 := Lib.hid hb2
  have HR := Lib.hid br
  have hmf : ∀ (fn : Fn) (first cap : Array Value) (w : World), (Instr.makeFunc fn first cap).run Tryz.prog w = .ok (.func fn first cap) w := fun _ _ _ _ => rfl
  clear hE hb2 br bn hr hA
  go_enter Tryz.func17, Tryz.ntmps17
  go_wp2_with (first
    | (go_at_call 47
       refine HA.out.mono ?_
       rintro e w3 ⟨rfl, hk, hb⟩
       have hz3 := hk.size
       have hR3 := HR.out.kp hk (by simp)
       have hb3 : Below w.heap.size w w3 := HB2.out.trans (hk.below (by simp) (by omega))
       have HR3 := Lib.hid hR3
       have HB3 := Lib.hid hb3
       have HX := Lib.hid hb
       have HRT := Lib.hid (right_live w3)
       clear hk hR3 hb3 hb)
    | (refine wpList_load_row_g (by rfl) 35 (.tmp 5) rfl (w.heap.size + 1) rfl 35 _ _ _ HX4.out Tryz.underlying35 rfl (by rw [rep_size]; rfl) ?_)
    | (refine wpList_load_row_g (by rfl) 35 (.tmp 5) rfl (w.heap.size + 1) rfl 35 _ _ _ HX.out Tryz.underlying35 rfl (by rw [rep_size]; rfl) ?_)
    | (go_at_call 12
       refine HRT.out.mono ?_
       rintro e w4 ⟨rfl, hb⟩
       have HX4 := Lib.hid (HX.out.below hb (by have := HX.out.lt; omega))
       have HR4 := Lib.hid (HR3.out.below hb (by omega))
       have HB4 := Lib.hid (HB3.out.trans (hb.mono HB3.out.size))
       clear hb)
    | (refine wpList_store_row rfl 35 (.tmp 2) (.tmp 29) rfl w.heap.size #[.int .i32 1, .int .i64 2, .int .i32 (-101), .int .i32 0, .int .i32 0, .string ⟨#[]⟩, .int .i64 0, .int .i64 0, .int .i64 0, .int .i64 0, .int .i32 0, .int .i32 0, .int .i32 0, .int .i64 0, .int .i32 0, .int .i32 0, .int .i64 0, .slice none 0 0, .slice none 0 0, .slice none 0 0, .int .i32 0, .int .i64 0, .int .i32 0, .slice none 0 0, .slice none 0 0] rfl rfl 35 _ HR4.out (by rw [rep_size]; rfl) rfl (by simp [Value.oneCell']) ?_
       generalize hww : World.setRow _ _ _ = w5
       have HB5 : Hid (Below w.heap.size w w5) := by unfold Hid; rw [← hww]; exact below_setRow' HB4.out (Nat.le_refl _) _
       have HR5 : Hid (Blk w5 w.heap.size 35 #[.int .i32 1, .int .i64 2, .int .i32 (-101), .int .i32 0, .int .i32 0, .string ⟨#[]⟩, .int .i64 0, .int .i64 0, .int .i64 0, .int .i64 0, .int .i32 0, .int .i32 0, .int .i32 0, .int .i64 0, .int .i32 0, .int .i32 0, .int .i64 0, .slice none 0 0, .slice none 0 0, .slice none 0 0, .int .i32 0, .int .i64 0, .int .i32 0, .slice none 0 0, .slice none 0 0]) := by unfold Hid; rw [← hww]; exact cells_setRow HR4.out
       clear hww))
  refine bodyPost_ret (results_cell_tmp2 rfl _ _ w.heap.size 35 #[.int .i32 1, .int .i64 2, .int .i32 (-101), .int .i32 0, .int .i32 0, .string ⟨#[]⟩, .int .i64 0, .int .i64 0, .int .i64 0, .int .i64 0, .int .i32 0, .int .i32 0, .int .i32 0, .int .i64 0, .int .i32 0, .int .i32 0, .int .i64 0, .slice none 0 0, .slice none 0 0, .slice none 0 0, .int .i32 0, .int .i64 0, .int .i32 0, .slice none 0 0, .slice none 0 0] _ (.int .i64 0) (.int .i64 0) rfl rfl rfl HR5.out Tryz.underlying35 rfl (by rw [rep_size]; rfl)) rfl ?_
  exact ⟨rfl, HB5.out⟩
end Go.Proofs.YtnbaajplelchjaaGreatDoor
