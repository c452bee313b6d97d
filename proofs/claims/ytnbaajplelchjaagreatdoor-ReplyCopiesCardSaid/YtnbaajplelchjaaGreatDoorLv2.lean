/- What must come of one fixed reply: Right, Encode: the walks. (printed by gen_l2.py) -/
import Derived.Test.YtnbaajplelchjaaGreatDoorLv1
set_option linter.unusedVariables false
set_option linter.unusedSimpArgs false
namespace Go.Proofs.YtnbaajplelchjaaGreatDoor
open Go.RowKit

set_option maxRecDepth 100000 in
set_option maxHeartbeats 4000000 in
theorem right_live (w : World) : Calls Tryz.prog 12 #[.agg #[.int .i32 1, .int .i64 2, .int .i32 (-101), .int .i32 0, .int .i32 0, .string ⟨#[]⟩, .int .i64 0, .int .i64 0, .int .i64 0, .int .i64 0, .int .i32 0, .int .i32 0, .int .i32 0, .int .i64 0, .int .i32 0, .int .i32 0, .int .i64 0, .slice none 0 0, .slice none 0 0, .slice none 0 0, .int .i32 0, .int .i64 0, .int .i32 0, .slice none 0 0, .slice none 0 0]] w fun e w' => e = .returned (.int .i64 0) ∧ Below w.heap.size w w' := by
  obtain ⟨w1, hw1⟩ : ∃ w1, w.alloc (.cells #[.int .i32 1, .int .i64 2, .int .i32 (-101), .int .i32 0, .int .i32 0, .string ⟨#[]⟩, .int .i64 0, .int .i64 0, .int .i64 0, .int .i64 0, .int .i32 0, .int .i32 0, .int .i32 0, .int .i64 0, .int .i32 0, .int .i32 0, .int .i64 0, .slice none 0 0, .slice none 0 0, .slice none 0 0, .int .i32 0, .int .i64 0, .int .i32 0, .slice none 0 0, .slice none 0 0] 35) = w1 := ⟨_, rfl⟩
  have hb1 : Below w.heap.size w w1 := by rw [← hw1]; exact (Below.refl _ _).alloc (Nat.le_refl _) _
  have hS : Blk w1 w.heap.size 35 #[.int .i32 1, .int .i64 2, .int .i32 (-101), .int .i32 0, .int .i32 0, .string ⟨#[]⟩, .int .i64 0, .int .i64 0, .int .i64 0, .int .i64 0, .int .i32 0, .int .i32 0, .int .i32 0, .int .i64 0, .int .i32 0, .int .i32 0, .int .i64 0, .slice none 0 0, .slice none 0 0, .slice none 0 0, .int .i32 0, .int .i64 0, .int .i32 0, .slice none 0 0, .slice none 0 0] := by rw [← hw1]; exact Blk.new _ _ _
  have hz1 : w1.heap.size = w.heap.size + 1 := by rw [← hw1]; simp
  have hrow := blk_at hS 3 [.int .i32 0, .int .i32 0, .string ⟨#[]⟩, .int .i64 0, .int .i64 0, .int .i64 0, .int .i64 0, .int .i32 0, .int .i32 0, .int .i32 0, .int .i64 0, .int .i32 0, .int .i32 0, .int .i64 0, .slice none 0 0, .slice none 0 0, .slice none 0 0, .int .i32 0, .int .i64 0, .int .i32 0, .slice none 0 0, .slice none 0 0] (in_lit (cs := [.int .i32 1, .int .i64 2, .int .i32 (-101), .int .i32 0, .int .i32 0, .string ⟨#[]⟩, .int .i64 0, .int .i64 0, .int .i64 0, .int .i64 0, .int .i32 0, .int .i32 0, .int .i32 0, .int .i64 0, .int .i32 0, .int .i32 0, .int .i64 0, .slice none 0 0, .slice none 0 0, .slice none 0 0, .int .i32 0, .int .i64 0, .int .i32 0, .slice none 0 0, .slice none 0 0]) (r := []) 3 rfl)
  have HROW := Lib.hid hrow
  obtain ⟨w2, hw2⟩ : ∃ w2, w1.alloc (.cells #[.int .i32 0, .int .i32 0, .string ⟨#[]⟩, .int .i64 0, .int .i64 0, .int .i64 0, .int .i64 0, .int .i32 0, .int .i32 0, .int .i32 0, .int .i64 0, .int .i32 0, .int .i32 0, .int .i64 0, .slice none 0 0, .slice none 0 0, .slice none 0 0, .int .i32 0, .int .i64 0, .int .i32 0, .slice none 0 0, .slice none 0 0] 33) = w2 := ⟨_, rfl⟩
  have hz2 : w2.heap.size = w.heap.size + 2 := by rw [← hw2]; simp; omega
  have hb2 : Below w1.heap.size w1 w2 := by rw [← hw2]; exact (Below.refl _ _).alloc (Nat.le_refl _) _
  have HS2 : Hid (Blk w2 (w.heap.size + 1) 33 #[.int .i32 0, .int .i32 0, .string ⟨#[]⟩, .int .i64 0, .int .i64 0, .int .i64 0, .int .i64 0, .int .i32 0, .int .i32 0, .int .i32 0, .int .i64 0, .int .i32 0, .int .i32 0, .int .i64 0, .slice none 0 0, .slice none 0 0, .slice none 0 0, .int .i32 0, .int .i64 0, .int .i32 0, .slice none 0 0, .slice none 0 0]) := by unfold Hid; rw [← hw2]; exact Blk.new' (by omega)
  have HN2 := Lib.hid (hS.below hb2 (by omega))
  have HB2 := Lib.hid (hb1.trans (hb2.mono hb1.size))
  clear hb1 hS hrow hb2
  go_enter Tryz.func12, Tryz.ntmps12
  go_wp2_with (first
    | (refine wpList_load_at (by rfl) 33 (.tmp 10) rfl ⟨w.heap.size, 3, none⟩ rfl [.int .i32 0, .int .i32 0, .string ⟨#[]⟩, .int .i64 0, .int .i64 0, .int .i64 0, .int .i64 0, .int .i32 0, .int .i32 0, .int .i32 0, .int .i64 0, .int .i32 0, .int .i32 0, .int .i64 0, .slice none 0 0, .slice none 0 0, .slice none 0 0, .int .i32 0, .int .i64 0, .int .i32 0, .slice none 0 0, .slice none 0 0] _ HROW.out Tryz.underlying33 rfl res_size ?_)
    | (refine wpList_store_row rfl 33 (.tmp 3) (.tmp 11) rfl (w.heap.size + 1) #[.int .i32 0, .int .i32 0, .string ⟨#[]⟩, .int .i64 0, .int .i64 0, .int .i64 0, .int .i64 0, .int .i32 0, .int .i32 0, .int .i32 0, .int .i64 0, .int .i32 0, .int .i32 0, .int .i64 0, .slice none 0 0, .slice none 0 0, .slice none 0 0, .int .i32 0, .int .i64 0, .int .i32 0, .slice none 0 0, .slice none 0 0] rfl rfl 33 _ HS2.out (by rw [res_size]; rfl) rfl (by simp [Value.oneCell']) ?_
       generalize hww : World.setRow _ _ _ = w3
       have hb3 : Below w.heap.size w w3 := by rw [← hww]; exact below_setRow' HB2.out (by omega) _
       have HB3 := Lib.hid hb3
       have hS3 : Blk w3 (w.heap.size + 1) 33 #[.int .i32 0, .int .i32 0, .string ⟨#[]⟩, .int .i64 0, .int .i64 0, .int .i64 0, .int .i64 0, .int .i32 0, .int .i32 0, .int .i32 0, .int .i64 0, .int .i32 0, .int .i32 0, .int .i64 0, .slice none 0 0, .slice none 0 0, .slice none 0 0, .int .i32 0, .int .i64 0, .int .i32 0, .slice none 0 0, .slice none 0 0] := by rw [← hww]; exact cells_setRow HS2.out
       have hN3 : Blk w3 w.heap.size 35 #[.int .i32 1, .int .i64 2, .int .i32 (-101), .int .i32 0, .int .i32 0, .string ⟨#[]⟩, .int .i64 0, .int .i64 0, .int .i64 0, .int .i64 0, .int .i32 0, .int .i32 0, .int .i32 0, .int .i64 0, .int .i32 0, .int .i32 0, .int .i64 0, .slice none 0 0, .slice none 0 0, .slice none 0 0, .int .i32 0, .int .i64 0, .int .i32 0, .slice none 0 0, .slice none 0 0] := by rw [← hww]; exact (setRow_other w2 (w.heap.size + 1) w.heap.size _ (by omega)).trans HN2.out
       have HS3 := Lib.hid hS3
       have k2 : w3.cell? ⟨w.heap.size, 2, none⟩ = some (.int .i32 (-101)) := lit_cell hN3 2 rfl
       have s0 : w3.cell? ⟨w.heap.size + 1, 0, none⟩ = some (.int .i32 0) := lit_cell hS3 0 rfl
       have HEM := Lib.hid (empty_z w3)
       clear hww hS3 hN3 hb3)
    | (refine wpList_load_row_g (by rfl) 33 (.tmp 3) rfl (w.heap.size + 1) rfl 33 _ _ _ HS3.out Tryz.underlying33 rfl (by rw [res_size]; rfl) ?_)
    | (go_at_call 40
       refine HEM.out.mono ?_
       rintro e w4 ⟨rfl, hb⟩
       have HB4 := Lib.hid (HB3.out.trans (hb.mono HB3.out.size))
       clear hb))
  go_ret
  exact ⟨rfl, HB4.out⟩

/-- the fixed reply's bytes -/
def liveB : List UInt8 := bInt 1 ++ bLong 2 ++ bInt (-101)
theorem liveB_lit : bcells liveB = [.int .u8 0, .int .u8 0, .int .u8 0, .int .u8 1, .int .u8 0, .int .u8 0, .int .u8 0, .int .u8 0, .int .u8 0, .int .u8 0, .int .u8 0, .int .u8 2, .int .u8 255, .int .u8 255, .int .u8 255, .int .u8 155] := by kernel_rfl
theorem liveB_len : liveB.length = 16 := by kernel_rfl

set_option maxRecDepth 100000 in
set_option maxHeartbeats 4000000 in
theorem encode_live (w : World) : Calls Tryz.prog 9 #[.agg #[.int .i32 1, .int .i64 2, .int .i32 (-101), .int .i32 0, .int .i32 0, .string ⟨#[]⟩, .int .i64 0, .int .i64 0, .int .i64 0, .int .i64 0, .int .i32 0, .int .i32 0, .int .i32 0, .int .i64 0, .int .i32 0, .int .i32 0, .int .i64 0, .slice none 0 0, .slice none 0 0, .slice none 0 0, .int .i32 0, .int .i64 0, .int .i32 0, .slice none 0 0, .slice none 0 0]] w fun e w' => ∃ A c, e = .returned (.tuple #[.slice A 16 c, .int .i64 0]) ∧ w'.ownsRow w.heap.size 5 1 (.slice A 16 c) 16 (bcells liveB) ∧ Below w.heap.size w w' := by
  obtain ⟨w1, hw1⟩ : ∃ w1, w.alloc (.cells #[.int .i32 1, .int .i64 2, .int .i32 (-101), .int .i32 0, .int .i32 0, .string ⟨#[]⟩, .int .i64 0, .int .i64 0, .int .i64 0, .int .i64 0, .int .i32 0, .int .i32 0, .int .i32 0, .int .i64 0, .int .i32 0, .int .i32 0, .int .i64 0, .slice none 0 0, .slice none 0 0, .slice none 0 0, .int .i32 0, .int .i64 0, .int .i32 0, .slice none 0 0, .slice none 0 0] 35) = w1 := ⟨_, rfl⟩
  have hb1 : Below w.heap.size w w1 := by rw [← hw1]; exact (Below.refl _ _).alloc (Nat.le_refl _) _
  have hS : Blk w1 w.heap.size 35 #[.int .i32 1, .int .i64 2, .int .i32 (-101), .int .i32 0, .int .i32 0, .string ⟨#[]⟩, .int .i64 0, .int .i64 0, .int .i64 0, .int .i64 0, .int .i32 0, .int .i32 0, .int .i32 0, .int .i64 0, .int .i32 0, .int .i32 0, .int .i64 0, .slice none 0 0, .slice none 0 0, .slice none 0 0, .int .i32 0, .int .i64 0, .int .i32 0, .slice none 0 0, .slice none 0 0] := by rw [← hw1]; exact Blk.new _ _ _
  have hz1 : w1.heap.size = w.heap.size + 1 := by rw [← hw1]; simp
  have HB1 := Lib.hid hb1
  have HS := Lib.hid hS
  have HRT := Lib.hid (right_live w1)
  clear hb1 hS
  go_enter Tryz.func9, Tryz.ntmps9
  go_wp2_with (first
    | (refine wpList_load_row_g (by rfl) 35 (.tmp 1) rfl w.heap.size rfl 35 _ _ _ HS.out Tryz.underlying35 rfl (by rw [rep_size]; rfl) ?_)
    | (go_at_call 12; refine HRT.out.mono ?_; rintro e w2 ⟨rfl, hb⟩; have HB12 := Lib.hid hb; clear hb; refine Hid.out ?_))
  have hz2 := HB12.out.size
  obtain ⟨w3, hw3⟩ : ∃ w3, w2.alloc (.cells #[.slice none 0 0] 73) = w3 := ⟨_, rfl⟩
  have hb23 : Below w2.heap.size w2 w3 := by rw [← hw3]; exact (Below.refl _ _).alloc (Nat.le_refl _) _
  have HW3 : Hid (Wr w3 w2.heap.size w2.heap.size (.slice none 0 0) []) := ⟨by rw [← hw3]; exact Blk.new _ _ _, World.ownsRow_nil _ _ _ _⟩
  have hz3 : w3.heap.size = w2.heap.size + 1 := by rw [← hw3]; simp
  have HB13 : Hid (Below w1.heap.size w1 w3) := HB12.out.trans (hb23.mono hz2)
  have HS3 := Lib.hid (HS.out.below HB13.out (by omega))
  clear hb23
  have H3 : Hid (Wrote w2.heap.size w2.heap.size (.slice none 0 0) (.slice none 0 0) [] [] w3 w3) := Wrote.start HW3.out
  have HBL : ∀ W v k, Wrote w2.heap.size w2.heap.size (.slice none 0 0) v [] k w3 W → Below w.heap.size w W := fun _ _ _ h => HB1.out.trans ((HB13.out.trans ((h.below (B := w2.heap.size) (Nat.le_refl _) (fun x e => by simp [Value.ownBlock] at e) (by omega)).mono (by omega))).mono (by omega))
  have HBLH := Lib.hid HBL
  have c0 : w3.cell? ⟨w.heap.size, 0, none⟩ = some (.int .i32 1) := lit_cell HS3.out 0 rfl
  clear HBL
  refine Lib.hid ?_
  go_wp2_with (go_at_call 32; refine (wInt_any w2.heap.size w2.heap.size (.slice none 0 0) _ 1 w3 H3.out.1 (by omega) (by simp)).mono ?_; rintro e w4 ⟨rfl, v4, hp⟩; have hz4 := hp.size; have HS4 := Lib.hid (HS3.out.wrote H3.out.1 hp (by omega) (by decide)); have H4 := Lib.hid (H3.out.cat (Below.refl _ _) hp); have c1 : w4.cell? ⟨w.heap.size, 1, none⟩ = some (.int .i64 2) := lit_cell HS4.out 1 rfl; clear hp; refine Hid.out ?_)
  refine Lib.hid ?_
  go_wp2_with (go_at_call 33; refine (wLong_any w2.heap.size w2.heap.size v4 _ 2 w4 H4.out.1 (by omega) (by simp only [List.nil_append, List.append_nil, List.length_append, bInt_len, bLong_len, List.length_nil]; omega)).mono ?_; rintro e w5 ⟨rfl, v5, hp⟩; have hz5 := hp.size; have HS5 := Lib.hid (HS4.out.wrote H4.out.1 hp (by omega) (by decide)); have H5 := Lib.hid (H4.out.cat (Below.refl _ _) hp); have c2 : w5.cell? ⟨w.heap.size, 2, none⟩ = some (.int .i32 (-101)) := lit_cell HS5.out 2 rfl; clear hp; refine Hid.out ?_)
  refine Lib.hid ?_
  go_wp2_with (go_at_call 32; refine (wInt_any w2.heap.size w2.heap.size v5 _ (-101) w5 H5.out.1 (by omega) (by simp only [List.nil_append, List.append_nil, List.length_append, bInt_len, bLong_len, List.length_nil]; omega)).mono ?_; rintro e w6 ⟨rfl, v6, hp⟩; have hz6 := hp.size; have HS6 := Lib.hid (HS5.out.wrote H5.out.1 hp (by omega) (by decide)); have H6 := Lib.hid (H5.out.cat (Below.refl _ _) hp); have c2 : w6.cell? ⟨w.heap.size, 2, none⟩ = some (.int .i32 (-101)) := lit_cell HS6.out 2 rfl; clear hp; refine Hid.out ?_)
  refine Lib.hid ?_
  have HR : Hid (Wr w6 w2.heap.size w2.heap.size v6 liveB) := by
    have h := H6.out.1
    unfold Hid liveB
    simpa only [List.nil_append, List.append_assoc] using h
  have hbl := liveB_len
  have hrl := wLen_any w2.heap.size w2.heap.size v6 _ w6 HR.out
  have hrb := wBytes_any w2.heap.size w2.heap.size v6 _ w6 HR.out (by omega)
  rw [hbl] at hrl hrb
  have HRL := Lib.hid hrl
  have HRB := Lib.hid hrb
  clear hrb hrl
  have hb6 := HBLH.out _ _ _ H6.out
  have HB6 := Lib.hid hb6
  clear hb6
  go_wp2_with (first
    | (go_at_call 35; refine HRL.out.mono ?_; rintro e w7 ⟨rfl, rfl⟩)
    | (go_at_call 36; refine HRB.out.mono ?_; rintro e w11 ⟨A, c, rfl, ho, hb⟩; have HO := Lib.hid ho; have HB11 := Lib.hid hb; clear ho hb))
  go_ret2
  exact ⟨A, c, rfl, own_low HO.out HB6.out.size, HB6.out.trans (HB11.out.mono HB6.out.size)⟩
end Go.Proofs.YtnbaajplelchjaaGreatDoor
