/- What must come at any rate: the walk of live. (printed by gen_l5.py) -/
import Derived.Test.YtnbaajplelchjaaGreatDoorLv3
import Derived.Test.YtnbaajplelchjaaGreatDoorLv4
import Derived.Deep.QuietTactic
import Derived.BigQuiet
set_option linter.unusedVariables false
set_option linter.unusedSimpArgs false
namespace Go.Proofs.YtnbaajplelchjaaGreatDoor
open Go.RowKit

theorem reads_byte {w : World} {B n k : Nat} {A : Option Addr} {l : List UInt8} (h : Reads w B 1 A n (bcells l)) (hk : k < l.length) : ∃ ad, A = some ad ∧ w.cell? (ad.add k) = some (.int .u8 (l[k].toNat : Int)) := by
  have hl : l.length = n := by have := h.1; rw [bcells_length] at this; omega
  obtain ⟨ad, u, e, _, hu, hc⟩ := h.at_ (k := k) (by omega)
  rw [bcells_get, List.getElem?_eq_getElem hk] at hu
  simp at hu
  subst hu
  exact ⟨ad, e, hc⟩
set_option maxRecDepth 100000 in
set_option maxHeartbeats 400000 in
theorem same_true (A A' : Option Addr) (n c c' B B' : Nat) (l : List UInt8) (w : World) (h : Reads w B 1 A n (bcells l)) (h' : Reads w B' 1 A' n (bcells l)) (hn : n ≤ 9223372036854775807) :
    Calls Tryz.prog 14 #[.slice A n c, .slice A' n c'] w fun e w' => e = .returned (.bool true) ∧ Below w.heap.size w w' := by
  have hl : l.length = n := by have := h.1; rw [bcells_length] at this; omega
  subst hl
  have H := Lib.hid h
  have H' := Lib.hid h'
  clear h h'
  go_enter Tryz.func14, Tryz.ntmps14
  go_wp2
  go_loopw [5] (fun i wr => ∃ k m : Nat, k ≤ l.length ∧ i = .int .i64 k ∧ wr = w.drewN m) (fun i _ => l.length - (intOf i).toNat)
  case atStart => exact ⟨0, 0, Nat.zero_le _, rfl, rfl⟩
  case round =>
    obtain ⟨k, m, hk, rfl, rfl⟩ := hrel
    by_cases hlt : k < l.length
    · obtain ⟨ad, rfl, hc⟩ := reads_byte H.out hlt
      obtain ⟨ad', rfl, hc'⟩ := reads_byte H'.out hlt
      have hi : (k : Int) < (l.length : Int) := by omega
      have h0 : (0 : Int) ≤ (k : Int) := by omega
      go_wp2
      go_quiet (fail)
      go_wp2
      go_roundw
      case rel => exact ⟨k + 1, _, by omega, by go_num, rfl⟩
      case measure => simp [intOf]; omega
    · go_wp2
      go_ret
      exact ⟨rfl, below_drewN' (Below.refl _ _) m⟩
set_option maxRecDepth 100000 in
theorem name_live (w : World) : Calls Tryz.prog 29 #[.int .i32 (-110)] w fun e w' => e = .returned (.string ⟨#[78, 79, 68, 69, 69, 88, 73, 83, 84, 83]⟩) ∧ w = w' := by
  go_enter Tryz.func29, Tryz.ntmps29
  go_wp2
  go_ret
  exact ⟨rfl, rfl⟩

set_option maxRecDepth 100000 in
set_option maxHeartbeats 16000000 in
theorem live_any (w : World) (hE : Env w) : Calls Tryz.prog 16 #[] w fun e w' => e = .returned (.bool true) ∧ Below w.heap.size w w' := by
  have HE := Lib.hid hE
  clear hE
  go_enter Tryz.func16, Tryz.ntmps16
  go_wp2_with (first
    | (refine wpList_store_row rfl 35 (.tmp 1) (.tmp 7) rfl w.heap.size #[.int .i32 1, .int .i64 2, .int .i32 (-101), .int .i32 0, .int .i32 0, .string ⟨#[]⟩, .int .i64 0, .int .i64 0, .int .i64 0, .int .i64 0, .int .i32 0, .int .i32 0, .int .i32 0, .int .i64 0, .int .i32 0, .int .i32 0, .int .i64 0, .slice none 0 0, .slice none 0 0, .slice none 0 0, .int .i32 0, .int .i64 0, .int .i32 0, .slice none 0 0, .slice none 0 0] rfl rfl 35 _ (Blk.new _ _ _) (by rw [rep_size]; rfl) rfl (by simp [Value.oneCell']) ?_
       generalize hww : World.setRow _ _ _ = w1
       have hb : Below w.heap.size w w1 := by rw [← hww]; exact below_setRow' (by go_grown) (Nat.le_refl _) _
       have HN1 : Hid (Blk w1 w.heap.size 35 #[.int .i32 1, .int .i64 2, .int .i32 (-101), .int .i32 0, .int .i32 0, .string ⟨#[]⟩, .int .i64 0, .int .i64 0, .int .i64 0, .int .i64 0, .int .i32 0, .int .i32 0, .int .i32 0, .int .i64 0, .int .i32 0, .int .i32 0, .int .i64 0, .slice none 0 0, .slice none 0 0, .slice none 0 0, .int .i32 0, .int .i64 0, .int .i32 0, .slice none 0 0, .slice none 0 0]) := by unfold Hid; rw [← hww]; exact cells_setRow (Blk.new _ _ _)
       have HB1 := Lib.hid hb
       have hz1 := hb.size
       have HEN := Lib.hid (encode_live w1)
       clear hb hww)
    | (refine wpList_load_row_g (by rfl) 35 (.tmp 1) rfl w.heap.size rfl 35 _ _ _ HN1.out Tryz.underlying35 rfl (by rw [rep_size]; rfl) ?_)
    | (go_at_call 9
       refine HEN.out.mono ?_
       rintro e w2 ⟨BA, bc, rfl, ho, hb⟩
       have HN2 := Lib.hid (HN1.out.below hb HN1.out.lt)
       have HB2 := Lib.hid (HB1.out.trans (hb.mono HB1.out.size))
       have HG2 := Lib.hid (Got.of_own ho)
       have HDC := Lib.hid (decode_live bc BA w2 (Reads.of_own ho) (own_cap ho) (fun h => (own_nil ho h).2) (HE.out.below HB2.out))
       have hz2 := hb.size
       clear hb ho HN1 HEN)
    | (go_at_call 17
       refine HDC.out.mono ?_
       rintro e w3 ⟨rfl, hb⟩
       have HN3 := Lib.hid (HN2.out.below hb HN2.out.lt)
       have HB3 := Lib.hid (HB2.out.trans (hb.mono HB2.out.size))
       have HG3 := Lib.hid (HG2.out.later hb)
       have hz3 := hb.size
       clear hb HN2 HG2)
    | (refine wpList_store_row rfl 35 (.tmp 4) (.tmp 16) rfl w3.heap.size #[.int .i32 1, .int .i64 2, .int .i32 (-101), .int .i32 0, .int .i32 0, .string ⟨#[]⟩, .int .i64 0, .int .i64 0, .int .i64 0, .int .i64 0, .int .i32 0, .int .i32 0, .int .i32 0, .int .i64 0, .int .i32 0, .int .i32 0, .int .i64 0, .slice none 0 0, .slice none 0 0, .slice none 0 0, .int .i32 0, .int .i64 0, .int .i32 0, .slice none 0 0, .slice none 0 0] rfl rfl 35 _ (Blk.new _ _ _) (by rw [rep_size]; rfl) rfl (by simp [Value.oneCell']) ?_
       generalize hww : World.setRow _ _ _ = w4
       have hb : Below w3.heap.size w3 w4 := by rw [← hww]; exact below_setRow' (by go_grown) (Nat.le_refl _) _
       have HX4 : Hid (Blk w4 w3.heap.size 35 #[.int .i32 1, .int .i64 2, .int .i32 (-101), .int .i32 0, .int .i32 0, .string ⟨#[]⟩, .int .i64 0, .int .i64 0, .int .i64 0, .int .i64 0, .int .i32 0, .int .i32 0, .int .i32 0, .int .i64 0, .int .i32 0, .int .i32 0, .int .i64 0, .slice none 0 0, .slice none 0 0, .slice none 0 0, .int .i32 0, .int .i64 0, .int .i32 0, .slice none 0 0, .slice none 0 0]) := by unfold Hid; rw [← hww]; exact cells_setRow (Blk.new _ _ _)
       have HN4 := Lib.hid (HN3.out.below hb HN3.out.lt)
       have HB4 := Lib.hid (HB3.out.trans (hb.mono HB3.out.size))
       have HG4 := Lib.hid (HG3.out.later hb)
       have hz4 := hb.size
       clear hb hww HN3 HG3)
    | (go_at_call 11
       refine (no_any _ _).mono ?_
       rintro e wz ⟨rfl, rfl⟩)
    | (go_at_call 14
       refine Hid.out ?_))
  obtain ⟨w5, hw5⟩ : ∃ w5, w4.alloc (.cells [.int .u8 0, .int .u8 0, .int .u8 0, .int .u8 1, .int .u8 0, .int .u8 0, .int .u8 0, .int .u8 0, .int .u8 0, .int .u8 0, .int .u8 0, .int .u8 2, .int .u8 255, .int .u8 255, .int .u8 255, .int .u8 155].toArray 5) = w5 := ⟨_, rfl⟩
  have hb5 : Below w4.heap.size w4 w5 := by rw [← hw5]; exact (Below.refl _ _).alloc (Nat.le_refl _) _
  have hr5 : Reads w5 (w4.heap.size + 1) 1 (some ⟨w4.heap.size, 0, none⟩) 16 (bcells liveB) := by rw [liveB_lit, ← hw5]; exact reads_litf w4 5 (0, 0) [.int .u8 0, .int .u8 0, .int .u8 0, .int .u8 1, .int .u8 0, .int .u8 0, .int .u8 0, .int .u8 0, .int .u8 0, .int .u8 0, .int .u8 0, .int .u8 2, .int .u8 255, .int .u8 255, .int .u8 255, .int .u8 155]
  have HN5 := Lib.hid (HN4.out.below hb5 HN4.out.lt)
  have HX5 := Lib.hid (HX4.out.below hb5 HX4.out.lt)
  have HB5 := Lib.hid (HB4.out.trans (hb5.mono HB4.out.size))
  have hsm := same_true BA (some ⟨w4.heap.size, 0, none⟩) 16 bc 16 _ _ liveB w5 (HG4.out.later hb5).1 hr5 (by omega)
  have HSM := Lib.hid hsm
  clear hb5 hr5 hsm
  rw [hw5]
  refine Lib.hid ?_
  go_wp2_with (first
    | (go_at_call 14
       refine HSM.out.mono ?_
       rintro e w6 ⟨rfl, hb⟩
       have HN6 := Lib.hid (HN5.out.below hb HN5.out.lt)
       have HX6 := Lib.hid (HX5.out.below hb HX5.out.lt)
       have HB6 := Lib.hid (HB5.out.trans (hb.mono HB5.out.size))
       clear hb)
    | (refine wpList_load_row_g (by rfl) 35 (.tmp 4) rfl w3.heap.size rfl 35 _ _ _ HX6.out Tryz.underlying35 rfl (by rw [rep_size]; rfl) ?_)
    | (refine wpList_load_row_g (by rfl) 35 (.tmp 1) rfl w.heap.size rfl 35 _ _ _ HN6.out Tryz.underlying35 rfl (by rw [rep_size]; rfl) ?_)
    | (go_at_call 15
       refine (refSame_live _).mono ?_
       rintro e w7 ⟨rfl, hb⟩
       have HB7 := Lib.hid (HB6.out.trans (hb.mono HB6.out.size))
       clear hb)
    | (go_at_call 11
       refine (no_any _ _).mono ?_
       rintro e wz ⟨rfl, rfl⟩)
    | (go_at_call 29
       refine (name_live _).mono ?_
       rintro e wz ⟨rfl, rfl⟩))
  go_ret
  exact ⟨rfl, HB7.out⟩
end Go.Proofs.YtnbaajplelchjaaGreatDoor
