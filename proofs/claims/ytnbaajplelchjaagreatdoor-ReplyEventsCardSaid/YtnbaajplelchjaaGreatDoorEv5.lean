/- The law ReplyEvents: the walk, by what its calls come to. (printed by gen_v5.py) -/
import Derived.Test.YtnbaajplelchjaaGreatDoorLv5
import Derived.Test.YtnbaajplelchjaaGreatDoorEv4
import Derived.Test.YtnbaajplelchjaaGreatDoorVu
set_option linter.unusedVariables false
set_option linter.unusedSimpArgs false
namespace Go.Proofs.YtnbaajplelchjaaGreatDoor
open Go.RowKit

theorem ev_ne (s k : Int) (p : ByteArray) (w : World) : (binOp .neq 55 (.agg #[.int .i64 s, .int .i32 k, .string p]) (.agg #[.int .i64 s, .int .i32 k, .string p])).run Tryz.prog w = .ok (.bool false) w := by
  simp [go_sem]

theorem got_same {w : World} {A C : Option Addr} {n m c d : Nat} {l : List UInt8} (h : Got w A n c l) (h' : Got w C m d l) (hl : l.length ≤ 140737488355328) :
    Calls Tryz.prog 14 #[.slice A n c, .slice C m d] w fun e w' => e = .returned (.bool true) ∧ Below w.heap.size w w' := by
  have h1 : l.length = n := by have := h.1.1; rw [bcells_length] at this; omega
  have h2 : l.length = m := by have := h'.1.1; rw [bcells_length] at this; omega
  subst h1
  subst h2
  exact same_true A C _ c d _ _ l w h.1 h'.1 (by omega)

set_option maxRecDepth 100000 in
set_option maxHeartbeats 16000000 in
theorem events00 (w : World) (s k : Int) (p : ByteArray) (s' k' : Int) (p' : ByteArray) (q : Int) (bA : Option Addr) (bn bc : Nat) (l : List UInt8) (eb : List UInt8)
    (HCE : Hid (∀ W, Below w.heap.size w W → Calls Tryz.prog 19 #[.agg #[.int .i64 s, .int .i32 k, .string p]] W fun e w' => (∃ A n c, e = .returned (.tuple #[.slice A n c, .int .i64 0]) ∧ Got w' A n c eb) ∧ Below W.heap.size W w'))
    (HCR : Hid (∀ W, Below w.heap.size w W → Calls Tryz.prog 20 #[.agg #[.int .i64 s, .int .i32 k, .string p]] W fun e w' => (∃ A n c, e = .returned (.tuple #[.slice A n c, .int .i64 0]) ∧ Got w' A n c eb) ∧ Below W.heap.size W w'))
    (HLV : Hid (∀ W, Below w.heap.size w W → Calls Tryz.prog 16 #[] W fun e w' => e = .returned (.bool true) ∧ Below W.heap.size W w'))
    (HD : Hid (∀ W, Below w.heap.size w W → Calls Tryz.prog 21 #[.slice bA bn bc] W fun e w' => e = .returned (.tuple #[.agg #[.int .i64 s', .int .i32 k', .string p'], .int .i64 q, .int .i64 0]) ∧ Below W.heap.size W w'))
    (HR : Hid (∀ W, Below w.heap.size w W → Calls Tryz.prog 22 #[.slice bA bn bc] W fun e w' => e = .returned (.tuple #[.agg #[.int .i64 s', .int .i32 k', .string p'], .int .i64 q, .int .i64 0]) ∧ Below W.heap.size W w'))
    (hel : eb.length ≤ 140737488355328)
    (HBK : Hid (∀ W A n c, Below w.heap.size w W → Got W A n c eb → Calls Tryz.prog 21 #[.slice A n c] W fun e w' => e = .returned (.tuple #[.agg #[.int .i64 s, .int .i32 k, .string p], .int .i64 0, .int .i64 0]) ∧ Below W.heap.size W w'))
    (hll : l.length ≤ 140737488355328) (GB : Hid (Got w bA bn bc l))
    (HFW : Hid (∀ W, Below w.heap.size w W → Calls Tryz.prog 19 #[.agg #[.int .i64 s', .int .i32 k', .string p']] W fun e w' => (∃ A n c, e = .returned (.tuple #[.slice A n c, .int .i64 0]) ∧ Got w' A n c l) ∧ Below W.heap.size W w')) :
    Calls Tryz.prog 5 #[.agg #[.int .i64 s, .int .i32 k, .string p], .slice bA bn bc] w fun e w' => e = .returned (.bool true) ∧ Below w.heap.size w w' := by
  obtain ⟨w1, hw1⟩ : ∃ w1, w.alloc (.cells #[.int .i64 s, .int .i32 k, .string p] 55) = w1 := ⟨_, rfl⟩
  have hb1 : Below w.heap.size w w1 := by rw [← hw1]; exact (Below.refl _ _).alloc (Nat.le_refl _) _
  have HN1 : Hid (Blk w1 w.heap.size 55 #[.int .i64 s, .int .i32 k, .string p]) := by unfold Hid; rw [← hw1]; exact Blk.new _ _ _
  have HB1 := Lib.hid hb1
  have hz1 : w.heap.size < w1.heap.size := by rw [← hw1]; simp
  clear hb1
  go_enter Tryz.func5, Tryz.ntmps5
  go_wp2_with (first
    | (go_at_call 14
       refine (got_same GD12.out (GB.out.later HB12.out) hll).mono ?_
       rintro e w13 ⟨rfl, hb⟩
       have HB13 := Lib.hid (HB12.out.trans (hb.mono HB12.out.size))
       clear hb)
    | (go_at_call 19
       refine (HFW.out _ HB11.out).mono ?_
       rintro e w12 ⟨⟨dA, dn, dc, rfl, hg⟩, hb⟩
       have HN12 := Lib.hid (HN11.out.below hb HN11.out.lt)
       have HX12 := Lib.hid (HX11.out.below hb HX11.out.lt)
       have HY12 := Lib.hid (HY11.out.below hb HY11.out.lt)
       have HZ12 := Lib.hid (HZ11.out.below hb HZ11.out.lt)
       have GA12 := Lib.hid (GA11.out.later hb)
       have GC12 := Lib.hid (GC11.out.later hb)
       have HB12 := Lib.hid (HB11.out.trans (hb.mono HB11.out.size))
       have hz12 := hb.size
       have GD12 := Lib.hid hg
       clear hb HN11 HX11 HY11 HZ11 GA11 GC11 hg)
    | (refine wpList_load_row_g (by rfl) 55 (.tmp 11) rfl w8.heap.size rfl 55 _ _ _ HY11.out Tryz.underlying55 rfl (by rw [ev_size]; rfl) ?_)
    | (refine wpList_neq_agg_g (by rfl) 55 (.tmp 77) (.tmp 78) 55 rfl _ _ rfl rfl (by kernel_rfl) false (ev_ne _ _ _ _) ?_)
    | (refine wpList_load_row_g (by rfl) 55 (.tmp 2) rfl w.heap.size rfl 55 _ _ _ HN11.out Tryz.underlying55 rfl (by rw [ev_size]; rfl) ?_)
    | (refine wpList_load_row_g (by rfl) 55 (.tmp 14) rfl w10.heap.size rfl 55 _ _ _ HZ11.out Tryz.underlying55 rfl (by rw [ev_size]; rfl) ?_)
    | (refine wpList_store_row rfl 55 (.tmp 14) (.tmp 74) rfl w10.heap.size #[.int .i64 s, .int .i32 k, .string p] rfl rfl 55 _ (Blk.new _ _ _) (by rw [ev_size]; rfl) rfl (by simp [Value.oneCell']) ?_
       generalize hww : World.setRow _ _ _ = w11
       have hb : Below w10.heap.size w10 w11 := by rw [← hww]; exact below_setRow' (by go_grown) (Nat.le_refl _) _
       have HZ11 : Hid (Blk w11 w10.heap.size 55 #[.int .i64 s, .int .i32 k, .string p]) := by unfold Hid; rw [← hww]; exact cells_setRow (Blk.new _ _ _)
       have HN11 := Lib.hid (HN10.out.below hb HN10.out.lt)
       have HX11 := Lib.hid (HX10.out.below hb HX10.out.lt)
       have HY11 := Lib.hid (HY10.out.below hb HY10.out.lt)
       have GA11 := Lib.hid (GA10.out.later hb)
       have GC11 := Lib.hid (GC10.out.later hb)
       have HB11 := Lib.hid (HB10.out.trans (hb.mono HB10.out.size))
       have hz11 := hb.size
       clear hb hww HN10 HX10 HY10 GA10 GC10)
    | (go_at_call 21
       refine (HBK.out _ _ _ _ HB9.out GA9.out).mono ?_
       rintro e w10 ⟨rfl, hb⟩
       have HN10 := Lib.hid (HN9.out.below hb HN9.out.lt)
       have HX10 := Lib.hid (HX9.out.below hb HX9.out.lt)
       have HY10 := Lib.hid (HY9.out.below hb HY9.out.lt)
       have GA10 := Lib.hid (GA9.out.later hb)
       have GC10 := Lib.hid (GC9.out.later hb)
       have HB10 := Lib.hid (HB9.out.trans (hb.mono HB9.out.size))
       have hz10 := hb.size
       clear hb HN9 HX9 HY9 GA9 GC9)
    | (refine wpList_neq_agg_g (by rfl) 55 (.tmp 55) (.tmp 56) 55 rfl _ _ rfl rfl (by kernel_rfl) false (ev_ne _ _ _ _) ?_)
    | (refine wpList_load_row_g (by rfl) 55 (.tmp 11) rfl w8.heap.size rfl 55 _ _ _ HY9.out Tryz.underlying55 rfl (by rw [ev_size]; rfl) ?_)
    | (refine wpList_load_row_g (by rfl) 55 (.tmp 9) rfl w6.heap.size rfl 55 _ _ _ HX9.out Tryz.underlying55 rfl (by rw [ev_size]; rfl) ?_)
    | (refine wpList_store_row rfl 55 (.tmp 11) (.tmp 52) rfl w8.heap.size #[.int .i64 s', .int .i32 k', .string p'] rfl rfl 55 _ (Blk.new _ _ _) (by rw [ev_size]; rfl) rfl (by simp [Value.oneCell']) ?_
       generalize hww : World.setRow _ _ _ = w9
       have hb : Below w8.heap.size w8 w9 := by rw [← hww]; exact below_setRow' (by go_grown) (Nat.le_refl _) _
       have HY9 : Hid (Blk w9 w8.heap.size 55 #[.int .i64 s', .int .i32 k', .string p']) := by unfold Hid; rw [← hww]; exact cells_setRow (Blk.new _ _ _)
       have HN9 := Lib.hid (HN8.out.below hb HN8.out.lt)
       have HX9 := Lib.hid (HX8.out.below hb HX8.out.lt)
       have GA9 := Lib.hid (GA8.out.later hb)
       have GC9 := Lib.hid (GC8.out.later hb)
       have HB9 := Lib.hid (HB8.out.trans (hb.mono HB8.out.size))
       have hz9 := hb.size
       clear hb hww HN8 HX8 GA8 GC8)
    | (go_at_call 22
       refine (HR.out _ HB7.out).mono ?_
       rintro e w8 ⟨rfl, hb⟩
       have HN8 := Lib.hid (HN7.out.below hb HN7.out.lt)
       have HX8 := Lib.hid (HX7.out.below hb HX7.out.lt)
       have GA8 := Lib.hid (GA7.out.later hb)
       have GC8 := Lib.hid (GC7.out.later hb)
       have HB8 := Lib.hid (HB7.out.trans (hb.mono HB7.out.size))
       have hz8 := hb.size
       clear hb HN7 HX7 GA7 GC7)
    | (refine wpList_store_row rfl 55 (.tmp 9) (.tmp 46) rfl w6.heap.size #[.int .i64 s', .int .i32 k', .string p'] rfl rfl 55 _ (Blk.new _ _ _) (by rw [ev_size]; rfl) rfl (by simp [Value.oneCell']) ?_
       generalize hww : World.setRow _ _ _ = w7
       have hb : Below w6.heap.size w6 w7 := by rw [← hww]; exact below_setRow' (by go_grown) (Nat.le_refl _) _
       have HX7 : Hid (Blk w7 w6.heap.size 55 #[.int .i64 s', .int .i32 k', .string p']) := by unfold Hid; rw [← hww]; exact cells_setRow (Blk.new _ _ _)
       have HN7 := Lib.hid (HN6.out.below hb HN6.out.lt)
       have GA7 := Lib.hid (GA6.out.later hb)
       have GC7 := Lib.hid (GC6.out.later hb)
       have HB7 := Lib.hid (HB6.out.trans (hb.mono HB6.out.size))
       have hz7 := hb.size
       clear hb hww HN6 GA6 GC6)
    | (go_at_call 21
       refine (HD.out _ HB5.out).mono ?_
       rintro e w6 ⟨rfl, hb⟩
       have HN6 := Lib.hid (HN5.out.below hb HN5.out.lt)
       have GA6 := Lib.hid (GA5.out.later hb)
       have GC6 := Lib.hid (GC5.out.later hb)
       have HB6 := Lib.hid (HB5.out.trans (hb.mono HB5.out.size))
       have hz6 := hb.size
       clear hb HN5 GA5 GC5)
    | (go_at_call 16
       refine (HLV.out _ HB4.out).mono ?_
       rintro e w5 ⟨rfl, hb⟩
       have HN5 := Lib.hid (HN4.out.below hb HN4.out.lt)
       have GA5 := Lib.hid (GA4.out.later hb)
       have GC5 := Lib.hid (GC4.out.later hb)
       have HB5 := Lib.hid (HB4.out.trans (hb.mono HB4.out.size))
       have hz5 := hb.size
       clear hb HN4 GA4 GC4)
    | (go_at_call 14
       refine (got_same GA3.out GC3.out hel).mono ?_
       rintro e w4 ⟨rfl, hb⟩
       have HN4 := Lib.hid (HN3.out.below hb HN3.out.lt)
       have GA4 := Lib.hid (GA3.out.later hb)
       have GC4 := Lib.hid (GC3.out.later hb)
       have HB4 := Lib.hid (HB3.out.trans (hb.mono HB3.out.size))
       have hz4 := hb.size
       clear hb HN3 GA3 GC3)
    | (go_at_call 20
       refine (HCR.out _ HB2.out).mono ?_
       rintro e w3 ⟨⟨cA, cn, cc, rfl, hg⟩, hb⟩
       have HN3 := Lib.hid (HN2.out.below hb HN2.out.lt)
       have GA3 := Lib.hid (GA2.out.later hb)
       have HB3 := Lib.hid (HB2.out.trans (hb.mono HB2.out.size))
       have hz3 := hb.size
       have GC3 := Lib.hid hg
       clear hb HN2 GA2 hg)
    | (refine wpList_load_row_g (by rfl) 55 (.tmp 2) rfl w.heap.size rfl 55 _ _ _ HN2.out Tryz.underlying55 rfl (by rw [ev_size]; rfl) ?_)
    | (go_at_call 19
       refine (HCE.out _ HB1.out).mono ?_
       rintro e w2 ⟨⟨aA, an, ac, rfl, hg⟩, hb⟩
       have HN2 := Lib.hid (HN1.out.below hb HN1.out.lt)
       have HB2 := Lib.hid (HB1.out.trans (hb.mono HB1.out.size))
       have hz2 := hb.size
       have GA2 := Lib.hid hg
       clear hb HN1 hg)
    | (refine wpList_load_row_g (by rfl) 55 (.tmp 2) rfl w.heap.size rfl 55 _ _ _ HN1.out Tryz.underlying55 rfl (by rw [ev_size]; rfl) ?_)
    | (go_at_call 11
       refine (no_any _ _).mono ?_
       rintro e wz ⟨rfl, rfl⟩))
  go_ret
  exact ⟨rfl, HB13.out⟩

set_option maxRecDepth 100000 in
set_option maxHeartbeats 16000000 in
theorem events0h (w : World) (s k : Int) (p : ByteArray) (s' k' : Int) (p' : ByteArray) (q h : Int) (bA : Option Addr) (bn bc : Nat) (l : List UInt8) (eb : List UInt8)
    (hh : h ≠ 0)
    (HCE : Hid (∀ W, Below w.heap.size w W → Calls Tryz.prog 19 #[.agg #[.int .i64 s, .int .i32 k, .string p]] W fun e w' => (∃ A n c, e = .returned (.tuple #[.slice A n c, .int .i64 0]) ∧ Got w' A n c eb) ∧ Below W.heap.size W w'))
    (HCR : Hid (∀ W, Below w.heap.size w W → Calls Tryz.prog 20 #[.agg #[.int .i64 s, .int .i32 k, .string p]] W fun e w' => (∃ A n c, e = .returned (.tuple #[.slice A n c, .int .i64 0]) ∧ Got w' A n c eb) ∧ Below W.heap.size W w'))
    (HLV : Hid (∀ W, Below w.heap.size w W → Calls Tryz.prog 16 #[] W fun e w' => e = .returned (.bool true) ∧ Below W.heap.size W w'))
    (HD : Hid (∀ W, Below w.heap.size w W → Calls Tryz.prog 21 #[.slice bA bn bc] W fun e w' => e = .returned (.tuple #[.agg #[.int .i64 s', .int .i32 k', .string p'], .int .i64 q, .int .i64 h]) ∧ Below W.heap.size W w'))
    (HR : Hid (∀ W, Below w.heap.size w W → Calls Tryz.prog 22 #[.slice bA bn bc] W fun e w' => e = .returned (.tuple #[.agg #[.int .i64 s', .int .i32 k', .string p'], .int .i64 q, .int .i64 h]) ∧ Below W.heap.size W w'))
    (hel : eb.length ≤ 140737488355328)
    (HBK : Hid (∀ W A n c, Below w.heap.size w W → Got W A n c eb → Calls Tryz.prog 21 #[.slice A n c] W fun e w' => e = .returned (.tuple #[.agg #[.int .i64 s, .int .i32 k, .string p], .int .i64 0, .int .i64 0]) ∧ Below W.heap.size W w')) :
    Calls Tryz.prog 5 #[.agg #[.int .i64 s, .int .i32 k, .string p], .slice bA bn bc] w fun e w' => e = .returned (.bool true) ∧ Below w.heap.size w w' := by
  obtain ⟨w1, hw1⟩ : ∃ w1, w.alloc (.cells #[.int .i64 s, .int .i32 k, .string p] 55) = w1 := ⟨_, rfl⟩
  have hb1 : Below w.heap.size w w1 := by rw [← hw1]; exact (Below.refl _ _).alloc (Nat.le_refl _) _
  have HN1 : Hid (Blk w1 w.heap.size 55 #[.int .i64 s, .int .i32 k, .string p]) := by unfold Hid; rw [← hw1]; exact Blk.new _ _ _
  have HB1 := Lib.hid hb1
  have hz1 : w.heap.size < w1.heap.size := by rw [← hw1]; simp
  clear hb1
  have hhb : (h != 0) = true := by simp [hh]
  clear hh
  go_enter Tryz.func5, Tryz.ntmps5
  go_wp2_with (first
    | (refine wpList_neq_agg_g (by rfl) 55 (.tmp 77) (.tmp 78) 55 rfl _ _ rfl rfl (by kernel_rfl) false (ev_ne _ _ _ _) ?_)
    | (refine wpList_load_row_g (by rfl) 55 (.tmp 2) rfl w.heap.size rfl 55 _ _ _ HN11.out Tryz.underlying55 rfl (by rw [ev_size]; rfl) ?_)
    | (refine wpList_load_row_g (by rfl) 55 (.tmp 14) rfl w10.heap.size rfl 55 _ _ _ HZ11.out Tryz.underlying55 rfl (by rw [ev_size]; rfl) ?_)
    | (refine wpList_store_row rfl 55 (.tmp 14) (.tmp 74) rfl w10.heap.size #[.int .i64 s, .int .i32 k, .string p] rfl rfl 55 _ (Blk.new _ _ _) (by rw [ev_size]; rfl) rfl (by simp [Value.oneCell']) ?_
       generalize hww : World.setRow _ _ _ = w11
       have hb : Below w10.heap.size w10 w11 := by rw [← hww]; exact below_setRow' (by go_grown) (Nat.le_refl _) _
       have HZ11 : Hid (Blk w11 w10.heap.size 55 #[.int .i64 s, .int .i32 k, .string p]) := by unfold Hid; rw [← hww]; exact cells_setRow (Blk.new _ _ _)
       have HN11 := Lib.hid (HN10.out.below hb HN10.out.lt)
       have HX11 := Lib.hid (HX10.out.below hb HX10.out.lt)
       have HY11 := Lib.hid (HY10.out.below hb HY10.out.lt)
       have GA11 := Lib.hid (GA10.out.later hb)
       have GC11 := Lib.hid (GC10.out.later hb)
       have HB11 := Lib.hid (HB10.out.trans (hb.mono HB10.out.size))
       have hz11 := hb.size
       clear hb hww HN10 HX10 HY10 GA10 GC10)
    | (go_at_call 21
       refine (HBK.out _ _ _ _ HB9.out GA9.out).mono ?_
       rintro e w10 ⟨rfl, hb⟩
       have HN10 := Lib.hid (HN9.out.below hb HN9.out.lt)
       have HX10 := Lib.hid (HX9.out.below hb HX9.out.lt)
       have HY10 := Lib.hid (HY9.out.below hb HY9.out.lt)
       have GA10 := Lib.hid (GA9.out.later hb)
       have GC10 := Lib.hid (GC9.out.later hb)
       have HB10 := Lib.hid (HB9.out.trans (hb.mono HB9.out.size))
       have hz10 := hb.size
       clear hb HN9 HX9 HY9 GA9 GC9)
    | (refine wpList_neq_agg_g (by rfl) 55 (.tmp 55) (.tmp 56) 55 rfl _ _ rfl rfl (by kernel_rfl) false (ev_ne _ _ _ _) ?_)
    | (refine wpList_load_row_g (by rfl) 55 (.tmp 11) rfl w8.heap.size rfl 55 _ _ _ HY9.out Tryz.underlying55 rfl (by rw [ev_size]; rfl) ?_)
    | (refine wpList_load_row_g (by rfl) 55 (.tmp 9) rfl w6.heap.size rfl 55 _ _ _ HX9.out Tryz.underlying55 rfl (by rw [ev_size]; rfl) ?_)
    | (refine wpList_store_row rfl 55 (.tmp 11) (.tmp 52) rfl w8.heap.size #[.int .i64 s', .int .i32 k', .string p'] rfl rfl 55 _ (Blk.new _ _ _) (by rw [ev_size]; rfl) rfl (by simp [Value.oneCell']) ?_
       generalize hww : World.setRow _ _ _ = w9
       have hb : Below w8.heap.size w8 w9 := by rw [← hww]; exact below_setRow' (by go_grown) (Nat.le_refl _) _
       have HY9 : Hid (Blk w9 w8.heap.size 55 #[.int .i64 s', .int .i32 k', .string p']) := by unfold Hid; rw [← hww]; exact cells_setRow (Blk.new _ _ _)
       have HN9 := Lib.hid (HN8.out.below hb HN8.out.lt)
       have HX9 := Lib.hid (HX8.out.below hb HX8.out.lt)
       have GA9 := Lib.hid (GA8.out.later hb)
       have GC9 := Lib.hid (GC8.out.later hb)
       have HB9 := Lib.hid (HB8.out.trans (hb.mono HB8.out.size))
       have hz9 := hb.size
       clear hb hww HN8 HX8 GA8 GC8)
    | (go_at_call 22
       refine (HR.out _ HB7.out).mono ?_
       rintro e w8 ⟨rfl, hb⟩
       have HN8 := Lib.hid (HN7.out.below hb HN7.out.lt)
       have HX8 := Lib.hid (HX7.out.below hb HX7.out.lt)
       have GA8 := Lib.hid (GA7.out.later hb)
       have GC8 := Lib.hid (GC7.out.later hb)
       have HB8 := Lib.hid (HB7.out.trans (hb.mono HB7.out.size))
       have hz8 := hb.size
       clear hb HN7 HX7 GA7 GC7)
    | (refine wpList_store_row rfl 55 (.tmp 9) (.tmp 46) rfl w6.heap.size #[.int .i64 s', .int .i32 k', .string p'] rfl rfl 55 _ (Blk.new _ _ _) (by rw [ev_size]; rfl) rfl (by simp [Value.oneCell']) ?_
       generalize hww : World.setRow _ _ _ = w7
       have hb : Below w6.heap.size w6 w7 := by rw [← hww]; exact below_setRow' (by go_grown) (Nat.le_refl _) _
       have HX7 : Hid (Blk w7 w6.heap.size 55 #[.int .i64 s', .int .i32 k', .string p']) := by unfold Hid; rw [← hww]; exact cells_setRow (Blk.new _ _ _)
       have HN7 := Lib.hid (HN6.out.below hb HN6.out.lt)
       have GA7 := Lib.hid (GA6.out.later hb)
       have GC7 := Lib.hid (GC6.out.later hb)
       have HB7 := Lib.hid (HB6.out.trans (hb.mono HB6.out.size))
       have hz7 := hb.size
       clear hb hww HN6 GA6 GC6)
    | (go_at_call 21
       refine (HD.out _ HB5.out).mono ?_
       rintro e w6 ⟨rfl, hb⟩
       have HN6 := Lib.hid (HN5.out.below hb HN5.out.lt)
       have GA6 := Lib.hid (GA5.out.later hb)
       have GC6 := Lib.hid (GC5.out.later hb)
       have HB6 := Lib.hid (HB5.out.trans (hb.mono HB5.out.size))
       have hz6 := hb.size
       clear hb HN5 GA5 GC5)
    | (go_at_call 16
       refine (HLV.out _ HB4.out).mono ?_
       rintro e w5 ⟨rfl, hb⟩
       have HN5 := Lib.hid (HN4.out.below hb HN4.out.lt)
       have GA5 := Lib.hid (GA4.out.later hb)
       have GC5 := Lib.hid (GC4.out.later hb)
       have HB5 := Lib.hid (HB4.out.trans (hb.mono HB4.out.size))
       have hz5 := hb.size
       clear hb HN4 GA4 GC4)
    | (go_at_call 14
       refine (got_same GA3.out GC3.out hel).mono ?_
       rintro e w4 ⟨rfl, hb⟩
       have HN4 := Lib.hid (HN3.out.below hb HN3.out.lt)
       have GA4 := Lib.hid (GA3.out.later hb)
       have GC4 := Lib.hid (GC3.out.later hb)
       have HB4 := Lib.hid (HB3.out.trans (hb.mono HB3.out.size))
       have hz4 := hb.size
       clear hb HN3 GA3 GC3)
    | (go_at_call 20
       refine (HCR.out _ HB2.out).mono ?_
       rintro e w3 ⟨⟨cA, cn, cc, rfl, hg⟩, hb⟩
       have HN3 := Lib.hid (HN2.out.below hb HN2.out.lt)
       have GA3 := Lib.hid (GA2.out.later hb)
       have HB3 := Lib.hid (HB2.out.trans (hb.mono HB2.out.size))
       have hz3 := hb.size
       have GC3 := Lib.hid hg
       clear hb HN2 GA2 hg)
    | (refine wpList_load_row_g (by rfl) 55 (.tmp 2) rfl w.heap.size rfl 55 _ _ _ HN2.out Tryz.underlying55 rfl (by rw [ev_size]; rfl) ?_)
    | (go_at_call 19
       refine (HCE.out _ HB1.out).mono ?_
       rintro e w2 ⟨⟨aA, an, ac, rfl, hg⟩, hb⟩
       have HN2 := Lib.hid (HN1.out.below hb HN1.out.lt)
       have HB2 := Lib.hid (HB1.out.trans (hb.mono HB1.out.size))
       have hz2 := hb.size
       have GA2 := Lib.hid hg
       clear hb HN1 hg)
    | (refine wpList_load_row_g (by rfl) 55 (.tmp 2) rfl w.heap.size rfl 55 _ _ _ HN1.out Tryz.underlying55 rfl (by rw [ev_size]; rfl) ?_)
    | (go_at_call 11
       refine (no_any _ _).mono ?_
       rintro e wz ⟨rfl, rfl⟩))
  go_ret
  exact ⟨rfl, HB11.out⟩

set_option maxRecDepth 100000 in
set_option maxHeartbeats 16000000 in
theorem eventsE0 (w : World) (s k : Int) (p : ByteArray) (s' k' : Int) (p' : ByteArray) (q E : Int) (bA : Option Addr) (bn bc : Nat) (l : List UInt8) (eb : List UInt8)
    (hE : E ≠ 0)
    (HCE : Hid (∀ W, Below w.heap.size w W → Calls Tryz.prog 19 #[.agg #[.int .i64 s, .int .i32 k, .string p]] W fun e w' => e = .returned (.tuple #[.slice none 0 0, .int .i64 E]) ∧ Below W.heap.size W w'))
    (HCR : Hid (∀ W, Below w.heap.size w W → Calls Tryz.prog 20 #[.agg #[.int .i64 s, .int .i32 k, .string p]] W fun e w' => e = .returned (.tuple #[.slice none 0 0, .int .i64 E]) ∧ Below W.heap.size W w'))
    (HLV : Hid (∀ W, Below w.heap.size w W → Calls Tryz.prog 16 #[] W fun e w' => e = .returned (.bool true) ∧ Below W.heap.size W w'))
    (HD : Hid (∀ W, Below w.heap.size w W → Calls Tryz.prog 21 #[.slice bA bn bc] W fun e w' => e = .returned (.tuple #[.agg #[.int .i64 s', .int .i32 k', .string p'], .int .i64 q, .int .i64 0]) ∧ Below W.heap.size W w'))
    (HR : Hid (∀ W, Below w.heap.size w W → Calls Tryz.prog 22 #[.slice bA bn bc] W fun e w' => e = .returned (.tuple #[.agg #[.int .i64 s', .int .i32 k', .string p'], .int .i64 q, .int .i64 0]) ∧ Below W.heap.size W w'))
    (hll : l.length ≤ 140737488355328) (GB : Hid (Got w bA bn bc l))
    (HFW : Hid (∀ W, Below w.heap.size w W → Calls Tryz.prog 19 #[.agg #[.int .i64 s', .int .i32 k', .string p']] W fun e w' => (∃ A n c, e = .returned (.tuple #[.slice A n c, .int .i64 0]) ∧ Got w' A n c l) ∧ Below W.heap.size W w')) :
    Calls Tryz.prog 5 #[.agg #[.int .i64 s, .int .i32 k, .string p], .slice bA bn bc] w fun e w' => e = .returned (.bool true) ∧ Below w.heap.size w w' := by
  obtain ⟨w1, hw1⟩ : ∃ w1, w.alloc (.cells #[.int .i64 s, .int .i32 k, .string p] 55) = w1 := ⟨_, rfl⟩
  have hb1 : Below w.heap.size w w1 := by rw [← hw1]; exact (Below.refl _ _).alloc (Nat.le_refl _) _
  have HN1 : Hid (Blk w1 w.heap.size 55 #[.int .i64 s, .int .i32 k, .string p]) := by unfold Hid; rw [← hw1]; exact Blk.new _ _ _
  have HB1 := Lib.hid hb1
  have hz1 : w.heap.size < w1.heap.size := by rw [← hw1]; simp
  clear hb1
  have hEb : (E == 0) = false := by simp [hE]
  clear hE
  go_enter Tryz.func5, Tryz.ntmps5
  go_wp2_with (first
    | (go_at_call 14
       refine (got_same GD10.out (GB.out.later HB10.out) hll).mono ?_
       rintro e w11 ⟨rfl, hb⟩
       have HB11 := Lib.hid (HB10.out.trans (hb.mono HB10.out.size))
       clear hb)
    | (go_at_call 19
       refine (HFW.out _ HB9.out).mono ?_
       rintro e w10 ⟨⟨dA, dn, dc, rfl, hg⟩, hb⟩
       have HN10 := Lib.hid (HN9.out.below hb HN9.out.lt)
       have HX10 := Lib.hid (HX9.out.below hb HX9.out.lt)
       have HY10 := Lib.hid (HY9.out.below hb HY9.out.lt)
       have HB10 := Lib.hid (HB9.out.trans (hb.mono HB9.out.size))
       have hz10 := hb.size
       have GD10 := Lib.hid hg
       clear hb HN9 HX9 HY9 hg)
    | (refine wpList_load_row_g (by rfl) 55 (.tmp 11) rfl w8.heap.size rfl 55 _ _ _ HY9.out Tryz.underlying55 rfl (by rw [ev_size]; rfl) ?_)
    | (refine wpList_neq_agg_g (by rfl) 55 (.tmp 55) (.tmp 56) 55 rfl _ _ rfl rfl (by kernel_rfl) false (ev_ne _ _ _ _) ?_)
    | (refine wpList_load_row_g (by rfl) 55 (.tmp 11) rfl w8.heap.size rfl 55 _ _ _ HY9.out Tryz.underlying55 rfl (by rw [ev_size]; rfl) ?_)
    | (refine wpList_load_row_g (by rfl) 55 (.tmp 9) rfl w6.heap.size rfl 55 _ _ _ HX9.out Tryz.underlying55 rfl (by rw [ev_size]; rfl) ?_)
    | (refine wpList_store_row rfl 55 (.tmp 11) (.tmp 52) rfl w8.heap.size #[.int .i64 s', .int .i32 k', .string p'] rfl rfl 55 _ (Blk.new _ _ _) (by rw [ev_size]; rfl) rfl (by simp [Value.oneCell']) ?_
       generalize hww : World.setRow _ _ _ = w9
       have hb : Below w8.heap.size w8 w9 := by rw [← hww]; exact below_setRow' (by go_grown) (Nat.le_refl _) _
       have HY9 : Hid (Blk w9 w8.heap.size 55 #[.int .i64 s', .int .i32 k', .string p']) := by unfold Hid; rw [← hww]; exact cells_setRow (Blk.new _ _ _)
       have HN9 := Lib.hid (HN8.out.below hb HN8.out.lt)
       have HX9 := Lib.hid (HX8.out.below hb HX8.out.lt)
       have HB9 := Lib.hid (HB8.out.trans (hb.mono HB8.out.size))
       have hz9 := hb.size
       clear hb hww HN8 HX8)
    | (go_at_call 22
       refine (HR.out _ HB7.out).mono ?_
       rintro e w8 ⟨rfl, hb⟩
       have HN8 := Lib.hid (HN7.out.below hb HN7.out.lt)
       have HX8 := Lib.hid (HX7.out.below hb HX7.out.lt)
       have HB8 := Lib.hid (HB7.out.trans (hb.mono HB7.out.size))
       have hz8 := hb.size
       clear hb HN7 HX7)
    | (refine wpList_store_row rfl 55 (.tmp 9) (.tmp 46) rfl w6.heap.size #[.int .i64 s', .int .i32 k', .string p'] rfl rfl 55 _ (Blk.new _ _ _) (by rw [ev_size]; rfl) rfl (by simp [Value.oneCell']) ?_
       generalize hww : World.setRow _ _ _ = w7
       have hb : Below w6.heap.size w6 w7 := by rw [← hww]; exact below_setRow' (by go_grown) (Nat.le_refl _) _
       have HX7 : Hid (Blk w7 w6.heap.size 55 #[.int .i64 s', .int .i32 k', .string p']) := by unfold Hid; rw [← hww]; exact cells_setRow (Blk.new _ _ _)
       have HN7 := Lib.hid (HN6.out.below hb HN6.out.lt)
       have HB7 := Lib.hid (HB6.out.trans (hb.mono HB6.out.size))
       have hz7 := hb.size
       clear hb hww HN6)
    | (go_at_call 21
       refine (HD.out _ HB5.out).mono ?_
       rintro e w6 ⟨rfl, hb⟩
       have HN6 := Lib.hid (HN5.out.below hb HN5.out.lt)
       have HB6 := Lib.hid (HB5.out.trans (hb.mono HB5.out.size))
       have hz6 := hb.size
       clear hb HN5)
    | (go_at_call 16
       refine (HLV.out _ HB4.out).mono ?_
       rintro e w5 ⟨rfl, hb⟩
       have HN5 := Lib.hid (HN4.out.below hb HN4.out.lt)
       have HB5 := Lib.hid (HB4.out.trans (hb.mono HB4.out.size))
       have hz5 := hb.size
       clear hb HN4)
    | (go_at_call 14
       refine (same_true none none 0 0 0 _ _ [] _ (Reads.none_ (B := 0)) (Reads.none_ (B := 0)) (by omega)).mono ?_
       rintro e w4 ⟨rfl, hb⟩
       have HN4 := Lib.hid (HN3.out.below hb HN3.out.lt)
       have HB4 := Lib.hid (HB3.out.trans (hb.mono HB3.out.size))
       have hz4 := hb.size
       clear hb HN3)
    | (go_at_call 20
       refine (HCR.out _ HB2.out).mono ?_
       rintro e w3 ⟨rfl, hb⟩
       have HN3 := Lib.hid (HN2.out.below hb HN2.out.lt)
       have HB3 := Lib.hid (HB2.out.trans (hb.mono HB2.out.size))
       have hz3 := hb.size
       clear hb HN2)
    | (refine wpList_load_row_g (by rfl) 55 (.tmp 2) rfl w.heap.size rfl 55 _ _ _ HN2.out Tryz.underlying55 rfl (by rw [ev_size]; rfl) ?_)
    | (go_at_call 19
       refine (HCE.out _ HB1.out).mono ?_
       rintro e w2 ⟨rfl, hb⟩
       have HN2 := Lib.hid (HN1.out.below hb HN1.out.lt)
       have HB2 := Lib.hid (HB1.out.trans (hb.mono HB1.out.size))
       have hz2 := hb.size
       clear hb HN1)
    | (refine wpList_load_row_g (by rfl) 55 (.tmp 2) rfl w.heap.size rfl 55 _ _ _ HN1.out Tryz.underlying55 rfl (by rw [ev_size]; rfl) ?_)
    | (go_at_call 11
       refine (no_any _ _).mono ?_
       rintro e wz ⟨rfl, rfl⟩))
  go_ret
  exact ⟨rfl, HB11.out⟩

set_option maxRecDepth 100000 in
set_option maxHeartbeats 16000000 in
theorem eventsEh (w : World) (s k : Int) (p : ByteArray) (s' k' : Int) (p' : ByteArray) (q E h : Int) (bA : Option Addr) (bn bc : Nat) (l : List UInt8) (eb : List UInt8)
    (hE : E ≠ 0)
    (hh : h ≠ 0)
    (HCE : Hid (∀ W, Below w.heap.size w W → Calls Tryz.prog 19 #[.agg #[.int .i64 s, .int .i32 k, .string p]] W fun e w' => e = .returned (.tuple #[.slice none 0 0, .int .i64 E]) ∧ Below W.heap.size W w'))
    (HCR : Hid (∀ W, Below w.heap.size w W → Calls Tryz.prog 20 #[.agg #[.int .i64 s, .int .i32 k, .string p]] W fun e w' => e = .returned (.tuple #[.slice none 0 0, .int .i64 E]) ∧ Below W.heap.size W w'))
    (HLV : Hid (∀ W, Below w.heap.size w W → Calls Tryz.prog 16 #[] W fun e w' => e = .returned (.bool true) ∧ Below W.heap.size W w'))
    (HD : Hid (∀ W, Below w.heap.size w W → Calls Tryz.prog 21 #[.slice bA bn bc] W fun e w' => e = .returned (.tuple #[.agg #[.int .i64 s', .int .i32 k', .string p'], .int .i64 q, .int .i64 h]) ∧ Below W.heap.size W w'))
    (HR : Hid (∀ W, Below w.heap.size w W → Calls Tryz.prog 22 #[.slice bA bn bc] W fun e w' => e = .returned (.tuple #[.agg #[.int .i64 s', .int .i32 k', .string p'], .int .i64 q, .int .i64 h]) ∧ Below W.heap.size W w')) :
    Calls Tryz.prog 5 #[.agg #[.int .i64 s, .int .i32 k, .string p], .slice bA bn bc] w fun e w' => e = .returned (.bool true) ∧ Below w.heap.size w w' := by
  obtain ⟨w1, hw1⟩ : ∃ w1, w.alloc (.cells #[.int .i64 s, .int .i32 k, .string p] 55) = w1 := ⟨_, rfl⟩
  have hb1 : Below w.heap.size w w1 := by rw [← hw1]; exact (Below.refl _ _).alloc (Nat.le_refl _) _
  have HN1 : Hid (Blk w1 w.heap.size 55 #[.int .i64 s, .int .i32 k, .string p]) := by unfold Hid; rw [← hw1]; exact Blk.new _ _ _
  have HB1 := Lib.hid hb1
  have hz1 : w.heap.size < w1.heap.size := by rw [← hw1]; simp
  clear hb1
  have hEb : (E == 0) = false := by simp [hE]
  clear hE
  have hhb : (h != 0) = true := by simp [hh]
  clear hh
  go_enter Tryz.func5, Tryz.ntmps5
  go_wp2_with (first
    | (refine wpList_neq_agg_g (by rfl) 55 (.tmp 55) (.tmp 56) 55 rfl _ _ rfl rfl (by kernel_rfl) false (ev_ne _ _ _ _) ?_)
    | (refine wpList_load_row_g (by rfl) 55 (.tmp 11) rfl w8.heap.size rfl 55 _ _ _ HY9.out Tryz.underlying55 rfl (by rw [ev_size]; rfl) ?_)
    | (refine wpList_load_row_g (by rfl) 55 (.tmp 9) rfl w6.heap.size rfl 55 _ _ _ HX9.out Tryz.underlying55 rfl (by rw [ev_size]; rfl) ?_)
    | (refine wpList_store_row rfl 55 (.tmp 11) (.tmp 52) rfl w8.heap.size #[.int .i64 s', .int .i32 k', .string p'] rfl rfl 55 _ (Blk.new _ _ _) (by rw [ev_size]; rfl) rfl (by simp [Value.oneCell']) ?_
       generalize hww : World.setRow _ _ _ = w9
       have hb : Below w8.heap.size w8 w9 := by rw [← hww]; exact below_setRow' (by go_grown) (Nat.le_refl _) _
       have HY9 : Hid (Blk w9 w8.heap.size 55 #[.int .i64 s', .int .i32 k', .string p']) := by unfold Hid; rw [← hww]; exact cells_setRow (Blk.new _ _ _)
       have HN9 := Lib.hid (HN8.out.below hb HN8.out.lt)
       have HX9 := Lib.hid (HX8.out.below hb HX8.out.lt)
       have HB9 := Lib.hid (HB8.out.trans (hb.mono HB8.out.size))
       have hz9 := hb.size
       clear hb hww HN8 HX8)
    | (go_at_call 22
       refine (HR.out _ HB7.out).mono ?_
       rintro e w8 ⟨rfl, hb⟩
       have HN8 := Lib.hid (HN7.out.below hb HN7.out.lt)
       have HX8 := Lib.hid (HX7.out.below hb HX7.out.lt)
       have HB8 := Lib.hid (HB7.out.trans (hb.mono HB7.out.size))
       have hz8 := hb.size
       clear hb HN7 HX7)
    | (refine wpList_store_row rfl 55 (.tmp 9) (.tmp 46) rfl w6.heap.size #[.int .i64 s', .int .i32 k', .string p'] rfl rfl 55 _ (Blk.new _ _ _) (by rw [ev_size]; rfl) rfl (by simp [Value.oneCell']) ?_
       generalize hww : World.setRow _ _ _ = w7
       have hb : Below w6.heap.size w6 w7 := by rw [← hww]; exact below_setRow' (by go_grown) (Nat.le_refl _) _
       have HX7 : Hid (Blk w7 w6.heap.size 55 #[.int .i64 s', .int .i32 k', .string p']) := by unfold Hid; rw [← hww]; exact cells_setRow (Blk.new _ _ _)
       have HN7 := Lib.hid (HN6.out.below hb HN6.out.lt)
       have HB7 := Lib.hid (HB6.out.trans (hb.mono HB6.out.size))
       have hz7 := hb.size
       clear hb hww HN6)
    | (go_at_call 21
       refine (HD.out _ HB5.out).mono ?_
       rintro e w6 ⟨rfl, hb⟩
       have HN6 := Lib.hid (HN5.out.below hb HN5.out.lt)
       have HB6 := Lib.hid (HB5.out.trans (hb.mono HB5.out.size))
       have hz6 := hb.size
       clear hb HN5)
    | (go_at_call 16
       refine (HLV.out _ HB4.out).mono ?_
       rintro e w5 ⟨rfl, hb⟩
       have HN5 := Lib.hid (HN4.out.below hb HN4.out.lt)
       have HB5 := Lib.hid (HB4.out.trans (hb.mono HB4.out.size))
       have hz5 := hb.size
       clear hb HN4)
    | (go_at_call 14
       refine (same_true none none 0 0 0 _ _ [] _ (Reads.none_ (B := 0)) (Reads.none_ (B := 0)) (by omega)).mono ?_
       rintro e w4 ⟨rfl, hb⟩
       have HN4 := Lib.hid (HN3.out.below hb HN3.out.lt)
       have HB4 := Lib.hid (HB3.out.trans (hb.mono HB3.out.size))
       have hz4 := hb.size
       clear hb HN3)
    | (go_at_call 20
       refine (HCR.out _ HB2.out).mono ?_
       rintro e w3 ⟨rfl, hb⟩
       have HN3 := Lib.hid (HN2.out.below hb HN2.out.lt)
       have HB3 := Lib.hid (HB2.out.trans (hb.mono HB2.out.size))
       have hz3 := hb.size
       clear hb HN2)
    | (refine wpList_load_row_g (by rfl) 55 (.tmp 2) rfl w.heap.size rfl 55 _ _ _ HN2.out Tryz.underlying55 rfl (by rw [ev_size]; rfl) ?_)
    | (go_at_call 19
       refine (HCE.out _ HB1.out).mono ?_
       rintro e w2 ⟨rfl, hb⟩
       have HN2 := Lib.hid (HN1.out.below hb HN1.out.lt)
       have HB2 := Lib.hid (HB1.out.trans (hb.mono HB1.out.size))
       have hz2 := hb.size
       clear hb HN1)
    | (refine wpList_load_row_g (by rfl) 55 (.tmp 2) rfl w.heap.size rfl 55 _ _ _ HN1.out Tryz.underlying55 rfl (by rw [ev_size]; rfl) ?_)
    | (go_at_call 11
       refine (no_any _ _).mono ?_
       rintro e wz ⟨rfl, rfl⟩))
  go_ret
  exact ⟨rfl, HB9.out⟩

end Go.Proofs.YtnbaajplelchjaaGreatDoor
