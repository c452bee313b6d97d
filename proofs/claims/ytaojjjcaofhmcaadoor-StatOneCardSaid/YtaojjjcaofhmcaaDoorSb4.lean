/- StatRecords: the text of a Stat: the program's walk. (printed by gen_b4.py) -/
import Derived.Test.YtaojjjcaofhmcaaDoorSb3
import Derived.Test.YtaojjjcaofhmcaaDoorSr1
set_option linter.unusedVariables false
set_option linter.unusedSimpArgs false
namespace Go.Proofs.YtaojjjcaofhmcaaDoor
open Go.RowKit

def hexL (s : ByteArray) (x : Int) : List UInt8 := s.data.toList ++ ([32, 61, 32, 48, 120] ++ (hexS (u64N x) ++ [10]))
def decL (s : ByteArray) (x : Int) : List UInt8 := s.data.toList ++ ([32, 61, 32] ++ (Lib.itoa x ++ [10]))
theorem hexL_len (s : ByteArray) (x : Int) (h : s.size ≤ 64) : (hexL s x).length ≤ 90 := by
  have := hexS_len (u64N x) (u64N_lt x)
  have := bsize_eq s
  simp [hexL]; omega
theorem decL_len (s : ByteArray) (x : Int) (h : s.size ≤ 64) (h0 : -9223372036854775808 ≤ x) (h1 : x ≤ 9223372036854775807) : (decL s x).length ≤ 90 := by
  have := Lib.itoa_length_le x h0 h1
  have := bsize_eq s
  simp [decL]; omega
theorem hexL_any (B b : Nat) (l : List UInt8) (s : ByteArray) (x : Int) (w : World) (h : Bd B b l w) (hl : l.length ≤ 4096) (hs : s.size ≤ 64) :
    Calls Tryd.prog 36 #[.string s, .int .i64 x, .pointer (some ⟨b, 0, none⟩)] w fun e w' => e = .returned (.tuple #[]) ∧ Bd B b (l ++ hexL s x) w' ∧ Below b w w' ∧ (l ++ hexL s x).length ≤ l.length + 90 :=
  (hexLine_any B b l s x w h hl hs).mono fun e w' h => ⟨h.1, h.2.1.len (by simp [hexL]), h.2.2, by have := hexL_len s x hs; rw [List.length_append]; omega⟩
theorem decL_any (B b : Nat) (l : List UInt8) (s : ByteArray) (x : Int) (w : World) (h : Bd B b l w) (hl : l.length ≤ 4096) (hs : s.size ≤ 64) (h0 : -9223372036854775808 ≤ x) (h1 : x ≤ 9223372036854775807) :
    Calls Tryd.prog 39 #[.string s, .int .i64 x, .pointer (some ⟨b, 0, none⟩)] w fun e w' => e = .returned (.tuple #[]) ∧ Bd B b (l ++ decL s x) w' ∧ Below b w w' ∧ (l ++ decL s x).length ≤ l.length + 90 :=
  (decLine_any B b l s x w h hl hs h0 h1).mono fun e w' h => ⟨h.1, h.2.1.len (by simp [decL]), h.2.2, by have := decL_len s x hs h0 h1; rw [List.length_append]; omega⟩

/-- a Stat's text -/
def textB (a0 a1 a2 a3 a4 a5 a6 a7 a8 a9 a10 : Int) : List UInt8 :=
  ((((((((((([] ++ hexL ⟨#[99, 90, 120, 105, 100]⟩ a0) ++ decL ⟨#[99, 116, 105, 109, 101]⟩ a2) ++ hexL ⟨#[109, 90, 120, 105, 100]⟩ a1) ++ decL ⟨#[109, 116, 105, 109, 101]⟩ a3) ++ hexL ⟨#[112, 90, 120, 105, 100]⟩ a10) ++ decL ⟨#[99, 118, 101, 114, 115, 105, 111, 110]⟩ a5) ++ decL ⟨#[100, 97, 116, 97, 86, 101, 114, 115, 105, 111, 110]⟩ a4) ++ decL ⟨#[97, 99, 108, 86, 101, 114, 115, 105, 111, 110]⟩ a6) ++ hexL ⟨#[101, 112, 104, 101, 109, 101, 114, 97, 108, 79, 119, 110, 101, 114]⟩ a7) ++ decL ⟨#[100, 97, 116, 97, 76, 101, 110, 103, 116, 104]⟩ a8) ++ decL ⟨#[110, 117, 109, 67, 104, 105, 108, 100, 114, 101, 110]⟩ a9)

set_option maxRecDepth 100000 in
set_option maxHeartbeats 4000000 in
theorem text_any (a0 a1 a2 a3 a4 a5 a6 a7 a8 a9 a10 : Int) (r0 : -9223372036854775808 ≤ a0 ∧ a0 ≤ 9223372036854775807) (r1 : -9223372036854775808 ≤ a1 ∧ a1 ≤ 9223372036854775807) (r2 : -9223372036854775808 ≤ a2 ∧ a2 ≤ 9223372036854775807) (r3 : -9223372036854775808 ≤ a3 ∧ a3 ≤ 9223372036854775807) (r4 : -2147483648 ≤ a4 ∧ a4 ≤ 2147483647) (r5 : -2147483648 ≤ a5 ∧ a5 ≤ 2147483647) (r6 : -2147483648 ≤ a6 ∧ a6 ≤ 2147483647) (r7 : -9223372036854775808 ≤ a7 ∧ a7 ≤ 9223372036854775807) (r8 : -2147483648 ≤ a8 ∧ a8 ≤ 2147483647) (r9 : -2147483648 ≤ a9 ∧ a9 ≤ 2147483647) (r10 : -9223372036854775808 ≤ a10 ∧ a10 ≤ 9223372036854775807) (w : World) (hE : EnvN w.heap.size w) :
    Calls Tryd.prog 12 #[.agg #[.int .i64 a0, .int .i64 a1, .int .i64 a2, .int .i64 a3, .int .i32 a4, .int .i32 a5, .int .i32 a6, .int .i64 a7, .int .i32 a8, .int .i32 a9, .int .i64 a10]] w fun e w' => e = .returned (.string ⟨(textB a0 a1 a2 a3 a4 a5 a6 a7 a8 a9 a10).toArray⟩) ∧ Below w.heap.size w w' := by
  obtain ⟨w1, hw1⟩ : ∃ w1, (w.alloc (.cells #[.int .i64 a0, .int .i64 a1, .int .i64 a2, .int .i64 a3, .int .i32 a4, .int .i32 a5, .int .i32 a6, .int .i64 a7, .int .i32 a8, .int .i32 a9, .int .i64 a10] 23)).alloc (.cells #[.pointer none, .slice none 0 0] 82) = w1 := ⟨_, rfl⟩
  have HS : Hid (Blk w1 w.heap.size 23 #[.int .i64 a0, .int .i64 a1, .int .i64 a2, .int .i64 a3, .int .i32 a4, .int .i32 a5, .int .i32 a6, .int .i64 a7, .int .i32 a8, .int .i32 a9, .int .i64 a10]) := by unfold Hid; rw [← hw1]; exact (Blk.new _ _ _).alloc _
  have HB1 : Hid (Below w.heap.size w w1) := by unfold Hid; rw [← hw1]; exact ((Below.refl _ _).alloc (Nat.le_refl _) _).alloc (by simp) _
  have hz1 : w1.heap.size = w.heap.size + 2 := by rw [← hw1]; simp
  have hbd : Bd w.heap.size (w.heap.size + 1) [] w1 := by
    have hf := Lib.fresh_isBuilder 82 5 (w.alloc (.cells #[.int .i64 a0, .int .i64 a1, .int .i64 a2, .int .i64 a3, .int .i32 a4, .int .i32 a5, .int .i32 a6, .int .i64 a7, .int .i32 a8, .int .i32 a9, .int .i64 a10] 23))
    rw [hw1] at hf
    have hs : (w.alloc (.cells #[.int .i64 a0, .int .i64 a1, .int .i64 a2, .int .i64 a3, .int .i32 a4, .int .i32 a5, .int .i32 a6, .int .i64 a7, .int .i32 a8, .int .i32 a9, .int .i64 a10] 23)).heap.size = w.heap.size + 1 := by simp
    rw [hs] at hf
    exact ⟨.of hf, hE.below HB1.out (Nat.le_refl _), Nat.le_succ _, by omega⟩
  have HD0 := Lib.hid hbd
  have HF0 : Hid (Below (w.heap.size + 1) w1 w1) := Below.refl _ _
  have hn0 : ([] : List UInt8).length ≤ 0 := Nat.le_refl _
  have hmf : ∀ (fn : Fn) (first cap : Array Value) (w : World), (Instr.makeFunc fn first cap).run Tryd.prog w = .ok (.func fn first cap) w := fun _ _ _ _ => rfl
  have c0 := lit_cell HS.out 0 rfl
  clear hbd hE
  go_enter Tryd.func12, Tryd.ntmps12
  go_wp2_with (go_at_call 36; refine (hexL_any w.heap.size (w.heap.size + 1) [] ⟨#[99, 90, 120, 105, 100]⟩ a0 w1 HD0.out (by omega) (by decide)).mono ?_; rintro e w2 ⟨rfl, hd, hb, hn1⟩; have HD1 := Lib.hid hd; have HF1 : Hid (Below (w.heap.size + 1) w1 w2) := HF0.out.trans hb; clear hd hb; refine Hid.out ?_)
  obtain ⟨l1, hl1⟩ : ∃ l1, l1 = [] ++ hexL ⟨#[99, 90, 120, 105, 100]⟩ a0 := ⟨_, rfl⟩
  rw [← hl1] at HD1 hn1
  have HL1 := Lib.hid hl1
  clear hl1 c0
  have c2 := lit_cell (HS.out.below HF1.out (Nat.lt_succ_self _)) 2 rfl
  refine Lib.hid ?_
  go_wp2_with (go_at_call 39; refine (decL_any w.heap.size (w.heap.size + 1) l1 ⟨#[99, 116, 105, 109, 101]⟩ a2 w2 HD1.out (by omega) (by decide) (by omega) (by omega)).mono ?_; rintro e w3 ⟨rfl, hd, hb, hn2⟩; have HD2 := Lib.hid hd; have HF2 : Hid (Below (w.heap.size + 1) w1 w3) := HF1.out.trans hb; clear hd hb; refine Hid.out ?_)
  obtain ⟨l2, hl2⟩ : ∃ l2, l2 = l1 ++ decL ⟨#[99, 116, 105, 109, 101]⟩ a2 := ⟨_, rfl⟩
  rw [← hl2] at HD2 hn2
  have HL2 := Lib.hid hl2
  clear hl2 c2
  have c1 := lit_cell (HS.out.below HF2.out (Nat.lt_succ_self _)) 1 rfl
  refine Lib.hid ?_
  go_wp2_with (go_at_call 36; refine (hexL_any w.heap.size (w.heap.size + 1) l2 ⟨#[109, 90, 120, 105, 100]⟩ a1 w3 HD2.out (by omega) (by decide)).mono ?_; rintro e w4 ⟨rfl, hd, hb, hn3⟩; have HD3 := Lib.hid hd; have HF3 : Hid (Below (w.heap.size + 1) w1 w4) := HF2.out.trans hb; clear hd hb; refine Hid.out ?_)
  obtain ⟨l3, hl3⟩ : ∃ l3, l3 = l2 ++ hexL ⟨#[109, 90, 120, 105, 100]⟩ a1 := ⟨_, rfl⟩
  rw [← hl3] at HD3 hn3
  have HL3 := Lib.hid hl3
  clear hl3 c1
  have c3 := lit_cell (HS.out.below HF3.out (Nat.lt_succ_self _)) 3 rfl
  refine Lib.hid ?_
  go_wp2_with (go_at_call 39; refine (decL_any w.heap.size (w.heap.size + 1) l3 ⟨#[109, 116, 105, 109, 101]⟩ a3 w4 HD3.out (by omega) (by decide) (by omega) (by omega)).mono ?_; rintro e w5 ⟨rfl, hd, hb, hn4⟩; have HD4 := Lib.hid hd; have HF4 : Hid (Below (w.heap.size + 1) w1 w5) := HF3.out.trans hb; clear hd hb; refine Hid.out ?_)
  obtain ⟨l4, hl4⟩ : ∃ l4, l4 = l3 ++ decL ⟨#[109, 116, 105, 109, 101]⟩ a3 := ⟨_, rfl⟩
  rw [← hl4] at HD4 hn4
  have HL4 := Lib.hid hl4
  clear hl4 c3
  have c10 := lit_cell (HS.out.below HF4.out (Nat.lt_succ_self _)) 10 rfl
  refine Lib.hid ?_
  go_wp2_with (go_at_call 36; refine (hexL_any w.heap.size (w.heap.size + 1) l4 ⟨#[112, 90, 120, 105, 100]⟩ a10 w5 HD4.out (by omega) (by decide)).mono ?_; rintro e w6 ⟨rfl, hd, hb, hn5⟩; have HD5 := Lib.hid hd; have HF5 : Hid (Below (w.heap.size + 1) w1 w6) := HF4.out.trans hb; clear hd hb; refine Hid.out ?_)
  obtain ⟨l5, hl5⟩ : ∃ l5, l5 = l4 ++ hexL ⟨#[112, 90, 120, 105, 100]⟩ a10 := ⟨_, rfl⟩
  rw [← hl5] at HD5 hn5
  have HL5 := Lib.hid hl5
  clear hl5 c10
  have c5 := lit_cell (HS.out.below HF5.out (Nat.lt_succ_self _)) 5 rfl
  refine Lib.hid ?_
  go_wp2_with (go_at_call 39; refine (decL_any w.heap.size (w.heap.size + 1) l5 ⟨#[99, 118, 101, 114, 115, 105, 111, 110]⟩ a5 w6 HD5.out (by omega) (by decide) (by omega) (by omega)).mono ?_; rintro e w7 ⟨rfl, hd, hb, hn6⟩; have HD6 := Lib.hid hd; have HF6 : Hid (Below (w.heap.size + 1) w1 w7) := HF5.out.trans hb; clear hd hb; refine Hid.out ?_)
  obtain ⟨l6, hl6⟩ : ∃ l6, l6 = l5 ++ decL ⟨#[99, 118, 101, 114, 115, 105, 111, 110]⟩ a5 := ⟨_, rfl⟩
  rw [← hl6] at HD6 hn6
  have HL6 := Lib.hid hl6
  clear hl6 c5
  have c4 := lit_cell (HS.out.below HF6.out (Nat.lt_succ_self _)) 4 rfl
  refine Lib.hid ?_
  go_wp2_with (go_at_call 39; refine (decL_any w.heap.size (w.heap.size + 1) l6 ⟨#[100, 97, 116, 97, 86, 101, 114, 115, 105, 111, 110]⟩ a4 w7 HD6.out (by omega) (by decide) (by omega) (by omega)).mono ?_; rintro e w8 ⟨rfl, hd, hb, hn7⟩; have HD7 := Lib.hid hd; have HF7 : Hid (Below (w.heap.size + 1) w1 w8) := HF6.out.trans hb; clear hd hb; refine Hid.out ?_)
  obtain ⟨l7, hl7⟩ : ∃ l7, l7 = l6 ++ decL ⟨#[100, 97, 116, 97, 86, 101, 114, 115, 105, 111, 110]⟩ a4 := ⟨_, rfl⟩
  rw [← hl7] at HD7 hn7
  have HL7 := Lib.hid hl7
  clear hl7 c4
  have c6 := lit_cell (HS.out.below HF7.out (Nat.lt_succ_self _)) 6 rfl
  refine Lib.hid ?_
  go_wp2_with (go_at_call 39; refine (decL_any w.heap.size (w.heap.size + 1) l7 ⟨#[97, 99, 108, 86, 101, 114, 115, 105, 111, 110]⟩ a6 w8 HD7.out (by omega) (by decide) (by omega) (by omega)).mono ?_; rintro e w9 ⟨rfl, hd, hb, hn8⟩; have HD8 := Lib.hid hd; have HF8 : Hid (Below (w.heap.size + 1) w1 w9) := HF7.out.trans hb; clear hd hb; refine Hid.out ?_)
  obtain ⟨l8, hl8⟩ : ∃ l8, l8 = l7 ++ decL ⟨#[97, 99, 108, 86, 101, 114, 115, 105, 111, 110]⟩ a6 := ⟨_, rfl⟩
  rw [← hl8] at HD8 hn8
  have HL8 := Lib.hid hl8
  clear hl8 c6
  have c7 := lit_cell (HS.out.below HF8.out (Nat.lt_succ_self _)) 7 rfl
  refine Lib.hid ?_
  go_wp2_with (go_at_call 36; refine (hexL_any w.heap.size (w.heap.size + 1) l8 ⟨#[101, 112, 104, 101, 109, 101, 114, 97, 108, 79, 119, 110, 101, 114]⟩ a7 w9 HD8.out (by omega) (by decide)).mono ?_; rintro e w10 ⟨rfl, hd, hb, hn9⟩; have HD9 := Lib.hid hd; have HF9 : Hid (Below (w.heap.size + 1) w1 w10) := HF8.out.trans hb; clear hd hb; refine Hid.out ?_)
  obtain ⟨l9, hl9⟩ : ∃ l9, l9 = l8 ++ hexL ⟨#[101, 112, 104, 101, 109, 101, 114, 97, 108, 79, 119, 110, 101, 114]⟩ a7 := ⟨_, rfl⟩
  rw [← hl9] at HD9 hn9
  have HL9 := Lib.hid hl9
  clear hl9 c7
  have c8 := lit_cell (HS.out.below HF9.out (Nat.lt_succ_self _)) 8 rfl
  refine Lib.hid ?_
  go_wp2_with (go_at_call 39; refine (decL_any w.heap.size (w.heap.size + 1) l9 ⟨#[100, 97, 116, 97, 76, 101, 110, 103, 116, 104]⟩ a8 w10 HD9.out (by omega) (by decide) (by omega) (by omega)).mono ?_; rintro e w11 ⟨rfl, hd, hb, hn10⟩; have HD10 := Lib.hid hd; have HF10 : Hid (Below (w.heap.size + 1) w1 w11) := HF9.out.trans hb; clear hd hb; refine Hid.out ?_)
  obtain ⟨l10, hl10⟩ : ∃ l10, l10 = l9 ++ decL ⟨#[100, 97, 116, 97, 76, 101, 110, 103, 116, 104]⟩ a8 := ⟨_, rfl⟩
  rw [← hl10] at HD10 hn10
  have HL10 := Lib.hid hl10
  clear hl10 c8
  have c9 := lit_cell (HS.out.below HF10.out (Nat.lt_succ_self _)) 9 rfl
  refine Lib.hid ?_
  go_wp2_with (go_at_call 39; refine (decL_any w.heap.size (w.heap.size + 1) l10 ⟨#[110, 117, 109, 67, 104, 105, 108, 100, 114, 101, 110]⟩ a9 w11 HD10.out (by omega) (by decide) (by omega) (by omega)).mono ?_; rintro e w12 ⟨rfl, hd, hb, hn11⟩; have HD11 := Lib.hid hd; have HF11 : Hid (Below (w.heap.size + 1) w1 w12) := HF10.out.trans hb; clear hd hb; refine Hid.out ?_)
  obtain ⟨l11, hl11⟩ : ∃ l11, l11 = l10 ++ decL ⟨#[110, 117, 109, 67, 104, 105, 108, 100, 114, 101, 110]⟩ a9 := ⟨_, rfl⟩
  rw [← hl11] at HD11 hn11
  have HL11 := Lib.hid hl11
  clear hl11 c9
  refine Lib.hid ?_
  have hfin : l11 = textB a0 a1 a2 a3 a4 a5 a6 a7 a8 a9 a10 := by
    unfold textB
    rw [HL11.out, HL10.out, HL9.out, HL8.out, HL7.out, HL6.out, HL5.out, HL4.out, HL3.out, HL2.out, HL1.out]
  have hs := HD11.out.at_
  rw [hfin] at hs
  have HSB := Lib.hid hs
  clear hs hfin
  go_wp2_with (go_at_call 41; refine (Tryd.Builder_String_any_k (w.heap.size + 1) (w.heap.size + 1) (textB a0 a1 a2 a3 a4 a5 a6 a7 a8 a9 a10) w12 HSB.out HD11.out.b).mono ?_; rintro e w13 ⟨rfl, _, hb, _⟩; have HBF := Lib.hid hb; clear hb)
  go_ret
  exact ⟨rfl, HB1.out.trans ((HF11.out.trans HBF.out).mono (Nat.le_succ _))⟩
end Go.Proofs.YtaojjjcaofhmcaaDoor
