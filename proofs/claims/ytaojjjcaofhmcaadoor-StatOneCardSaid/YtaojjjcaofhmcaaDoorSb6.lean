/- StatRecords: the law's walk. (printed by gen_b6.py) -/
import Derived.Test.YtaojjjcaofhmcaaDoorSr2
import Derived.Test.YtaojjjcaofhmcaaDoorSb5
import Derived.Test.YtaojjjcaofhmcaaDoorBase
import Derived.Deep.RegionWith
set_option linter.unusedVariables false
set_option linter.unusedSimpArgs false
namespace Go.Proofs.YtaojjjcaofhmcaaDoor
open Go.RowKit

theorem conv_own {w w' : World} {B : Nat} {A : Option Addr} {c : Nat} {l : List UInt8} (h : w.ownsRow B 5 1 (.slice A 68 c) 68 (bcells l)) (hb : Below w.heap.size w w') :
    (convert 24 9 (.slice A 68 c)).run Tryd.prog w' = .ok (.string ⟨l.toArray⟩) w' := by
  have h2 := own_kp h (Kp.of_below (X := []) hb) (fun _ h => by cases h)
  have hl : l.length = 68 := by have := h.1; simpa [bcells] using this
  rcases h2.2 with ⟨_, h0⟩ | ⟨g, cap, cur, hv, _⟩
  · cases h0
  · cases hv
    have hc := run_convert_bytes_back (P := Tryd.prog) w' 24 9 5 ⟨g, 0, none⟩ c l Tryd.underlying24 Tryd.underlying5 Tryd.underlying9 (fun j hj => h2.cells rfl j _ (by simp [bcells, List.getElem?_eq_getElem hj]))
    rwa [hl] at hc
theorem EnvN.mono {B B' : Nat} {W : World} (h : EnvN B W) (hB : B ≤ B') : EnvN B' W := ⟨h.tab, h.db, Nat.lt_of_lt_of_le h.g1 hB, Nat.lt_of_lt_of_le h.g2 hB⟩

set_option maxRecDepth 100000 in
set_option maxHeartbeats 4000000 in
theorem recordsLaw_any (a0 a1 a2 a3 a4 a5 a6 a7 a8 a9 a10 : Int) (r0 : -9223372036854775808 ≤ a0 ∧ a0 ≤ 9223372036854775807) (r1 : -9223372036854775808 ≤ a1 ∧ a1 ≤ 9223372036854775807) (r2 : -9223372036854775808 ≤ a2 ∧ a2 ≤ 9223372036854775807) (r3 : -9223372036854775808 ≤ a3 ∧ a3 ≤ 9223372036854775807) (r4 : -2147483648 ≤ a4 ∧ a4 ≤ 2147483647) (r5 : -2147483648 ≤ a5 ∧ a5 ≤ 2147483647) (r6 : -2147483648 ≤ a6 ∧ a6 ≤ 2147483647) (r7 : -9223372036854775808 ≤ a7 ∧ a7 ≤ 9223372036854775807) (r8 : -2147483648 ≤ a8 ∧ a8 ≤ 2147483647) (r9 : -2147483648 ≤ a9 ∧ a9 ≤ 2147483647) (r10 : -9223372036854775808 ≤ a10 ∧ a10 ≤ 9223372036854775807) (w : World) (hE : EnvN w.heap.size w) :
    Calls Tryd.prog 3 #[.agg #[.int .i64 a0, .int .i64 a1, .int .i64 a2, .int .i64 a3, .int .i32 a4, .int .i32 a5, .int .i32 a6, .int .i64 a7, .int .i32 a8, .int .i32 a9, .int .i64 a10]] w fun e w' => e = .returned (.bool true) ∧ Below w.heap.size w w' := by
  obtain ⟨w1, hw1⟩ : ∃ w1, w.alloc (.cells #[.int .i64 a0, .int .i64 a1, .int .i64 a2, .int .i64 a3, .int .i32 a4, .int .i32 a5, .int .i32 a6, .int .i64 a7, .int .i32 a8, .int .i32 a9, .int .i64 a10] 23) = w1 := ⟨_, rfl⟩
  have hS : Blk w1 w.heap.size 23 #[.int .i64 a0, .int .i64 a1, .int .i64 a2, .int .i64 a3, .int .i32 a4, .int .i32 a5, .int .i32 a6, .int .i64 a7, .int .i32 a8, .int .i32 a9, .int .i64 a10] := by rw [← hw1]; exact Blk.new _ _ _
  have HB1 : Hid (Below w.heap.size w w1) := by unfold Hid; rw [← hw1]; exact (Below.refl _ _).alloc (Nat.le_refl _) _
  have HZ1 : Hid (w.heap.size < w1.heap.size) := by unfold Hid; rw [← hw1]; simp
  have HE := Lib.hid hE
  have HS := Lib.hid hS
  have kc : ∀ i, w1.cell? ⟨w.heap.size, i, none⟩ = #[.int .i64 a0, .int .i64 a1, .int .i64 a2, .int .i64 a3, .int .i32 a4, .int .i32 a5, .int .i32 a6, .int .i64 a7, .int .i32 a8, .int .i32 a9, .int .i64 a10][i]? := hS.cell
  clear hE hS
  go_enter Tryd.func3, Tryd.ntmps3
  go_wp2_with fail
  go_region_with
    (first
      | (go_at_call 10
         with_reducible refine (record_any a0 a1 a2 a3 a4 a5 a6 a7 a8 a9 a10 _).mono ?_
         rintro e w2 ⟨A2, c2, rfl, ho2, hb2⟩
         have HB2 : Hid (Below w1.heap.size w1 w2) := ((Below.refl _ _).drew).trans hb2
         have kc2 : ∀ i, w2.cell? ⟨w.heap.size, i, none⟩ = (#[.int .i64 a0, .int .i64 a1, .int .i64 a2, .int .i64 a3, .int .i32 a4, .int .i32 a5, .int .i32 a6, .int .i64 a7, .int .i32 a8, .int .i32 a9, .int .i64 a10] : Array Value)[i]? := (HS.out.below HB2.out HZ1.out).cell
         have cv2 := conv_own ho2 (Below.refl _ _)
         have HO2 := Lib.hid ho2
         clear ho2 hb2)
      | (go_at_call 11
         with_reducible refine (refRecord_any a0 a1 a2 a3 a4 a5 a6 a7 a8 a9 a10 _).mono ?_
         rintro e w3 ⟨A3, c3, rfl, ho3, hb3⟩
         have HB3 : Hid (Below w1.heap.size w1 w3) := HB2.out.trans (hb3.mono HB2.out.size)
         have kc3 : ∀ i, w3.cell? ⟨w.heap.size, i, none⟩ = (#[.int .i64 a0, .int .i64 a1, .int .i64 a2, .int .i64 a3, .int .i32 a4, .int .i32 a5, .int .i32 a6, .int .i64 a7, .int .i32 a8, .int .i32 a9, .int .i64 a10] : Array Value)[i]? := (HS.out.below HB3.out HZ1.out).cell
         have cv3 := conv_own ho3 (Below.refl _ _)
         have cv23 := conv_own HO2.out hb3
         clear ho3 hb3)
      | (go_at_call 12
         with_reducible refine (text_any a0 a1 a2 a3 a4 a5 a6 a7 a8 a9 a10 r0 r1 r2 r3 r4 r5 r6 r7 r8 r9 r10 _ ((HE.out.below (HB1.out.trans (HB3.out.mono (Nat.le_of_lt HZ1.out))) (Nat.le_refl _)).mono (HB1.out.trans (HB3.out.mono (Nat.le_of_lt HZ1.out))).size)).mono ?_
         rintro e w4 ⟨rfl, hb4⟩
         have HB4 : Hid (Below w1.heap.size w1 w4) := HB3.out.trans (hb4.mono HB3.out.size)
         have kc4 : ∀ i, w4.cell? ⟨w.heap.size, i, none⟩ = (#[.int .i64 a0, .int .i64 a1, .int .i64 a2, .int .i64 a3, .int .i32 a4, .int .i32 a5, .int .i32 a6, .int .i64 a7, .int .i32 a8, .int .i32 a9, .int .i64 a10] : Array Value)[i]? := (HS.out.below HB4.out HZ1.out).cell
         clear hb4)
      | (go_at_call 13
         with_reducible refine (refText_any5 a0 a1 a2 a3 a4 a5 a6 a7 a8 a9 a10 r0 r1 r2 r3 r4 r5 r6 r7 r8 r9 r10 _ ((HE.out.below (HB1.out.trans (HB4.out.mono (Nat.le_of_lt HZ1.out))) (Nat.le_refl _)).mono (HB1.out.trans (HB4.out.mono (Nat.le_of_lt HZ1.out))).size)).mono ?_
         rintro e w5 ⟨rfl, hb5⟩
         have HB5 : Hid (Below w1.heap.size w1 w5) := HB4.out.trans (hb5.mono HB4.out.size)
         have kc5 : ∀ i, w5.cell? ⟨w.heap.size, i, none⟩ = (#[.int .i64 a0, .int .i64 a1, .int .i64 a2, .int .i64 a3, .int .i32 a4, .int .i32 a5, .int .i32 a6, .int .i64 a7, .int .i32 a8, .int .i32 a9, .int .i64 a10] : Array Value)[i]? := (HS.out.below HB5.out HZ1.out).cell
         clear hb5))
  all_goals (
    go_wp2
    go_ret
    exact ⟨rfl, HB1.out.trans (HB5.out.mono (Nat.le_of_lt HZ1.out))⟩)
end Go.Proofs.YtaojjjcaofhmcaaDoor
