/- The law StatReads: the walk, by what its calls come to. (printed by gen_f1.py) -/
import Derived.Test.YtaojjjcaofhmcaaDoorSe2
import Derived.Test.YtaojjjcaofhmcaaDoorInv
import Derived.Test.YtaojjjcaofhmcaaDoorSn8
set_option linter.unusedVariables false
set_option linter.unusedSimpArgs false
namespace Go.Proofs.YtaojjjcaofhmcaaDoor
open Go.RowKit

theorem int_eql_self {P : Program} {t : TypeId} (z : Int) (w : World) (h : P.underlying t = some (.int .i64)) : (binOp .eql t (.int .i64 z) (.int .i64 z)).run P w = .ok (.bool true) w := by
  simp [go_sem, h]
theorem str_eql_self (x : ByteArray) (w : World) : (binOp .eql 9 (.string x) (.string x)).run Tryd.prog w = .ok (.bool true) w := by
  simp [go_sem]

set_option maxRecDepth 100000 in
set_option maxHeartbeats 8000000 in
theorem reads_walk5 (NI : World → Array Value → Prop) (sc : Array Value) (bA : Option Addr) (bn bc : Nat) (lb : List UInt8) (E E2 : Int) (w : World)
    (NL : Hid (∀ W W' mc, NI W mc → Below W.heap.size W W' → NI W' mc)) (NZ : Hid (∀ W mc, NI W mc → (Tryd.prog.info? 32).map (·.size) = some mc.size)) (N17 : Hid (∀ W mc, NI W mc → mc.size = 17)) (NO1 : Hid (∀ W mc, NI W mc → mc.all (·.oneCell') = true))
    (ZS : Hid ((Tryd.prog.info? 23).map (·.size) = some sc.size)) (S11 : Hid (sc.size = 11)) (ONS : Hid (sc.all (·.oneCell') = true))
    (SE : Hid (∀ W, (binOp .eql 23 (.agg sc) (.agg sc)).run Tryd.prog W = .ok (.bool true) W)) (GB : Hid (Got w bA bn bc lb)) (HBN : Hid (bn ≤ 140737488355328))
    (AL : Hid (∀ W, Below w.heap.size w W → Calls Tryd.prog 27 #[] W fun e w' => e = .returned (.bool true) ∧ Below W.heap.size W w'))
    (D1 : Hid (∀ W A c, Below w.heap.size w W → Got W A bn c lb → Calls Tryd.prog 23 #[.slice A bn c] W fun e w' => ∃ mc, NI w' mc ∧ e = .returned (.tuple #[.agg mc, .int .i64 E]) ∧ Below W.heap.size W w'))
    (D2 : Hid (∀ W A c, Below w.heap.size w W → Got W A bn c lb → Calls Tryd.prog 24 #[.slice A bn c] W fun e w' => ∃ mc, NI w' mc ∧ e = .returned (.tuple #[.agg mc, .int .i64 E]) ∧ Below W.heap.size W w'))
    (R1 : Hid (∀ W A c, Below w.heap.size w W → Got W A bn c lb → Calls Tryd.prog 25 #[.slice A bn c] W fun e w' => e = .returned (.tuple #[.agg sc, .int .i64 E2]) ∧ Below W.heap.size W w'))
    (R2 : Hid (∀ W A c, Below w.heap.size w W → Got W A bn c lb → Calls Tryd.prog 26 #[.slice A bn c] W fun e w' => e = .returned (.tuple #[.agg sc, .int .i64 E2]) ∧ Below W.heap.size W w'))
    (SR : Hid (∀ W mc nc, Below w.heap.size w W → NI W mc → NI W nc → Calls Tryd.prog 21 #[.agg mc, .agg nc] W fun e w' => e = .returned (.bool true) ∧ Below W.heap.size W w')) :
    Calls Tryd.prog 5 #[.slice bA bn bc] w fun e w' => e = .returned (.bool true) ∧ Below w.heap.size w w' := by
  obtain ⟨i0, hi0, hz0, hz1, hz2⟩ := info_parts u8_infoS
  go_enter Tryd.func5, Tryd.ntmps5
  go_wp2_with (first
    | (at_builtin
       have hlim := HBN.out
       refine wpList_append_any _ rfl (.tmp 12) (.tmp 13) _ rfl w.heap.size 5 i0 _ 1 1 Tryd.underlying24 hi0 hz0 hz1 hz2 rfl (by decide) (.slice (some ⟨w.heap.size, 0, none⟩) 0 0) 0 [] rfl (owns_empty (Blk.new' (by simp)) (by omega)) w.heap.size bA bn bc (bcells lb) rfl (GB.out.1.below (by go_grown)) (bcells_one lb) (by simp only [maxLen] <;> omega) (by omega) (by simp <;> omega) ?_
       intro v1 w1 hown1 hg1 hat1
       have hb1 : Below w.heap.size w w1 := Below.grown (by go_grown) hg1 (by simp) (fun k hk => by simp [Value.ownBlock] at hk; omega)
       clear hat1 hg1
       obtain ⟨A1, k1, hv1⟩ := slice_form hown1
       rw [hv1] at hown1 ⊢
       simp only [Nat.zero_add, List.nil_append] at hown1
       have GMw1 := Lib.hid (Got.of_own hown1)
       have HBw1 := Lib.hid hb1
       have hz1' := hb1.size
       clear hv1 v1 hown1 hb1 hlim)
    | (go_at_call 23
       refine (D1.out _ _ _ HBw1.out GMw1.out).mono ?_
       clear D1
       rintro e w2 ⟨mc, hni, rfl, hb5⟩
       have hz2' := hb5.size
       have HBw2 := Lib.hid (HBw1.out.trans (hb5.mono HBw1.out.size))
       have GMw2 := Lib.hid (GMw1.out.later hb5)
       have NIw2 := Lib.hid hni
       clear hb5 hni)
    | (refine wpList_store_row rfl 32 (.tmp 4) (.tmp 18) rfl w2.heap.size mc rfl rfl 32 _ (Blk.new _ _ _) (NZ.out _ _ NIw2.out) (by rw [N17.out _ _ NIw2.out]; first | done | rfl) (NO1.out _ _ NIw2.out) ?_
       generalize hww : World.setRow _ _ _ = w3
       have hb5 : Below w2.heap.size w2 w3 := by rw [← hww]; exact below_setRow' (by go_grown) (Nat.le_refl _) _
       have HMw3 : Hid (Blk w3 w2.heap.size 32 mc) := by unfold Hid; rw [← hww]; exact cells_setRow (Blk.new _ _ _)
       have hzw3 := hb5.size
       have HBw3 := Lib.hid (HBw2.out.trans (hb5.mono HBw2.out.size))
       have GMw3 := Lib.hid (GMw2.out.later hb5)
       have NIw3 := Lib.hid (NL.out _ _ _ NIw2.out hb5)
       clear hb5 hww)
    | (go_at_call 24
       refine (D2.out _ _ _ HBw3.out ⟨(GB.out.1.below HBw3.out).more HBw3.out.size, GB.out.2⟩).mono ?_
       clear D2
       rintro e w4 ⟨nc, hni, rfl, hb5⟩
       have hz4' := hb5.size
       have HBw4 := Lib.hid (HBw3.out.trans (hb5.mono HBw3.out.size))
       have GMw4 := Lib.hid (GMw3.out.later hb5)
       have NIw4 := Lib.hid (NL.out _ _ _ NIw3.out hb5)
       have NJw4 := Lib.hid hni
       have HMw4 := Lib.hid (HMw3.out.below hb5 HMw3.out.lt)
       clear hb5 hni)
    | (refine wpList_store_row rfl 32 (.tmp 6) (.tmp 23) rfl w4.heap.size nc rfl rfl 32 _ (Blk.new _ _ _) (NZ.out _ _ NJw4.out) (by rw [N17.out _ _ NJw4.out]; first | done | rfl) (NO1.out _ _ NJw4.out) ?_
       generalize hww : World.setRow _ _ _ = w5
       have hb5 : Below w4.heap.size w4 w5 := by rw [← hww]; exact below_setRow' (by go_grown) (Nat.le_refl _) _
       have HNw5 : Hid (Blk w5 w4.heap.size 32 nc) := by unfold Hid; rw [← hww]; exact cells_setRow (Blk.new _ _ _)
       have hzw5 := hb5.size
       have HBw5 := Lib.hid (HBw4.out.trans (hb5.mono HBw4.out.size))
       have GMw5 := Lib.hid (GMw4.out.later hb5)
       have NIw5 := Lib.hid (NL.out _ _ _ NIw4.out hb5)
       have NJw5 := Lib.hid (NL.out _ _ _ NJw4.out hb5)
       have HMw5 := Lib.hid (HMw4.out.below hb5 HMw4.out.lt)
       clear hb5 hww)
    | (go_at_call 25
       refine (R1.out _ _ _ HBw5.out GMw5.out).mono ?_
       clear R1
       rintro e w6 ⟨rfl, hb5⟩
       have hzw6' := hb5.size
       have HBw6 := Lib.hid (HBw5.out.trans (hb5.mono HBw5.out.size))
       have GMw6 := Lib.hid (GMw5.out.later hb5)
       have NIw6 := Lib.hid (NL.out _ _ _ NIw5.out hb5)
       have NJw6 := Lib.hid (NL.out _ _ _ NJw5.out hb5)
       have HMw6 := Lib.hid (HMw5.out.below hb5 HMw5.out.lt)
       have HNw6 := Lib.hid (HNw5.out.below hb5 HNw5.out.lt)
       clear hb5)
    | (refine wpList_store_row rfl 23 (.tmp 8) (.tmp 28) rfl w6.heap.size sc rfl rfl 23 _ (Blk.new _ _ _) ZS.out (by rw [S11.out]; first | done | rfl) ONS.out ?_
       generalize hww : World.setRow _ _ _ = w7
       have hb5 : Below w6.heap.size w6 w7 := by rw [← hww]; exact below_setRow' (by go_grown) (Nat.le_refl _) _
       have HSw7 : Hid (Blk w7 w6.heap.size 23 sc) := by unfold Hid; rw [← hww]; exact cells_setRow (Blk.new _ _ _)
       have hzw7 := hb5.size
       have HBw7 := Lib.hid (HBw6.out.trans (hb5.mono HBw6.out.size))
       have GMw7 := Lib.hid (GMw6.out.later hb5)
       have NIw7 := Lib.hid (NL.out _ _ _ NIw6.out hb5)
       have NJw7 := Lib.hid (NL.out _ _ _ NJw6.out hb5)
       have HMw7 := Lib.hid (HMw6.out.below hb5 HMw6.out.lt)
       have HNw7 := Lib.hid (HNw6.out.below hb5 HNw6.out.lt)
       clear hb5 hww)
    | (go_at_call 26
       refine (R2.out _ _ _ HBw7.out ⟨(GB.out.1.below HBw7.out).more HBw7.out.size, GB.out.2⟩).mono ?_
       clear R2
       rintro e w8 ⟨rfl, hb5⟩
       have hzw8' := hb5.size
       have HBw8 := Lib.hid (HBw7.out.trans (hb5.mono HBw7.out.size))
       have GMw8 := Lib.hid (GMw7.out.later hb5)
       have NIw8 := Lib.hid (NL.out _ _ _ NIw7.out hb5)
       have NJw8 := Lib.hid (NL.out _ _ _ NJw7.out hb5)
       have HMw8 := Lib.hid (HMw7.out.below hb5 HMw7.out.lt)
       have HNw8 := Lib.hid (HNw7.out.below hb5 HNw7.out.lt)
       have HSw8 := Lib.hid (HSw7.out.below hb5 HSw7.out.lt)
       clear hb5)
    | (refine wpList_store_row rfl 23 (.tmp 10) (.tmp 33) rfl w8.heap.size sc rfl rfl 23 _ (Blk.new _ _ _) ZS.out (by rw [S11.out]; first | done | rfl) ONS.out ?_
       generalize hww : World.setRow _ _ _ = w9
       have hb5 : Below w8.heap.size w8 w9 := by rw [← hww]; exact below_setRow' (by go_grown) (Nat.le_refl _) _
       have HTw9 : Hid (Blk w9 w8.heap.size 23 sc) := by unfold Hid; rw [← hww]; exact cells_setRow (Blk.new _ _ _)
       have hzw9 := hb5.size
       have HBw9 := Lib.hid (HBw8.out.trans (hb5.mono HBw8.out.size))
       have GMw9 := Lib.hid (GMw8.out.later hb5)
       have NIw9 := Lib.hid (NL.out _ _ _ NIw8.out hb5)
       have NJw9 := Lib.hid (NL.out _ _ _ NJw8.out hb5)
       have HMw9 := Lib.hid (HMw8.out.below hb5 HMw8.out.lt)
       have HNw9 := Lib.hid (HNw8.out.below hb5 HNw8.out.lt)
       have HSw9 := Lib.hid (HSw8.out.below hb5 HSw8.out.lt)
       clear hb5 hww)
    | (refine wpList_load_row rfl 32 (.tmp 4) rfl w2.heap.size rfl 32 _ _ _ HMw9.out Tryd.underlying32 rfl (NZ.out _ _ NIw9.out) ?_)
    | (refine wpList_load_row rfl 32 (.tmp 6) rfl w4.heap.size rfl 32 _ _ _ HNw9.out Tryd.underlying32 rfl (NZ.out _ _ NJw9.out) ?_)
    | (go_at_call 21
       refine (SR.out w9 mc nc HBw9.out NIw9.out NJw9.out).mono ?_
       clear SR
       rintro e w10 ⟨rfl, hb5⟩
       have hzw10' := hb5.size
       have HBw10 := Lib.hid (HBw9.out.trans (hb5.mono HBw9.out.size))
       have HSw10 := Lib.hid (HSw9.out.below hb5 HSw9.out.lt)
       have HTw10 := Lib.hid (HTw9.out.below hb5 HTw9.out.lt)
       have cv1 : (convert 24 9 (.slice A1 bn k1)).run Tryd.prog w10 = .ok (.string ⟨lb.toArray⟩) w10 := run_string_of_bytes Tryd.underlying24 Tryd.underlying5 (GMw9.out.1.below hb5) 9 Tryd.underlying9
       have cv2 : (convert 24 9 (.slice bA bn bc)).run Tryd.prog w10 = .ok (.string ⟨lb.toArray⟩) w10 := run_string_of_bytes Tryd.underlying24 Tryd.underlying5 (GB.out.1.below HBw10.out) 9 Tryd.underlying9
       clear hb5)
    | (go_at_call 17
       refine (no5_any _ w10).mono ?_
       rintro e w11 ⟨rfl, rfl⟩)
    | (refine wpList_load_row_g (by rfl) 23 (.tmp 8) rfl w6.heap.size rfl 23 _ _ _ HSw10.out Tryd.underlying23 rfl ZS.out ?_)
    | (refine wpList_load_row_g (by rfl) 23 (.tmp 10) rfl w8.heap.size rfl 23 _ _ _ HTw10.out Tryd.underlying23 rfl ZS.out ?_)
    | (refine wpList_eql_agg_g (by rfl) 23 (.tmp 45) (.tmp 46) _ rfl sc sc rfl rfl (by as_aux_lemma => kernel_rfl) true (SE.out w10) ?_)
    | (go_at_call 27
       refine (AL.out w10 HBw10.out).mono ?_
       clear AL
       rintro e w12 ⟨rfl, hb5⟩
       have HBw12 := Lib.hid (HBw10.out.trans (hb5.mono HBw10.out.size))
       clear hb5))
  go_ret
  exact ⟨rfl, HBw12.out⟩
end Go.Proofs.YtaojjjcaofhmcaaDoor
