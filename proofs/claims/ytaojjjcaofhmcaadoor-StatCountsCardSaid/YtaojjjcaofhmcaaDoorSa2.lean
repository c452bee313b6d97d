/- The law StatCounts: the walk. (printed by gen_a2.py) -/
import Derived.Test.YtaojjjcaofhmcaaDoorSa1
set_option linter.unusedVariables false
set_option linter.unusedSimpArgs false
namespace Go.Proofs.YtaojjjcaofhmcaaDoor
open Go.RowKit

theorem max5_ge (a b c d e : Int) : a ≤ max5 a b c d e ∧ b ≤ max5 a b c d e ∧ c ≤ max5 a b c d e ∧ d ≤ max5 a b c d e ∧ e ≤ max5 a b c d e := by
  unfold max5
  dsimp only
  repeat' split
  all_goals omega
theorem max5_mem (a b c d e : Int) : max5 a b c d e ∈ [a, b, c, d, e] := by
  have h : max5 a b c d e = a ∨ max5 a b c d e = b ∨ max5 a b c d e = c ∨ max5 a b c d e = d ∨ max5 a b c d e = e := by
    unfold max5
    dsimp only
    repeat' split
    all_goals omega
  simpa using h
theorem any_snoc {xs : List Int} {j : Nat} (z : Int) (h : j < xs.length) : (xs.take (j + 1)).any (· == z) = ((xs.take j).any (· == z) || xs[j] == z) := by
  rw [List.take_succ_eq_append_getElem h, List.any_append]
  simp
theorem wr_two (cr k : Int) : wrap32 (2 * wrap32 (cr + 1) - k) = wrap32 (wrap32 (2 * cr - k) + 2) := by unfold wrap32; omega
theorem wr_one (x k : Int) : wrap32 (x - wrap64 (k + 1)) = wrap32 (wrap32 (x - k) - 1) := by unfold wrap32 wrap64; omega
theorem wr_num (k : Int) : wrap32 (wrap64 (k + 1)) = wrap32 (wrap32 k + 1) := by unfold wrap32 wrap64; omega
theorem wr_u64 (k : Int) (h1 : -9223372036854775808 ≤ k) (h2 : k ≤ 9223372036854775807) : wrap64 (IntKind.u64.wrap (IntKind.u64.wrap k + 1)) = wrap64 (k + 1) := by
  rw [IntKind.wrap_u64, IntKind.wrap_u64]
  unfold wrap64
  omega
theorem xs5_get (cz mz pz az qz : Int) (xs : List Int) (h : xs = [cz, mz, pz, az, qz]) (j : Nat) (hj : j < xs.length) : (#[.int .i64 cz, .int .i64 mz, .int .i64 pz, .int .i64 az, .int .i64 qz] : Array Value)[j]? = some (.int .i64 xs[j]) := by
  subst h
  rcases j with _ | _ | _ | _ | _ | j
  all_goals first | rfl | (exfalso; simp only [List.length_cons, List.length_nil] at hj; omega)

set_option maxRecDepth 100000 in
set_option maxHeartbeats 2000000 in
theorem counts_two (p : ByteArray) (o cz mz pz az qz ct mt ve cr av : Int) (qh : Bool) (qc qb : Int) (dA : Option Addr) (dn dc : Nat) (aA : Option Addr) (an ac : Nat) (v k : Int) (w : World)
    (hv1 : -2147483648 ≤ v) (hv2 : v ≤ 2147483647) (hv : v = -2) (hk1 : -9223372036854775808 ≤ k) (hk2 : k ≤ 9223372036854775807) (hE : EnvS w) :
    Calls Tryd.prog 7 #[.agg #[.string p, .slice dA dn dc, .slice aA an ac, .int .i64 o, .int .i64 cz, .int .i64 mz, .int .i64 pz, .int .i64 az, .int .i64 qz, .int .i64 ct, .int .i64 mt, .int .i32 ve, .int .i32 cr, .int .i32 av, .bool qh, .int .i64 qc, .int .i64 qb], .int .i32 v, .int .i64 k] w fun e w' => e = .returned (.bool true) ∧ Below w.heap.size w w' := by
  obtain ⟨nc, hnc⟩ : ∃ c : Array Value, c = #[.string p, .slice dA dn dc, .slice aA an ac, .int .i64 o, .int .i64 cz, .int .i64 mz, .int .i64 pz, .int .i64 az, .int .i64 qz, .int .i64 ct, .int .i64 mt, .int .i32 ve, .int .i32 cr, .int .i32 av, .bool qh, .int .i64 qc, .int .i64 qb] := ⟨_, rfl⟩
  obtain ⟨mc, hmc⟩ : ∃ c : Array Value, c = nc.setIfInBounds 12 (.int .i32 (wrap32 (cr + 1))) := ⟨_, rfl⟩
  rw [← hnc]
  have NX := Lib.hid (fun W : World => next_any v hv1 hv2 W)
  have hnx : nextOf v = 0 := by unfold nextOf; rw [if_pos hv]
  rw [hnx] at NX
  obtain ⟨z, hz⟩ : ∃ z, z = max5 cz mz pz az qz := ⟨_, rfl⟩
  obtain ⟨xs, hxs⟩ : ∃ xs : List Int, xs = [cz, mz, pz, az, qz] := ⟨_, rfl⟩
  have hge : ∀ x ∈ xs, x ≤ z := by
    rw [hxs, hz]
    have := max5_ge cz mz pz az qz
    intro x hx
    simp only [List.mem_cons, List.not_mem_nil, or_false] at hx
    rcases hx with rfl | rfl | rfl | rfl | rfl
    all_goals omega
  have hmem : xs.any (· == z) = true := by
    rw [List.any_eq_true]
    exact ⟨z, by rw [hxs, hz]; exact max5_mem _ _ _ _ _, by simp⟩
  have hxl : xs.length = 5 := by rw [hxs]; rfl
  have hxg := xs5_get cz mz pz az qz xs hxs
  have hLA : ∀ W, Calls Tryd.prog 30 #[.agg nc] W fun e w' => e = .returned (.int .i64 z) ∧ Below W.heap.size W w' := fun W => by
    rw [hnc, hz]; exact last_any _ W cz mz pz az qz rfl rfl rfl rfl rfl
  obtain ⟨x0, hx0⟩ : ∃ x, x = wrap32 (2 * cr - k) := ⟨_, rfl⟩
  obtain ⟨y0, hy0⟩ : ∃ x, x = wrap32 k := ⟨_, rfl⟩
  obtain ⟨SA, hSA⟩ : ∃ c : Array Value, c = statCells cz mz pz ct mt ve cr av o k dn := ⟨_, rfl⟩
  obtain ⟨SB, hSB⟩ : ∃ c : Array Value, c = statCells cz mz pz ct mt ve (wrap32 (cr + 1)) av o k dn := ⟨_, rfl⟩
  obtain ⟨SC, hSC⟩ : ∃ c : Array Value, c = statCells cz mz pz ct mt ve cr av o (wrap64 (k + 1)) dn := ⟨_, rfl⟩
  have hOA : ∀ W, Calls Tryd.prog 31 #[.agg nc, .int .i64 k] W fun e w' => e = .returned (.agg SA) ∧ Below W.heap.size W w' := fun W => by
    rw [hnc, hSA]; exact statOf_any _ W cz mz pz ct mt ve cr av o k dA dn dc rfl rfl rfl rfl rfl rfl rfl rfl rfl rfl
  have hOB : ∀ W, Calls Tryd.prog 31 #[.agg mc, .int .i64 k] W fun e w' => e = .returned (.agg SB) ∧ Below W.heap.size W w' := fun W => by
    rw [hmc, hnc, hSB]; exact statOf_any _ W cz mz pz ct mt ve (wrap32 (cr + 1)) av o k dA dn dc rfl rfl rfl rfl rfl rfl rfl rfl rfl rfl
  have hOC : ∀ W q, q = wrap64 (k + 1) → Calls Tryd.prog 31 #[.agg nc, .int .i64 q] W fun e w' => e = .returned (.agg SC) ∧ Below W.heap.size W w' := fun W q hq => by
    rw [hnc, hSC, hq]; exact statOf_any _ W cz mz pz ct mt ve cr av o _ dA dn dc rfl rfl rfl rfl rfl rfl rfl rfl rfl rfl
  have hA0 : SA[0]? = some (.int .i64 cz) ∧ SA[4]? = some (.int .i32 ve) ∧ SA[5]? = some (.int .i32 x0) ∧ SA[9]? = some (.int .i32 y0) := by rw [hSA, hx0, hy0]; exact ⟨rfl, rfl, rfl, rfl⟩
  have hB0 : SB[5]? = some (.int .i32 (wrap32 (x0 + 2))) := by rw [hSB, hx0, ← wr_two]; rfl
  have hC0 : SC[5]? = some (.int .i32 (wrap32 (x0 - 1))) ∧ SC[9]? = some (.int .i32 (wrap32 (y0 + 1))) := by rw [hSC, hx0, hy0, ← wr_one, ← wr_num]; exact ⟨rfl, rfl⟩
  have zn : (Tryd.prog.info? 32).map (·.size) = some nc.size := by rw [hnc, node_size]; rfl
  have zm : mc.size = nc.size := by rw [hmc]; simp
  have hn17 : nc.size = 17 := by rw [hnc]; rfl
  have hone : nc.all (·.oneCell') = true := by rw [hnc]; simp [Value.oneCell']
  have sA : SA.size = 11 := by rw [hSA]; rfl
  have sB : SB.size = 11 := by rw [hSB]; rfl
  have sC : SC.size = 11 := by rw [hSC]; rfl
  have oA : SA.all (·.oneCell') = true := by rw [hSA]; simp [statCells, Value.oneCell']
  have oB : SB.all (·.oneCell') = true := by rw [hSB]; simp [statCells, Value.oneCell']
  have oC : SC.all (·.oneCell') = true := by rw [hSC]; simp [statCells, Value.oneCell']
  have hc : nc[4]? = some (.int .i64 cz) ∧ nc[5]? = some (.int .i64 mz) ∧ nc[6]? = some (.int .i64 pz) ∧ nc[7]? = some (.int .i64 az) ∧ nc[8]? = some (.int .i64 qz) ∧ nc[11]? = some (.int .i32 ve) ∧ nc[12]? = some (.int .i32 cr) := by
    rw [hnc]; exact ⟨rfl, rfl, rfl, rfl, rfl, rfl, rfl⟩
  obtain ⟨w0, hw0⟩ : ∃ w0, w.alloc (.cells nc 32) = w0 := ⟨_, rfl⟩
  have hz0 : w0.heap.size = w.heap.size + 1 := by rw [← hw0]; simp
  have hb0 : Below w.heap.size w w0 := by rw [← hw0]; exact (Below.refl _ _).alloc (Nat.le_refl _) _
  have bn0 : Blk w0 w.heap.size 32 nc := by rw [← hw0]; exact Blk.new _ _ _
  have hal : ∀ W, Below w.heap.size w W → Calls Tryd.prog 27 #[] W fun e w' => e = .returned (.bool true) ∧ Below W.heap.size W w' := fun W h => alive_any W (hE.below h)
  have HB0 := Lib.hid hb0
  have HN := Lib.hid bn0
  have AL := Lib.hid hal
  have LA := Lib.hid hLA
  have OA := Lib.hid hOA
  have OB := Lib.hid hOB
  have OC := Lib.hid hOC
  have HA0 := Lib.hid hA0
  have HB5 := Lib.hid hB0
  have HC0 := Lib.hid hC0
  have ZN := Lib.hid zn
  have ZM := Lib.hid zm
  have N17 := Lib.hid hn17
  have ONE := Lib.hid hone
  have TA := Lib.hid sA
  have TB := Lib.hid sB
  have TC := Lib.hid sC
  have UA := Lib.hid oA
  have UB := Lib.hid oB
  have UC := Lib.hid oC
  have HC := Lib.hid hc
  have GE := Lib.hid hge
  have MEM := Lib.hid hmem
  have XL := Lib.hid hxl
  have XG := Lib.hid hxg
  have HMC := Lib.hid hmc
  have K1 := Lib.hid hk1
  have K2 := Lib.hid hk2
  clear hb0 bn0 hal hLA hOA hOB hOC hA0 hB0 hC0 zn zm hn17 hone sA sB sC oA oB oC hc hge hmem hxl hxg hmc hnc hz hxs hx0 hy0 hSA hSB hSC hE hnx hk1 hk2
  subst hv
  go_enter Tryd.func7, Tryd.ntmps7
  go_wp2_with (first
    | (go_at_call 27
       refine (AL.out _ HB0.out).mono ?_
       rintro e w1 ⟨rfl, hb1⟩
       have hz1 := hb1.size
       have HB1 : Hid (Below w.heap.size w w1) := HB0.out.trans (hb1.mono HB0.out.size)
       have HN1 := Lib.hid (HN.out.below hb1 HN.out.lt)
       clear hb1)
    | (go_at_call 29
       refine (NX.out _).mono ?_
       rintro e w9 ⟨rfl, rfl⟩)
    | (refine wpList_load_row rfl 32 (.tmp 3) rfl w.heap.size rfl 32 _ _ _ HN1.out Tryd.underlying32 rfl ZN.out ?_)
    | (go_at_call 30
       refine (LA.out w1).mono ?_
       rintro e w2 ⟨rfl, hb2⟩
       have hz2 := hb2.size
       have HB2 : Hid (Below w.heap.size w w2) := HB1.out.trans (hb2.mono HB1.out.size)
       have HN2 := Lib.hid (HN1.out.below hb2 HN1.out.lt)
       have c4 : w2.cell? ⟨w.heap.size, 4, none⟩ = some (.int .i64 cz) := (HN2.out.cell 4).trans HC.out.1
       have c5 : w2.cell? ⟨w.heap.size, 5, none⟩ = some (.int .i64 mz) := (HN2.out.cell 5).trans HC.out.2.1
       have c6 : w2.cell? ⟨w.heap.size, 6, none⟩ = some (.int .i64 pz) := (HN2.out.cell 6).trans HC.out.2.2.1
       have c7 : w2.cell? ⟨w.heap.size, 7, none⟩ = some (.int .i64 az) := (HN2.out.cell 7).trans HC.out.2.2.2.1
       have c8 : w2.cell? ⟨w.heap.size, 8, none⟩ = some (.int .i64 qz) := (HN2.out.cell 8).trans HC.out.2.2.2.2.1
       clear hb2))
  have HW2 : Hid (∀ o, Below w2.heap.size w2 (w2.alloc o)) := fun o => (Below.refl _ _).alloc (Nat.le_refl _) _
  clear c4 c5 c6 c7 c8
  go_loopw [10, 11] (fun b i wr => ∃ j : Nat, j ≤ 5 ∧ b = .bool ((xs.take j).any (· == z)) ∧ i = .int .i64 j ∧ Below w2.heap.size w2 wr ∧ Blk wr w2.heap.size 61 #[.int .i64 cz, .int .i64 mz, .int .i64 pz, .int .i64 az, .int .i64 qz]) (fun _ i _ => 5 - (intOf i).toNat)
  case atStart => exact ⟨0, Nat.zero_le _, rfl, rfl, HW2.out _, Blk.new' rfl⟩
  case round =>
    obtain ⟨j, hj, rfl, rfl, hBb, hL⟩ := hrel
    have hzr := hBb.size
    have HB := Lib.hid hBb
    have HL := Lib.hid hL
    by_cases hlt : j < 5
    · have hlt' : j < xs.length := by rw [XL.out]; exact hlt
      have hc := lit_cell hL j (XG.out j hlt')
      have hle := GE.out _ (List.getElem_mem hlt')
      have hst := any_snoc z hlt'
      obtain ⟨y, hy⟩ : ∃ y, y = xs[j] := ⟨_, rfl⟩
      rw [← hy] at hc hle hst
      obtain ⟨bb, hbb⟩ : ∃ b, b = (xs.take j).any (· == z) := ⟨_, rfl⟩
      rw [← hbb] at hst
      rw [← hbb]
      have hgt : ¬ (z < y) := by omega
      clear hBb hL hy hbb hlt'
      cases bb
      · by_cases e : y = z
        · have ST := Lib.hid hst
          clear hst
          go_wp2
          go_roundw
          case rel => exact ⟨j + 1, by omega, by rw [ST.out, e]; simp, by go_num, HB.out, HL.out⟩
          case measure => simp [intOf]; omega
        · have ST := Lib.hid hst
          clear hst
          go_wp2
          go_roundw
          case rel => exact ⟨j + 1, by omega, by rw [ST.out]; simp [e], by go_num, HB.out, HL.out⟩
          case measure => simp [intOf]; omega
      · have ST := Lib.hid hst
        clear hst
        go_wp2
        go_roundw
        case rel => exact ⟨j + 1, by omega, by rw [ST.out]; simp, by go_num, HB.out, HL.out⟩
        case measure => simp [intOf]; omega
    · have hj5 : j = 5 := by omega
      subst hj5
      have ht : (xs.take 5).any (· == z) = true := by rw [List.take_of_length_le (by rw [XL.out]; omega)]; exact MEM.out
      rw [ht, show ((5 : Nat) : Int) = 5 from rfl]
      have HB3 : Hid (Below w.heap.size w wr) := HB2.out.trans (hBb.mono HB2.out.size)
      have HN3 := Lib.hid (HN2.out.below hBb HN2.out.lt)
      clear hBb hL ht hlt hj HL HB HW2
      rename World => w3
      go_wp2_with (first
        | (refine wpList_store_row rfl 23 (.tmp 15) (.tmp 83) rfl w10.heap.size SC rfl rfl 23 _ (Blk.new _ _ _) (by rw [stat_sizeR, TC.out]) (by rw [TC.out]; rfl) UC.out ?_
           generalize hww : World.setRow _ _ _ = w11
           have hb11 : Below w10.heap.size w10 w11 := by rw [← hww]; exact below_setRow' (by go_grown) (Nat.le_refl _) _
           have hz11 := hb11.size
           have hs11 : Blk w11 w10.heap.size 23 SC := by rw [← hww]; exact cells_setRow (Blk.new _ _ _)
           have HA11 := HA10.out.below hb11 HA10.out.lt
           have HS11 := HS10.out.below hb11 HS10.out.lt
           have HN11 := HN10.out.below hb11 HN10.out.lt
           have HB11 := Lib.hid (HB10.out.trans (hb11.mono HB10.out.size))
           have a0 : w11.cell? ⟨w4.heap.size, 0, none⟩ = some (.int .i64 cz) := (HA11.cell 0).trans HA0.out.1
           have a4 : w11.cell? ⟨w4.heap.size, 4, none⟩ = some (.int .i32 ve) := (HA11.cell 4).trans HA0.out.2.1
           have a5 : w11.cell? ⟨w4.heap.size, 5, none⟩ = some (.int .i32 x0) := (HA11.cell 5).trans HA0.out.2.2.1
           have a9 : w11.cell? ⟨w4.heap.size, 9, none⟩ = some (.int .i32 y0) := (HA11.cell 9).trans HA0.out.2.2.2
           have b5 : w11.cell? ⟨w8.heap.size, 5, none⟩ = some (.int .i32 (wrap32 (x0 + 2))) := (HS11.cell 5).trans HB5.out
           have s5 : w11.cell? ⟨w10.heap.size, 5, none⟩ = some (.int .i32 (wrap32 (x0 - 1))) := (hs11.cell 5).trans HC0.out.1
           have s9 : w11.cell? ⟨w10.heap.size, 9, none⟩ = some (.int .i32 (wrap32 (y0 + 1))) := (hs11.cell 9).trans HC0.out.2
           have n4 : w11.cell? ⟨w.heap.size, 4, none⟩ = some (.int .i64 cz) := (HN11.cell 4).trans HC.out.1
           have n11 : w11.cell? ⟨w.heap.size, 11, none⟩ = some (.int .i32 ve) := (HN11.cell 11).trans HC.out.2.2.2.2.2.1
           clear hb11 hww hs11 HA11 HS11 HN11)
        | (go_at_call 31
           refine (OC.out w9 _ (wr_u64 k K1.out K2.out)).mono ?_
           clear OC
           rintro e w10 ⟨rfl, hb10⟩
           have hz10 := hb10.size
           have HB10 := Lib.hid (HB9.out.trans (hb10.mono HB9.out.size))
           have HA10 := Lib.hid (HA9.out.below hb10 HA9.out.lt)
           have HS10 := Lib.hid (HS9.out.below hb10 HS9.out.lt)
           have HN10 := Lib.hid (HN9.out.below hb10 HN9.out.lt)
           clear hb10)
        | (refine wpList_load_row rfl 32 (.tmp 3) rfl w.heap.size rfl 32 _ _ _ HN9.out Tryd.underlying32 rfl ZN.out ?_)
        | (refine wpList_store_row rfl 23 (.tmp 14) (.tmp 77) rfl w8.heap.size SB rfl rfl 23 _ (Blk.new _ _ _) (by rw [stat_sizeR, TB.out]) (by rw [TB.out]; rfl) UB.out ?_
           generalize hww : World.setRow _ _ _ = w9
           have hb9 : Below w8.heap.size w8 w9 := by rw [← hww]; exact below_setRow' (by go_grown) (Nat.le_refl _) _
           have hz9 := hb9.size
           have HS9 : Hid (Blk w9 w8.heap.size 23 SB) := by unfold Hid; rw [← hww]; exact cells_setRow (Blk.new _ _ _)
           have HA9 := Lib.hid (HA8.out.below hb9 HA8.out.lt)
           have HN9 := Lib.hid (HN8.out.below hb9 HN8.out.lt)
           have HB9 := Lib.hid (HB8.out.trans (hb9.mono HB8.out.size))
           clear hb9 hww)
        | (go_at_call 31
           refine (OB.out w7).mono ?_
           clear OB
           rintro e w8 ⟨rfl, hb8⟩
           have hz8 := hb8.size
           have HB8 := Lib.hid (HB7.out.trans (hb8.mono HB7.out.size))
           have HA8 := Lib.hid (HA7.out.below hb8 HA7.out.lt)
           have HN8 := Lib.hid (HN7.out.below hb8 HN7.out.lt)
           clear hb8)
        | (refine wpList_load_row rfl 32 (.tmp 13) rfl w5.heap.size rfl 32 _ _ _ HM7.out Tryd.underlying32 rfl (by rw [ZM.out]; exact ZN.out) ?_)
        | (refine wpList_store_row rfl 32 (.tmp 13) (.tmp 70) rfl w5.heap.size nc rfl rfl 32 _ (Blk.new _ _ _) ZN.out (by rw [N17.out]; first | done | rfl) ONE.out ?_
           generalize hww : World.setRow _ _ _ = w6
           have hb6 : Below w5.heap.size w5 w6 := by rw [← hww]; exact below_setRow' (by go_grown) (Nat.le_refl _) _
           have hm6' : Blk w6 w5.heap.size 32 nc := by rw [← hww]; exact cells_setRow (Blk.new _ _ _)
           have hz6 : w5.heap.size < w6.heap.size := hm6'.lt
           have hm6 : Blk w6 w5.heap.size 32 nc := by rw [← hww]; exact cells_setRow (Blk.new _ _ _)
           have HM6 := Lib.hid hm6
           have HA6 := Lib.hid (HA5.out.below hb6 HA5.out.lt)
           have HN6 := Lib.hid (HN5.out.below hb6 HN5.out.lt)
           have HB6 := Lib.hid (HB5'.out.trans (hb6.mono HB5'.out.size))
           have c12 : w6.cell? ⟨w.heap.size, 12, none⟩ = some (.int .i32 cr) := (HN6.out.cell 12).trans HC.out.2.2.2.2.2.2
           have m12 : w6.cell? ⟨w5.heap.size, 12, none⟩ = some (.int .i32 cr) := (hm6.cell 12).trans HC.out.2.2.2.2.2.2
           have mf := hm6.frozen 12
           obtain ⟨w7, hw7⟩ : ∃ W, w6.setCell ⟨w5.heap.size, 12, none⟩ (.int .i32 (wrap32 (cr + 1))) = W := ⟨_, rfl⟩
           have hm7 : Blk w7 w5.heap.size 32 mc := by rw [HMC.out, ← hw7]; exact hm6.set_ _ _
           have hb7 : Below w5.heap.size w6 w7 := hw7 ▸ Below.setCell (p := ⟨w5.heap.size, 12, none⟩) (Below.refl _ _) (Nat.le_refl _) _
           have HM7 := Lib.hid hm7
           have hl1 := HA5.out.lt
           have hl2 := HN5.out.lt
           have HA7 := Lib.hid (HA6.out.below hb7 hl1)
           have HN7 := Lib.hid (HN6.out.below hb7 hl2)
           have HB7 := Lib.hid (HB6.out.trans (hb7.mono HB5'.out.size))
           clear hb6 hww hm6 hm7 hb7 hl1 hl2)
        | (refine wpList_load_row rfl 32 (.tmp 3) rfl w.heap.size rfl 32 _ _ _ HN5.out Tryd.underlying32 rfl ZN.out ?_)
        | (refine wpList_store_row rfl 23 (.tmp 12) (.tmp 69) rfl w4.heap.size SA rfl rfl 23 _ (Blk.new _ _ _) (by rw [stat_sizeR, TA.out]) (by rw [TA.out]; rfl) UA.out ?_
           generalize hww : World.setRow _ _ _ = w5
           have hb5 : Below w4.heap.size w4 w5 := by rw [← hww]; exact below_setRow' (by go_grown) (Nat.le_refl _) _
           have hz5 := hb5.size
           have HA5 : Hid (Blk w5 w4.heap.size 23 SA) := by unfold Hid; rw [← hww]; exact cells_setRow (Blk.new _ _ _)
           have HN5 := Lib.hid (HN4.out.below hb5 HN4.out.lt)
           have HB5' := Lib.hid (HB4.out.trans (hb5.mono HB4.out.size))
           clear hb5 hww)
        | (go_at_call 31
           refine (OA.out w3).mono ?_
           clear OA
           rintro e w4 ⟨rfl, hb4⟩
           have hz4 := hb4.size
           have HB4 : Hid (Below w.heap.size w w4) := HB3.out.trans (hb4.mono HB3.out.size)
           have HN4 := Lib.hid (HN3.out.below hb4 HN3.out.lt)
           clear hb4)
        | (refine wpList_load_row rfl 32 (.tmp 3) rfl w.heap.size rfl 32 _ _ _ HN3.out Tryd.underlying32 rfl ZN.out ?_))
      go_ret
      exact ⟨rfl, HB11.out⟩
set_option maxRecDepth 100000 in
set_option maxHeartbeats 2000000 in
theorem counts_one (p : ByteArray) (o cz mz pz az qz ct mt ve cr av : Int) (qh : Bool) (qc qb : Int) (dA : Option Addr) (dn dc : Nat) (aA : Option Addr) (an ac : Nat) (v k : Int) (w : World)
    (hv1 : -2147483648 ≤ v) (hv2 : v ≤ 2147483647) (hv : v ≠ -2) (hk1 : -9223372036854775808 ≤ k) (hk2 : k ≤ 9223372036854775807) (hE : EnvS w) :
    Calls Tryd.prog 7 #[.agg #[.string p, .slice dA dn dc, .slice aA an ac, .int .i64 o, .int .i64 cz, .int .i64 mz, .int .i64 pz, .int .i64 az, .int .i64 qz, .int .i64 ct, .int .i64 mt, .int .i32 ve, .int .i32 cr, .int .i32 av, .bool qh, .int .i64 qc, .int .i64 qb], .int .i32 v, .int .i64 k] w fun e w' => e = .returned (.bool true) ∧ Below w.heap.size w w' := by
  obtain ⟨nc, hnc⟩ : ∃ c : Array Value, c = #[.string p, .slice dA dn dc, .slice aA an ac, .int .i64 o, .int .i64 cz, .int .i64 mz, .int .i64 pz, .int .i64 az, .int .i64 qz, .int .i64 ct, .int .i64 mt, .int .i32 ve, .int .i32 cr, .int .i32 av, .bool qh, .int .i64 qc, .int .i64 qb] := ⟨_, rfl⟩
  obtain ⟨mc, hmc⟩ : ∃ c : Array Value, c = nc.setIfInBounds 12 (.int .i32 (wrap32 (cr + 1))) := ⟨_, rfl⟩
  rw [← hnc]
  have NX := Lib.hid (fun W : World => next_any v hv1 hv2 W)
  have hnx : nextOf v = wrap32 (v + 1) := by unfold nextOf; rw [if_neg hv]
  rw [hnx] at NX
  obtain ⟨z, hz⟩ : ∃ z, z = max5 cz mz pz az qz := ⟨_, rfl⟩
  obtain ⟨xs, hxs⟩ : ∃ xs : List Int, xs = [cz, mz, pz, az, qz] := ⟨_, rfl⟩
  have hge : ∀ x ∈ xs, x ≤ z := by
    rw [hxs, hz]
    have := max5_ge cz mz pz az qz
    intro x hx
    simp only [List.mem_cons, List.not_mem_nil, or_false] at hx
    rcases hx with rfl | rfl | rfl | rfl | rfl
    all_goals omega
  have hmem : xs.any (· == z) = true := by
    rw [List.any_eq_true]
    exact ⟨z, by rw [hxs, hz]; exact max5_mem _ _ _ _ _, by simp⟩
  have hxl : xs.length = 5 := by rw [hxs]; rfl
  have hxg := xs5_get cz mz pz az qz xs hxs
  have hLA : ∀ W, Calls Tryd.prog 30 #[.agg nc] W fun e w' => e = .returned (.int .i64 z) ∧ Below W.heap.size W w' := fun W => by
    rw [hnc, hz]; exact last_any _ W cz mz pz az qz rfl rfl rfl rfl rfl
  obtain ⟨x0, hx0⟩ : ∃ x, x = wrap32 (2 * cr - k) := ⟨_, rfl⟩
  obtain ⟨y0, hy0⟩ : ∃ x, x = wrap32 k := ⟨_, rfl⟩
  obtain ⟨SA, hSA⟩ : ∃ c : Array Value, c = statCells cz mz pz ct mt ve cr av o k dn := ⟨_, rfl⟩
  obtain ⟨SB, hSB⟩ : ∃ c : Array Value, c = statCells cz mz pz ct mt ve (wrap32 (cr + 1)) av o k dn := ⟨_, rfl⟩
  obtain ⟨SC, hSC⟩ : ∃ c : Array Value, c = statCells cz mz pz ct mt ve cr av o (wrap64 (k + 1)) dn := ⟨_, rfl⟩
  have hOA : ∀ W, Calls Tryd.prog 31 #[.agg nc, .int .i64 k] W fun e w' => e = .returned (.agg SA) ∧ Below W.heap.size W w' := fun W => by
    rw [hnc, hSA]; exact statOf_any _ W cz mz pz ct mt ve cr av o k dA dn dc rfl rfl rfl rfl rfl rfl rfl rfl rfl rfl
  have hOB : ∀ W, Calls Tryd.prog 31 #[.agg mc, .int .i64 k] W fun e w' => e = .returned (.agg SB) ∧ Below W.heap.size W w' := fun W => by
    rw [hmc, hnc, hSB]; exact statOf_any _ W cz mz pz ct mt ve (wrap32 (cr + 1)) av o k dA dn dc rfl rfl rfl rfl rfl rfl rfl rfl rfl rfl
  have hOC : ∀ W q, q = wrap64 (k + 1) → Calls Tryd.prog 31 #[.agg nc, .int .i64 q] W fun e w' => e = .returned (.agg SC) ∧ Below W.heap.size W w' := fun W q hq => by
    rw [hnc, hSC, hq]; exact statOf_any _ W cz mz pz ct mt ve cr av o _ dA dn dc rfl rfl rfl rfl rfl rfl rfl rfl rfl rfl
  have hA0 : SA[0]? = some (.int .i64 cz) ∧ SA[4]? = some (.int .i32 ve) ∧ SA[5]? = some (.int .i32 x0) ∧ SA[9]? = some (.int .i32 y0) := by rw [hSA, hx0, hy0]; exact ⟨rfl, rfl, rfl, rfl⟩
  have hB0 : SB[5]? = some (.int .i32 (wrap32 (x0 + 2))) := by rw [hSB, hx0, ← wr_two]; rfl
  have hC0 : SC[5]? = some (.int .i32 (wrap32 (x0 - 1))) ∧ SC[9]? = some (.int .i32 (wrap32 (y0 + 1))) := by rw [hSC, hx0, hy0, ← wr_one, ← wr_num]; exact ⟨rfl, rfl⟩
  have zn : (Tryd.prog.info? 32).map (·.size) = some nc.size := by rw [hnc, node_size]; rfl
  have zm : mc.size = nc.size := by rw [hmc]; simp
  have hn17 : nc.size = 17 := by rw [hnc]; rfl
  have hone : nc.all (·.oneCell') = true := by rw [hnc]; simp [Value.oneCell']
  have sA : SA.size = 11 := by rw [hSA]; rfl
  have sB : SB.size = 11 := by rw [hSB]; rfl
  have sC : SC.size = 11 := by rw [hSC]; rfl
  have oA : SA.all (·.oneCell') = true := by rw [hSA]; simp [statCells, Value.oneCell']
  have oB : SB.all (·.oneCell') = true := by rw [hSB]; simp [statCells, Value.oneCell']
  have oC : SC.all (·.oneCell') = true := by rw [hSC]; simp [statCells, Value.oneCell']
  have hc : nc[4]? = some (.int .i64 cz) ∧ nc[5]? = some (.int .i64 mz) ∧ nc[6]? = some (.int .i64 pz) ∧ nc[7]? = some (.int .i64 az) ∧ nc[8]? = some (.int .i64 qz) ∧ nc[11]? = some (.int .i32 ve) ∧ nc[12]? = some (.int .i32 cr) := by
    rw [hnc]; exact ⟨rfl, rfl, rfl, rfl, rfl, rfl, rfl⟩
  obtain ⟨w0, hw0⟩ : ∃ w0, w.alloc (.cells nc 32) = w0 := ⟨_, rfl⟩
  have hz0 : w0.heap.size = w.heap.size + 1 := by rw [← hw0]; simp
  have hb0 : Below w.heap.size w w0 := by rw [← hw0]; exact (Below.refl _ _).alloc (Nat.le_refl _) _
  have bn0 : Blk w0 w.heap.size 32 nc := by rw [← hw0]; exact Blk.new _ _ _
  have hal : ∀ W, Below w.heap.size w W → Calls Tryd.prog 27 #[] W fun e w' => e = .returned (.bool true) ∧ Below W.heap.size W w' := fun W h => alive_any W (hE.below h)
  have HB0 := Lib.hid hb0
  have HN := Lib.hid bn0
  have AL := Lib.hid hal
  have LA := Lib.hid hLA
  have OA := Lib.hid hOA
  have OB := Lib.hid hOB
  have OC := Lib.hid hOC
  have HA0 := Lib.hid hA0
  have HB5 := Lib.hid hB0
  have HC0 := Lib.hid hC0
  have ZN := Lib.hid zn
  have ZM := Lib.hid zm
  have N17 := Lib.hid hn17
  have ONE := Lib.hid hone
  have TA := Lib.hid sA
  have TB := Lib.hid sB
  have TC := Lib.hid sC
  have UA := Lib.hid oA
  have UB := Lib.hid oB
  have UC := Lib.hid oC
  have HC := Lib.hid hc
  have GE := Lib.hid hge
  have MEM := Lib.hid hmem
  have XL := Lib.hid hxl
  have XG := Lib.hid hxg
  have HMC := Lib.hid hmc
  have K1 := Lib.hid hk1
  have K2 := Lib.hid hk2
  clear hb0 bn0 hal hLA hOA hOB hOC hA0 hB0 hC0 zn zm hn17 hone sA sB sC oA oB oC hc hge hmem hxl hxg hmc hnc hz hxs hx0 hy0 hSA hSB hSC hE hnx hk1 hk2
  have hne1 : (wrap32 (v + 1) == -1) = false := by
    have : wrap32 (v + 1) ≠ -1 := by unfold wrap32; omega
    simpa using this
  clear hv
  go_enter Tryd.func7, Tryd.ntmps7
  go_wp2_with (first
    | (go_at_call 27
       refine (AL.out _ HB0.out).mono ?_
       rintro e w1 ⟨rfl, hb1⟩
       have hz1 := hb1.size
       have HB1 : Hid (Below w.heap.size w w1) := HB0.out.trans (hb1.mono HB0.out.size)
       have HN1 := Lib.hid (HN.out.below hb1 HN.out.lt)
       clear hb1)
    | (go_at_call 29
       refine (NX.out _).mono ?_
       rintro e w9 ⟨rfl, rfl⟩)
    | (refine wpList_load_row rfl 32 (.tmp 3) rfl w.heap.size rfl 32 _ _ _ HN1.out Tryd.underlying32 rfl ZN.out ?_)
    | (go_at_call 30
       refine (LA.out w1).mono ?_
       rintro e w2 ⟨rfl, hb2⟩
       have hz2 := hb2.size
       have HB2 : Hid (Below w.heap.size w w2) := HB1.out.trans (hb2.mono HB1.out.size)
       have HN2 := Lib.hid (HN1.out.below hb2 HN1.out.lt)
       have c4 : w2.cell? ⟨w.heap.size, 4, none⟩ = some (.int .i64 cz) := (HN2.out.cell 4).trans HC.out.1
       have c5 : w2.cell? ⟨w.heap.size, 5, none⟩ = some (.int .i64 mz) := (HN2.out.cell 5).trans HC.out.2.1
       have c6 : w2.cell? ⟨w.heap.size, 6, none⟩ = some (.int .i64 pz) := (HN2.out.cell 6).trans HC.out.2.2.1
       have c7 : w2.cell? ⟨w.heap.size, 7, none⟩ = some (.int .i64 az) := (HN2.out.cell 7).trans HC.out.2.2.2.1
       have c8 : w2.cell? ⟨w.heap.size, 8, none⟩ = some (.int .i64 qz) := (HN2.out.cell 8).trans HC.out.2.2.2.2.1
       clear hb2))
  have HW2 : Hid (∀ o, Below w2.heap.size w2 (w2.alloc o)) := fun o => (Below.refl _ _).alloc (Nat.le_refl _) _
  clear c4 c5 c6 c7 c8
  go_loopw [10, 11] (fun b i wr => ∃ j : Nat, j ≤ 5 ∧ b = .bool ((xs.take j).any (· == z)) ∧ i = .int .i64 j ∧ Below w2.heap.size w2 wr ∧ Blk wr w2.heap.size 61 #[.int .i64 cz, .int .i64 mz, .int .i64 pz, .int .i64 az, .int .i64 qz]) (fun _ i _ => 5 - (intOf i).toNat)
  case atStart => exact ⟨0, Nat.zero_le _, rfl, rfl, HW2.out _, Blk.new' rfl⟩
  case round =>
    obtain ⟨j, hj, rfl, rfl, hBb, hL⟩ := hrel
    have hzr := hBb.size
    have HB := Lib.hid hBb
    have HL := Lib.hid hL
    by_cases hlt : j < 5
    · have hlt' : j < xs.length := by rw [XL.out]; exact hlt
      have hc := lit_cell hL j (XG.out j hlt')
      have hle := GE.out _ (List.getElem_mem hlt')
      have hst := any_snoc z hlt'
      obtain ⟨y, hy⟩ : ∃ y, y = xs[j] := ⟨_, rfl⟩
      rw [← hy] at hc hle hst
      obtain ⟨bb, hbb⟩ : ∃ b, b = (xs.take j).any (· == z) := ⟨_, rfl⟩
      rw [← hbb] at hst
      rw [← hbb]
      have hgt : ¬ (z < y) := by omega
      clear hBb hL hy hbb hlt'
      cases bb
      · by_cases e : y = z
        · have ST := Lib.hid hst
          clear hst
          go_wp2
          go_roundw
          case rel => exact ⟨j + 1, by omega, by rw [ST.out, e]; simp, by go_num, HB.out, HL.out⟩
          case measure => simp [intOf]; omega
        · have ST := Lib.hid hst
          clear hst
          go_wp2
          go_roundw
          case rel => exact ⟨j + 1, by omega, by rw [ST.out]; simp [e], by go_num, HB.out, HL.out⟩
          case measure => simp [intOf]; omega
      · have ST := Lib.hid hst
        clear hst
        go_wp2
        go_roundw
        case rel => exact ⟨j + 1, by omega, by rw [ST.out]; simp, by go_num, HB.out, HL.out⟩
        case measure => simp [intOf]; omega
    · have hj5 : j = 5 := by omega
      subst hj5
      have ht : (xs.take 5).any (· == z) = true := by rw [List.take_of_length_le (by rw [XL.out]; omega)]; exact MEM.out
      rw [ht, show ((5 : Nat) : Int) = 5 from rfl]
      have HB3 : Hid (Below w.heap.size w wr) := HB2.out.trans (hBb.mono HB2.out.size)
      have HN3 := Lib.hid (HN2.out.below hBb HN2.out.lt)
      clear hBb hL ht hlt hj HL HB HW2
      rename World => w3
      go_wp2_with (first
        | (refine wpList_store_row rfl 23 (.tmp 15) (.tmp 83) rfl w10.heap.size SC rfl rfl 23 _ (Blk.new _ _ _) (by rw [stat_sizeR, TC.out]) (by rw [TC.out]; rfl) UC.out ?_
           generalize hww : World.setRow _ _ _ = w11
           have hb11 : Below w10.heap.size w10 w11 := by rw [← hww]; exact below_setRow' (by go_grown) (Nat.le_refl _) _
           have hz11 := hb11.size
           have hs11 : Blk w11 w10.heap.size 23 SC := by rw [← hww]; exact cells_setRow (Blk.new _ _ _)
           have HA11 := HA10.out.below hb11 HA10.out.lt
           have HS11 := HS10.out.below hb11 HS10.out.lt
           have HN11 := HN10.out.below hb11 HN10.out.lt
           have HB11 := Lib.hid (HB10.out.trans (hb11.mono HB10.out.size))
           have a0 : w11.cell? ⟨w4.heap.size, 0, none⟩ = some (.int .i64 cz) := (HA11.cell 0).trans HA0.out.1
           have a4 : w11.cell? ⟨w4.heap.size, 4, none⟩ = some (.int .i32 ve) := (HA11.cell 4).trans HA0.out.2.1
           have a5 : w11.cell? ⟨w4.heap.size, 5, none⟩ = some (.int .i32 x0) := (HA11.cell 5).trans HA0.out.2.2.1
           have a9 : w11.cell? ⟨w4.heap.size, 9, none⟩ = some (.int .i32 y0) := (HA11.cell 9).trans HA0.out.2.2.2
           have b5 : w11.cell? ⟨w8.heap.size, 5, none⟩ = some (.int .i32 (wrap32 (x0 + 2))) := (HS11.cell 5).trans HB5.out
           have s5 : w11.cell? ⟨w10.heap.size, 5, none⟩ = some (.int .i32 (wrap32 (x0 - 1))) := (hs11.cell 5).trans HC0.out.1
           have s9 : w11.cell? ⟨w10.heap.size, 9, none⟩ = some (.int .i32 (wrap32 (y0 + 1))) := (hs11.cell 9).trans HC0.out.2
           have n4 : w11.cell? ⟨w.heap.size, 4, none⟩ = some (.int .i64 cz) := (HN11.cell 4).trans HC.out.1
           have n11 : w11.cell? ⟨w.heap.size, 11, none⟩ = some (.int .i32 ve) := (HN11.cell 11).trans HC.out.2.2.2.2.2.1
           clear hb11 hww hs11 HA11 HS11 HN11)
        | (go_at_call 31
           refine (OC.out w9 _ (wr_u64 k K1.out K2.out)).mono ?_
           clear OC
           rintro e w10 ⟨rfl, hb10⟩
           have hz10 := hb10.size
           have HB10 := Lib.hid (HB9.out.trans (hb10.mono HB9.out.size))
           have HA10 := Lib.hid (HA9.out.below hb10 HA9.out.lt)
           have HS10 := Lib.hid (HS9.out.below hb10 HS9.out.lt)
           have HN10 := Lib.hid (HN9.out.below hb10 HN9.out.lt)
           clear hb10)
        | (refine wpList_load_row rfl 32 (.tmp 3) rfl w.heap.size rfl 32 _ _ _ HN9.out Tryd.underlying32 rfl ZN.out ?_)
        | (refine wpList_store_row rfl 23 (.tmp 14) (.tmp 77) rfl w8.heap.size SB rfl rfl 23 _ (Blk.new _ _ _) (by rw [stat_sizeR, TB.out]) (by rw [TB.out]; rfl) UB.out ?_
           generalize hww : World.setRow _ _ _ = w9
           have hb9 : Below w8.heap.size w8 w9 := by rw [← hww]; exact below_setRow' (by go_grown) (Nat.le_refl _) _
           have hz9 := hb9.size
           have HS9 : Hid (Blk w9 w8.heap.size 23 SB) := by unfold Hid; rw [← hww]; exact cells_setRow (Blk.new _ _ _)
           have HA9 := Lib.hid (HA8.out.below hb9 HA8.out.lt)
           have HN9 := Lib.hid (HN8.out.below hb9 HN8.out.lt)
           have HB9 := Lib.hid (HB8.out.trans (hb9.mono HB8.out.size))
           clear hb9 hww)
        | (go_at_call 31
           refine (OB.out w7).mono ?_
           clear OB
           rintro e w8 ⟨rfl, hb8⟩
           have hz8 := hb8.size
           have HB8 := Lib.hid (HB7.out.trans (hb8.mono HB7.out.size))
           have HA8 := Lib.hid (HA7.out.below hb8 HA7.out.lt)
           have HN8 := Lib.hid (HN7.out.below hb8 HN7.out.lt)
           clear hb8)
        | (refine wpList_load_row rfl 32 (.tmp 13) rfl w5.heap.size rfl 32 _ _ _ HM7.out Tryd.underlying32 rfl (by rw [ZM.out]; exact ZN.out) ?_)
        | (refine wpList_store_row rfl 32 (.tmp 13) (.tmp 70) rfl w5.heap.size nc rfl rfl 32 _ (Blk.new _ _ _) ZN.out (by rw [N17.out]; first | done | rfl) ONE.out ?_
           generalize hww : World.setRow _ _ _ = w6
           have hb6 : Below w5.heap.size w5 w6 := by rw [← hww]; exact below_setRow' (by go_grown) (Nat.le_refl _) _
           have hm6' : Blk w6 w5.heap.size 32 nc := by rw [← hww]; exact cells_setRow (Blk.new _ _ _)
           have hz6 : w5.heap.size < w6.heap.size := hm6'.lt
           have hm6 : Blk w6 w5.heap.size 32 nc := by rw [← hww]; exact cells_setRow (Blk.new _ _ _)
           have HM6 := Lib.hid hm6
           have HA6 := Lib.hid (HA5.out.below hb6 HA5.out.lt)
           have HN6 := Lib.hid (HN5.out.below hb6 HN5.out.lt)
           have HB6 := Lib.hid (HB5'.out.trans (hb6.mono HB5'.out.size))
           have c12 : w6.cell? ⟨w.heap.size, 12, none⟩ = some (.int .i32 cr) := (HN6.out.cell 12).trans HC.out.2.2.2.2.2.2
           have m12 : w6.cell? ⟨w5.heap.size, 12, none⟩ = some (.int .i32 cr) := (hm6.cell 12).trans HC.out.2.2.2.2.2.2
           have mf := hm6.frozen 12
           obtain ⟨w7, hw7⟩ : ∃ W, w6.setCell ⟨w5.heap.size, 12, none⟩ (.int .i32 (wrap32 (cr + 1))) = W := ⟨_, rfl⟩
           have hm7 : Blk w7 w5.heap.size 32 mc := by rw [HMC.out, ← hw7]; exact hm6.set_ _ _
           have hb7 : Below w5.heap.size w6 w7 := hw7 ▸ Below.setCell (p := ⟨w5.heap.size, 12, none⟩) (Below.refl _ _) (Nat.le_refl _) _
           have HM7 := Lib.hid hm7
           have hl1 := HA5.out.lt
           have hl2 := HN5.out.lt
           have HA7 := Lib.hid (HA6.out.below hb7 hl1)
           have HN7 := Lib.hid (HN6.out.below hb7 hl2)
           have HB7 := Lib.hid (HB6.out.trans (hb7.mono HB5'.out.size))
           clear hb6 hww hm6 hm7 hb7 hl1 hl2)
        | (refine wpList_load_row rfl 32 (.tmp 3) rfl w.heap.size rfl 32 _ _ _ HN5.out Tryd.underlying32 rfl ZN.out ?_)
        | (refine wpList_store_row rfl 23 (.tmp 12) (.tmp 69) rfl w4.heap.size SA rfl rfl 23 _ (Blk.new _ _ _) (by rw [stat_sizeR, TA.out]) (by rw [TA.out]; rfl) UA.out ?_
           generalize hww : World.setRow _ _ _ = w5
           have hb5 : Below w4.heap.size w4 w5 := by rw [← hww]; exact below_setRow' (by go_grown) (Nat.le_refl _) _
           have hz5 := hb5.size
           have HA5 : Hid (Blk w5 w4.heap.size 23 SA) := by unfold Hid; rw [← hww]; exact cells_setRow (Blk.new _ _ _)
           have HN5 := Lib.hid (HN4.out.below hb5 HN4.out.lt)
           have HB5' := Lib.hid (HB4.out.trans (hb5.mono HB4.out.size))
           clear hb5 hww)
        | (go_at_call 31
           refine (OA.out w3).mono ?_
           clear OA
           rintro e w4 ⟨rfl, hb4⟩
           have hz4 := hb4.size
           have HB4 : Hid (Below w.heap.size w w4) := HB3.out.trans (hb4.mono HB3.out.size)
           have HN4 := Lib.hid (HN3.out.below hb4 HN3.out.lt)
           clear hb4)
        | (refine wpList_load_row rfl 32 (.tmp 3) rfl w.heap.size rfl 32 _ _ _ HN3.out Tryd.underlying32 rfl ZN.out ?_))
      go_ret
      exact ⟨rfl, HB11.out⟩
end Go.Proofs.YtaojjjcaofhmcaaDoor
