/- The law StatOwn: the walk. (printed by gen_a5.py) -/
import Derived.Test.YtaojjjcaofhmcaaDoorSa4
import Derived.Test.YtaojjjcaofhmcaaDoorSn8
set_option linter.unusedVariables false
set_option linter.unusedSimpArgs false
namespace Go.Proofs.YtaojjjcaofhmcaaDoor
open Go.RowKit

set_option maxRecDepth 100000 in
set_option maxHeartbeats 4000000 in
theorem own_walk (p : ByteArray) (o cz mz pz az qz ct mt ve cr av : Int) (qh : Bool) (qc qb : Int) (dA : Option Addr) (dn dc : Nat) (aA : Option Addr) (an ac : Nat) (l : List UInt8) (L : List AclT) (w : World)
    (hd : Reads w w.heap.size 1 dA dn (bcells l)) (ha : Reads w w.heap.size 3 aA an (aclCells L)) (hl : l.length = dn) (hL : L.length = an) (hd1 : dn ≤ 140737488355328) (hn : an * 40 ≤ 140737488355328) (hE : EnvS w) :
    Calls Tryd.prog 6 #[.agg #[.string p, .slice dA dn dc, .slice aA an ac, .int .i64 o, .int .i64 cz, .int .i64 mz, .int .i64 pz, .int .i64 az, .int .i64 qz, .int .i64 ct, .int .i64 mt, .int .i32 ve, .int .i32 cr, .int .i32 av, .bool qh, .int .i64 qc, .int .i64 qb]] w fun e w' => e = .returned (.bool true) ∧ Below w.heap.size w w' := by
  obtain ⟨nc, hnc⟩ : ∃ c : Array Value, c = #[.string p, .slice dA dn dc, .slice aA an ac, .int .i64 o, .int .i64 cz, .int .i64 mz, .int .i64 pz, .int .i64 az, .int .i64 qz, .int .i64 ct, .int .i64 mt, .int .i32 ve, .int .i32 cr, .int .i32 av, .bool qh, .int .i64 qc, .int .i64 qb] := ⟨_, rfl⟩
  rw [← hnc]
  obtain ⟨w0, hw0⟩ : ∃ w0, w.alloc (.cells nc 32) = w0 := ⟨_, rfl⟩
  have hz0 : w0.heap.size = w.heap.size + 1 := by rw [← hw0]; simp
  have hb0 : Below w.heap.size w w0 := by rw [← hw0]; exact (Below.refl _ _).alloc (Nat.le_refl _) _
  have bn0 : Blk w0 w.heap.size 32 nc := by rw [← hw0]; exact Blk.new _ _ _
  have hal : ∀ W, Below w.heap.size w W → Calls Tryd.prog 27 #[] W fun e w' => e = .returned (.bool true) ∧ Below W.heap.size W w' := fun W h => alive_any W (hE.below h)
  have zn : (Tryd.prog.info? 32).map (·.size) = some nc.size := by rw [hnc, node_size]; rfl
  have hn17 : nc.size = 17 := by rw [hnc]; rfl
  have hc0 : nc[0]? = some (.string p) := by rw [hnc]; rfl
  have hone : ∀ D k A m, (reNode nc (.slice D dn k) (.slice A an m)).all (·.oneCell') = true := fun D k A m => re_one (by rw [hnc]; simp [Value.oneCell']) _ _ _ _ _ _
  have hrs : ∀ X Y : Value, (reNode nc X Y).size = nc.size ∧ (reNode nc X Y)[1]? = some X ∧ (reNode nc X Y)[2]? = some Y := fun X Y => by rw [hnc]; exact ⟨by simp [reNode], rfl, rfl⟩
  have cp : ∀ W, Below w.heap.size w W → Calls Tryd.prog 14 #[.agg nc] W fun e w' => ∃ D k A m, e = .returned (.agg (reNode nc (.slice D dn k) (.slice A an m))) ∧
      w'.ownsRow W.heap.size 5 1 (.slice D dn k) dn (bcells l) ∧ w'.ownsRow W.heap.size 57 3 (.slice A an m) an (aclCells L) ∧ Below W.heap.size W w' := fun W h => by
    rw [hnc]
    exact copied_any #[.string p, .slice dA dn dc, .slice aA an ac, .int .i64 o, .int .i64 cz, .int .i64 mz, .int .i64 pz, .int .i64 az, .int .i64 qz, .int .i64 ct, .int .i64 mt, .int .i32 ve, .int .i32 cr, .int .i32 av, .bool qh, .int .i64 qc, .int .i64 qb] rfl (by simp [Value.oneCell']) dA dn dc aA an ac rfl rfl (bcells l) (aclCells L) w.heap.size W (hd.below h) (ha.below h) (bcells_one l) (aclCells_one L) h.size hd1 hn
  have kl : ∀ D k A m W, Reads W W.heap.size 1 D dn (bcells l) → Reads W W.heap.size 3 A an (aclCells L) → (D = none → dn = 0 ∧ k = 0) → (A = none → an = 0 ∧ m = 0) → Calls Tryd.prog 22 #[.agg (reNode nc (.slice D dn k) (.slice A an m))] W fun e w' => ∃ D' k' A' m', e = .returned (.agg (reNode nc (.slice D' dn k') (.slice A' an m'))) ∧
      w'.ownsRow W.heap.size 5 1 (.slice D' dn k') dn (bcells l) ∧ w'.ownsRow W.heap.size 57 3 (.slice A' an m') an (aclCells L) ∧ Below W.heap.size W w' := fun D k A m W h1 h2 h3 h4 => by
    rw [hnc]
    exact nclone_any #[.string p, .slice D dn k, .slice A an m, .int .i64 o, .int .i64 cz, .int .i64 mz, .int .i64 pz, .int .i64 az, .int .i64 qz, .int .i64 ct, .int .i64 mt, .int .i32 ve, .int .i32 cr, .int .i32 av, .bool qh, .int .i64 qc, .int .i64 qb] rfl (by simp [Value.oneCell']) D dn k A an m rfl rfl (bcells l) (aclCells L) W.heap.size W h1 h2 (bcells_one l) (aclCells_one L) (Nat.le_refl _) hd1 hn h3 h4
  have nw : ∀ D k A m W, Reads W W.heap.size 1 D dn (bcells l) → Reads W W.heap.size 3 A an (aclCells L) → (D = none → dn = 0 ∧ k = 0) → (A = none → an = 0 ∧ m = 0) → Calls Tryd.prog 28 #[.string p, .slice D dn k, .slice A an m, .int .i64 0, .int .i64 1, .int .i64 1] W fun e w' => ∃ D' k' A' m' cs, e = .returned (.agg cs) ∧ (cs.size = 17 ∧ cs.all (·.oneCell') = true ∧ cs[1]? = some (.slice D' dn k') ∧ cs[2]? = some (.slice A' an m')) ∧
      w'.ownsRow W.heap.size 5 1 (.slice D' dn k') dn (bcells l) ∧ w'.ownsRow W.heap.size 57 3 (.slice A' an m') an (aclCells L) ∧ Below W.heap.size W w' := fun D k A m W h1 h2 h3 h4 =>
    (new_any p D dn k A an m 0 1 1 (bcells l) (aclCells L) W.heap.size W h1 h2 (bcells_one l) (aclCells_one L) (Nat.le_refl _) hd1 hn h3 h4).mono fun e w' ⟨D', k', A', m', h5, h6, h7, h8⟩ => ⟨D', k', A', m', _, h5, ⟨rfl, by simp [Value.oneCell'], rfl, rfl⟩, h6, h7, h8⟩
  have sm : ∀ D k A m W, Reads W w.heap.size 1 dA dn (bcells l) → Reads W w.heap.size 3 aA an (aclCells L) → ∀ B, B ≤ W.heap.size → w.heap.size ≤ B → Reads W B 1 D dn (bcells l) → Reads W B 3 A an (aclCells L) → Calls Tryd.prog 21 #[.agg (reNode nc (.slice D dn k) (.slice A an m)), .agg nc] W fun e w' => e = .returned (.bool true) ∧ Below W.heap.size W w' := fun D k A m W h1 h2 B h3 h4 h5 h6 => by
    rw [hnc]
    exact (refSame_any p o cz mz pz az qz ct mt ve cr av qh qc qb D dn k A an m l L B p o cz mz pz az qz ct mt ve cr av qh qc qb dA dn dc aA an ac l L w.heap.size W h3 h5 h6 (by omega) (Nat.le_trans h4 h3) h1 h2 (by omega)).mono fun e w' h => ⟨by rw [h.1, decide_eq_true rfl], h.2⟩
  have hys : (aclCells L).length = an * 3 := ha.1
  have HB0 := Lib.hid hb0
  have HN := Lib.hid bn0
  have AL := Lib.hid hal
  have ZN := Lib.hid zn
  have N17 := Lib.hid hn17
  have N0 := Lib.hid hc0
  have ONE := Lib.hid hone
  have RS := Lib.hid hrs
  have CP := Lib.hid cp
  have KL := Lib.hid kl
  have NW := Lib.hid nw
  have SM := Lib.hid sm
  have RD := Lib.hid hd
  have RA := Lib.hid ha
  have HL := Lib.hid hl
  have HDN := Lib.hid hd1
  have HAN := Lib.hid hn
  have YS := Lib.hid hys
  clear hb0 bn0 hal zn hn17 hc0 hone hrs cp kl nw sm hd ha hl hL hys hE hd1 hn hnc
  go_enter Tryd.func6, Tryd.ntmps6
  go_wp2_with (first
    | (go_at_call 27
       refine (AL.out _ HB0.out).mono ?_
       clear AL
       rintro e w1 ⟨rfl, hb1⟩
       have hz1 := hb1.size
       have HB1 : Hid (Below w.heap.size w w1) := HB0.out.trans (hb1.mono HB0.out.size)
       have HN1 := Lib.hid (HN.out.below hb1 HN.out.lt)
       clear hb1)
    | (refine wpList_load_row rfl 32 (.tmp 3) rfl w2.heap.size rfl 32 _ _ _ HO3.out Tryd.underlying32 rfl (by rw [(RS.out _ _).1]; exact ZN.out) ?_)
    | (refine wpList_load_row rfl 32 (.tmp 1) rfl w.heap.size rfl 32 _ _ _ HN1.out Tryd.underlying32 rfl ZN.out ?_)
    | (go_at_call 14
       refine (CP.out _ HB1.out).mono ?_
       clear CP
       rintro e w2 ⟨D, k, A, m, rfl, ho1, ho2, hb2⟩
       have hz2 := hb2.size
       have HB2 := Lib.hid (HB1.out.trans (hb2.mono HB1.out.size))
       have HN2 := Lib.hid (HN1.out.below hb2 HN1.out.lt)
       have HD2 := Lib.hid (Reads.of_own ho1)
       have HA2 := Lib.hid (Reads.of_own ho2)
       have HD0 := Lib.hid (own_nil ho1)
       have HA0 := Lib.hid (own_nil ho2)
       clear ho1 ho2 hb2 HN1)
    | (refine wpList_store_row rfl 32 (.tmp 3) (.tmp 13) rfl w2.heap.size (reNode nc (.slice D dn k) (.slice A an m)) rfl rfl 32 _ (Blk.new _ _ _) (by rw [(RS.out _ _).1]; exact ZN.out) (by rw [(RS.out _ _).1, N17.out]; first | done | rfl) (ONE.out _ _ _ _) ?_
       generalize hww : World.setRow _ _ _ = w3
       have hb3 : Below w2.heap.size w2 w3 := by rw [← hww]; exact below_setRow' (by go_grown) (Nat.le_refl _) _
       have HO3 : Hid (Blk w3 w2.heap.size 32 (reNode nc (.slice D dn k) (.slice A an m))) := by unfold Hid; rw [← hww]; exact cells_setRow (Blk.new _ _ _)
       have hz3 := hb3.size
       have HB3 := Lib.hid (HB2.out.trans (hb3.mono HB2.out.size))
       have HN3 := Lib.hid (HN2.out.below hb3 HN2.out.lt)
       have HD3 := Lib.hid ((HD2.out.below hb3).more hz3)
       have HA3 := Lib.hid ((HA2.out.below hb3).more hz3)
       clear hb3 hww)
    | (go_at_call 22
       refine (KL.out D k A m w3 HD3.out HA3.out HD0.out HA0.out).mono ?_
       clear KL
       rintro e w4 ⟨D4, k4, A4, m4, rfl, ho1, ho2, hb4⟩
       have hz4 := hb4.size
       have HW1 := Lib.hid ho1
       have HW2 := Lib.hid ho2
       have HB4 := Lib.hid hb4
       clear ho1 ho2 hb4)
    | (refine wpList_store_row rfl 32 (.tmp 4) (.tmp 15) rfl w4.heap.size (reNode nc (.slice D4 dn k4) (.slice A4 an m4)) rfl rfl 32 _ (Blk.new _ _ _) (by rw [(RS.out _ _).1]; exact ZN.out) (by rw [(RS.out _ _).1, N17.out]; first | done | rfl) (ONE.out _ _ _ _) ?_
       generalize hww : World.setRow _ _ _ = w5
       have hb5 : Below w4.heap.size w4 w5 := by rw [← hww]; exact below_setRow' (by go_grown) (Nat.le_refl _) _
       have ho5 : Blk w5 w4.heap.size 32 (reNode nc (.slice D4 dn k4) (.slice A4 an m4)) := by rw [← hww]; exact cells_setRow (Blk.new _ _ _)
       have hz5 := hb5.size
       have HV5 := Lib.hid (Ov.mk' HW1.out HW2.out HL.out YS.out hb5 ho5 hz4 (RS.out _ _).2.1 (RS.out _ _).2.2)
       have HB5 := Lib.hid (HB4.out.trans (hb5.mono hz4))
       have HO5 := HO3.out.below HB5.out HO3.out.lt
       have HN5 := HN3.out.below HB5.out HN3.out.lt
       have HD5 := Lib.hid ((HD3.out.below HB5.out).more HB5.out.size)
       have HA5 := Lib.hid ((HA3.out.below HB5.out).more HB5.out.size)
       have x0 : w5.cell? ⟨w.heap.size, 0, none⟩ = some (.string p) := (HN5.cell 0).trans N0.out
       have x1 : w5.cell? ⟨w2.heap.size, 1, none⟩ = some (.slice D dn k) := (HO5.cell 1).trans (RS.out _ _).2.1
       have x2 : w5.cell? ⟨w2.heap.size, 2, none⟩ = some (.slice A an m) := (HO5.cell 2).trans (RS.out _ _).2.2
       clear hb5 hww ho5 HW1 HW2 HO5 HN5)
    | (go_at_call 28
       refine (NW.out D k A m w5 HD5.out HA5.out HD0.out HA0.out).mono ?_
       clear NW
       rintro e w6 ⟨D6, k6, A6, m6, cs6, rfl, hcs, ho1, ho2, hb6⟩
       have hz6 := hb6.size
       have HW1 := Lib.hid ho1
       have HW2 := Lib.hid ho2
       have HB6 := Lib.hid hb6
       have HC6 := Lib.hid hcs
       clear ho1 ho2 hb6 hcs)
    | (refine wpList_store_row rfl 32 (.tmp 5) (.tmp 22) rfl w6.heap.size cs6 rfl rfl 32 _ (Blk.new _ _ _) (by rw [HC6.out.1, node_size]) (by rw [HC6.out.1]; first | done | rfl) HC6.out.2.1 ?_
       generalize hww : World.setRow _ _ _ = w7
       have hb7 : Below w6.heap.size w6 w7 := by rw [← hww]; exact below_setRow' (by go_grown) (Nat.le_refl _) _
       have ho7 : Blk w7 w6.heap.size 32 cs6 := by rw [← hww]; exact cells_setRow (Blk.new _ _ _)
       have hz7 := hb7.size
       have HU7 := Lib.hid (Ov.mk' HW1.out HW2.out HL.out YS.out hb7 ho7 hz6 HC6.out.2.2.1 HC6.out.2.2.2)
       have HX7 := HB6.out.trans (hb7.mono hz6)
       have HV7 := Lib.hid (HV5.out.below HX7)
       have HB7 := Lib.hid (HB5.out.trans (HX7.mono HB5.out.size))
       clear hb7 hww ho7 HW1 HW2 HX7 x0 x1 x2))

  go_loopw [6] (fun i wr => ∃ j : Nat, j ≤ dn ∧ i = .int .i64 j ∧ Ov wr w3.heap.size w5.heap.size w4.heap.size D4 dn k4 A4 an m4 ∧ Ov wr w5.heap.size w7.heap.size w6.heap.size D6 dn k6 A6 an m6 ∧ Below w3.heap.size w3 wr) (fun i _ => dn - (intOf i).toNat)
  case atStart => exact ⟨0, Nat.zero_le _, rfl, HV7.out, HU7.out, HB7.out⟩
  case round =>
    obtain ⟨j, hj, rfl, hV, hU, hB⟩ := hrel
    have hzr := hB.size
    have hdn := HDN.out
    have han := HAN.out
    obtain ⟨cs, n1, n2, n3⟩ := hV.node
    have c1 : wr.cell? ⟨w4.heap.size, 1, none⟩ = some (.slice D4 dn k4) := (n1.cell 1).trans n2
    have hkk := hV.cap.1
    have HV := Lib.hid hV
    have HU := Lib.hid hU
    have HB := Lib.hid hB
    by_cases hlt : j < dn
    · obtain ⟨g, cur, rfl, g1, g2, g3, g4⟩ := hV.data (by omega)
      obtain ⟨x, hx⟩ := g4 j hlt
      have c2 : wr.cell? ⟨g, j, none⟩ = some (.int .u8 x) := (g3.cell j).trans hx
      have f2 := g3.frozen j
      have HG := Lib.hid (And.intro g1 g2)
      have HLT := Lib.hid hlt
      have HV2 : Hid (∀ z, Ov (wr.setCell ⟨g, j, none⟩ (.int .u8 z)).drew w3.heap.size w5.heap.size w4.heap.size (some ⟨g, 0, none⟩) dn k4 A4 an m4) := fun z => (HV.out.setD hlt z).keep fun _ _ _ => rfl
      have HU2 : Hid (∀ z, Ov (wr.setCell ⟨g, j, none⟩ (.int .u8 z)).drew w5.heap.size w7.heap.size w6.heap.size D6 dn k6 A6 an m6) := fun z => (HU.out.far (p := ⟨g, j, none⟩) (.inl HG.out.2) (.int .u8 z)).keep fun _ _ _ => rfl
      have HB2' : Hid (∀ z, Below w3.heap.size w3 ((wr.setCell ⟨g, j, none⟩ (.int .u8 z)).drew)) := fun z => below_drewN' (Below.setCell (p := ⟨g, j, none⟩) HB.out (HG.out.1) (.int .u8 z)) 1
      clear hV hU hB n1 n2 n3 g1 g2 g3 g4 hx
      go_wp2
      go_region
      go_wp2
      go_roundw
      case rel => exact ⟨j + 1, HLT.out, by go_num, HV2.out _, HU2.out _, HB2'.out _⟩
      case measure => have := HLT.out; simp [intOf]; omega
    · have HPV := HV
      have HPU := HU
      have HPB := HB
      clear hV hU hB n1 n2 n3 HV HU HB
      rename World => wl0
      go_wp2
      clear c1 hkk hlt hj hzr
      go_loopw [7] (fun i wr => ∃ j : Nat, j ≤ an ∧ i = .int .i64 j ∧ Ov wr w3.heap.size w5.heap.size w4.heap.size D4 dn k4 A4 an m4 ∧ Ov wr w5.heap.size w7.heap.size w6.heap.size D6 dn k6 A6 an m6 ∧ Below w3.heap.size w3 wr) (fun i _ => an - (intOf i).toNat)
      case atStart => exact ⟨0, Nat.zero_le _, rfl, HPV.out, HPU.out, HPB.out⟩
      case round =>
        obtain ⟨j, hj, rfl, hV, hU, hB⟩ := hrel
        clear HPV HPU HPB
        have hzr := hB.size
        have hdn := HDN.out
        have han := HAN.out
        obtain ⟨cs, n1, n2, n3⟩ := hV.node
        have c1 : wr.cell? ⟨w4.heap.size, 2, none⟩ = some (.slice A4 an m4) := (n1.cell 2).trans n3
        have hkk := hV.cap.2
        have HV := Lib.hid hV
        have HU := Lib.hid hU
        have HB := Lib.hid hB
        by_cases hlt : j < an
        · obtain ⟨g, cur, rfl, g1, g2, g3, g4⟩ := hV.acls (by omega)
          have c2 : ∃ y, wr.cell? ⟨g, j * 3, none⟩ = some y := by rw [g3.cell, Array.getElem?_eq_getElem (by omega)]; exact ⟨_, rfl⟩
          obtain ⟨y, c2⟩ := c2
          have f2 := g3.frozen (j * 3)
          have HG := Lib.hid (And.intro g1 g2)
          have HLT := Lib.hid hlt
          have HV2 : Hid (Ov (wr.setCell ⟨g, j * 3, none⟩ (.int .i32 (-9))) w3.heap.size w5.heap.size w4.heap.size D4 dn k4 (some ⟨g, 0, none⟩) an m4) := (HV.out.setA (Nat.lt_of_le_of_lt (Nat.zero_le _) hlt) (j * 3) (.int .i32 (-9)))
          have HU2 : Hid (Ov (wr.setCell ⟨g, j * 3, none⟩ (.int .i32 (-9))) w5.heap.size w7.heap.size w6.heap.size D6 dn k6 A6 an m6) := (HU.out.far (p := ⟨g, j * 3, none⟩) (.inl HG.out.2) (.int .i32 (-9)))
          have HB2' : Hid (Below w3.heap.size w3 ((wr.setCell ⟨g, j * 3, none⟩ (.int .i32 (-9))))) := Below.setCell (p := ⟨g, j * 3, none⟩) HB.out (HG.out.1) (.int .i32 (-9))
          clear hV hU hB n1 n2 n3 g1 g2 g3 g4
          go_wp2
          go_roundw
          case rel => exact ⟨j + 1, HLT.out, by go_num, HV2.out, HU2.out, HB2'.out⟩
          case measure => have := HLT.out; simp [intOf]; omega
        · have HPV := HV
          have HPU := HU
          have HPB := HB
          clear hV hU hB n1 n2 n3 HV HU HB
          rename World => wl1
          go_wp2
          clear c1 hkk hlt hj hzr
          go_loopw [8] (fun i wr => ∃ j : Nat, j ≤ dn ∧ i = .int .i64 j ∧ Ov wr w3.heap.size w5.heap.size w4.heap.size D4 dn k4 A4 an m4 ∧ Ov wr w5.heap.size w7.heap.size w6.heap.size D6 dn k6 A6 an m6 ∧ Below w3.heap.size w3 wr) (fun i _ => dn - (intOf i).toNat)
          case atStart => exact ⟨0, Nat.zero_le _, rfl, HPV.out, HPU.out, HPB.out⟩
          case round =>
            obtain ⟨j, hj, rfl, hV, hU, hB⟩ := hrel
            clear HPV HPU HPB
            have hzr := hB.size
            have hdn := HDN.out
            have han := HAN.out
            obtain ⟨cs, n1, n2, n3⟩ := hU.node
            have c1 : wr.cell? ⟨w6.heap.size, 1, none⟩ = some (.slice D6 dn k6) := (n1.cell 1).trans n2
            have hkk := hU.cap.1
            have HV := Lib.hid hV
            have HU := Lib.hid hU
            have HB := Lib.hid hB
            by_cases hlt : j < dn
            · obtain ⟨g, cur, rfl, g1, g2, g3, g4⟩ := hU.data (by omega)
              obtain ⟨x, hx⟩ := g4 j hlt
              have c2 : wr.cell? ⟨g, j, none⟩ = some (.int .u8 x) := (g3.cell j).trans hx
              have f2 := g3.frozen j
              have HG := Lib.hid (And.intro g1 g2)
              have HLT := Lib.hid hlt
              have HV2 : Hid (∀ z, Ov (wr.setCell ⟨g, j, none⟩ (.int .u8 z)).drew w3.heap.size w5.heap.size w4.heap.size D4 dn k4 A4 an m4) := fun z => (HV.out.far (p := ⟨g, j, none⟩) (.inr HG.out.1) (.int .u8 z)).keep fun _ _ _ => rfl
              have HU2 : Hid (∀ z, Ov (wr.setCell ⟨g, j, none⟩ (.int .u8 z)).drew w5.heap.size w7.heap.size w6.heap.size (some ⟨g, 0, none⟩) dn k6 A6 an m6) := fun z => (HU.out.setD hlt z).keep fun _ _ _ => rfl
              have HB2' : Hid (∀ z, Below w3.heap.size w3 ((wr.setCell ⟨g, j, none⟩ (.int .u8 z)).drew)) := fun z => below_drewN' (Below.setCell (p := ⟨g, j, none⟩) HB.out (Nat.le_trans HV.out.lo (Nat.le_trans (Nat.le_of_lt HV.out.hi) HG.out.1)) (.int .u8 z)) 1
              clear hV hU hB n1 n2 n3 g1 g2 g3 g4 hx
              go_wp2
              go_region
              go_wp2
              go_roundw
              case rel => exact ⟨j + 1, HLT.out, by go_num, HV2.out _, HU2.out _, HB2'.out _⟩
              case measure => have := HLT.out; simp [intOf]; omega
            · have HPV := HV
              have HPU := HU
              have HPB := HB
              clear hV hU hB n1 n2 n3 HV HU HB
              rename World => wl2
              go_wp2
              clear c1 hkk hlt hj hzr
              go_loopw [9] (fun i wr => ∃ j : Nat, j ≤ an ∧ i = .int .i64 j ∧ Ov wr w3.heap.size w5.heap.size w4.heap.size D4 dn k4 A4 an m4 ∧ Ov wr w5.heap.size w7.heap.size w6.heap.size D6 dn k6 A6 an m6 ∧ Below w3.heap.size w3 wr) (fun i _ => an - (intOf i).toNat)
              case atStart => exact ⟨0, Nat.zero_le _, rfl, HPV.out, HPU.out, HPB.out⟩
              case round =>
                obtain ⟨j, hj, rfl, hV, hU, hB⟩ := hrel
                clear HPV HPU HPB
                have hzr := hB.size
                have hdn := HDN.out
                have han := HAN.out
                obtain ⟨cs, n1, n2, n3⟩ := hU.node
                have c1 : wr.cell? ⟨w6.heap.size, 2, none⟩ = some (.slice A6 an m6) := (n1.cell 2).trans n3
                have hkk := hU.cap.2
                have HV := Lib.hid hV
                have HU := Lib.hid hU
                have HB := Lib.hid hB
                by_cases hlt : j < an
                · obtain ⟨g, cur, rfl, g1, g2, g3, g4⟩ := hU.acls (by omega)
                  have c2 : ∃ y, wr.cell? ⟨g, j * 3, none⟩ = some y := by rw [g3.cell, Array.getElem?_eq_getElem (by omega)]; exact ⟨_, rfl⟩
                  obtain ⟨y, c2⟩ := c2
                  have f2 := g3.frozen (j * 3)
                  have HG := Lib.hid (And.intro g1 g2)
                  have HLT := Lib.hid hlt
                  have HV2 : Hid (Ov (wr.setCell ⟨g, j * 3, none⟩ (.int .i32 (-8))) w3.heap.size w5.heap.size w4.heap.size D4 dn k4 A4 an m4) := (HV.out.far (p := ⟨g, j * 3, none⟩) (.inr HG.out.1) (.int .i32 (-8)))
                  have HU2 : Hid (Ov (wr.setCell ⟨g, j * 3, none⟩ (.int .i32 (-8))) w5.heap.size w7.heap.size w6.heap.size D6 dn k6 (some ⟨g, 0, none⟩) an m6) := (HU.out.setA (Nat.lt_of_le_of_lt (Nat.zero_le _) hlt) (j * 3) (.int .i32 (-8)))
                  have HB2' : Hid (Below w3.heap.size w3 ((wr.setCell ⟨g, j * 3, none⟩ (.int .i32 (-8))))) := Below.setCell (p := ⟨g, j * 3, none⟩) HB.out (Nat.le_trans HV.out.lo (Nat.le_trans (Nat.le_of_lt HV.out.hi) HG.out.1)) (.int .i32 (-8))
                  clear hV hU hB n1 n2 n3 g1 g2 g3 g4
                  go_wp2
                  go_roundw
                  case rel => exact ⟨j + 1, HLT.out, by go_num, HV2.out, HU2.out, HB2'.out⟩
                  case measure => have := HLT.out; simp [intOf]; omega
                · have HPV := HV
                  have HPU := HU
                  have HPB := HB
                  clear hV hU hB n1 n2 n3 HV HU HB
                  rename World => wl3
                  clear HPV HPU
                  have HB9 := Lib.hid (HB3.out.trans (HPB.out.mono HB3.out.size))
                  have HO9 := Lib.hid (HO3.out.below HPB.out HO3.out.lt)
                  have HN9 := Lib.hid (HN3.out.below HPB.out HN3.out.lt)
                  have HD9 := Lib.hid (HD3.out.below HPB.out)
                  have HA9 := Lib.hid (HA3.out.below HPB.out)
                  have RD9 := Lib.hid (RD.out.below HB9.out)
                  have RA9 := Lib.hid (RA.out.below HB9.out)
                  go_wp2_with (first
          | (refine wpList_load_row rfl 32 (.tmp 3) rfl w2.heap.size rfl 32 _ _ _ HO9.out Tryd.underlying32 rfl (by rw [(RS.out _ _).1]; exact ZN.out) ?_)
          | (refine wpList_load_row rfl 32 (.tmp 1) rfl w.heap.size rfl 32 _ _ _ HN9.out Tryd.underlying32 rfl ZN.out ?_)
          | (go_at_call 21
             refine (SM.out D k A m wl3 RD9.out RA9.out w3.heap.size HPB.out.size HB3.out.size HD9.out HA9.out).mono ?_
             rintro e w9 ⟨rfl, hb9⟩
             have HB10 := Lib.hid (HB9.out.trans (hb9.mono HB9.out.size))
             clear hb9))
                  go_ret
                  exact ⟨rfl, HB10.out⟩
end Go.Proofs.YtaojjjcaofhmcaaDoor
