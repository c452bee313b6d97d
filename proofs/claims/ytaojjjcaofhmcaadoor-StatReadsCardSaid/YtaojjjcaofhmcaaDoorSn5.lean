/- A node's record: the program's Encode: the walk. (printed by gen_n5.py) -/
import Derived.Test.YtaojjjcaofhmcaaDoorSn4
set_option linter.unusedVariables false
set_option linter.unusedSimpArgs false
namespace Go.Proofs.YtaojjjcaofhmcaaDoor
open Go.RowKit

set_option maxRecDepth 100000 in
set_option maxHeartbeats 4000000 in
theorem encode_any (p : ByteArray) (o cz mz pz az qz ct mt ve cr av : Int) (qh : Bool) (qc qb : Int) (dA : Option Addr) (dn dc : Nat) (aA : Option Addr) (an ac : Nat) (l : List UInt8) (L : List AclT) (B : Nat) (w : World)
    (hB : B ≤ w.heap.size) (hd : Reads w B 1 dA dn (bcells l)) (ha : Reads w B 3 aA an (aclCells L)) (hd1 : dn ≤ 9223372036854775807) (hn : an ≤ 9223372036854775807) (hfit : ∀ a ∈ L, aclFit a) (hE : EnvS w) :
    Calls Tryd.prog 15 #[.agg #[.string p, .slice dA dn dc, .slice aA an ac, .int .i64 o, .int .i64 cz, .int .i64 mz, .int .i64 pz, .int .i64 az, .int .i64 qz, .int .i64 ct, .int .i64 mt, .int .i32 ve, .int .i32 cr, .int .i32 av, .bool qh, .int .i64 qc, .int .i64 qb]] w fun e w' => Below w.heap.size w w' ∧
      ((rightE p dn L qh qc qb ≠ 0 ∧ e = .returned (.tuple #[.slice none 0 0, .int .i64 (rightE p dn L qh qc qb)])) ∨
       (rightE p dn L qh qc qb = 0 ∧ ∃ A n c, e = .returned (.tuple #[.slice A n c, .int .i64 0]) ∧ w'.ownsRow w.heap.size 5 1 (.slice A n c) n (bcells (nodeB p l L [o, cz, mz, pz, az, qz, ct, mt] [ve, cr, av] qh qc qb)))) := by
  have hl : L.length = an := by have := ha.1; rw [aclCells_length] at this; omega
  have hll : l.length = dn := by have := hd.1; rw [bcells_length] at this; omega
  obtain ⟨w1, hw1⟩ : ∃ w1, w.alloc (.cells #[.string p, .slice dA dn dc, .slice aA an ac, .int .i64 o, .int .i64 cz, .int .i64 mz, .int .i64 pz, .int .i64 az, .int .i64 qz, .int .i64 ct, .int .i64 mt, .int .i32 ve, .int .i32 cr, .int .i32 av, .bool qh, .int .i64 qc, .int .i64 qb] 32) = w1 := ⟨_, rfl⟩
  have hb1 : Below w.heap.size w w1 := by rw [← hw1]; exact (Below.refl _ _).alloc (Nat.le_refl _) _
  have hS : Blk w1 w.heap.size 32 #[.string p, .slice dA dn dc, .slice aA an ac, .int .i64 o, .int .i64 cz, .int .i64 mz, .int .i64 pz, .int .i64 az, .int .i64 qz, .int .i64 ct, .int .i64 mt, .int .i32 ve, .int .i32 cr, .int .i32 av, .bool qh, .int .i64 qc, .int .i64 qb] := by rw [← hw1]; exact Blk.new _ _ _
  have hz1 : w1.heap.size = w.heap.size + 1 := by rw [← hw1]; simp
  have hrt := right_any p o cz mz pz az qz ct mt ve cr av qh qc qb dA dn dc aA an ac L B w1 (by omega) hd1 hn (ha.below (hb1.mono hB)) hfit (hE.below hb1)
  have HB1 := Lib.hid hb1
  have HS := Lib.hid hS
  have HD := Lib.hid hd
  have HA := Lib.hid ha
  have HAN := Lib.hid hl
  have HDN := Lib.hid hll
  have kc1 := hS.cell
  obtain ⟨R, hR⟩ : ∃ R, R = rightE p dn L qh qc qb := ⟨_, rfl⟩
  rw [← hR] at hrt ⊢
  have HRT := Lib.hid hrt
  have HRE := Lib.hid hR
  obtain ⟨xs, hxs⟩ : ∃ xs : List Int, xs = [o, cz, mz, pz, az, qz, ct, mt] := ⟨_, rfl⟩
  obtain ⟨ys, hys⟩ : ∃ ys : List Int, ys = [ve, cr, av] := ⟨_, rfl⟩
  have HX := Lib.hid hxs
  have HY := Lib.hid hys
  clear hb1 hS hd ha hl hll hrt hR hxs hys hfit hE
  by_cases h0 : R = 0
  rotate_left
  · go_enter Tryd.func15, Tryd.ntmps15
    go_wp2_with (go_at_call 18; refine HRT.out.mono ?_; rintro e w2 ⟨rfl, hb⟩; have HB2 := Lib.hid (HB1.out.trans (hb.mono HB1.out.size)); clear hb kc1)
    go_ret2
    exact ⟨HB2.out, .inl ⟨h0, rfl⟩⟩
  subst h0
  have hrz : rightE p l.length L qh qc qb = 0 := by rw [HDN.out, ← HRE.out]
  have hsm := nodeB_small hrz o cz mz pz az qz ct mt ve cr av
  have hps := (right_zero hrz).2.1
  have hpl := (right_zero hrz).2.2.1
  have hsm1 := hsm.1
  have hsm2 := hsm.2
  have HSM := Lib.hid hsm1
  have HDL := HDN.out
  have HPA : Hid (L.length ≤ 16) := (right_zero hrz).2.2.2.1
  clear hrz hsm hsm1
  go_enter Tryd.func15, Tryd.ntmps15
  go_wp2_with (go_at_call 18; refine HRT.out.mono ?_; rintro e w2 ⟨rfl, hb⟩; have HB12 := Lib.hid hb; clear hb kc1; refine Hid.out ?_)
  have hz2 := HB12.out.size
  obtain ⟨w3, hw3⟩ : ∃ w3, w2.alloc (.cells #[.slice none 0 0] 69) = w3 := ⟨_, rfl⟩
  have hb23 : Below w2.heap.size w2 w3 := by rw [← hw3]; exact (Below.refl _ _).alloc (Nat.le_refl _) _
  have HW3 : Hid (Wr w3 w2.heap.size w2.heap.size (.slice none 0 0) []) := ⟨by rw [← hw3]; exact Blk.new _ _ _, World.ownsRow_nil _ _ _ _⟩
  have hz3 : w3.heap.size = w2.heap.size + 1 := by rw [← hw3]; simp
  have HB13 : Hid (Below w1.heap.size w1 w3) := HB12.out.trans (hb23.mono hz2)
  have HS3 := Lib.hid (HS.out.below HB13.out (by omega))
  have c0 := lit_cell HS3.out 0 rfl
  clear hb23
  refine Lib.hid ?_
  have H3 : Hid (Wrote w2.heap.size w2.heap.size (.slice none 0 0) (.slice none 0 0) [] [] w3 w3) := Wrote.start HW3.out
  have HBL : ∀ W v k, Wrote w2.heap.size w2.heap.size (.slice none 0 0) v [] k w3 W → Below w.heap.size w W := fun _ _ _ h => HB1.out.trans ((HB13.out.trans ((h.below (B := w2.heap.size) (Nat.le_refl _) (fun x e => by simp [Value.ownBlock] at e) (by omega)).mono (by omega))).mono (by omega))
  have HBLH := Lib.hid HBL
  clear HBL
  go_wp2_with (go_at_call 45; refine (wText_any w2.heap.size w2.heap.size _ _ p w3 H3.out.1 (by omega) (by simp; omega)).mono ?_; rintro e w4 ⟨rfl, v4, hp⟩; have hz4 := hp.size; have HS4 := Lib.hid (HS3.out.wrote H3.out.1 hp (by omega) (by decide)); have H4 := Lib.hid (H3.out.cat (Below.refl _ _) hp); have c1 := lit_cell HS4.out 1 rfl; clear hp; refine Hid.out ?_)
  clear c0
  refine Lib.hid ?_
  go_wp2_with (go_at_call 46; refine (wBuffer_any w2.heap.size w2.heap.size v4 _ l dA dn dc B w4 H4.out.1 (HD.out.below ((HBLH.out _ _ _ H4.out).mono hB)) (by omega) (fun hpos ad e => by have hlt := (HD.out.2 hpos); obtain ⟨ad', e', hbk, _⟩ := hlt; rw [e] at e'; cases e'; exact ⟨by omega, fun ho => by have := (H4.out.1.2.lt _ ho).1; omega⟩) (by omega) (by simp only [List.nil_append, List.append_nil, List.length_append, bBuf_len, ← bsize_eq]; omega)).mono ?_; rintro e w5 ⟨rfl, v5, hp⟩; have hz5 := hp.size; have HS5 := Lib.hid (HS4.out.wrote H4.out.1 hp (by omega) (by decide)); have H5 := Lib.hid (H4.out.cat (Below.refl _ _) hp); have c2 := lit_cell HS5.out 2 rfl; clear hp; refine Hid.out ?_)
  clear c1
  refine Lib.hid ?_
  go_wp2_with (go_at_call 47; refine (wAcls_any w2.heap.size w2.heap.size v5 _ aA an ac B L w5 H5.out.1 (HA.out.below ((HBLH.out _ _ _ H5.out).mono hB)) (by omega) (Nat.le_refl _) (by omega) hn (by simp only [List.nil_append, List.append_nil, List.length_append, bBuf_len, ← bsize_eq]; omega)).mono ?_; rintro e w6 ⟨rfl, v6, hp⟩; have hz6 := hp.size; have HS6 := Lib.hid (HS5.out.wrote H5.out.1 hp (by omega) (by decide)); have H6 := Lib.hid (H5.out.cat (Below.refl _ _) hp); clear hp; refine Hid.out ?_)
  clear c2
  refine Lib.hid ?_
  obtain ⟨b6, hb6⟩ : ∃ b6, b6 = [] ++ bBuf p.data.toList ++ bBuf l ++ (bInt an ++ aclsB L) := ⟨_, rfl⟩
  have hl6 : b6.length = p.size + l.length + (aclsB L).length + 12 := by rw [hb6]; simp only [List.nil_append, List.length_append, bBuf_len, bInt_len, ← bsize_eq]; omega
  have H6b : Hid (Wrote w2.heap.size w2.heap.size (.slice none 0 0) v6 [] b6 w3 w6) := by unfold Hid; rw [hb6]; exact H6.out
  have HB6e := Lib.hid hb6
  clear hb6 H6
  go_wp2_with (go_at_call 49; refine (steps_any w.heap.size w6).mono ?_; rintro e w7 ⟨b1, b2, rfl, hg1, hg2, hp1, hp2, hb⟩; have hz7 := hb.size; have HP1 := Lib.hid hp1; have HP2 := Lib.hid hp2; have HS7 := Lib.hid (HS6.out.below hb (by omega)); have H7 : Hid (Wrote w2.heap.size w2.heap.size (.slice none 0 0) v6 [] b6 w3 w7) := H6b.out.later hb; clear hb hp1 hp2)
  go_loopw [37] (fun i wr => ∃ (j : Nat) (v : Value), j ≤ 8 ∧ i = .int .i64 j ∧ Wrote w2.heap.size w2.heap.size (.slice none 0 0) v [] (b6 ++ bAll bLong (xs.take j)) w3 wr ∧ Blk wr w.heap.size 32 #[.string p, .slice dA dn dc, .slice aA an ac, .int .i64 o, .int .i64 cz, .int .i64 mz, .int .i64 pz, .int .i64 az, .int .i64 qz, .int .i64 ct, .int .i64 mt, .int .i32 ve, .int .i32 cr, .int .i32 av, .bool qh, .int .i64 qc, .int .i64 qb] ∧ Blk wr b1 101 (ptrs w.heap.size 3 8) ∧ Blk wr b2 102 (ptrs w.heap.size 11 3)) (fun i _ => 8 - (intOf i).toNat)
  case atStart => exact ⟨0, _, Nat.zero_le _, rfl, by simpa [bAll] using H7.out, HS7.out, HP1.out, HP2.out⟩
  case round =>
    obtain ⟨j, v, hj, rfl, hW, hN, hP1, hP2⟩ := hrel
    have hz := hW.size
    have hxl : xs.length = 8 := by rw [HX.out]; rfl
    clear H7 HS7 HP1 HP2 H6b HS6
    by_cases hlt : j < 8
    · have hc := lit_cell hP1 j (ptrs_get w.heap.size 3 8 j hlt)
      have hx : wr.cell? ⟨w.heap.size, 3 + j, none⟩ = some (.int .i64 xs[j]) := by
        refine lit_cell hN (3 + j) ?_
        have e := HX.out
        subst e
        rcases j with _ | _ | _ | _ | _ | _ | _ | _ | j
        all_goals first | rfl | omega
      have HW := Lib.hid hW
      have HN := Lib.hid hN
      have HP1 := Lib.hid hP1
      have HP2 := Lib.hid hP2
      have HE := Lib.hid (bAll_snoc bLong xs j (by omega))
      have HLN : Hid (([] ++ (b6 ++ bAll bLong (xs.take j))).length + 8 ≤ 140737488355328) := by
        unfold Hid; rw [List.nil_append, List.length_append, bLongs_le, List.length_take]; omega
      clear hW hN hP1 hP2
      go_wp2_with (go_at_call 32; refine (wLong_any w2.heap.size w2.heap.size v _ xs[j] wr HW.out.1 (by omega) HLN.out).mono ?_; rintro e w8 ⟨rfl, v3, hp⟩; have HN2 := Lib.hid (HN.out.wrote HW.out.1 hp (by omega) (by decide)); have HQ1 := Lib.hid (HP1.out.wrote HW.out.1 hp (by omega) (by decide)); have HQ2 := Lib.hid (HP2.out.wrote HW.out.1 hp (by omega) (by decide)); have HP := Lib.hid (HW.out.cat (Below.refl _ _) hp); clear hp)
      go_roundw
      case rel => exact ⟨j + 1, v3, by omega, by go_num, by rw [HE.out, ← List.append_assoc]; exact HP.out, HN2.out, HQ1.out, HQ2.out⟩
      case measure => simp [intOf]; omega
    · have hj8 : j = 8 := by omega
      subst hj8
      rw [show ((8 : Nat) : Int) = 8 from rfl]
      have HW : Hid (Wrote w2.heap.size w2.heap.size (.slice none 0 0) v [] (b6 ++ bAll bLong xs) w3 wr) := by
        unfold Hid; rw [List.take_of_length_le (by omega)] at hW; exact hW
      have HN := Lib.hid hN
      have HP2 := Lib.hid hP2
      clear hW hN hP1 hP2 hlt hj
      rename World => wa
      go_wp2
      go_loopw [49] (fun i wr => ∃ (j : Nat) (v : Value), j ≤ 3 ∧ i = .int .i64 j ∧ Wrote w2.heap.size w2.heap.size (.slice none 0 0) v [] (b6 ++ bAll bLong xs ++ bAll bInt (ys.take j)) w3 wr ∧ Blk wr w.heap.size 32 #[.string p, .slice dA dn dc, .slice aA an ac, .int .i64 o, .int .i64 cz, .int .i64 mz, .int .i64 pz, .int .i64 az, .int .i64 qz, .int .i64 ct, .int .i64 mt, .int .i32 ve, .int .i32 cr, .int .i32 av, .bool qh, .int .i64 qc, .int .i64 qb] ∧ Blk wr b2 102 (ptrs w.heap.size 11 3)) (fun i _ => 3 - (intOf i).toNat)
      case atStart => exact ⟨0, _, Nat.zero_le _, rfl, by simpa [bAll] using HW.out, HN.out, HP2.out⟩
      case round =>
        obtain ⟨j, v2, hj, rfl, hW, hN, hP2⟩ := hrel
        have hz := hW.size
        have hyl : ys.length = 3 := by rw [HY.out]; rfl
        clear HW HN HP2
        by_cases hlt : j < 3
        · have hc := lit_cell hP2 j (ptrs_get w.heap.size 11 3 j hlt)
          have hx : wr.cell? ⟨w.heap.size, 11 + j, none⟩ = some (.int .i32 ys[j]) := by
            refine lit_cell hN (11 + j) ?_
            have e := HY.out
            subst e
            rcases j with _ | _ | _ | j
            all_goals first | rfl | omega
          have HW := Lib.hid hW
          have HN := Lib.hid hN
          have HP2 := Lib.hid hP2
          have HE := Lib.hid (bAll_snoc bInt ys j (by omega))
          have HLN : Hid (([] ++ (b6 ++ bAll bLong xs ++ bAll bInt (ys.take j))).length + 8 ≤ 140737488355328) := by
            unfold Hid; rw [List.nil_append, List.length_append, List.length_append, bLongs_le, bInts_le, List.length_take]; omega
          clear hW hN hP2
          go_wp2_with (go_at_call 33; refine (wInt_any w2.heap.size w2.heap.size v2 _ ys[j] wr HW.out.1 (by omega) HLN.out).mono ?_; rintro e w8 ⟨rfl, v3, hp⟩; have HN2 := Lib.hid (HN.out.wrote HW.out.1 hp (by omega) (by decide)); have HQ2 := Lib.hid (HP2.out.wrote HW.out.1 hp (by omega) (by decide)); have HP := Lib.hid (HW.out.cat (Below.refl _ _) hp); clear hp)
          go_roundw
          case rel => exact ⟨j + 1, v3, by omega, by go_num, by rw [HE.out, ← List.append_assoc]; exact HP.out, HN2.out, HQ2.out⟩
          case measure => simp [intOf]; omega
        · have hj3 : j = 3 := by omega
          subst hj3
          rw [show ((3 : Nat) : Int) = 3 from rfl]
          have H10 : Hid (Wrote w2.heap.size w2.heap.size (.slice none 0 0) v2 [] (b6 ++ bAll bLong xs ++ bAll bInt ys) w3 wr) := by
            unfold Hid; rw [List.take_of_length_le (by omega)] at hW; exact hW
          have HS10 := Lib.hid hN
          have HLX : Hid ((bAll bLong xs).length = 64) := by unfold Hid; rw [bLongs_le]; omega
          have HLY : Hid ((bAll bInt ys).length = 12) := by unfold Hid; rw [bInts_le]; omega
          clear hW hN hP2 hlt hj
          have c14 := lit_cell HS10.out 14 rfl
          go_wp2_with (go_at_call 50; refine (wBool_any w2.heap.size w2.heap.size v2 _ qh wr H10.out.1 (by omega) (by simp only [List.nil_append, List.length_append, HLX.out, HLY.out]; omega)).mono ?_; rintro e w11 ⟨rfl, v11, hp⟩; have hz11 := hp.size; have HS11 := Lib.hid (HS10.out.wrote H10.out.1 hp (by omega) (by decide)); have H11 := Lib.hid (H10.out.cat (Below.refl _ _) hp); have c15 := lit_cell HS11.out 15 rfl; clear hp; refine Hid.out ?_)
          clear c14
          refine Lib.hid ?_
          go_wp2_with (go_at_call 32; refine (wLong_any w2.heap.size w2.heap.size v11 _ qc w11 H11.out.1 (by omega) (by simp only [List.nil_append, List.length_append, HLX.out, HLY.out, bBool_len]; omega)).mono ?_; rintro e w12 ⟨rfl, v12, hp⟩; have hz12 := hp.size; have HS12 := Lib.hid (HS11.out.wrote H11.out.1 hp (by omega) (by decide)); have H12 := Lib.hid (H11.out.cat (Below.refl _ _) hp); have c16 := lit_cell HS12.out 16 rfl; clear hp; refine Hid.out ?_)
          clear c15
          refine Lib.hid ?_
          go_wp2_with (go_at_call 32; refine (wLong_any w2.heap.size w2.heap.size v12 _ qb w12 H12.out.1 (by omega) (by simp only [List.nil_append, List.length_append, HLX.out, HLY.out, bBool_len, bLong_len]; omega)).mono ?_; rintro e w13 ⟨rfl, v13, hp⟩; have hz13 := hp.size; have HS13 := Lib.hid (HS12.out.wrote H12.out.1 hp (by omega) (by decide)); have H13 := Lib.hid (H12.out.cat (Below.refl _ _) hp); clear hp; refine Hid.out ?_)
          clear c16
          refine Lib.hid ?_
          have HR : Hid (Wr w13 w2.heap.size w2.heap.size v13 (nodeB p l L [o, cz, mz, pz, az, qz, ct, mt] [ve, cr, av] qh qc qb)) := by
            have h := H13.out.1
            unfold Hid nodeB
            rw [HB6e.out] at h
            rw [← HX.out, ← HY.out, HAN.out]
            simpa only [List.nil_append, List.append_assoc] using h
          have hrb := wBytes_any w2.heap.size w2.heap.size v13 _ w13 HR.out (by have := HSM.out; omega)
          have HRB := Lib.hid hrb
          clear hrb
          go_wp2_with (go_at_call 34; refine HRB.out.mono ?_; rintro e w14 ⟨A, c, rfl, ho, hb⟩; have HO := Lib.hid ho; have HB14 := Lib.hid hb; clear ho hb)
          go_ret2
          have hb13 := HBLH.out _ _ _ H13.out
          exact ⟨hb13.trans (HB14.out.mono hb13.size), .inr ⟨by first | rfl | trivial, A, _, c, rfl, own_low HO.out hb13.size⟩⟩
end Go.Proofs.YtaojjjcaofhmcaaDoor
