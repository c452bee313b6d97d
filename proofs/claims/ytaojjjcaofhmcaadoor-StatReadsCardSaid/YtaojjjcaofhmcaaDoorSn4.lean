/- A node's record: the document's walk. -/
import Derived.Test.YtaojjjcaofhmcaaDoorSn3
import Derived.Test.YtaojjjcaofhmcaaDoorSn2
import Derived.Test.YtaojjjcaofhmcaaDoorSr2
set_option linter.unusedVariables false
set_option linter.unusedSimpArgs false
namespace Go.Proofs.YtaojjjcaofhmcaaDoor
open Go.RowKit

set_option maxRecDepth 100000 in
set_option maxHeartbeats 2000000 in
theorem refPutAcl_any (base : Nat) (v : Value) (l : List UInt8) (A : Option Addr) (n c B : Nat) (L : List AclT) (w : World) (h : Rb w base v l) (hr : Reads w B 3 A n (aclCells L)) (hB : B ≤ base) (hbase : base ≤ w.heap.size) (hn : n ≤ 4294967295) (hsz : l.length + (aclsB L).length + 24 ≤ 140737488355328) :
    Calls Tryd.prog 90 #[v, .slice A n c] w fun e w' => ∃ v', e = .returned v' ∧ Rb w' base v' (l ++ (bInt n ++ aclsB L)) ∧ Below base w w' ∧ Keeps w w' := by
  have hl : L.length = n := by have := hr.1; rw [aclCells_length] at this; omega
  subst hl
  have H0 := Lib.hid h
  have HA := Lib.hid hr
  clear h hr
  go_enter Tryd.func90, Tryd.ntmps90
  go_wp2_with (go_at_call 35; refine (refPut4 base v _ (L.length : Int) L.length w (by omega) (by omega) rfl H0.out hbase (by omega)).mono ?_; rintro e w1 ⟨v1, rfl, hr1, hb1, hk1⟩; have HR1 := Lib.hid hr1; have HB1 := Lib.hid hb1; have HK1 := Lib.hid hk1; clear hr1 hb1 hk1)
  go_loopw [0, 5] (fun u k' wr => ∃ k : Nat, k ≤ L.length ∧ k' = .int .i64 k ∧ Rb wr base u (l ++ (bInt L.length ++ aclsB (L.take k))) ∧ Below base w wr ∧ Keeps w wr) (fun _ k' _ => L.length - (intOf k').toNat)
  case atStart => exact ⟨0, Nat.zero_le _, rfl, by simpa [aclsB] using HR1.out, HB1.out, HK1.out⟩
  case round =>
    clear HR1 HB1 HK1
    obtain ⟨k, hk, rfl, hR, hBe, hK⟩ := hrel
    have HR := Lib.hid hR
    have HB := Lib.hid hBe
    have HK := Lib.hid hK
    have hbw := Nat.le_trans hbase hBe.size
    by_cases hlt : k < L.length
    · have hsp := aclsB_split L k hlt
      have HE := Lib.hid (aclsB_snoc L k hlt)
      obtain ⟨g0, g1, g2⟩ := aclCells_get L k hlt
      obtain ⟨a, haL⟩ : ∃ a, a = L[k] := ⟨_, rfl⟩
      have HAL : Hid (aclB L[k] = aclB a) := by unfold Hid; rw [haL]
      rw [← haL, aclB_len] at hsp
      rw [← haL] at g0 g1 g2
      obtain ⟨q0, q1, q2⟩ := a
      dsimp only at g0 g1 g2 hsp
      obtain ⟨b, off, rfl, _, _⟩ := (HA.out.below (HB.out.mono hB)).plain (by omega) (by omega)
      have hx : ∀ W, Below base w W → ∀ j u, (aclCells L)[j]? = some u → W.cell? ⟨b, off + j, none⟩ = some u := fun W h => by
        obtain ⟨b', off', e, _, hx⟩ := (HA.out.below (h.mono hB)).plain (by omega) (by omega)
        cases e
        exact hx
      have y0 : Hid (∀ W, Below base w W → W.cell? ⟨b, off + k * 3, none⟩ = some (.int .i32 q0)) := fun W h => hx W h _ _ g0
      have y1 : Hid (∀ W, Below base w W → W.cell? ⟨b, off + k * 3 + 1, none⟩ = some (.string q1)) := fun W h => by have := hx W h _ _ g1; rwa [← Nat.add_assoc] at this
      have y2 : Hid (∀ W, Below base w W → W.cell? ⟨b, off + k * 3 + 2, none⟩ = some (.string q2)) := fun W h => by have := hx W h _ _ g2; rwa [← Nat.add_assoc] at this
      have x0 := y0.out wr HB.out
      have hlen : (l ++ (bInt L.length ++ aclsB (L.take k))).length = l.length + 4 + (aclsB (L.take k)).length := by rw [List.length_append, List.length_append, bInt_len]; omega
      have HLN := Lib.hid hlen
      clear haL hx g0 g1 g2 hR hBe hK hlen
      go_wp2_with (go_at_call 35; refine (refPut4 base u0 _ (q0 % 4294967296) q0 wr (by omega) (by omega) (by omega) HR.out hbw (by rw [HLN.out]; omega)).mono ?_; rintro e w2 ⟨v2, rfl, hr, hb, hk⟩; have HR2 := Lib.hid hr; have HB2 := Lib.hid (HB.out.trans hb); have HK2 := Lib.hid (HK.out.trans hk); have x1 := y1.out w2 HB2.out; clear hr hb hk; refine Hid.out ?_)
      clear x0
      refine Lib.hid ?_
      have hz2 := HB2.out.size
      go_wp2_with (go_at_call 89; refine (refText_any base v2 _ q1 w2 HR2.out (by omega) (by rw [List.length_append, HLN.out, bInt_len]; omega)).mono ?_; rintro e w3 ⟨v3, rfl, hr, hb, hk⟩; have HR3 := Lib.hid hr; have HB3 := Lib.hid (HB2.out.trans hb); have HK3 := Lib.hid (HK2.out.trans hk); have x2 := y2.out w3 HB3.out; clear hr hb hk; refine Hid.out ?_)
      clear x1
      refine Lib.hid ?_
      have hz3 := HB3.out.size
      go_wp2_with (go_at_call 89; refine (refText_any base v3 _ q2 w3 HR3.out (by omega) (by rw [List.length_append, List.length_append, HLN.out, bInt_len, bBuf_len, ← bsize_eq]; omega)).mono ?_; rintro e w4 ⟨v4, rfl, hr, hb, hk⟩; have HR4 := Lib.hid hr; have HB4 := Lib.hid (HB3.out.trans hb); have HK4 := Lib.hid (HK3.out.trans hk); clear hr hb hk)
      have hr4 : Hid (Rb w4 base v4 (l ++ (bInt L.length ++ aclsB (L.take (k + 1))))) := by
        have := HR4.out
        unfold Hid
        rw [HE.out, HAL.out]
        simpa [aclB, List.append_assoc] using this
      go_roundw
      case rel => exact ⟨k + 1, by omega, by go_num, hr4.out, HB4.out, HK4.out⟩
      case measure => simp [intOf]; omega
    · have hkl : k = L.length := by omega
      have HKL := Lib.hid hkl
      clear hkl hR hBe hK
      go_wp2
      go_ret
      have hR := HR.out
      rw [HKL.out, List.take_of_length_le (Nat.le_refl _)] at hR
      exact ⟨_, rfl, hR, HB.out, HK.out⟩

theorem ba_size (l : List UInt8) : (⟨l.toArray⟩ : ByteArray).size = l.length := by simp [ByteArray.size]
def nodeB (p : ByteArray) (l : List UInt8) (L : List AclT) (xs ys : List Int) (qh : Bool) (qc qb : Int) : List UInt8 :=
  bBuf p.data.toList ++ bBuf l ++ (bInt L.length ++ aclsB L) ++ bAll bLong xs ++ bAll bInt ys ++ bBool qh ++ bLong qc ++ bLong qb
theorem bBool_len (b : Bool) : (bBool b).length = 1 := by simp [bBool]
theorem nodeB_len (p : ByteArray) (l : List UInt8) (L : List AclT) (o cz mz pz az qz ct mt ve cr av : Int) (qh : Bool) (qc qb : Int) : (nodeB p l L [o, cz, mz, pz, az, qz, ct, mt] [ve, cr, av] qh qc qb).length = p.size + l.length + (aclsB L).length + 105 := by
  simp only [nodeB, List.length_append, bBuf_len, bInt_len, bLongs_le, bInts_le, bBool_len, bLong_len, bsize_eq, List.length_cons, List.length_nil]; omega

set_option maxRecDepth 100000 in
set_option maxHeartbeats 4000000 in
theorem refPutNode_any (base : Nat) (v : Value) (b0 : List UInt8) (p : ByteArray) (o cz mz pz az qz ct mt ve cr av : Int) (qh : Bool) (qc qb : Int) (dA : Option Addr) (dn dc : Nat) (aA : Option Addr) (an ac : Nat) (l : List UInt8) (L : List AclT) (B : Nat) (w : World)
    (h : Rb w base v b0) (hB : B ≤ base) (hbase : base ≤ w.heap.size) (hd : Reads w B 1 dA dn (bcells l)) (ha : Reads w B 3 aA an (aclCells L)) (hn : an ≤ 4294967295) (hsz : b0.length + p.size + l.length + (aclsB L).length + 200 ≤ 140737488355328) :
    Calls Tryd.prog 51 #[v, .agg #[.string p, .slice dA dn dc, .slice aA an ac, .int .i64 o, .int .i64 cz, .int .i64 mz, .int .i64 pz, .int .i64 az, .int .i64 qz, .int .i64 ct, .int .i64 mt, .int .i32 ve, .int .i32 cr, .int .i32 av, .bool qh, .int .i64 qc, .int .i64 qb]] w fun e w' => ∃ v', e = .returned v' ∧ Rb w' base v' (b0 ++ nodeB p l L [o, cz, mz, pz, az, qz, ct, mt] [ve, cr, av] qh qc qb) ∧ Below base w w' ∧ Keeps w w' := by
  have hl : L.length = an := by have := ha.1; rw [aclCells_length] at this; omega
  obtain ⟨w1, hw1⟩ : ∃ w1, w.alloc (.cells #[.string p, .slice dA dn dc, .slice aA an ac, .int .i64 o, .int .i64 cz, .int .i64 mz, .int .i64 pz, .int .i64 az, .int .i64 qz, .int .i64 ct, .int .i64 mt, .int .i32 ve, .int .i32 cr, .int .i32 av, .bool qh, .int .i64 qc, .int .i64 qb] 32) = w1 := ⟨_, rfl⟩
  have hb1 : Below w.heap.size w w1 := by rw [← hw1]; exact (Below.refl _ _).alloc (Nat.le_refl _) _
  have hS : Blk w1 w.heap.size 32 #[.string p, .slice dA dn dc, .slice aA an ac, .int .i64 o, .int .i64 cz, .int .i64 mz, .int .i64 pz, .int .i64 az, .int .i64 qz, .int .i64 ct, .int .i64 mt, .int .i32 ve, .int .i32 cr, .int .i32 av, .bool qh, .int .i64 qc, .int .i64 qb] := by rw [← hw1]; exact Blk.new _ _ _
  have hk1 : Keeps w w1 := by rw [← hw1]; exact (Keeps.refl w).alloc _
  have hz1 := hb1.size
  have HB1 : Hid (Below base w w1) := hb1.mono hbase
  have HK1 : Hid (Keeps w1 w1) := Keeps.refl w1
  have HK01 := Lib.hid hk1
  have H1 : Hid (Rb w1 base v b0) := h.later hb1
  have HS := Lib.hid hS
  have HS1 := Lib.hid hS
  have HD := Lib.hid hd
  have HA := Lib.hid ha
  have HAN := Lib.hid hl
  have c0 := lit_cell HS.out 0 rfl
  obtain ⟨xs, hxs⟩ : ∃ xs : List Int, xs = [o, cz, mz, pz, az, qz, ct, mt] := ⟨_, rfl⟩
  obtain ⟨ys, hys⟩ : ∃ ys : List Int, ys = [ve, cr, av] := ⟨_, rfl⟩
  have HX := Lib.hid hxs
  have HY := Lib.hid hys
  clear hb1 hS hk1 h hd ha hxs hys hl
  go_enter Tryd.func51, Tryd.ntmps51
  go_wp2_with (go_at_call 89; refine (refText_any base v _ p w1 H1.out (by omega) (by omega)).mono ?_; rintro e w2 ⟨v2, rfl, hr, hb, hk⟩; have hz2 := hb.size; have H2 := Lib.hid hr; have HB2 := Lib.hid (HB1.out.trans hb); have HK2 := Lib.hid (HK1.out.trans hk); clear hr hb hk; have c1 := lit_cell (HK2.out _ _ _ (by decide) HS1.out) 1 rfl; have hcv := run_string_of_bytes (P := Tryd.prog) Tryd.underlying24 Tryd.underlying5 (c := dc) (HD.out.below (HB2.out.mono hB)) 9 Tryd.underlying9; refine Hid.out ?_)
  clear c0
  refine Lib.hid ?_
  go_wp2_with (go_at_call 89; refine (refText_any base v2 _ ⟨l.toArray⟩ w2 H2.out (by omega) (by rw [ba_size, List.length_append, bBuf_len, ← bsize_eq]; omega)).mono ?_; rintro e w3 ⟨v3, rfl, hr, hb, hk⟩; have hz3 := hb.size; have H3 := Lib.hid hr; have HB3 := Lib.hid (HB2.out.trans hb); have HK3 := Lib.hid (HK2.out.trans hk); clear hr hb hk; have c2 := lit_cell (HK3.out _ _ _ (by decide) HS1.out) 2 rfl; refine Hid.out ?_)
  clear c1 hcv
  refine Lib.hid ?_
  have H3 : Hid (Rb w3 base v3 (b0 ++ bBuf p.data.toList ++ bBuf l)) := H3
  go_wp2_with (go_at_call 90; refine (refPutAcl_any base v3 _ aA an ac B L w3 H3.out (HA.out.below (HB3.out.mono hB)) hB (by omega) hn (by simp only [List.length_append, bBuf_len, ← bsize_eq]; omega)).mono ?_; rintro e w4 ⟨v4, rfl, hr, hb, hk⟩; have hz4 := hb.size; have H4 := Lib.hid hr; have HB4 := Lib.hid (HB3.out.trans hb); have HK4 := Lib.hid (HK3.out.trans hk); clear hr hb hk; have c3 := lit_cell (HK4.out _ _ _ (by decide) HS1.out) 3 rfl; have c4 := lit_cell (HK4.out _ _ _ (by decide) HS1.out) 4 rfl; have c5 := lit_cell (HK4.out _ _ _ (by decide) HS1.out) 5 rfl; have c6 := lit_cell (HK4.out _ _ _ (by decide) HS1.out) 6 rfl; have c7 := lit_cell (HK4.out _ _ _ (by decide) HS1.out) 7 rfl; have c8 := lit_cell (HK4.out _ _ _ (by decide) HS1.out) 8 rfl; have c9 := lit_cell (HK4.out _ _ _ (by decide) HS1.out) 9 rfl; have c10 := lit_cell (HK4.out _ _ _ (by decide) HS1.out) 10 rfl; refine Hid.out ?_)
  clear c2
  refine Lib.hid ?_
  obtain ⟨b4, hb4⟩ : ∃ b4, b4 = b0 ++ bBuf p.data.toList ++ bBuf l ++ (bInt an ++ aclsB L) := ⟨_, rfl⟩
  have hl4 : b4.length = b0.length + p.size + l.length + (aclsB L).length + 12 := by rw [hb4]; simp only [List.length_append, bBuf_len, bInt_len, ← bsize_eq]; omega
  have H4b : Hid (Rb w4 base v4 b4) := by unfold Hid; rw [hb4]; exact H4.out
  have HB4e := Lib.hid hb4
  clear hb4 H4
  have HB45 : Hid (∀ o, Below w4.heap.size w4 (w4.alloc o)) := fun o => (Below.refl _ _).alloc (Nat.le_refl _) _
  go_wp2
  clear c3 c4 c5 c6 c7 c8 c9 c10
  go_loopw [0, 6] (fun u i wr => ∃ (j : Nat), j ≤ 8 ∧ i = .int .i64 j ∧ Rb wr base u (b4 ++ bAll bLong (xs.take j)) ∧ Below base w wr ∧ Keeps w1 wr ∧ Blk wr w4.heap.size 135 (xs.map fun z => Value.int .i64 z).toArray) (fun _ i _ => 8 - (intOf i).toNat)
  case atStart => exact ⟨0, Nat.zero_le _, rfl, by simpa [bAll] using H4b.out.later (HB45.out _), HB4.out.trans ((HB45.out _).mono (by omega)), HK4.out.alloc _, by rw [HX.out]; exact Blk.new' rfl⟩
  case round =>
    obtain ⟨j, hj, rfl, hR, hBb, hK, hL⟩ := hrel
    have hz := hBb.size
    have hxl : xs.length = 8 := by rw [HX.out]; rfl
    by_cases hlt : j < 8
    · have hc := lit_cell hL j (lits .i64 xs j (by omega))
      have HR := Lib.hid hR
      have HB := Lib.hid hBb
      have HK := Lib.hid hK
      have HL := Lib.hid hL
      have HE := Lib.hid (bAll_snoc bLong xs j (by omega))
      have HLN : Hid ((b4 ++ bAll bLong (xs.take j)).length + 8 ≤ 140737488355328) := by
        unfold Hid; rw [List.length_append, bLongs_le, List.length_take]; omega
      clear hR hBb hK hL
      go_wp2_with (go_at_call 35; refine (refPut8 base u0 _ xs[j] wr HR.out (by omega) HLN.out).mono ?_; rintro e w5 ⟨v5, rfl, hr, hb, hk⟩; have HR2 := Lib.hid hr; have HL2 := Lib.hid (hk _ _ _ (by decide) HL.out); have HB2 := Lib.hid (HB.out.trans hb); have HK2 := Lib.hid (HK.out.trans hk); clear hr hb hk)
      go_roundw
      case rel => exact ⟨j + 1, by omega, by go_num, by rw [HE.out, ← List.append_assoc]; exact HR2.out, HB2.out, HK2.out, HL2.out⟩
      case measure => simp [intOf]; omega
    · have hj8 : j = 8 := by omega
      subst hj8
      rw [show ((8 : Nat) : Int) = 8 from rfl]
      have HR : Hid (Rb wr base u0 (b4 ++ bAll bLong xs)) := by
        unfold Hid; rw [List.take_of_length_le (by omega)] at hR; exact hR
      have HB := Lib.hid hBb
      have HK := Lib.hid hK
      clear hR hL hlt hj hBb hK
      rename World => wa
      have hS := HK.out _ _ _ (by decide) HS1.out
      have c11 := lit_cell hS 11 rfl
      have c12 := lit_cell hS 12 rfl
      have c13 := lit_cell hS 13 rfl
      clear hS
      go_wp2
      have HB23 : Hid (∀ o, Below wa.heap.size wa (wa.alloc o)) := fun o => (Below.refl _ _).alloc (Nat.le_refl _) _
      clear c11 c12 c13
      go_loopw [0, 8] (fun u i wr => ∃ (j : Nat), j ≤ 3 ∧ i = .int .i64 j ∧ Rb wr base u (b4 ++ bAll bLong xs ++ bAll bInt (ys.take j)) ∧ Below base w wr ∧ Keeps w1 wr ∧ Blk wr wa.heap.size 78 (ys.map fun z => Value.int .i32 z).toArray) (fun _ i _ => 3 - (intOf i).toNat)
      case atStart => exact ⟨0, Nat.zero_le _, rfl, by simpa [bAll] using HR.out.later (HB23.out _), HB.out.trans ((HB23.out _).mono (by omega)), HK.out.alloc _, by rw [HY.out]; exact Blk.new' rfl⟩
      case round =>
        obtain ⟨j, hj, rfl, hR, hBb, hK, hL⟩ := hrel
        have hz := hBb.size
        have hyl : ys.length = 3 := by rw [HY.out]; rfl
        by_cases hlt : j < 3
        · have hc := lit_cell hL j (lits .i32 ys j (by omega))
          have HR := Lib.hid hR
          have HB := Lib.hid hBb
          have HK := Lib.hid hK
          have HL := Lib.hid hL
          have HE := Lib.hid (bAll_snoc bInt ys j (by omega))
          have HLN : Hid ((b4 ++ bAll bLong xs ++ bAll bInt (ys.take j)).length + 8 ≤ 140737488355328) := by
            unfold Hid; rw [List.length_append, List.length_append, bLongs_le, bInts_le, List.length_take]; omega
          clear hR hBb hK hL
          go_wp2_with (go_at_call 35; refine (refPut4 base u0 _ (ys[j] % 4294967296) ys[j] wr (by omega) (by omega) (by omega) HR.out (by omega) HLN.out).mono ?_; rintro e w5 ⟨v5, rfl, hr, hb, hk⟩; have HR2 := Lib.hid hr; have HL2 := Lib.hid (hk _ _ _ (by decide) HL.out); have HB2 := Lib.hid (HB.out.trans hb); have HK2 := Lib.hid (HK.out.trans hk); clear hr hb hk)
          go_roundw
          case rel => exact ⟨j + 1, by omega, by go_num, by rw [HE.out, ← List.append_assoc]; exact HR2.out, HB2.out, HK2.out, HL2.out⟩
          case measure => simp [intOf]; omega
        · have hj3 : j = 3 := by omega
          subst hj3
          rw [show ((3 : Nat) : Int) = 3 from rfl]
          have HR : Hid (Rb wr base u0 (b4 ++ bAll bLong xs ++ bAll bInt ys)) := by
            unfold Hid; rw [List.take_of_length_le (by omega)] at hR; exact hR
          have HB := Lib.hid hBb
          have HK := Lib.hid hK
          have HLX : Hid ((bAll bLong xs).length = 64) := by unfold Hid; rw [bLongs_le]; omega
          have HLY : Hid ((bAll bInt ys).length = 12) := by unfold Hid; rw [bInts_le]; omega
          clear hR hL hlt hj hBb hK
          have hS := HK.out _ _ _ (by decide) HS1.out
          have c14 := lit_cell hS 14 rfl
          clear hS
          have hbq : ∀ b : Bool, ∀ v l W, Rb W base v l → base ≤ W.heap.size → l.length + 8 ≤ 140737488355328 → Calls Tryd.prog 35 #[v, .int .u64 (if b then 1 else 0), .int .i64 1] W fun e w' => ∃ v', e = .returned v' ∧ Rb w' base v' (l ++ bBool b) ∧ Below base W w' ∧ Keeps W w' := fun b v l W h1 h2 h3 => by
            have := refPut_any base v l (if b then 1 else 0) 1 W h1 (by split <;> decide) (by decide) h2 h3
            cases b <;> simpa [bBool, beBytes] using this
          have HBQ := Lib.hid hbq
          clear hbq
          cases qh with
          | false =>
            have h1 := HBQ.out false
            simp only [if_true, if_false, Bool.false_eq_true] at h1
            have HQ1 := Lib.hid h1
            clear h1
            go_wp2_with (go_at_call 35; refine (HQ1.out u0 _ wr HR.out (by omega) (by simp only [List.length_append, HLX.out, HLY.out]; omega)).mono ?_; rintro e w5 ⟨v5, rfl, hr, hb, hk⟩; have hz5 := hb.size; have H5 := Lib.hid hr; have HB5 := Lib.hid (HB.out.trans hb); have HK5 := Lib.hid (HK.out.trans hk); clear hr hb hk; have c15 := lit_cell (HK5.out _ _ _ (by decide) HS1.out) 15 rfl; refine Hid.out ?_)
            clear c14
            refine Lib.hid ?_
            go_wp2_with (go_at_call 35; refine (refPut8 base v5 _ qc w5 H5.out (by omega) (by simp only [List.length_append, HLX.out, HLY.out, bBool_len]; omega)).mono ?_; rintro e w6 ⟨v6, rfl, hr, hb, hk⟩; have hz6 := hb.size; have H6 := Lib.hid hr; have HB6 := Lib.hid (HB5.out.trans hb); have HK6 := Lib.hid (HK5.out.trans hk); clear hr hb hk; have c16 := lit_cell (HK6.out _ _ _ (by decide) HS1.out) 16 rfl; refine Hid.out ?_)
            clear c15
            refine Lib.hid ?_
            go_wp2_with (go_at_call 35; refine (refPut8 base v6 _ qb w6 H6.out (by omega) (by simp only [List.length_append, HLX.out, HLY.out, bBool_len, bLong_len]; omega)).mono ?_; rintro e w7 ⟨v7, rfl, hr, hb, hk⟩; have H7 := Lib.hid hr; have HB7 := Lib.hid (HB6.out.trans hb); have HK7 := Lib.hid (HK6.out.trans hk); clear hr hb hk)
            go_ret
            refine ⟨v7, rfl, ?_, HB7.out, HK01.out.trans HK7.out⟩
            have h7 := H7.out
            rw [HB4e.out] at h7
            unfold nodeB
            rw [← HX.out, ← HY.out, HAN.out]
            simpa only [List.append_assoc] using h7
          | true =>
            have h1 := HBQ.out true
            simp only [if_true, if_false, Bool.false_eq_true] at h1
            have HQ1 := Lib.hid h1
            clear h1
            go_wp2_with (go_at_call 35; refine (HQ1.out u0 _ wr HR.out (by omega) (by simp only [List.length_append, HLX.out, HLY.out]; omega)).mono ?_; rintro e w5 ⟨v5, rfl, hr, hb, hk⟩; have hz5 := hb.size; have H5 := Lib.hid hr; have HB5 := Lib.hid (HB.out.trans hb); have HK5 := Lib.hid (HK.out.trans hk); clear hr hb hk; have c15 := lit_cell (HK5.out _ _ _ (by decide) HS1.out) 15 rfl; refine Hid.out ?_)
            clear c14
            refine Lib.hid ?_
            go_wp2_with (go_at_call 35; refine (refPut8 base v5 _ qc w5 H5.out (by omega) (by simp only [List.length_append, HLX.out, HLY.out, bBool_len]; omega)).mono ?_; rintro e w6 ⟨v6, rfl, hr, hb, hk⟩; have hz6 := hb.size; have H6 := Lib.hid hr; have HB6 := Lib.hid (HB5.out.trans hb); have HK6 := Lib.hid (HK5.out.trans hk); clear hr hb hk; have c16 := lit_cell (HK6.out _ _ _ (by decide) HS1.out) 16 rfl; refine Hid.out ?_)
            clear c15
            refine Lib.hid ?_
            go_wp2_with (go_at_call 35; refine (refPut8 base v6 _ qb w6 H6.out (by omega) (by simp only [List.length_append, HLX.out, HLY.out, bBool_len, bLong_len]; omega)).mono ?_; rintro e w7 ⟨v7, rfl, hr, hb, hk⟩; have H7 := Lib.hid hr; have HB7 := Lib.hid (HB6.out.trans hb); have HK7 := Lib.hid (HK6.out.trans hk); clear hr hb hk)
            go_ret
            refine ⟨v7, rfl, ?_, HB7.out, HK01.out.trans HK7.out⟩
            have h7 := H7.out
            rw [HB4e.out] at h7
            unfold nodeB
            rw [← HX.out, ← HY.out, HAN.out]
            simpa only [List.append_assoc] using h7

theorem small_acls (L : List AclT) (h : L.any aclBig = false) : (aclsB L).length ≤ 524 * L.length := by
  induction L with
  | nil => simp [aclsB]
  | cons a L ih =>
    rw [List.any_cons, Bool.or_eq_false_iff] at h
    have := ih h.2
    have h1 := h.1
    simp only [aclBig, Bool.or_eq_false_iff, decide_eq_false_iff_not] at h1
    have e : aclsB (a :: L) = aclB a ++ aclsB L := rfl
    rw [e, List.length_append, aclB_len, List.length_cons]
    omega
/-- what a right node's parts are bounded by -/
theorem right_zero {p : ByteArray} {dn : Nat} {L : List AclT} {qh : Bool} {qc qb : Int} (h : rightE p dn L qh qc qb = 0) : okB p = true ∧ p.size ≤ 4096 ∧ dn ≤ 1048575 ∧ L.length ≤ 16 ∧ L.any aclBig = false ∧ L.any aclBad = false ∧ quotaBad qh qc qb = false := by
  unfold rightE rightB at h
  split at h
  · rename_i h0
    split at h
    · cases h
    · rename_i h1
      split at h
      · cases h
      · rename_i h2
        split at h
        · cases h
        · rename_i h3
          split at h
          · cases h
          · rename_i h4
            exact ⟨h0, (ok_parts ((okB_iff p).1 h0)).2.1, by omega, by omega, by simpa using h2, by simpa using h3, by simpa using h4⟩
  · cases h

theorem nodeB_small {p : ByteArray} {l : List UInt8} {L : List AclT} {qh : Bool} {qc qb : Int} (h : rightE p l.length L qh qc qb = 0) (o cz mz pz az qz ct mt ve cr av : Int) : (nodeB p l L [o, cz, mz, pz, az, qz, ct, mt] [ve, cr, av] qh qc qb).length ≤ 1062000 ∧ (aclsB L).length ≤ 8384 := by
  obtain ⟨_, h1, h2, h3, h4, _⟩ := right_zero h
  have := small_acls L h4
  rw [nodeB_len]
  omega


set_option maxRecDepth 100000 in
set_option maxHeartbeats 4000000 in
theorem refEncode_any (p : ByteArray) (o cz mz pz az qz ct mt ve cr av : Int) (qh : Bool) (qc qb : Int) (dA : Option Addr) (dn dc : Nat) (aA : Option Addr) (an ac : Nat) (l : List UInt8) (L : List AclT) (B : Nat) (w : World)
    (hB : B ≤ w.heap.size) (hd : Reads w B 1 dA dn (bcells l)) (ha : Reads w B 3 aA an (aclCells L)) (hd1 : dn ≤ 9223372036854775807) (hn : an ≤ 9223372036854775807) (hfit : ∀ a ∈ L, aclFit a) (hE : EnvS w) :
    Calls Tryd.prog 16 #[.agg #[.string p, .slice dA dn dc, .slice aA an ac, .int .i64 o, .int .i64 cz, .int .i64 mz, .int .i64 pz, .int .i64 az, .int .i64 qz, .int .i64 ct, .int .i64 mt, .int .i32 ve, .int .i32 cr, .int .i32 av, .bool qh, .int .i64 qc, .int .i64 qb]] w fun e w' => Below w.heap.size w w' ∧
      ((rightE p dn L qh qc qb ≠ 0 ∧ e = .returned (.tuple #[.slice none 0 0, .int .i64 (rightE p dn L qh qc qb)])) ∨
       (rightE p dn L qh qc qb = 0 ∧ ∃ A n c, e = .returned (.tuple #[.slice A n c, .int .i64 0]) ∧ w'.ownsRow w.heap.size 5 1 (.slice A n c) n (bcells (nodeB p l L [o, cz, mz, pz, az, qz, ct, mt] [ve, cr, av] qh qc qb)))) := by
  have hl : L.length = an := by have := ha.1; rw [aclCells_length] at this; omega
  have hll : l.length = dn := by have := hd.1; rw [bcells_length] at this; omega
  obtain ⟨w1, hw1⟩ : ∃ w1, w.alloc (.cells #[.string p, .slice dA dn dc, .slice aA an ac, .int .i64 o, .int .i64 cz, .int .i64 mz, .int .i64 pz, .int .i64 az, .int .i64 qz, .int .i64 ct, .int .i64 mt, .int .i32 ve, .int .i32 cr, .int .i32 av, .bool qh, .int .i64 qc, .int .i64 qb] 32) = w1 := ⟨_, rfl⟩
  have hb1 : Below w.heap.size w w1 := by rw [← hw1]; exact (Below.refl _ _).alloc (Nat.le_refl _) _
  have hS : Blk w1 w.heap.size 32 #[.string p, .slice dA dn dc, .slice aA an ac, .int .i64 o, .int .i64 cz, .int .i64 mz, .int .i64 pz, .int .i64 az, .int .i64 qz, .int .i64 ct, .int .i64 mt, .int .i32 ve, .int .i32 cr, .int .i32 av, .bool qh, .int .i64 qc, .int .i64 qb] := by rw [← hw1]; exact Blk.new _ _ _
  have hz1 : w1.heap.size = w.heap.size + 1 := by rw [← hw1]; simp
  have hrt := refRight_any p o cz mz pz az qz ct mt ve cr av qh qc qb dA dn dc aA an ac L B w1 (by omega) hd1 hn (ha.below (hb1.mono hB)) hfit (hE.below hb1)
  have HB1 := Lib.hid hb1
  have HS := Lib.hid hS
  have HD := Lib.hid hd
  have HA := Lib.hid ha
  have kc1 := hS.cell
  obtain ⟨R, hR⟩ : ∃ R, R = rightE p dn L qh qc qb := ⟨_, rfl⟩
  rw [← hR] at hrt ⊢
  have HRT := Lib.hid hrt
  by_cases h0 : R = 0
  rotate_left
  · clear hb1 hS hd ha hl hll hrt hR hfit hE
    go_enter Tryd.func16, Tryd.ntmps16
    go_wp2_with (go_at_call 19; refine HRT.out.mono ?_; rintro e w2 ⟨rfl, hb⟩; have HB2 := Lib.hid (HB1.out.trans (hb.mono HB1.out.size)); clear hb kc1)
    go_ret2
    exact ⟨HB2.out, .inl ⟨h0, rfl⟩⟩
  subst h0
  have hrz : rightE p l.length L qh qc qb = 0 := by rw [hll, ← hR]
  have hsm := nodeB_small hrz o cz mz pz az qz ct mt ve cr av
  have HSM := Lib.hid hsm
  have HRZ := Lib.hid (right_zero hrz)
  have hput := fun W (h : Below w1.heap.size w1 W) => refPutNode_any w.heap.size (.slice none 0 0) [] p o cz mz pz az qz ct mt ve cr av qh qc qb dA dn dc aA an ac l L B W (Rb.nil _ _) hB (hb1.trans (h.mono hb1.size)).size (hd.below ((hb1.trans (h.mono hb1.size)).mono hB)) (ha.below ((hb1.trans (h.mono hb1.size)).mono hB)) (by have := (right_zero hrz).2.2.2.1; omega) (by have := (right_zero hrz).2.1; have := (right_zero hrz).2.2.1; have := hsm.2; simp; omega)
  have HPUT := Lib.hid hput
  clear hb1 hd ha hl hll hrt hR hfit hE hput hsm hrz hS
  go_enter Tryd.func16, Tryd.ntmps16
  go_wp2_with (first
    | (go_at_call 19; refine HRT.out.mono ?_; rintro e w2 ⟨rfl, hb⟩; have kc2 := (HS.out.below hb (by omega)).cell; have HB2 := Lib.hid hb; clear hb kc1)
    | (go_at_call 51; refine (HPUT.out w2 HB2.out).mono ?_; rintro e w3 ⟨v3, rfl, hr, hb, _⟩; have HR3 := Lib.hid hr; have HB3 := Lib.hid hb; clear hr hb))
  have hr3 := HR3.out
  unfold Rb at hr3
  obtain ⟨A, c, rfl⟩ := slice_form hr3
  have HO := Lib.hid hr3
  clear hr3 HR3
  go_wp2
  go_ret2
  exact ⟨HB1.out.trans ((HB2.out.mono HB1.out.size).trans HB3.out), .inr ⟨by first | rfl | trivial, A, _, c, rfl, by simpa using HO.out⟩⟩
end Go.Proofs.YtaojjjcaofhmcaaDoor
