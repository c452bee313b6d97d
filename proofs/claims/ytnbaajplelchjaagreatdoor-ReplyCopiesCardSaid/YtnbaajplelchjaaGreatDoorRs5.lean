/- Are two results the same: the document's SameResult: the names. (printed by gen_s5.py) -/
import Derived.Test.YtnbaajplelchjaaGreatDoorRs4
set_option linter.unusedVariables false
set_option linter.unusedSimpArgs false
namespace Go.Proofs.YtnbaajplelchjaaGreatDoor
open Go.RowKit

set_option maxRecDepth 100000 in
set_option maxHeartbeats 64000000 in
theorem res_names (t c : Int) (p : ByteArray) (s0 s1 s2 s3 s4 s5 s6 s7 s8 s9 s10 : Int) (l : List UInt8) (L : List AclT) (n id to : Int) (I : List (ByteArray × ByteArray)) (dA aA kA iA sA : Option Addr) (dn dc an ac kn kc in_ ic sn sc : Nat)
    (dA' aA' kA' iA' sA' : Option Addr) (dn' dc' an' ac' kc' in_' ic' sc' : Nat) (NK NK' : List ByteArray)
    (w : World) (hd : Reads w w.heap.size 1 dA dn (bcells l)) (ha : Reads w w.heap.size 3 aA an (aclCells L)) (hi : Reads w w.heap.size 2 iA in_ (idCells I)) (hz : dn ≤ 4611686018427387904 ∧ an ≤ 4611686018427387904 ∧ in_ ≤ 4611686018427387904)
    (hd' : Reads w w.heap.size 1 dA' dn' (bcells l)) (ha' : Reads w w.heap.size 3 aA' an' (aclCells L)) (hi' : Reads w w.heap.size 2 iA' in_' (idCells I)) (hz' : dn' ≤ 4611686018427387904 ∧ an' ≤ 4611686018427387904 ∧ in_' ≤ 4611686018427387904)
    (hk : Reads w w.heap.size 1 kA kn (strCells NK)) (hk' : Reads w w.heap.size 1 kA' kn (strCells NK')) (hkz : kn ≤ 4611686018427387904) (hne : NK ≠ NK') (cs ds : Array Value) (hcs : cs = #[.int .i32 t, .int .i32 c, .string p, .int .i64 s0, .int .i64 s1, .int .i64 s2, .int .i64 s3, .int .i32 s4, .int .i32 s5, .int .i32 s6, .int .i64 s7, .int .i32 s8, .int .i32 s9, .int .i64 s10, .slice dA dn dc, .slice aA an ac, .slice kA kn kc, .int .i32 n, .int .i64 id, .int .i32 to, .slice iA in_ ic, .slice sA sn sc]) (hds : ds = #[.int .i32 t, .int .i32 c, .string p, .int .i64 s0, .int .i64 s1, .int .i64 s2, .int .i64 s3, .int .i32 s4, .int .i32 s5, .int .i32 s6, .int .i64 s7, .int .i32 s8, .int .i32 s9, .int .i64 s10, .slice dA' dn' dc', .slice aA' an' ac', .slice kA' kn kc', .int .i32 n, .int .i64 id, .int .i32 to, .slice iA' in_' ic', .slice sA' sn sc']) :
    Calls Tryz.prog 46 #[.agg cs, .agg ds] w fun e w' => e = .returned (.bool false) ∧ Below w.heap.size w w' := by
  have hl : NK.length = kn := by have := hk.1; rw [strCells_length] at this; omega
  have hm' : NK'.length = kn := by have := hk'.1; rw [strCells_length] at this; omega
  obtain ⟨w1, hw1⟩ : ∃ w1, (w.alloc (.cells cs 33)).alloc (.cells ds 33) = w1 := ⟨_, rfl⟩
  have hb1 : Below w.heap.size w w1 := by rw [← hw1]; exact ((Below.refl _ _).alloc (Nat.le_refl _) _).alloc (by simp) _
  have hS : Blk w1 w.heap.size 33 #[.int .i32 t, .int .i32 c, .string p, .int .i64 s0, .int .i64 s1, .int .i64 s2, .int .i64 s3, .int .i32 s4, .int .i32 s5, .int .i32 s6, .int .i64 s7, .int .i32 s8, .int .i32 s9, .int .i64 s10, .slice dA dn dc, .slice aA an ac, .slice kA kn kc, .int .i32 n, .int .i64 id, .int .i32 to, .slice iA in_ ic, .slice sA sn sc] := by rw [← hcs, ← hw1]; exact (Blk.new _ _ _).alloc _
  have hT : Blk w1 (w.heap.size + 1) 33 #[.int .i32 t, .int .i32 c, .string p, .int .i64 s0, .int .i64 s1, .int .i64 s2, .int .i64 s3, .int .i32 s4, .int .i32 s5, .int .i32 s6, .int .i64 s7, .int .i32 s8, .int .i32 s9, .int .i64 s10, .slice dA' dn' dc', .slice aA' an' ac', .slice kA' kn kc', .int .i32 n, .int .i64 id, .int .i32 to, .slice iA' in_' ic', .slice sA' sn sc'] := by rw [← hds, ← hw1]; exact Blk.new' (by simp)
  have hz1 : w1.heap.size = w.heap.size + 2 := by rw [← hw1]; simp
  have as0 : w1.cell? ⟨w.heap.size, 0, none⟩ = some (.int .i32 t) := lit_cell hS 0 rfl
  have at0 : w1.cell? ⟨w.heap.size + 1, 0, none⟩ = some (.int .i32 t) := lit_cell hT 0 rfl
  have as1 : w1.cell? ⟨w.heap.size, 1, none⟩ = some (.int .i32 c) := lit_cell hS 1 rfl
  have at1 : w1.cell? ⟨w.heap.size + 1, 1, none⟩ = some (.int .i32 c) := lit_cell hT 1 rfl
  have as2 : w1.cell? ⟨w.heap.size, 2, none⟩ = some (.string p) := lit_cell hS 2 rfl
  have at2 : w1.cell? ⟨w.heap.size + 1, 2, none⟩ = some (.string p) := lit_cell hT 2 rfl
  have as14 : w1.cell? ⟨w.heap.size, 14, none⟩ = some (.slice dA dn dc) := lit_cell hS 14 rfl
  have at14 : w1.cell? ⟨w.heap.size + 1, 14, none⟩ = some (.slice dA' dn' dc') := lit_cell hT 14 rfl
  have as15 : w1.cell? ⟨w.heap.size, 15, none⟩ = some (.slice aA an ac) := lit_cell hS 15 rfl
  have at15 : w1.cell? ⟨w.heap.size + 1, 15, none⟩ = some (.slice aA' an' ac') := lit_cell hT 15 rfl
  have hst := Lib.hid (blk_at hS 3 [.int .i64 s0, .int .i64 s1, .int .i64 s2, .int .i64 s3, .int .i32 s4, .int .i32 s5, .int .i32 s6, .int .i64 s7, .int .i32 s8, .int .i32 s9, .int .i64 s10] (in_lit (cs := [.int .i32 t, .int .i32 c, .string p, .int .i64 s0, .int .i64 s1, .int .i64 s2, .int .i64 s3, .int .i32 s4, .int .i32 s5, .int .i32 s6, .int .i64 s7, .int .i32 s8, .int .i32 s9, .int .i64 s10, .slice dA dn dc, .slice aA an ac, .slice kA kn kc, .int .i32 n, .int .i64 id, .int .i32 to, .slice iA in_ ic, .slice sA sn sc]) (r := [.slice dA dn dc, .slice aA an ac, .slice kA kn kc, .int .i32 n, .int .i64 id, .int .i32 to, .slice iA in_ ic, .slice sA sn sc]) 3 rfl))
  have htt := Lib.hid (blk_at hT 3 [.int .i64 s0, .int .i64 s1, .int .i64 s2, .int .i64 s3, .int .i32 s4, .int .i32 s5, .int .i32 s6, .int .i64 s7, .int .i32 s8, .int .i32 s9, .int .i64 s10] (in_lit (cs := [.int .i32 t, .int .i32 c, .string p, .int .i64 s0, .int .i64 s1, .int .i64 s2, .int .i64 s3, .int .i32 s4, .int .i32 s5, .int .i32 s6, .int .i64 s7, .int .i32 s8, .int .i32 s9, .int .i64 s10, .slice dA' dn' dc', .slice aA' an' ac', .slice kA' kn kc', .int .i32 n, .int .i64 id, .int .i32 to, .slice iA' in_' ic', .slice sA' sn sc']) (r := [.slice dA' dn' dc', .slice aA' an' ac', .slice kA' kn kc', .int .i32 n, .int .i64 id, .int .i32 to, .slice iA' in_' ic', .slice sA' sn sc']) 3 rfl))
  have hcv := run_string_of_bytes Tryz.underlying25 Tryz.underlying5 (c := dc) (hd.below hb1) 9 Tryz.underlying9
  have hcv' := run_string_of_bytes Tryz.underlying25 Tryz.underlying5 (c := dc') (hd'.below hb1) 9 Tryz.underlying9
  have C6 : Hid (∀ W, Below w.heap.size w W → Calls Tryz.prog 97 #[.slice aA an ac, .slice aA' an' ac'] W fun e w' => e = .returned (.bool true) ∧ Below W.heap.size W w') := fun W hW => by
    have h := acls06_any aA aA' an an' ac ac' L L w.heap.size W (by omega) (by omega) hW.size (ha.below hW) (ha'.below hW)
    rwa [decide_eq_true rfl] at h
  have C8 : Hid (∀ W, Below w.heap.size w W → Calls Tryz.prog 98 #[.agg #[.int .i64 id, .int .i32 to, .slice iA in_ ic], .agg #[.int .i64 id, .int .i32 to, .slice iA' in_' ic']] W fun e w' => e = .returned (.bool true) ∧ Below W.heap.size W w') := fun W hW => by
    have h := sess08_any id id to to iA iA' in_ in_' ic ic' I I w.heap.size W (by omega) (by omega) hW.size (hi.below hW) (hi'.below hW)
    rwa [decide_eq_true ⟨rfl, rfl, rfl⟩] at h
  obtain ⟨tx, htx⟩ : ∃ x : ByteArray, x = ⟨l.toArray⟩ := ⟨_, rfl⟩
  rw [← htx] at hcv hcv'
  have HS := Lib.hid hS
  have HTT := Lib.hid hT
  have HB1 := Lib.hid hb1
  have HL := Lib.hid hl
  have HM := Lib.hid hm'
  have HA := Lib.hid hk
  have HC := Lib.hid hk'
  have HNE := Lib.hid hne
  have hBw : w.heap.size ≤ w.heap.size := Nat.le_refl _
  clear hb1 hS hT hd hd' ha ha' hi hi' hz hz' htx hcs hds hl hm' hk hk' hne
  go_enter Tryz.func46, Tryz.ntmps46
  iterate 17 go_step
  simp only [List.append_eq, List.cons_append, List.nil_append]
  go_wp2_with (first
    | (with_reducible show wpList _ _ _ (Oper.mk (some 28) _ _ _ _ _ :: _) _ _
       refine wpList_load_at (by rfl) 24 (.tmp 27) rfl ⟨w.heap.size, 3, none⟩ rfl [.int .i64 s0, .int .i64 s1, .int .i64 s2, .int .i64 s3, .int .i32 s4, .int .i32 s5, .int .i32 s6, .int .i64 s7, .int .i32 s8, .int .i32 s9, .int .i64 s10] _ hst.out Tryz.underlying24 rfl stat_size ?_)
    | (with_reducible show wpList _ _ _ (Oper.mk (some 30) _ _ _ _ _ :: _) _ _
       refine wpList_load_at (by rfl) 24 (.tmp 29) rfl ⟨w.heap.size + 1, 3, none⟩ rfl [.int .i64 s0, .int .i64 s1, .int .i64 s2, .int .i64 s3, .int .i32 s4, .int .i32 s5, .int .i32 s6, .int .i64 s7, .int .i32 s8, .int .i32 s9, .int .i64 s10] _ htt.out Tryz.underlying24 rfl stat_size ?_)
    | (with_reducible show wpList _ _ _ (Oper.mk (some 31) _ _ _ _ _ :: _) _ _
       refine wpList_neq_agg_g (by rfl) 24 (.tmp 28) (.tmp 30) 24 rfl _ _ rfl rfl (by kernel_rfl) false (stat_neq _ _ _ _ _ _ _ _ _ _ _ _) ?_)
    | (go_at_call 97
       refine (C6.out _ HB1.out).mono ?_
       rintro e w2 ⟨rfl, hb⟩
       have hz2 := hb.size
       have HB2 := Lib.hid (HB1.out.trans (hb.mono HB1.out.size))
       have hS2 := HS.out.below hb (by omega)
       have hT2 := HTT.out.below hb (by omega)
       have bs17 : w2.cell? ⟨w.heap.size, 17, none⟩ = some (.int .i32 n) := lit_cell hS2 17 rfl
       have bt17 : w2.cell? ⟨w.heap.size + 1, 17, none⟩ = some (.int .i32 n) := lit_cell hT2 17 rfl
       have hs2 := Lib.hid (blk_at hS2 18 [.int .i64 id, .int .i32 to, .slice iA in_ ic] (in_lit (cs := [.int .i32 t, .int .i32 c, .string p, .int .i64 s0, .int .i64 s1, .int .i64 s2, .int .i64 s3, .int .i32 s4, .int .i32 s5, .int .i32 s6, .int .i64 s7, .int .i32 s8, .int .i32 s9, .int .i64 s10, .slice dA dn dc, .slice aA an ac, .slice kA kn kc, .int .i32 n, .int .i64 id, .int .i32 to, .slice iA in_ ic, .slice sA sn sc]) (r := [.slice sA sn sc]) 18 rfl))
       have ht2 := Lib.hid (blk_at hT2 18 [.int .i64 id, .int .i32 to, .slice iA' in_' ic'] (in_lit (cs := [.int .i32 t, .int .i32 c, .string p, .int .i64 s0, .int .i64 s1, .int .i64 s2, .int .i64 s3, .int .i32 s4, .int .i32 s5, .int .i32 s6, .int .i64 s7, .int .i32 s8, .int .i32 s9, .int .i64 s10, .slice dA' dn' dc', .slice aA' an' ac', .slice kA' kn kc', .int .i32 n, .int .i64 id, .int .i32 to, .slice iA' in_' ic', .slice sA' sn sc']) (r := [.slice sA' sn sc']) 18 rfl))
       have HS2 := Lib.hid hS2
       have HT2 := Lib.hid hT2
       clear hb hS2 hT2 as0 at0 as1 at1 as2 at2 as14 at14 as15 at15)
    | (with_reducible show wpList _ _ _ (Oper.mk (some 59) _ _ _ _ _ :: _) _ _
       refine wpList_load_at (by rfl) 30 (.tmp 58) rfl ⟨w.heap.size, 18, none⟩ rfl [.int .i64 id, .int .i32 to, .slice iA in_ ic] _ hs2.out Tryz.underlying30 rfl ses_size ?_)
    | (with_reducible show wpList _ _ _ (Oper.mk (some 61) _ _ _ _ _ :: _) _ _
       refine wpList_load_at (by rfl) 30 (.tmp 60) rfl ⟨w.heap.size + 1, 18, none⟩ rfl [.int .i64 id, .int .i32 to, .slice iA' in_' ic'] _ ht2.out Tryz.underlying30 rfl ses_size ?_)
    | (go_at_call 98
       refine (C8.out _ HB2.out).mono ?_
       rintro e w3 ⟨rfl, hb⟩
       have hz3 := hb.size
       have HB3 := Lib.hid (HB2.out.trans (hb.mono HB2.out.size))
       have hS3 := HS2.out.below hb (by omega)
       have hT3 := HT2.out.below hb (by omega)
       have ds16 : w3.cell? ⟨w.heap.size, 16, none⟩ = some (.slice kA kn kc) := lit_cell hS3 16 rfl
       have dt16 : w3.cell? ⟨w.heap.size + 1, 16, none⟩ = some (.slice kA' kn kc') := lit_cell hT3 16 rfl
       have ds21 : w3.cell? ⟨w.heap.size, 21, none⟩ = some (.slice sA sn sc) := lit_cell hS3 21 rfl
       have dt21 : w3.cell? ⟨w.heap.size + 1, 21, none⟩ = some (.slice sA' sn sc') := lit_cell hT3 21 rfl
       have HS3 := Lib.hid hS3
       have HT3 := Lib.hid hT3
       clear hb hS3 hT3 bs17 bt17))
  clear ds16 dt16 ds21 dt21 HS HTT HS2 HT2 hs2 ht2 hst htt C6 C8 hcv hcv'
  go_loopw [5] (fun k' wr => ∃ k : Nat, k ≤ kn ∧ k' = .int .i64 k ∧ Hid (NK.take k = NK'.take k) ∧ Below w.heap.size w wr ∧ Below w3.heap.size w3 wr) (fun k' _ => kn - (intOf k').toNat)
  case atStart => exact ⟨0, Nat.zero_le _, rfl, by unfold Hid; simp, HB3.out, Below.refl _ _⟩
  case round =>
    obtain ⟨k, hk, rfl, HT, hB, hB1⟩ := hrel
    have HB := Lib.hid hB
    have HBr := Lib.hid hB1
    have c2 : wr.cell? ⟨w.heap.size, 16, none⟩ = some (.slice kA kn kc) := lit_cell (HS3.out.below hB1 (by omega)) 16 rfl
    have c3 : wr.cell? ⟨w.heap.size + 1, 16, none⟩ = some (.slice kA' kn kc') := lit_cell (HT3.out.below hB1 (by omega)) 16 rfl
    clear hB1
    by_cases hlt : k < kn
    · obtain ⟨b, off, rfl, _, hx⟩ := (HA.out.below (hB.mono hBw)).plain (by omega) (by omega)
      obtain ⟨b', off', rfl, _, hy⟩ := (HC.out.below (hB.mono hBw)).plain (by omega) (by omega)
      have hkl : k < NK.length := by rw [HL.out]; exact hlt
      have hkm : k < NK'.length := by rw [HM.out]; exact hlt
      have g0 := strCells_get NK k hkl
      have g1 := strCells_get NK' k hkm
      have x0 := hx _ _ g0
      have y0 := hy _ _ g1
      simp only [Nat.mul_one] at x0 y0
      have hst := take_snoc_eq HT.out hkl hkm
      have hno : NK[k] ≠ NK'[k] → NK ≠ NK' := list_ne_at hkl hkm
      obtain ⟨qa, hqa⟩ : ∃ a, a = NK[k] := ⟨_, rfl⟩
      obtain ⟨ra, hra⟩ : ∃ a, a = NK'[k] := ⟨_, rfl⟩
      rw [← hqa] at x0 hst hno
      rw [← hra] at y0 hst hno
      clear hx hy g0 g1 hqa hra hkl hkm hB HT
      by_cases e0 : qa = ra
      · subst e0
        have HST := Lib.hid (hst rfl)
        clear hst hno
        go_wp2
        go_quiet (fail)
        go_wp2
        go_ways
        go_roundw
        case rel => exact ⟨k + 1, by omega, by go_num, HST.out, below_drewN' HB.out _, below_drewN' HBr.out _⟩
        case measure => simp [intOf]; omega
      · have HNO := Lib.hid (hno e0)
        have e0' : (qa.toList == ra.toList) = false := by simpa using fun e => e0 ((toL_iff _ _).1 e)
        clear hst hno
        go_wp2
        go_quiet (fail)
        go_wp2
        go_ways
        go_ret
        exact ⟨rfl, below_drewN' HB.out _⟩
    · have e : NK = NK' := by have := HT.out; rwa [List.take_of_length_le (by rw [HL.out]; omega), List.take_of_length_le (by rw [HM.out]; omega)] at this
      exact absurd e HNE.out
end Go.Proofs.YtnbaajplelchjaaGreatDoor
