/- Are two results the same: the document's SameResult: the parts. (printed by gen_s6.py) -/
import Derived.Test.YtnbaajplelchjaaGreatDoorRs5
set_option linter.unusedVariables false
set_option linter.unusedSimpArgs false
namespace Go.Proofs.YtnbaajplelchjaaGreatDoor
open Go.RowKit

set_option maxRecDepth 100000 in
set_option maxHeartbeats 64000000 in
theorem res_subs (t c : Int) (p : ByteArray) (s0 s1 s2 s3 s4 s5 s6 s7 s8 s9 s10 : Int) (l : List UInt8) (L : List AclT) (n id to : Int) (I : List (ByteArray × ByteArray)) (dA aA kA iA sA : Option Addr) (dn dc an ac kn kc in_ ic sn sc : Nat)
    (dA' aA' kA' iA' sA' : Option Addr) (dn' dc' an' ac' kc' in_' ic' sc' : Nat) (NK : List ByteArray) (Q Q' : List (ResC × List Value))
    (w : World) (hd : Reads w w.heap.size 1 dA dn (bcells l)) (ha : Reads w w.heap.size 3 aA an (aclCells L)) (hi : Reads w w.heap.size 2 iA in_ (idCells I)) (hz : dn ≤ 4611686018427387904 ∧ an ≤ 4611686018427387904 ∧ in_ ≤ 4611686018427387904)
    (hd' : Reads w w.heap.size 1 dA' dn' (bcells l)) (ha' : Reads w w.heap.size 3 aA' an' (aclCells L)) (hi' : Reads w w.heap.size 2 iA' in_' (idCells I)) (hz' : dn' ≤ 4611686018427387904 ∧ an' ≤ 4611686018427387904 ∧ in_' ≤ 4611686018427387904)
    (hk : Reads w w.heap.size 1 kA kn (strCells NK)) (hk' : Reads w w.heap.size 1 kA' kn (strCells NK)) (hkz : kn ≤ 4611686018427387904) (hs : Reads w w.heap.size 22 sA sn (Q.flatMap Prod.snd)) (hs' : Reads w w.heap.size 22 sA' sn (Q'.flatMap Prod.snd)) (hsz : sn ≤ 4611686018427387904) (hQ : Q.length = sn) (hQ' : Q'.length = sn) (hq : ∀ q ∈ Q, q.2.length = 22) (hq' : ∀ q ∈ Q', q.2.length = 22)
    (IH : Hid (∀ j (h : j < Q.length) (h' : j < Q'.length), ∃ b : Bool, (b = true ↔ (Q[j]).1 = (Q'[j]).1) ∧ ∀ W, Below w.heap.size w W → Calls Tryz.prog 46 #[.agg (Q[j]).2.toArray, .agg (Q'[j]).2.toArray] W fun e w' => e = .returned (.bool b) ∧ Below W.heap.size W w')) (cs ds : Array Value) (hcs : cs = #[.int .i32 t, .int .i32 c, .string p, .int .i64 s0, .int .i64 s1, .int .i64 s2, .int .i64 s3, .int .i32 s4, .int .i32 s5, .int .i32 s6, .int .i64 s7, .int .i32 s8, .int .i32 s9, .int .i64 s10, .slice dA dn dc, .slice aA an ac, .slice kA kn kc, .int .i32 n, .int .i64 id, .int .i32 to, .slice iA in_ ic, .slice sA sn sc]) (hds : ds = #[.int .i32 t, .int .i32 c, .string p, .int .i64 s0, .int .i64 s1, .int .i64 s2, .int .i64 s3, .int .i32 s4, .int .i32 s5, .int .i32 s6, .int .i64 s7, .int .i32 s8, .int .i32 s9, .int .i64 s10, .slice dA' dn' dc', .slice aA' an' ac', .slice kA' kn kc', .int .i32 n, .int .i64 id, .int .i32 to, .slice iA' in_' ic', .slice sA' sn sc']) :
    Calls Tryz.prog 46 #[.agg cs, .agg ds] w fun e w' => (∃ b, e = .returned (.bool b) ∧ (b = true ↔ Q.map Prod.fst = Q'.map Prod.fst)) ∧ Below w.heap.size w w' := by
  have hl : NK.length = kn := by have := hk.1; rw [strCells_length] at this; omega
  have hm' : NK.length = kn := by have := hk'.1; rw [strCells_length] at this; omega
  obtain ⟨w1, hw1⟩ : ∃ w1, (w.alloc (.cells cs 33)).alloc (.cells ds 33) = w1 := ⟨_, rfl⟩
  have hb1 : Below w.heap.size w w1 := by rw [← hw1]; exact ((Below.refl _ _).alloc (Nat.le_refl _) _).alloc (by simp) _
  have hS : Blk w1 w.heap.size 33 #[.int .i32 t, .int .i32 c, .string p, .int .i64 s0, .int .i64 s1, .int .i64 s2, .int .i64 s3, .int .i32 s4, .int .i32 s5, .int .i32 s6, .int .i64 s7, .int .i32 s8, .int .i32 s9, .int .i64 s10, .slice dA dn dc, .slice aA an ac, .slice kA kn kc, .int .i32 n, .int .i64 id, .int .i32 to, .slice iA in_ ic, .slice sA sn sc] := by rw [← hcs, ← hw1]; exact (Blk.new _ _ _).alloc _
  have hT : Blk w1 (w.heap.size + 1) 33 #[.int .i32 t, .int .i32 c, .string p, .int .i64 s0, .int .i64 s1, .int .i64 s2, .int .i64 s3, .int .i32 s4, .int .i32 s5, .int .i32 s6, .int .i64 s7, .int .i32 s8, .int .i32 s9, .int .i64 s10, .slice dA' dn' dc', .slice aA' an' ac', .slice kA' kn kc', .int .i32 n, .int .i64 id, .int .i32 to, .slice iA' in_' ic', .slice sA' sn sc'] := by rw [← hds, ← hw1]; exact Blk.new' (by simp)
  have hz1 : w1.heap.size = w.heap.size + 2 := by rw [← hw1]; simp
  have as0 : w1.cell? ⟨w.heap.size, 0, none⟩ = some (.int .i32 t) := lit_cell hS 0 rfl
  have at0 : w1.cell? ⟨w.heap.size + 1, 0, none⟩ = some (.int .i32 t) := lit_cell hT 0 rfl
  have as1 : w1.cell? ⟨w.heap.size, 1, none⟩ = some (.int .i32 c) := lit_cell hS 1 rfl
  have at1 : w1.cell? ⟨w.heap.size + 1, 1, none⟩ = some (.int .i32 c) := lit_cell hT 1 rfl
  have as2 : w1.cell? ⟨w.heap.size, 2, none⟩ = some (.string p) := lit_cell hS 2 rfl
  have at2 : w1.cell? ⟨w.heap.size + 1, 2, none⟩ = some (.string p) := lit_cell hT 2 rfl
  have as14 : w1.cell? ⟨w.heap.size, 14, none⟩ = some (.slice dA dn dc) := lit_cell hS 14 rfl
  have at14 : w1.cell? ⟨w.heap.size + 1, 14, none⟩ = some (.slice dA' dn' dc') := lit_cell hT 14 rfl
  have as15 : w1.cell? ⟨w.heap.size, 15, none⟩ = some (.slice aA an ac) := lit_cell hS 15 rfl
  have at15 : w1.cell? ⟨w.heap.size + 1, 15, none⟩ = some (.slice aA' an' ac') := lit_cell hT 15 rfl
  have hst := Lib.hid (blk_at hS 3 [.int .i64 s0, .int .i64 s1, .int .i64 s2, .int .i64 s3, .int .i32 s4, .int .i32 s5, .int .i32 s6, .int .i64 s7, .int .i32 s8, .int .i32 s9, .int .i64 s10] (in_lit (cs := [.int .i32 t, .int .i32 c, .string p, .int .i64 s0, .int .i64 s1, .int .i64 s2, .int .i64 s3, .int .i32 s4, .int .i32 s5, .int .i32 s6, .int .i64 s7, .int .i32 s8, .int .i32 s9, .int .i64 s10, .slice dA dn dc, .slice aA an ac, .slice kA kn kc, .int .i32 n, .int .i64 id, .int .i32 to, .slice iA in_ ic, .slice sA sn sc]) (r := [.slice dA dn dc, .slice aA an ac, .slice kA kn kc, .int .i32 n, .int .i64 id, .int .i32 to, .slice iA in_ ic, .slice sA sn sc]) 3 rfl))
  have htt := Lib.hid (blk_at hT 3 [.int .i64 s0, .int .i64 s1, .int .i64 s2, .int .i64 s3, .int .i32 s4, .int .i32 s5, .int .i32 s6, .int .i64 s7, .int .i32 s8, .int .i32 s9, .int .i64 s10] (in_lit (cs := [.int .i32 t, .int .i32 c, .string p, .int .i64 s0, .int .i64 s1, .int .i64 s2, .int .i64 s3, .int .i32 s4, .int .i32 s5, .int .i32 s6, .int .i64 s7, .int .i32 s8, .int .i32 s9, .int .i64 s10, .slice dA' dn' dc', .slice aA' an' ac', .slice kA' kn kc', .int .i32 n, .int .i64 id, .int .i32 to, .slice iA' in_' ic', .slice sA' sn sc']) (r := [.slice dA' dn' dc', .slice aA' an' ac', .slice kA' kn kc', .int .i32 n, .int .i64 id, .int .i32 to, .slice iA' in_' ic', .slice sA' sn sc']) 3 rfl))
  have hcv := run_string_of_bytes Tryz.underlying25 Tryz.underlying5 (c := dc) (hd.below hb1) 9 Tryz.underlying9
  have hcv' := run_string_of_bytes Tryz.underlying25 Tryz.underlying5 (c := dc') (hd'.below hb1) 9 Tryz.underlying9
  have C6 : Hid (∀ W, Below w.heap.size w W → Calls Tryz.prog 97 #[.slice aA an ac, .slice aA' an' ac'] W fun e w' => e = .returned (.bool true) ∧ Below W.heap.size W w') := fun W hW => by
    have h := acls06_any aA aA' an an' ac ac' L L w.heap.size W (by omega) (by omega) hW.size (ha.below hW) (ha'.below hW)
    rwa [decide_eq_true rfl] at h
  have C8 : Hid (∀ W, Below w.heap.size w W → Calls Tryz.prog 98 #[.agg #[.int .i64 id, .int .i32 to, .slice iA in_ ic], .agg #[.int .i64 id, .int .i32 to, .slice iA' in_' ic']] W fun e w' => e = .returned (.bool true) ∧ Below W.heap.size W w') := fun W hW => by
    have h := sess08_any id id to to iA iA' in_ in_' ic ic' I I w.heap.size W (by omega) (by omega) hW.size (hi.below hW) (hi'.below hW)
    rwa [decide_eq_true ⟨rfl, rfl, rfl⟩] at h
  obtain ⟨tx, htx⟩ : ∃ x : ByteArray, x = ⟨l.toArray⟩ := ⟨_, rfl⟩
  rw [← htx] at hcv hcv'
  have HS := Lib.hid hS
  have HTT := Lib.hid hT
  have HB1 := Lib.hid hb1
  have HL := Lib.hid hl
  have HM := Lib.hid hm'
  have HA := Lib.hid hk
  have HC := Lib.hid hk'
  have HSA := Lib.hid hs
  have HSB := Lib.hid hs'
  have HQ := Lib.hid hQ
  have HQ' := Lib.hid hQ'
  have HQL := Lib.hid hq
  have HQL' := Lib.hid hq'
  have hBw : w.heap.size ≤ w.heap.size := Nat.le_refl _
  clear hb1 hS hT hd hd' ha ha' hi hi' hz hz' htx hcs hds hl hm' hk hk' hs hs' hQ hQ' hq hq'
  go_enter Tryz.func46, Tryz.ntmps46
  iterate 17 go_step
  simp only [List.append_eq, List.cons_append, List.nil_append]
  go_wp2_with (first
    | (with_reducible show wpList _ _ _ (Oper.mk (some 28) _ _ _ _ _ :: _) _ _
       refine wpList_load_at (by rfl) 24 (.tmp 27) rfl ⟨w.heap.size, 3, none⟩ rfl [.int .i64 s0, .int .i64 s1, .int .i64 s2, .int .i64 s3, .int .i32 s4, .int .i32 s5, .int .i32 s6, .int .i64 s7, .int .i32 s8, .int .i32 s9, .int .i64 s10] _ hst.out Tryz.underlying24 rfl stat_size ?_)
    | (with_reducible show wpList _ _ _ (Oper.mk (some 30) _ _ _ _ _ :: _) _ _
       refine wpList_load_at (by rfl) 24 (.tmp 29) rfl ⟨w.heap.size + 1, 3, none⟩ rfl [.int .i64 s0, .int .i64 s1, .int .i64 s2, .int .i64 s3, .int .i32 s4, .int .i32 s5, .int .i32 s6, .int .i64 s7, .int .i32 s8, .int .i32 s9, .int .i64 s10] _ htt.out Tryz.underlying24 rfl stat_size ?_)
    | (with_reducible show wpList _ _ _ (Oper.mk (some 31) _ _ _ _ _ :: _) _ _
       refine wpList_neq_agg_g (by rfl) 24 (.tmp 28) (.tmp 30) 24 rfl _ _ rfl rfl (by kernel_rfl) false (stat_neq _ _ _ _ _ _ _ _ _ _ _ _) ?_)
    | (go_at_call 97
       refine (C6.out _ HB1.out).mono ?_
       rintro e w2 ⟨rfl, hb⟩
       have hz2 := hb.size
       have HB2 := Lib.hid (HB1.out.trans (hb.mono HB1.out.size))
       have hS2 := HS.out.below hb (by omega)
       have hT2 := HTT.out.below hb (by omega)
       have bs17 : w2.cell? ⟨w.heap.size, 17, none⟩ = some (.int .i32 n) := lit_cell hS2 17 rfl
       have bt17 : w2.cell? ⟨w.heap.size + 1, 17, none⟩ = some (.int .i32 n) := lit_cell hT2 17 rfl
       have hs2 := Lib.hid (blk_at hS2 18 [.int .i64 id, .int .i32 to, .slice iA in_ ic] (in_lit (cs := [.int .i32 t, .int .i32 c, .string p, .int .i64 s0, .int .i64 s1, .int .i64 s2, .int .i64 s3, .int .i32 s4, .int .i32 s5, .int .i32 s6, .int .i64 s7, .int .i32 s8, .int .i32 s9, .int .i64 s10, .slice dA dn dc, .slice aA an ac, .slice kA kn kc, .int .i32 n, .int .i64 id, .int .i32 to, .slice iA in_ ic, .slice sA sn sc]) (r := [.slice sA sn sc]) 18 rfl))
       have ht2 := Lib.hid (blk_at hT2 18 [.int .i64 id, .int .i32 to, .slice iA' in_' ic'] (in_lit (cs := [.int .i32 t, .int .i32 c, .string p, .int .i64 s0, .int .i64 s1, .int .i64 s2, .int .i64 s3, .int .i32 s4, .int .i32 s5, .int .i32 s6, .int .i64 s7, .int .i32 s8, .int .i32 s9, .int .i64 s10, .slice dA' dn' dc', .slice aA' an' ac', .slice kA' kn kc', .int .i32 n, .int .i64 id, .int .i32 to, .slice iA' in_' ic', .slice sA' sn sc']) (r := [.slice sA' sn sc']) 18 rfl))
       have HS2 := Lib.hid hS2
       have HT2 := Lib.hid hT2
       clear hb hS2 hT2 as0 at0 as1 at1 as2 at2 as14 at14 as15 at15)
    | (with_reducible show wpList _ _ _ (Oper.mk (some 59) _ _ _ _ _ :: _) _ _
       refine wpList_load_at (by rfl) 30 (.tmp 58) rfl ⟨w.heap.size, 18, none⟩ rfl [.int .i64 id, .int .i32 to, .slice iA in_ ic] _ hs2.out Tryz.underlying30 rfl ses_size ?_)
    | (with_reducible show wpList _ _ _ (Oper.mk (some 61) _ _ _ _ _ :: _) _ _
       refine wpList_load_at (by rfl) 30 (.tmp 60) rfl ⟨w.heap.size + 1, 18, none⟩ rfl [.int .i64 id, .int .i32 to, .slice iA' in_' ic'] _ ht2.out Tryz.underlying30 rfl ses_size ?_)
    | (go_at_call 98
       refine (C8.out _ HB2.out).mono ?_
       rintro e w3 ⟨rfl, hb⟩
       have hz3 := hb.size
       have HB3 := Lib.hid (HB2.out.trans (hb.mono HB2.out.size))
       have hS3 := HS2.out.below hb (by omega)
       have hT3 := HT2.out.below hb (by omega)
       have ds16 : w3.cell? ⟨w.heap.size, 16, none⟩ = some (.slice kA kn kc) := lit_cell hS3 16 rfl
       have dt16 : w3.cell? ⟨w.heap.size + 1, 16, none⟩ = some (.slice kA' kn kc') := lit_cell hT3 16 rfl
       have ds21 : w3.cell? ⟨w.heap.size, 21, none⟩ = some (.slice sA sn sc) := lit_cell hS3 21 rfl
       have dt21 : w3.cell? ⟨w.heap.size + 1, 21, none⟩ = some (.slice sA' sn sc') := lit_cell hT3 21 rfl
       have HS3 := Lib.hid hS3
       have HT3 := Lib.hid hT3
       clear hb hS3 hT3 bs17 bt17))
  clear ds16 dt16 ds21 dt21 HS HTT HS2 HT2 hs2 ht2 hst htt C6 C8 hcv hcv'
  go_loopw [5] (fun k' wr => ∃ k : Nat, k ≤ kn ∧ k' = .int .i64 k ∧ Below w3.heap.size w3 wr) (fun k' _ => kn - (intOf k').toNat)
  case atStart => exact ⟨0, Nat.zero_le _, rfl, Below.refl _ _⟩
  case round =>
    obtain ⟨k, hk, rfl, hB1⟩ := hrel
    have HBr := Lib.hid hB1
    have hB : Below w.heap.size w wr := HB3.out.trans (hB1.mono HB3.out.size)
    have HB := Lib.hid hB
    have c2 : wr.cell? ⟨w.heap.size, 16, none⟩ = some (.slice kA kn kc) := lit_cell (HS3.out.below hB1 (by omega)) 16 rfl
    have c3 : wr.cell? ⟨w.heap.size + 1, 16, none⟩ = some (.slice kA' kn kc') := lit_cell (HT3.out.below hB1 (by omega)) 16 rfl
    by_cases hlt : k < kn
    · obtain ⟨b, off, rfl, _, hx⟩ := (HA.out.below (hB.mono hBw)).plain (by omega) (by omega)
      obtain ⟨b', off', rfl, _, hy⟩ := (HC.out.below (hB.mono hBw)).plain (by omega) (by omega)
      have hkl : k < NK.length := by rw [HL.out]; exact hlt
      have g0 := strCells_get NK k hkl
      have x0 := hx _ _ g0
      have y0 := hy _ _ g0
      simp only [Nat.mul_one] at x0 y0
      generalize NK[k] = qa at x0 y0
      clear hx hy g0 hkl hB hB1
      go_wp2
      go_quiet (fail)
      go_wp2
      go_ways
      go_roundw
      case rel => exact ⟨k + 1, by omega, by go_num, below_drewN' HBr.out _⟩
      case measure => simp [intOf]; omega
    · have hkk : k = kn := by omega
      subst hkk
      clear hB hB1 HA HC
      go_wp2
      clear c2 c3
      go_loopw [6] (fun k' wr => ∃ j : Nat, j ≤ sn ∧ k' = .int .i64 j ∧ Hid ((Q.map Prod.fst).take j = (Q'.map Prod.fst).take j) ∧ Below w3.heap.size w3 wr) (fun k' _ => sn - (intOf k').toNat)
      case atStart => exact ⟨0, Nat.zero_le _, rfl, by unfold Hid; simp, HBr.out⟩
      case round =>
        clear HBr HB
        obtain ⟨j, hj, rfl, HT, hB1⟩ := hrel
        have HBr := Lib.hid hB1
        have hB : Below w.heap.size w wr := HB3.out.trans (hB1.mono HB3.out.size)
        have HB := Lib.hid hB
        have c2 : wr.cell? ⟨w.heap.size, 21, none⟩ = some (.slice sA sn sc) := lit_cell (HS3.out.below hB1 (by omega)) 21 rfl
        have c3 : wr.cell? ⟨w.heap.size + 1, 21, none⟩ = some (.slice sA' sn sc') := lit_cell (HT3.out.below hB1 (by omega)) 21 rfl
        by_cases hlt : j < sn
        · have hj1 : j < Q.length := by rw [HQ.out]; exact hlt
          have hj2 : j < Q'.length := by rw [HQ'.out]; exact hlt
          obtain ⟨ad, rfl, hr1⟩ := subs_cells (HSA.out.below hB) HQL.out HQ.out hj1
          obtain ⟨ad', rfl, hr2⟩ := subs_cells (HSB.out.below hB) HQL'.out HQ'.out hj2
          have hl1 := HQL.out _ (List.getElem_mem hj1)
          have hl2 := HQL'.out _ (List.getElem_mem hj2)
          have hst := fun e => take_snoc_eq HT.out (by simpa using hj1) (by simpa using hj2) (by simpa using e)
          have hno : (Q[j]).1 ≠ (Q'[j]).1 → Q.map Prod.fst ≠ Q'.map Prod.fst := fun e => list_ne_at (k := j) (by simpa using hj1) (by simpa using hj2) (by simpa using e)
          obtain ⟨bb, hbb, hih⟩ := IH.out j hj1 hj2
          have C2 : Hid (∀ W, Below wr.heap.size wr W → W.cell? ⟨w.heap.size, 21, none⟩ = some (.slice (some ad) sn sc)) := fun W hW => lit_cell (HS3.out.below (hB1.trans (hW.mono hB1.size)) (by omega)) 21 rfl
          have C3 : Hid (∀ W, Below wr.heap.size wr W → W.cell? ⟨w.heap.size + 1, 21, none⟩ = some (.slice (some ad') sn sc')) := fun W hW => lit_cell (HT3.out.below (hB1.trans (hW.mono hB1.size)) (by omega)) 21 rfl
          have HR1 : Hid (∀ W, Below wr.heap.size wr W → ∀ k v, (Q[j]).2[k]? = some v → W.cell? ((ad.add (j * 22)).add k) = some v) := fun W hW => by
            obtain ⟨ad2, hA, h⟩ := subs_cells (HSA.out.below (hB.trans (hW.mono hB.size))) HQL.out HQ.out hj1
            injection hA with hA
            subst hA
            exact h
          have HR2 : Hid (∀ W, Below wr.heap.size wr W → ∀ k v, (Q'[j]).2[k]? = some v → W.cell? ((ad'.add (j * 22)).add k) = some v) := fun W hW => by
            obtain ⟨ad2, hA, h⟩ := subs_cells (HSB.out.below (hB.trans (hW.mono hB.size))) HQL'.out HQ'.out hj2
            injection hA with hA
            subst hA
            exact h
          have HCL : Hid (∀ W, Below wr.heap.size wr W → Calls Tryz.prog 46 #[.agg (Q[j]).2.toArray, .agg (Q'[j]).2.toArray] W fun e w' => e = .returned (.bool bb) ∧ Below W.heap.size W w') := fun W hW => hih W (hB.trans (hW.mono hB.size))
          have HI1 : Hid ((Tryz.prog.info? 33).map (·.size) = some (Q[j]).2.toArray.size) := by unfold Hid; rw [List.size_toArray, hl1]; exact isz_33
          have HI2 : Hid ((Tryz.prog.info? 33).map (·.size) = some (Q'[j]).2.toArray.size) := by unfold Hid; rw [List.size_toArray, hl2]; exact isz_33
          have HST : Hid (bb = true → Hid ((Q.map Prod.fst).take (j + 1) = (Q'.map Prod.fst).take (j + 1))) := fun h => hst (hbb.1 h)
          have HNO : Hid (bb = false → Q.map Prod.fst ≠ Q'.map Prod.fst) := fun h => hno (fun e => by rw [hbb.2 e] at h; cases h)
          obtain ⟨xc, hxc⟩ : ∃ v, v = (Q[j]'hj1).2 := ⟨_, rfl⟩
          obtain ⟨yc, hyc⟩ : ∃ v, v = (Q'[j]'hj2).2 := ⟨_, rfl⟩
          rw [← hxc] at HR1 HCL HI1
          rw [← hyc] at HR2 HCL HI2
          clear hr1 hr2 hih hl1 hl2 hst hno hbb hxc hyc hB hB1 hj1 hj2
          go_wp2
          obtain ⟨x108, H108⟩ : ∃ x : Value, Hid (x = .pointer (some ⟨w.heap.size, 21, none⟩)) := ⟨_, rfl⟩
          obtain ⟨x109, H109⟩ : ∃ x : Value, Hid (x = .slice (some ad) sn sc) := ⟨_, rfl⟩
          obtain ⟨x110, H110⟩ : ∃ x : Value, Hid (x = .int .i64 (j : Int)) := ⟨_, rfl⟩
          obtain ⟨x111, H111⟩ : ∃ x : Value, Hid (x = .pointer (some (ad.add (j * 22)))) := ⟨_, rfl⟩
          obtain ⟨x112, H112⟩ : ∃ x : Value, Hid (x = .agg xc.toArray) := ⟨_, rfl⟩
          obtain ⟨x113, H113⟩ : ∃ x : Value, Hid (x = .pointer (some ⟨w.heap.size + 1, 21, none⟩)) := ⟨_, rfl⟩
          obtain ⟨x114, H114⟩ : ∃ x : Value, Hid (x = .slice (some ad') sn sc') := ⟨_, rfl⟩
          obtain ⟨x115, H115⟩ : ∃ x : Value, Hid (x = .int .i64 (j : Int)) := ⟨_, rfl⟩
          obtain ⟨x116, H116⟩ : ∃ x : Value, Hid (x = .pointer (some (ad'.add (j * 22)))) := ⟨_, rfl⟩
          obtain ⟨x117, H117⟩ : ∃ x : Value, Hid (x = .agg yc.toArray) := ⟨_, rfl⟩
          obtain ⟨x118, H118⟩ : ∃ x : Value, Hid (x = .bool bb) := ⟨_, rfl⟩
          refine wp_region_ord (w0 := wr) (.inl x108 ::
    .inl x109 ::
    .inl x110 ::
    .inl x111 ::
    .inl x112 ::
    .inl x113 ::
    .inl x114 ::
    .inl x115 ::
    .inl x116 ::
    .inl x117 ::
    .inl x118 ::
    .inl (.bool (!bb)) :: []) rfl (by as_aux_lemma => kernel_rfl) (by as_aux_lemma => kernel_rfl) (by as_aux_lemma => kernel_rfl) (by as_aux_lemma => kernel_rfl) (nomono rfl) ⟨fun ac W hb hold hdep K hK => op_u (u := .pointer (some ⟨w.heap.size, 21, none⟩)) rfl (r_field 33 _ 9 rfl (eval_tmp ((hold 2 (free_slot (by as_aux_lemma => kernel_rfl))).trans rfl)) Tryz.underlying33 rfl (n := 0) isz_31 rfl) (hK _ _ H108.out.symm (Below.refl _ _)),
            fun ac W hb hold hdep K hK => op_u (u := .slice (some ad) sn sc) rfl (r_load 31 _ rfl (eval_tmp ((dep_val (hdep ⟨0, .data⟩ (by simp) rfl 108 rfl)).trans (congrArg some H108.out))) (C2.out W hb) Tryz.underlying31 rfl) (hK _ _ H109.out.symm (Below.refl _ _)),
            fun ac W hb hold hdep K hK => op_u (u := .int .i64 (j : Int)) rfl (r_move _ rfl (eval_tmp ((hold 6 (free_slot (by as_aux_lemma => kernel_rfl))).trans rfl))) (hK _ _ H110.out.symm (Below.refl _ _)),
            fun ac W hb hold hdep K hK => op_u (u := .pointer (some (ad.add (j * 22)))) rfl (r_index 31 _ _ rfl (eval_tmp ((dep_val (hdep ⟨1, .data⟩ (by simp) rfl 109 rfl)).trans (congrArg some H109.out))) (eval_tmp ((dep_val (hdep ⟨2, .data⟩ (by simp) rfl 110 rfl)).trans (congrArg some H110.out))) hlt Tryz.underlying31 isz_33 rfl) (hK _ _ H111.out.symm (Below.refl _ _)),
            fun ac W hb hold hdep K hK => op_u (u := .agg xc.toArray) rfl (r_load_row 33 _ rfl (eval_tmp ((dep_val (hdep ⟨3, .data⟩ (by simp) rfl 111 rfl)).trans (congrArg some H111.out))) xc (HR1.out W hb) Tryz.underlying33 rfl HI1.out) (hK _ _ H112.out.symm (Below.refl _ _)),
            fun ac W hb hold hdep K hK => op_u (u := .pointer (some ⟨w.heap.size + 1, 21, none⟩)) rfl (r_field 33 _ 9 rfl (eval_tmp ((hold 3 (free_slot (by as_aux_lemma => kernel_rfl))).trans rfl)) Tryz.underlying33 rfl (n := 0) isz_31 rfl) (hK _ _ H113.out.symm (Below.refl _ _)),
            fun ac W hb hold hdep K hK => op_u (u := .slice (some ad') sn sc') rfl (r_load 31 _ rfl (eval_tmp ((dep_val (hdep ⟨5, .data⟩ (by simp) rfl 113 rfl)).trans (congrArg some H113.out))) (C3.out W hb) Tryz.underlying31 rfl) (hK _ _ H114.out.symm (Below.refl _ _)),
            fun ac W hb hold hdep K hK => op_u (u := .int .i64 (j : Int)) rfl (r_move _ rfl (eval_tmp ((hold 6 (free_slot (by as_aux_lemma => kernel_rfl))).trans rfl))) (hK _ _ H115.out.symm (Below.refl _ _)),
            fun ac W hb hold hdep K hK => op_u (u := .pointer (some (ad'.add (j * 22)))) rfl (r_index 31 _ _ rfl (eval_tmp ((dep_val (hdep ⟨6, .data⟩ (by simp) rfl 114 rfl)).trans (congrArg some H114.out))) (eval_tmp ((dep_val (hdep ⟨7, .data⟩ (by simp) rfl 115 rfl)).trans (congrArg some H115.out))) hlt Tryz.underlying31 isz_33 rfl) (hK _ _ H116.out.symm (Below.refl _ _)),
            fun ac W hb hold hdep K hK => op_u (u := .agg yc.toArray) rfl (r_load_row 33 _ rfl (eval_tmp ((dep_val (hdep ⟨8, .data⟩ (by simp) rfl 116 rfl)).trans (congrArg some H116.out))) yc (HR2.out W hb) Tryz.underlying33 rfl HI2.out) (hK _ _ H117.out.symm (Below.refl _ _)),
            fun ac W hb hold hdep K hK => op_call (u := .bool bb) (c := true) (want_free rfl) 46 _ _ rfl (#[.agg xc.toArray, .agg yc.toArray]) (fun hc => by simp [(eval_tmp ((dep_val (hdep ⟨4, .data⟩ (by simp) rfl 112 rfl)).trans (congrArg some H112.out))), (eval_tmp ((dep_val (hdep ⟨9, .data⟩ (by simp) rfl 117 rfl)).trans (congrArg some H117.out)))]) Tryz.func46 (by as_aux_lemma => kernel_rfl) (by as_aux_lemma => kernel_rfl) (fun hc => HCL.out W hb) (fun w' hbl => hK _ _ H118.out.symm hbl),
            fun ac W hb hold hdep K hK => op_u (u := .bool (!bb)) rfl (r_not _ _ rfl (eval_tmp ((dep_val (hdep ⟨10, .data⟩ (by simp) rfl 118 rfl)).trans (congrArg some H118.out)))) (hK _ _ rfl (Below.refl _ _)), trivial⟩ ?_
          intro w4 hb4
          simp only [Fin, Act.put, List.setIfInBounds_toArray, List.set_cons_zero, List.set_cons_succ]
          have HB4 := Lib.hid (HB.out.trans (hb4.mono HB.out.size))
          have HBr4 := Lib.hid (HBr.out.trans (hb4.mono HBr.out.size))
          clear H108 H109 H110 H111 H112 H113 H114 H115 H116 H117 H118 hb4
          cases bb
          · have hne := HNO.out rfl
            have HNE := Lib.hid hne
            clear hne
            go_wp2
            go_ret
            first
              | exact ⟨⟨false, rfl, by simp [HNE.out]⟩, HB4.out⟩
              | exact ⟨.inl ⟨rfl, HNE.out⟩, HB4.out⟩
          · have HT5 := Lib.hid (HST.out rfl)
            go_wp2
            go_roundw
            case rel => exact ⟨j + 1, by omega, by go_num, HT5.out, HBr4.out⟩
            case measure => simp [intOf]; omega
        · have e : Q.map Prod.fst = Q'.map Prod.fst := by
            have h := HT.out
            rwa [List.take_of_length_le (by rw [List.length_map, HQ.out]; omega), List.take_of_length_le (by rw [List.length_map, HQ'.out]; omega)] at h
          have HE := Lib.hid e
          clear e HT hB hB1
          go_wp2
          go_ret
          exact ⟨⟨true, rfl, by simp [HE.out]⟩, HB.out⟩
end Go.Proofs.YtnbaajplelchjaaGreatDoor
