/- arborref11.Clone: an operation in new memory. (printed by gen_c1.py) -/
import Derived.Test.YtpjjnmdfgcfnmaaGreatDoorOq31
set_option linter.unusedVariables false
set_option linter.unusedSimpArgs false
namespace Go.Proofs.YtpjjnmdfgcfnmaaGreatDoor
open Go.RowKit

theorem app0 {W w' : World} {lo : Option Nat} {b : Nat} {e : TypeId} {size bytes len : Nat} {s : Sl} {xs : List Value} {v : Value} (h : SlAt W lo e size bytes s len xs) (ho : w'.ownsRow b e size v (0 + s.n) ([] ++ xs)) : ∃ s' : Sl, v = .slice s'.A s'.n s'.c ∧ SlAt w' (some b) e size bytes s' len xs := by
  rw [Nat.zero_add, List.nil_append] at ho
  obtain ⟨A', c', rfl⟩ := slice_form ho
  exact ⟨⟨A', s.n, c'⟩, rfl, by rw [h.len]; exact SlAt.of_own ho h.reach⟩
theorem wpList_load1 {P : Program} {ops : Array Oper} {rest : List Oper} {o : Oper} {a : Act} {w : World} {Q : Exit → Act → World → Prop} (hgd : o.guard = none) (ty : TypeId) (x : Operand) (ho : o.op = .load ty x)
    (ad : Addr) (hx : a.eval x = .pointer (some ad)) {v : Value} (hc : w.cell? ad = some v) {d : TypeDesc} (hu : P.underlying ty = some d) (hd : (match d with | .struct _ | .array _ _ => false | _ => true) = true)
    (h : wpList P ops Q rest (a.put o.dst v) w) : wpList P ops Q (o :: rest) a w := wpList_step fun K hK => op_u hgd (r_load ty x ho hx hc hu hd) (hK _ _ h)
theorem FlatSt.lit (W : World) : FlatSt W.heap.size (.slice (some ⟨W.heap.size, 0, none⟩) 0 0) [] (W.alloc (.cells #[] 29)) :=
  ⟨World.ownsRow_made W #[] 0 (Nat.le_refl _) (by decide) rfl, by simp, fun _ hr => by cases hr⟩

set_option maxRecDepth 100000 in
set_option maxHeartbeats 16000000 in
theorem cloneR_walk {lo : Option Nat} (f : OpF) (d a k0 k1 k2 k3 k4 i s : Sl) (Q : List (OpC × List Value)) (w : World) (ok : f.Ok) (h : FAt w lo f d a k0 k1 k2 k3 k4 i) (hs : SlAt w lo 29 19 296 s Q.length (Q.flatMap Prod.snd)) (hQ : ∀ q ∈ Q, At w lo q.1 q.2)
    (IH : ∀ q ∈ Q, ∀ W, Below w.heap.size w W → Calls Tryz.prog 10 #[.agg q.2.toArray] W (Cloned W q.1)) (cs : Array Value) (hcs : cs = (f.row d a k0 k1 k2 k3 k4 i s).toArray) :
    Calls Tryz.prog 10 #[.agg cs] w (Cloned w (.mk f (Q.map Prod.fst))) := by
  obtain ⟨sA, N, sc⟩ := s
  obtain ⟨w1, hw1⟩ : ∃ w1, w.alloc (.cells cs 29) = w1 := ⟨_, rfl⟩
  have HW1 := Lib.hid hw1.symm
  have hz1 : w1.heap.size = w.heap.size + 1 := by rw [← hw1]; simp
  have HCS : Hid (cs = (f.rowL d a [k0, k1, k2, k3, k4] i ⟨sA, N, sc⟩).toArray) := hcs
  have HD := Lib.hid (fun W (hW : Below w.heap.size w W) => h.d.later hW)
  have HA := Lib.hid (fun W (hW : Below w.heap.size w W) => h.a.later hW)
  have HI := Lib.hid (fun W (hW : Below w.heap.size w W) => h.i.later hW)
  have HSL := Lib.hid (fun W (hW : Below w.heap.size w W) => hs.later hW)
  have HKS : Hid (∀ j (hj : j < 5) W, Below w.heap.size w W → SlAt W lo 9 1 16 ([k0, k1, k2, k3, k4][j]'hj) (f.lists[j]'hj).length (strCells (f.lists[j]'hj))) := fun j hj W hW => by
    rcases (by omega : j = 0 ∨ j = 1 ∨ j = 2 ∨ j = 3 ∨ j = 4) with rfl | rfl | rfl | rfl | rfl
    · exact h.k0.later hW
    · exact h.k1.later hW
    · exact h.k2.later hW
    · exact h.k3.later hW
    · exact h.k4.later hW
  have HQ := Lib.hid hQ
  have HIH := Lib.hid IH
  have HOK := Lib.hid ok
  have HSQ : Hid (Q.length = N) := hs.len
  have HREA : Hid (N * 296 ≤ reachBytes) := hs.reach
  have hrea : N * 296 ≤ 140737488355328 := hs.reach'
  clear hcs h hs hQ IH ok
  obtain ⟨ib, hib, hzb, hsb, hyb⟩ := info_parts u8O_info
  obtain ⟨ia, hia, hza, hsa, hya⟩ := info_parts acl_info
  obtain ⟨ii, hii, hzi, hsi, hyi⟩ := info_parts id_info
  obtain ⟨ik, hik, hzk, hsk, hyk⟩ := info_parts strO_info
  obtain ⟨io, hio, hzo, hso, hyo⟩ := info_parts op_info
  go_enter Tryz.func10, Tryz.ntmps10
  go_wp2_with (first
    | (refine wpList_new rfl 29 rfl zer_op ?_
       intro old hold
       obtain ⟨w2, hw2⟩ : ∃ w2, w1.alloc (.cells old 29) = w2 := ⟨_, rfl⟩
       rw [hw2]
       have HK2 : Hid (KSt w f d a [k0, k1, k2, k3, k4] i ⟨sA, N, sc⟩ w2) := (by unfold Hid; rw [← hw2, ← hw1]; exact KSt.start HCS.out rfl hold)
       clear hw2 hold)
    | (with_reducible refine wpAt 7 ?_
       obtain ⟨u3, hu⟩ : ∃ x, w2.alloc (.cells #[] 5) = x := ⟨_, rfl⟩
       rw [hu]
       have HBu := Lib.hid (newB hu)
       have HOu : Hid (u3.ownsRow w2.heap.size 5 1 (.slice (some ⟨w2.heap.size, 0, none⟩) 0 0) 0 []) := (by unfold Hid; rw [← hu]; exact World.ownsRow_made w2 #[] 0 (Nat.le_refl _) (by decide) rfl)
       have HSu := Lib.hid (HD.out _ (HK2.out.below.trans (HBu.out.mono HK2.out.below.size)))
       have qu := (HK2.out.later HBu.out).c2
       clear hu)
    | (with_reducible refine wpAt 9 ?_
       refine wpList_append_any _ rfl (.tmp 6) (.tmp 8) _ rfl w2.heap.size 5 ib _ 1 1 Tryz.underlying22 hib hzb hsb hyb rfl (by decide) (.slice (some ⟨w2.heap.size, 0, none⟩) 0 0) 0 [] rfl HOu.out u3.heap.size d.A d.n d.c (bcells f.l) rfl HSu.out.reads (bcells_one _) (by have := HSu.out.le; have := HSu.out.cap; omega) (by rw [Nat.zero_add]; exact HSu.out.reach') HBu.out.size ?_
       intro v w3 ho hg hat
       obtain ⟨s1, rfl, hs'⟩ := app0 HSu.out ho
       have hb := HBu.out.grown hg HBu.out.size (fun k hk => by simp [Value.ownBlock] at hk; omega)
       have HN3 := Lib.hid (hs'.lo HK2.out.size)
       have HK3 := Lib.hid (HK2.out.later hb)
       clear hb hs' ho hg hat qu HBu HOu HSu)
    | (with_reducible show wpList _ _ _ (Oper.mk none (.store _ (.tmp 10) _) _ _ _ _ :: _) _ _
       refine wpList_store_mid rfl 22 (.tmp 10) (.tmp 9) rfl w.heap.size (2) (.slice s1.A s1.n s1.c) rfl rfl HK3.out.blk (news := [.slice s1.A s1.n s1.c]) rfl isz_22 (by rw [HK3.out.asize]; exact (by decide : 2 + 1 ≤ 19)) (by simp [Value.oneCell']) ?_
       intro wn4 cn hBn hxn hgn hzn
       have HK4 : Hid (KSt w f s1 a [k0, k1, k2, k3, k4] i ⟨sA, N, sc⟩ wn4) := HK3.out.put hBn hgn (hxn.trans rowL_d) HK3.out.len
       have HS1_4 := Lib.hid (HN3.out.grown hgn (by omega))
       clear hBn hxn hgn hzn)
    | (with_reducible refine wpAt 12 ?_
       obtain ⟨u5, hu⟩ : ∃ x, wn4.alloc (.cells #[] 104) = x := ⟨_, rfl⟩
       rw [hu]
       have HBu := Lib.hid (newB hu)
       have HOu : Hid (u5.ownsRow wn4.heap.size 104 3 (.slice (some ⟨wn4.heap.size, 0, none⟩) 0 0) 0 []) := (by unfold Hid; rw [← hu]; exact World.ownsRow_made wn4 #[] 0 (Nat.le_refl _) (by decide) rfl)
       have HSu := Lib.hid (HA.out _ (HK4.out.below.trans (HBu.out.mono HK4.out.below.size)))
       have qu := (HK4.out.later HBu.out).c3
       clear hu)
    | (with_reducible refine wpAt 14 ?_
       refine wpList_append_any _ rfl (.tmp 11) (.tmp 13) _ rfl wn4.heap.size 104 ia _ 3 40 Tryz.underlying23 hia hza hsa hya rfl (by decide) (.slice (some ⟨wn4.heap.size, 0, none⟩) 0 0) 0 [] rfl HOu.out u5.heap.size a.A a.n a.c (aclCells f.L) rfl HSu.out.reads (aclCells_one _) (by have := HSu.out.le; have := HSu.out.cap; omega) (by rw [Nat.zero_add]; exact HSu.out.reach') HBu.out.size ?_
       intro v w5 ho hg hat
       obtain ⟨s2, rfl, hs'⟩ := app0 HSu.out ho
       have hb := HBu.out.grown hg HBu.out.size (fun k hk => by simp [Value.ownBlock] at hk; omega)
       have HN5 := Lib.hid (hs'.lo HK4.out.size)
       have HK5 := Lib.hid (HK4.out.later hb)
       have HS1_5 := Lib.hid (HS1_4.out.later hb)
       clear hb hs' ho hg hat qu HBu HOu HSu)
    | (with_reducible show wpList _ _ _ (Oper.mk none (.store _ (.tmp 15) _) _ _ _ _ :: _) _ _
       refine wpList_store_mid rfl 23 (.tmp 15) (.tmp 14) rfl w.heap.size (3) (.slice s2.A s2.n s2.c) rfl rfl HK5.out.blk (news := [.slice s2.A s2.n s2.c]) rfl isz_23 (by rw [HK5.out.asize]; exact (by decide : 3 + 1 ≤ 19)) (by simp [Value.oneCell']) ?_
       intro wn6 cn hBn hxn hgn hzn
       have HK6 : Hid (KSt w f s1 s2 [k0, k1, k2, k3, k4] i ⟨sA, N, sc⟩ wn6) := HK5.out.put hBn hgn (hxn.trans rowL_a) HK5.out.len
       have HS1_6 := Lib.hid (HS1_5.out.grown hgn (by omega))
       have HS2_6 := Lib.hid (HN5.out.grown hgn (by omega))
       clear hBn hxn hgn hzn)
    | (with_reducible refine wpAt 17 ?_
       obtain ⟨u7, hu⟩ : ∃ x, wn6.alloc (.cells #[] 102) = x := ⟨_, rfl⟩
       rw [hu]
       have HBu := Lib.hid (newB hu)
       have HOu : Hid (u7.ownsRow wn6.heap.size 102 2 (.slice (some ⟨wn6.heap.size, 0, none⟩) 0 0) 0 []) := (by unfold Hid; rw [← hu]; exact World.ownsRow_made wn6 #[] 0 (Nat.le_refl _) (by decide) rfl)
       have HSu := Lib.hid (HI.out _ (HK6.out.below.trans (HBu.out.mono HK6.out.below.size)))
       have qu := (HK6.out.later HBu.out).c17
       clear hu)
    | (with_reducible refine wpAt 19 ?_
       refine wpList_append_any _ rfl (.tmp 16) (.tmp 18) _ rfl wn6.heap.size 102 ii _ 2 32 Tryz.underlying26 hii hzi hsi hyi rfl (by decide) (.slice (some ⟨wn6.heap.size, 0, none⟩) 0 0) 0 [] rfl HOu.out u7.heap.size i.A i.n i.c (idCells f.I) rfl HSu.out.reads (idCells_one _) (by have := HSu.out.le; have := HSu.out.cap; omega) (by rw [Nat.zero_add]; exact HSu.out.reach') HBu.out.size ?_
       intro v w7 ho hg hat
       obtain ⟨s3, rfl, hs'⟩ := app0 HSu.out ho
       have hb := HBu.out.grown hg HBu.out.size (fun k hk => by simp [Value.ownBlock] at hk; omega)
       have HN7 := Lib.hid (hs'.lo HK6.out.size)
       have HK7 := Lib.hid (HK6.out.later hb)
       have HS1_7 := Lib.hid (HS1_6.out.later hb)
       have HS2_7 := Lib.hid (HS2_6.out.later hb)
       clear hb hs' ho hg hat qu HBu HOu HSu)
    | (with_reducible show wpList _ _ _ (Oper.mk none (.store _ (.tmp 20) _) _ _ _ _ :: _) _ _
       refine wpList_store_mid rfl 26 (.tmp 20) (.tmp 19) rfl w.heap.size (17) (.slice s3.A s3.n s3.c) rfl rfl HK7.out.blk (news := [.slice s3.A s3.n s3.c]) rfl isz_26 (by rw [HK7.out.asize]; exact (by decide : 17 + 1 ≤ 19)) (by simp [Value.oneCell']) ?_
       intro wn8 cn hBn hxn hgn hzn
       have HK8 : Hid (KSt w f s1 s2 [k0, k1, k2, k3, k4] s3 ⟨sA, N, sc⟩ wn8) := HK7.out.put hBn hgn (hxn.trans (rowL_i HK7.out.len)) HK7.out.len
       have HS1_8 := Lib.hid (HS1_7.out.grown hgn (by omega))
       have HS2_8 := Lib.hid (HS2_7.out.grown hgn (by omega))
       have HS3_8 := Lib.hid (HN7.out.grown hgn (by omega))
       clear hBn hxn hgn hzn))
  clear HK2 HK3 HK4 HK5 HK6 HK7 HD HA HI HS1_4 HS1_5 HS1_6 HS1_7 HS2_6 HS2_7 HN3 HN5 HN7
  go_loopw [3] (fun v3 wr => ∃ (j : Nat) (ks : List Sl), j ≤ 5 ∧ v3 = .int .i64 (j : Int) ∧ Hid (KSt w f s1 s2 ks s3 ⟨sA, N, sc⟩ wr) ∧ Hid (KLs w f [k0, k1, k2, k3, k4] ks j wr) ∧ Hid (SlAt wr (some (w.heap.size + 2)) 5 1 1 s1 f.l.length (bcells f.l)) ∧ Hid (SlAt wr (some (w.heap.size + 2)) 104 3 40 s2 f.L.length (aclCells f.L)) ∧ Hid (SlAt wr (some (w.heap.size + 2)) 102 2 32 s3 f.I.length (idCells f.I))) (fun v3 _ => 5 - (intOf v3).toNat)
  case atStart => exact ⟨0, [k0, k1, k2, k3, k4], by omega, rfl, HK8.out, ⟨fun z _ _ hz => absurd hz (by omega), fun z _ => rfl⟩, HS1_8.out, HS2_8.out, HS3_8.out⟩
  case round =>
    clear HK8 HS1_8 HS2_8 HS3_8
    obtain ⟨j, ks, hj, rfl, HK9, HL9, HS1_9, HS2_9, HS3_9⟩ := hrel
    by_cases hlt : j < 5
    · have hjl : j < ks.length := by rw [HK9.out.len]; exact hlt
      obtain ⟨kj, hkj⟩ : ∃ k, k = ([k0, k1, k2, k3, k4][j]'hlt) := ⟨_, rfl⟩
      have hkk : ks[j] = kj := by
        have := HL9.out.2 j (Nat.le_refl _)
        rw [List.getElem?_eq_getElem hjl, List.getElem?_eq_getElem hlt, ← hkj] at this
        injection this
      have HCK : Hid (∀ {u}, KSt w f s1 s2 ks s3 ⟨sA, N, sc⟩ u → u.cell? ⟨w.heap.size, 11 + j, none⟩ = some (.slice kj.A kj.n kj.c)) := fun h => (h.ck hjl).trans (by rw [hkk]; rfl)
      have HKJ : Hid (∀ W, Below w.heap.size w W → SlAt W lo 9 1 16 kj (f.lists[j]'hlt).length (strCells (f.lists[j]'hlt))) := by
        unfold Hid
        rw [hkj]
        exact HKS.out j hlt
      clear hkj hkk hjl
      go_wp2_with (first
        | (with_reducible refine wpAt 28 ?_
           obtain ⟨u9, hu⟩ : ∃ x, wr.alloc (.cells #[] 9) = x := ⟨_, rfl⟩
           rw [hu]
           have HBu := Lib.hid (newB hu)
           have HOu : Hid (u9.ownsRow wr.heap.size 9 1 (.slice (some ⟨wr.heap.size, 0, none⟩) 0 0) 0 []) := (by unfold Hid; rw [← hu]; exact World.ownsRow_made wr #[] 0 (Nat.le_refl _) (by decide) rfl)
           have HSu := Lib.hid (HKJ.out _ (HK9.out.below.trans (HBu.out.mono HK9.out.below.size)))
           have qu := HCK.out (HK9.out.later HBu.out)
           clear hu)
        | (with_reducible refine wpAt 30 ?_
           refine wpList_load1 rfl 24 (.tmp 29) rfl ⟨w.heap.size, 11 + j, none⟩ rfl qu Tryz.underlying24 rfl ?_)
        | (with_reducible refine wpAt 31 ?_
           refine wpList_append_any _ rfl (.tmp 26) (.tmp 30) _ rfl wr.heap.size 9 ik _ 1 16 Tryz.underlying24 hik hzk hsk hyk rfl (by decide) (.slice (some ⟨wr.heap.size, 0, none⟩) 0 0) 0 [] rfl HOu.out u9.heap.size kj.A kj.n kj.c (strCells (f.lists[j]'hlt)) rfl HSu.out.reads (strCells_one _) (by have := HSu.out.le; have := HSu.out.cap; omega) (by rw [Nat.zero_add]; exact HSu.out.reach') HBu.out.size ?_
           intro v w9 ho hg hat
           obtain ⟨k', rfl, hs'⟩ := app0 HSu.out ho
           have hb := HBu.out.grown hg HBu.out.size (fun k hk => by simp [Value.ownBlock] at hk; omega)
           have HN10 := Lib.hid (hs'.lo HK9.out.size)
           have HK10 := Lib.hid (HK9.out.later hb)
           have HL10 := Lib.hid (HL9.out.later hb)
           have HS1_10 := Lib.hid (HS1_9.out.later hb)
           have HS2_10 := Lib.hid (HS2_9.out.later hb)
           have HS3_10 := Lib.hid (HS3_9.out.later hb)
           clear hb hs' ho hg hat qu HBu HOu HSu)
        | (with_reducible show wpList _ _ _ (Oper.mk none (.store _ (.tmp 33) _) _ _ _ _ :: _) _ _
           refine wpList_store_mid rfl 24 (.tmp 33) (.tmp 31) rfl w.heap.size (11 + j) (.slice k'.A k'.n k'.c) rfl rfl HK10.out.blk (news := [.slice k'.A k'.n k'.c]) rfl isz_24 (by rw [HK10.out.asize]; show 11 + j + 1 ≤ 19; omega) (by simp [Value.oneCell']) ?_
           intro wn11 cn hBn hxn hgn hzn
           have HK11 : Hid (KSt w f s1 s2 (ks.set j k') s3 ⟨sA, N, sc⟩ wn11) := HK10.out.put hBn hgn (hxn.trans (rowL_k HK10.out.len hlt)) (by rw [List.length_set]; exact HK10.out.len)
           have HS1_11 := Lib.hid (HS1_10.out.grown hgn (by omega))
           have HS2_11 := Lib.hid (HS2_10.out.grown hgn (by omega))
           have HS3_11 := Lib.hid (HS3_10.out.grown hgn (by omega))
           have HL11 : Hid (KLs w f [k0, k1, k2, k3, k4] (ks.set j k') (j + 1) wn11) := (HL10.out.grown hgn (by omega)).set hlt (HN10.out.grown hgn (by omega))
           clear hBn hxn hgn hzn))
      go_roundw
      case rel => exact ⟨j + 1, ks.set j k', by omega, by go_num, HK11.out, HL11.out, HS1_11.out, HS2_11.out, HS3_11.out⟩
      case measure => simp [intOf]; omega
    · obtain rfl : j = 5 := by omega
      obtain ⟨m0, m1, m2, m3, m4, hks⟩ := list5 HK9.out.len
      subst hks
      clear hlt hj HKS
      obtain ⟨u8, rfl⟩ : ∃ v, v = wr := ⟨_, rfl⟩
      rw [show ((5 : Nat) : Int) = 5 from rfl]
      go_wp2
      go_loopw [4, 5] (fun v4 v5 wr => ∃ (j : Nat) (A4 : Option Addr) (c4 : Nat) (R : List (OpC × List Value)), j ≤ N ∧ v4 = .slice A4 j c4 ∧ v5 = .int .i64 (j : Int) ∧ Hid (R.length = j) ∧ Hid (R.map Prod.fst = (Q.take j).map Prod.fst) ∧ Hid (FlatSt u8.heap.size (.slice A4 j c4) R wr) ∧ Hid (Below u8.heap.size u8 wr)) (fun _ v5 _ => N - (intOf v5).toNat)
      case atStart => exact ⟨0, _, _, [], by omega, rfl, rfl, rfl, rfl, FlatSt.lit u8, (Below.refl _ _).alloc (Nat.le_refl _) _⟩
      case round =>
        obtain ⟨j, A4, c4, R, hj, rfl, rfl, HRL, HRM, HF, HB⟩ := hrel
        have HKw := Lib.hid (HK9.out.later HB.out)
        have q18 := HKw.out.c18
        dsimp only at q18
        by_cases hlt : j < N
        · have hjQ : j < Q.length := by rw [HSQ.out]; exact hlt
          have hrd := (HSL.out _ HKw.out.below).reads
          obtain ⟨ad, hA, hrow⟩ := rowAt hrd HQ.out hjQ HSQ.out
          dsimp only at hA
          subst hA
          have hih := HIH.out (Q[j]) (List.getElem_mem _)
          have hmx : (Q.take (j + 1)).map Prod.fst = (Q.take j).map Prod.fst ++ [(Q[j]).1] := by
            rw [List.take_succ_eq_append_getElem hjQ, List.map_append]; rfl
          obtain ⟨⟨x, xc⟩, hx⟩ : ∃ x, x = Q[j] := ⟨_, rfl⟩
          rw [← hx] at hrow hih hmx
          dsimp only at hrow hih hmx
          have HMX := Lib.hid hmx
          have HROW := Lib.hid hrow
          have HIX := Lib.hid hih
          have HOL : Hid (∀ g, (Value.slice A4 j c4).ownBlock = some g → g < wr.heap.size) := fun g hg => HF.out.lt hg
          clear hx hrow hih hmx hjQ hrd
          go_wp2_with (first
            | (refine wpList_load_at (by rfl) 29 (.tmp 46) rfl (ad.add (j * 19)) rfl xc _ HROW.out.cells Tryz.underlying29 rfl HROW.out.info ?_)
            | (go_at_call 10
               refine (HIX.out _ HKw.out.below).mono ?_
               rintro e w5 ⟨rc, rfl, hrc, hb5⟩
               have HRC := Lib.hid hrc
               have HF5 := Lib.hid (HF.out.later hb5)
               have HB5 := Lib.hid (HB.out.trans (hb5.mono HF.out.bs))
               have HRS : Hid ((Value.agg rc.toArray).cells.size = 19) := (by unfold Hid; show rc.toArray.size = 19; rw [List.size_toArray, hrc.len])
               clear hb5 hrc)
            | (refine wpList_build1 rfl 27 29 (.tmp 48) rfl (.agg rc.toArray) rfl 19 Tryz.underlying27 isz_29 zer_op (by decide) HRS.out ?_
               obtain ⟨w6, hw6⟩ : ∃ w6, w5.alloc (.cells rc.toArray 29) = w6 := ⟨_, rfl⟩
               have hc6 : (Value.agg rc.toArray).cells = rc.toArray := rfl
               rw [hc6, hw6]
               have hb6 := newB hw6
               have hn6 := newK hw6
               have HF6 := Lib.hid (HF5.out.later hb6)
               have HB6 := Lib.hid (HB5.out.trans (hb6.mono HF5.out.bs))
               have HW6 : Hid (Win w6 wr.heap.size w6.heap.size x rc) := Win.new (HRC.out.later hb6)
               have HR6 : Hid (Reads w6 w6.heap.size 19 (some ⟨w5.heap.size, 0, none⟩) 1 rc) := ⟨(by rw [HRC.out.len]), fun _ => ⟨⟨w5.heap.size, 0, none⟩, rfl, hn6.lt, fun j u hj => (by rw [Go.WideShapes.add_plain, Nat.zero_add, hn6.cell]; simpa using hj)⟩⟩
               have HO6 : Hid (∀ u ∈ rc, u.oneCell' = true) := fun v hv => (by
                 have := HRC.out.one
                 rw [Array.all_eq_true_iff_forall_mem] at this
                 exact this v (by simpa using hv))
               have HOW : Hid (w6.ownsRow u8.heap.size 29 19 (.slice A4 j c4) j (R.flatMap Prod.snd)) := (by unfold Hid; have := HF6.out.own; rwa [HRL.out] at this)
               clear hw6 hc6 hb6 hn6)
            | (with_reducible refine wpAt 50 ?_
               refine wpList_append_any _ rfl (.tmp 42) (.tmp 49) _ rfl u8.heap.size 29 io _ 19 296 Tryz.underlying27 hio hzo hso hyo rfl (by decide) (.slice A4 j c4) j (R.flatMap Prod.snd) rfl HOW.out w6.heap.size (some ⟨w5.heap.size, 0, none⟩) 1 1 rc rfl HR6.out HO6.out (by unfold maxLen; omega) (by omega) HF6.out.bs ?_
               intro v7 w7 ho hg hat
               obtain ⟨A7, c7, rfl⟩ := slice_form ho
               have HF7 : Hid (FlatSt u8.heap.size (.slice A7 (j + 1) c7) (R ++ [(x, rc)]) w7) := HF6.out.snoc (r := (x, rc)) HW6.out HF.out.bs HOL.out (by rw [HRL.out]; exact ho) hg hat
               have HB7 : Hid (Below u8.heap.size u8 w7) := HB6.out.grown hg HF6.out.bs (fun k hk => (HOW.out.lt k hk).1)
               clear ho hg hat))
          go_roundw
          case rel => exact ⟨j + 1, A7, c7, R ++ [(x, rc)], by omega, rfl, by go_num, by unfold Hid; rw [List.length_append, HRL.out]; rfl, by unfold Hid; rw [List.map_append, HRM.out, HMX.out]; rfl, HF7.out, HB7.out⟩
          case measure => simp [intOf]; omega
        · obtain rfl : j = N := by omega
          have HRQ : Hid (R.map Prod.fst = Q.map Prod.fst) := by unfold Hid; rw [HRM.out, List.take_of_length_le (by rw [HSQ.out]; exact Nat.le_refl _)]
          clear hlt hj HRM HIH HSL
          obtain ⟨s4, hs4⟩ : ∃ s : Sl, s = ⟨A4, j, c4⟩ := ⟨_, rfl⟩
          have hv4 : Value.slice A4 j c4 = .slice s4.A s4.n s4.c := by rw [hs4]
          have hfa : SlAt wr (some u8.heap.size) 29 19 296 s4 R.length (R.flatMap Prod.snd) ∧ ∀ q ∈ R, At wr (some u8.heap.size) q.1 q.2 := by
            have h1 := HF.out
            obtain rfl := HRL.out
            rw [hs4]
            exact h1.at_ HREA.out
          have HN9 := Lib.hid (hfa.1.lo HK9.out.size)
          have HE9 : Hid (∀ q ∈ R, At wr (some (w.heap.size + 2)) q.1 q.2) := fun q hq => (hfa.2 q hq).lo rfl HK9.out.size
          have HLw := Lib.hid (HL9.out.later HB.out)
          have HS1w := Lib.hid (HS1_9.out.later HB.out)
          have HS2w := Lib.hid (HS2_9.out.later HB.out)
          have HS3w := Lib.hid (HS3_9.out.later HB.out)
          rw [hv4]
          clear hv4 hs4 hfa HK9 HL9 HS1_9 HS2_9 HS3_9 HF HRL
          go_wp2_with (first
            | (with_reducible show wpList _ _ _ (Oper.mk none (.store _ (.tmp 52) _) _ _ _ _ :: _) _ _
               refine wpList_store_mid rfl 27 (.tmp 52) (.tmp 51) rfl w.heap.size 18 (.slice s4.A s4.n s4.c) rfl rfl HKw.out.blk (news := [.slice s4.A s4.n s4.c]) rfl isz_27 (by rw [HKw.out.asize]; exact (by decide : 18 + 1 ≤ 19)) (by simp [Value.oneCell']) ?_
               intro wn cn hBn hxn hgn hzn
               have HKt : Hid (KSt w f s1 s2 [m0, m1, m2, m3, m4] s3 s4 wn) := HKw.out.put hBn hgn (hxn.trans (rowL_s HKw.out.len)) HKw.out.len
               have HLt := Lib.hid (HLw.out.grown hgn (by omega))
               have HS1t := Lib.hid (HS1w.out.grown hgn (by omega))
               have HS2t := Lib.hid (HS2w.out.grown hgn (by omega))
               have HS3t := Lib.hid (HS3w.out.grown hgn (by omega))
               have HS4t := Lib.hid (HN9.out.grown hgn (by omega))
               have HEt : Hid (∀ q ∈ R, At wn (some (w.heap.size + 2)) q.1 q.2) := fun q hq => (HE9.out q hq).grown rfl hgn (by omega)
               clear hBn hxn hgn hzn
               refine Hid.out ?_))
          have HAT : Hid (At wn (some (w.heap.size + 2)) (.mk f (Q.map Prod.fst)) (f.rowL s1 s2 [m0, m1, m2, m3, m4] s3 s4)) := clone_end HOK.out HLt.out HS1t.out HS2t.out HS3t.out HS4t.out HEt.out HRQ.out
          clear HKw HLw HS1w HS2w HS3w HS1t HS2t HS3t HS4t HEt HLt HN9 HE9
          obtain ⟨zr, hz1', hz2'⟩ := HKt.out.res
          have HZR := Lib.hid hz1'
          have hzs : zr.size = 19 := hz2'
          have HINF : Hid ((Tryz.prog.info? 29).map (·.size) = some (f.rowL s1 s2 [m0, m1, m2, m3, m4] s3 s4).toArray.size) := by unfold Hid; rw [HKt.out.asize]; exact isz_29
          have HZS : Hid (zr.size = (f.rowL s1 s2 [m0, m1, m2, m3, m4] s3 s4).toArray.size) := by unfold Hid; rw [HKt.out.asize]; exact hzs
          clear hz1' hz2' hzs
          refine Lib.hid ?_
          go_wp2_with (first
            | (refine wpList_load_row rfl 29 (.tmp 1) rfl w.heap.size rfl 29 _ _ _ HKt.out.blk Tryz.underlying29 rfl HINF.out ?_)
            | (refine wpList_store_row rfl 29 (.tmp 2) (.tmp 53) rfl (w.heap.size + 1) _ rfl rfl 29 _ HZR.out HINF.out HZS.out (rowL_one rfl) ?_
               generalize hww : World.setRow _ _ _ = wz
               have HGZ : Hid (wn.grownBy wz (some (w.heap.size + 1))) := (by unfold Hid; rw [← hww]; exact only_setRow' _ _ _)
               have HBZ : Hid (Blk wz (w.heap.size + 1) 29 (f.rowL s1 s2 [m0, m1, m2, m3, m4] s3 s4).toArray) := (by unfold Hid; rw [← hww]; exact cells_setRow HZR.out)
               clear hww))
          refine bodyPost_ret (results_cell_row rfl _ _ (w.heap.size + 1) 29 _ _ _ rfl HBZ.out Tryz.underlying29 rfl HINF.out) rfl ?_
          exact ⟨_, rfl, (HAT.out.grown rfl HGZ.out (by omega)).lo rfl (by omega), HKt.out.below.grown HGZ.out (by have := HKt.out.size; omega) (fun k hk => by injection hk with hk; omega)⟩
theorem refClone_any {w : World} {lo : Option Nat} {x : OpC} {cs : List Value} (h : At w lo x cs) : ∀ W, Below w.heap.size w W → Calls Tryz.prog 10 #[.agg cs.toArray] W (Cloned W x) := by
  induction h with
  | mk f d a k0 k1 k2 k3 k4 i s Q ok hd ha hk0 hk1 hk2 hk3 hk4 hi hs hQ ih =>
    intro W hW
    exact cloneR_walk f d a k0 k1 k2 k3 k4 i s Q W ok ⟨hd.later hW, ha.later hW, hk0.later hW, hk1.later hW, hk2.later hW, hk3.later hW, hk4.later hW, hi.later hW⟩ (hs.later hW) (fun q hq => (hQ q hq).later hW) (fun q hq W' hW' => ih q hq W' (hW.trans (hW'.mono hW.size))) _ rfl
end Go.Proofs.YtpjjnmdfgcfnmaaGreatDoor
