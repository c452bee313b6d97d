/- The document's CloneResult: a result in new memory. (printed by gen_rb2.py) -/
import Derived.Test.YtnbaajplelchjaaGreatDoorRa5
set_option linter.unusedVariables false
set_option linter.unusedSimpArgs false
namespace Go.Proofs.YtnbaajplelchjaaGreatDoor
open Go.RowKit

set_option maxRecDepth 100000 in
set_option maxHeartbeats 8000000 in
theorem cloneR_walk {lo : Option Nat} (f : ResF) (d a k i s : Sl) (Q : List (ResC × List Value)) (w : World) (ok : f.Ok) (hd : SlAt w lo 5 1 1 d f.l.length (bcells f.l)) (ha : SlAt w lo 115 3 40 a f.L.length (aclCells f.L))
    (hk : SlAt w lo 9 1 16 k f.K.length (strCells f.K)) (hi : SlAt w lo 113 2 32 i f.I.length (idCells f.I)) (hs : SlAt w lo 33 22 240 s Q.length (Q.flatMap Prod.snd)) (hQ : ∀ q ∈ Q, At w lo q.1 q.2)
    (IH : ∀ q ∈ Q, ∀ W, Below w.heap.size w W → Calls Tryz.prog 31 #[.agg q.2.toArray] W (Cloned W q.1)) (cs : Array Value) (hcs : cs = (f.row d a k i s).toArray) :
    Calls Tryz.prog 31 #[.agg cs] w (Cloned w (.mk f (Q.map Prod.fst))) := by
  obtain ⟨sA, N, sc⟩ := s
  obtain ⟨w1, hw1⟩ : ∃ w1, w.alloc (.cells cs 33) = w1 := ⟨_, rfl⟩
  have HW1 := Lib.hid hw1.symm
  have hz1 : w1.heap.size = w.heap.size + 1 := by rw [← hw1]; simp
  have HCS : Hid (cs = (f.row d a k i ⟨sA, N, sc⟩).toArray) := hcs
  have HD := Lib.hid (fun W (hW : Below w.heap.size w W) => hd.later hW)
  have HA := Lib.hid (fun W (hW : Below w.heap.size w W) => ha.later hW)
  have HK := Lib.hid (fun W (hW : Below w.heap.size w W) => hk.later hW)
  have HI := Lib.hid (fun W (hW : Below w.heap.size w W) => hi.later hW)
  have HSL := Lib.hid (fun W (hW : Below w.heap.size w W) => hs.later hW)
  have HQ := Lib.hid hQ
  have HIH := Lib.hid IH
  have HOK := Lib.hid ok
  have HSQ : Hid (Q.length = N) := hs.len
  have HREA : Hid (N * 240 ≤ reachBytes) := hs.reach
  have hrea : N * 240 ≤ 140737488355328 := hs.reach'
  clear hcs hd ha hk hi hs hQ IH ok
  obtain ⟨ib, hib, hzb, hsb, hyb⟩ := info_parts u8O_info
  obtain ⟨ia, hia, hza, hsa, hya⟩ := info_parts acl_info
  obtain ⟨ii, hii, hzi, hsi, hyi⟩ := info_parts id_info
  obtain ⟨ik, hik, hzk, hsk, hyk⟩ := info_parts strO_info
  obtain ⟨io, hio, hzo, hso, hyo⟩ := info_parts res_info
  go_enter Tryz.func31, Tryz.ntmps31
  go_wp2_with (first
    | (refine wpList_new rfl 33 rfl zer_res ?_
       intro old hold
       obtain ⟨w2, hw2⟩ : ∃ w2, w1.alloc (.cells old 33) = w2 := ⟨_, rfl⟩
       rw [hw2]
       have HK2 : Hid (KSt w f d a k i ⟨sA, N, sc⟩ w2) := (by unfold Hid; rw [← hw2, ← hw1]; exact KSt.start HCS.out hold)
       clear hw2 hold)
    | (with_reducible refine wpAt 6 ?_
       obtain ⟨u3, hu⟩ : ∃ x, w2.alloc (.cells #[] 5) = x := ⟨_, rfl⟩
       rw [hu]
       have HBu := Lib.hid (newB hu)
       have HOu : Hid (u3.ownsRow w2.heap.size 5 1 (.slice (some ⟨w2.heap.size, 0, none⟩) 0 0) 0 []) := (by unfold Hid; rw [← hu]; exact World.ownsRow_made w2 #[] 0 (Nat.le_refl _) (by decide) rfl)
       have HSu := Lib.hid (HD.out _ (HK2.out.below.trans (HBu.out.mono HK2.out.below.size)))
       have qu := (HK2.out.later HBu.out).c14
       clear hu)
    | (with_reducible refine wpAt 8 ?_
       refine wpList_append_any _ rfl (.tmp 5) (.tmp 7) _ rfl w2.heap.size 5 ib _ 1 1 Tryz.underlying25 hib hzb hsb hyb rfl (by decide) (.slice (some ⟨w2.heap.size, 0, none⟩) 0 0) 0 [] rfl HOu.out u3.heap.size d.A d.n d.c (bcells f.l) rfl HSu.out.reads (bcells_one _) (by have := HSu.out.le; have := HSu.out.cap; omega) (by rw [Nat.zero_add]; exact HSu.out.reach') HBu.out.size ?_
       intro v w3 ho hg hat
       obtain ⟨s1, rfl, hs'⟩ := app0 HSu.out ho
       have hb := HBu.out.grown hg HBu.out.size (fun k hk => by simp [Value.ownBlock] at hk; omega)
       have HN3 := Lib.hid (hs'.lo HK2.out.size)
       have HK3 := Lib.hid (HK2.out.later hb)
       clear hb hs' ho hg hat qu HBu HOu HSu)
    | (with_reducible show wpList _ _ _ (Oper.mk none (.store _ (.tmp 9) _) _ _ _ _ :: _) _ _
       refine wpList_store_mid rfl 25 (.tmp 9) (.tmp 8) rfl w.heap.size 14 (.slice s1.A s1.n s1.c) rfl rfl HK3.out.blk (news := [.slice s1.A s1.n s1.c]) rfl isz_25 (by rw [row_asize]; exact (by decide : 14 + 1 ≤ 22)) (by simp [Value.oneCell']) ?_
       intro wn4 cn hBn hxn hgn hzn
       have HK4 : Hid (KSt w f s1 a k i ⟨sA, N, sc⟩ wn4) := HK3.out.put hBn hgn (hxn.trans row_d)
       have HS1_4 := Lib.hid (HN3.out.grown hgn (by omega))
       clear hBn hxn hgn hzn)
    | (with_reducible refine wpAt 11 ?_
       obtain ⟨u5, hu⟩ : ∃ x, wn4.alloc (.cells #[] 115) = x := ⟨_, rfl⟩
       rw [hu]
       have HBu := Lib.hid (newB hu)
       have HOu : Hid (u5.ownsRow wn4.heap.size 115 3 (.slice (some ⟨wn4.heap.size, 0, none⟩) 0 0) 0 []) := (by unfold Hid; rw [← hu]; exact World.ownsRow_made wn4 #[] 0 (Nat.le_refl _) (by decide) rfl)
       have HSu := Lib.hid (HA.out _ (HK4.out.below.trans (HBu.out.mono HK4.out.below.size)))
       have qu := (HK4.out.later HBu.out).c15
       clear hu)
    | (with_reducible refine wpAt 13 ?_
       refine wpList_append_any _ rfl (.tmp 10) (.tmp 12) _ rfl wn4.heap.size 115 ia _ 3 40 Tryz.underlying26 hia hza hsa hya rfl (by decide) (.slice (some ⟨wn4.heap.size, 0, none⟩) 0 0) 0 [] rfl HOu.out u5.heap.size a.A a.n a.c (aclCells f.L) rfl HSu.out.reads (aclCells_one _) (by have := HSu.out.le; have := HSu.out.cap; omega) (by rw [Nat.zero_add]; exact HSu.out.reach') HBu.out.size ?_
       intro v w5 ho hg hat
       obtain ⟨s2, rfl, hs'⟩ := app0 HSu.out ho
       have hb := HBu.out.grown hg HBu.out.size (fun k hk => by simp [Value.ownBlock] at hk; omega)
       have HN5 := Lib.hid (hs'.lo HK4.out.size)
       have HK5 := Lib.hid (HK4.out.later hb)
       have HS1_5 := Lib.hid (HS1_4.out.later hb)
       clear hb hs' ho hg hat qu HBu HOu HSu)
    | (with_reducible show wpList _ _ _ (Oper.mk none (.store _ (.tmp 14) _) _ _ _ _ :: _) _ _
       refine wpList_store_mid rfl 26 (.tmp 14) (.tmp 13) rfl w.heap.size 15 (.slice s2.A s2.n s2.c) rfl rfl HK5.out.blk (news := [.slice s2.A s2.n s2.c]) rfl isz_26 (by rw [row_asize]; exact (by decide : 15 + 1 ≤ 22)) (by simp [Value.oneCell']) ?_
       intro wn6 cn hBn hxn hgn hzn
       have HK6 : Hid (KSt w f s1 s2 k i ⟨sA, N, sc⟩ wn6) := HK5.out.put hBn hgn (hxn.trans row_a)
       have HS1_6 := Lib.hid (HS1_5.out.grown hgn (by omega))
       have HS2_6 := Lib.hid (HN5.out.grown hgn (by omega))
       clear hBn hxn hgn hzn)
    | (with_reducible refine wpAt 16 ?_
       obtain ⟨u7, hu⟩ : ∃ x, wn6.alloc (.cells #[] 9) = x := ⟨_, rfl⟩
       rw [hu]
       have HBu := Lib.hid (newB hu)
       have HOu : Hid (u7.ownsRow wn6.heap.size 9 1 (.slice (some ⟨wn6.heap.size, 0, none⟩) 0 0) 0 []) := (by unfold Hid; rw [← hu]; exact World.ownsRow_made wn6 #[] 0 (Nat.le_refl _) (by decide) rfl)
       have HSu := Lib.hid (HK.out _ (HK6.out.below.trans (HBu.out.mono HK6.out.below.size)))
       have qu := (HK6.out.later HBu.out).c16
       clear hu)
    | (with_reducible refine wpAt 18 ?_
       refine wpList_append_any _ rfl (.tmp 15) (.tmp 17) _ rfl wn6.heap.size 9 ik _ 1 16 Tryz.underlying27 hik hzk hsk hyk rfl (by decide) (.slice (some ⟨wn6.heap.size, 0, none⟩) 0 0) 0 [] rfl HOu.out u7.heap.size k.A k.n k.c (strCells f.K) rfl HSu.out.reads (strCells_one _) (by have := HSu.out.le; have := HSu.out.cap; omega) (by rw [Nat.zero_add]; exact HSu.out.reach') HBu.out.size ?_
       intro v w7 ho hg hat
       obtain ⟨s3, rfl, hs'⟩ := app0 HSu.out ho
       have hb := HBu.out.grown hg HBu.out.size (fun k hk => by simp [Value.ownBlock] at hk; omega)
       have HN7 := Lib.hid (hs'.lo HK6.out.size)
       have HK7 := Lib.hid (HK6.out.later hb)
       have HS1_7 := Lib.hid (HS1_6.out.later hb)
       have HS2_7 := Lib.hid (HS2_6.out.later hb)
       clear hb hs' ho hg hat qu HBu HOu HSu)
    | (with_reducible show wpList _ _ _ (Oper.mk none (.store _ (.tmp 19) _) _ _ _ _ :: _) _ _
       refine wpList_store_mid rfl 27 (.tmp 19) (.tmp 18) rfl w.heap.size 16 (.slice s3.A s3.n s3.c) rfl rfl HK7.out.blk (news := [.slice s3.A s3.n s3.c]) rfl isz_27 (by rw [row_asize]; exact (by decide : 16 + 1 ≤ 22)) (by simp [Value.oneCell']) ?_
       intro wn8 cn hBn hxn hgn hzn
       have HK8 : Hid (KSt w f s1 s2 s3 i ⟨sA, N, sc⟩ wn8) := HK7.out.put hBn hgn (hxn.trans row_k)
       have HS1_8 := Lib.hid (HS1_7.out.grown hgn (by omega))
       have HS2_8 := Lib.hid (HS2_7.out.grown hgn (by omega))
       have HS3_8 := Lib.hid (HN7.out.grown hgn (by omega))
       clear hBn hxn hgn hzn)
    | (with_reducible refine wpAt 21 ?_
       obtain ⟨u9, hu⟩ : ∃ x, wn8.alloc (.cells #[] 113) = x := ⟨_, rfl⟩
       rw [hu]
       have HBu := Lib.hid (newB hu)
       have HOu : Hid (u9.ownsRow wn8.heap.size 113 2 (.slice (some ⟨wn8.heap.size, 0, none⟩) 0 0) 0 []) := (by unfold Hid; rw [← hu]; exact World.ownsRow_made wn8 #[] 0 (Nat.le_refl _) (by decide) rfl)
       have HSu := Lib.hid (HI.out _ (HK8.out.below.trans (HBu.out.mono HK8.out.below.size)))
       have qu := (HK8.out.later HBu.out).c20
       clear hu)
    | (with_reducible refine wpAt 24 ?_
       refine wpList_append_any _ rfl (.tmp 20) (.tmp 23) _ rfl wn8.heap.size 113 ii _ 2 32 Tryz.underlying28 hii hzi hsi hyi rfl (by decide) (.slice (some ⟨wn8.heap.size, 0, none⟩) 0 0) 0 [] rfl HOu.out u9.heap.size i.A i.n i.c (idCells f.I) rfl HSu.out.reads (idCells_one _) (by have := HSu.out.le; have := HSu.out.cap; omega) (by rw [Nat.zero_add]; exact HSu.out.reach') HBu.out.size ?_
       intro v w9 ho hg hat
       obtain ⟨s4, rfl, hs'⟩ := app0 HSu.out ho
       have hb := HBu.out.grown hg HBu.out.size (fun k hk => by simp [Value.ownBlock] at hk; omega)
       have HN9 := Lib.hid (hs'.lo HK8.out.size)
       have HK9 := Lib.hid (HK8.out.later hb)
       have HS1_9 := Lib.hid (HS1_8.out.later hb)
       have HS2_9 := Lib.hid (HS2_8.out.later hb)
       have HS3_9 := Lib.hid (HS3_8.out.later hb)
       clear hb hs' ho hg hat qu HBu HOu HSu)
    | (with_reducible show wpList _ _ _ (Oper.mk none (.store _ (.tmp 26) _) _ _ _ _ :: _) _ _
       refine wpList_store_mid rfl 28 (.tmp 26) (.tmp 24) rfl w.heap.size 20 (.slice s4.A s4.n s4.c) rfl rfl HK9.out.blk (news := [.slice s4.A s4.n s4.c]) rfl isz_28 (by rw [row_asize]; exact (by decide : 20 + 1 ≤ 22)) (by simp [Value.oneCell']) ?_
       intro wn10 cn hBn hxn hgn hzn
       have HK10 : Hid (KSt w f s1 s2 s3 s4 ⟨sA, N, sc⟩ wn10) := HK9.out.put hBn hgn (hxn.trans row_i)
       have HS1_10 := Lib.hid (HS1_9.out.grown hgn (by omega))
       have HS2_10 := Lib.hid (HS2_9.out.grown hgn (by omega))
       have HS3_10 := Lib.hid (HS3_9.out.grown hgn (by omega))
       have HS4_10 := Lib.hid (HN9.out.grown hgn (by omega))
       clear hBn hxn hgn hzn))
  have HC : Hid (CC w f s1 s2 s3 s4 wn10) := ⟨HS1_10.out, HS2_10.out, HS3_10.out, HS4_10.out⟩
  have HK9 := HK10
  clear HK2 HK3 HK4 HK5 HK6 HK7 HK8 HK10 HD HA HK HI HS1_4 HS1_5 HS1_6 HS1_7 HS1_8 HS1_9 HS1_10 HS2_6 HS2_7 HS2_8 HS2_9 HS2_10 HS3_8 HS3_9 HS3_10 HS4_10 HN3 HN5 HN7 HN9
  obtain ⟨u8, rfl⟩ : ∃ v, v = wn10 := ⟨_, rfl⟩
  go_wp2
  go_loopw [3, 4] (fun v3 v4 wr => ∃ (j : Nat) (A4 : Option Addr) (c4 : Nat) (R : List (ResC × List Value)), j ≤ N ∧ v3 = .slice A4 j c4 ∧ v4 = .int .i64 (j : Int) ∧ Hid (R.length = j) ∧ Hid (R.map Prod.fst = (Q.take j).map Prod.fst) ∧ Hid (FlatSt u8.heap.size (.slice A4 j c4) R wr) ∧ Hid (Below u8.heap.size u8 wr)) (fun _ v4 _ => N - (intOf v4).toNat)
  case atStart => exact ⟨0, _, _, [], by omega, rfl, rfl, rfl, rfl, FlatSt.nil u8, Below.refl _ _⟩
  case round =>
    obtain ⟨j, A4, c4, R, hj, rfl, rfl, HRL, HRM, HF, HB⟩ := hrel
    have HKw := Lib.hid (HK9.out.later HB.out)
    have q21 := HKw.out.c21
    dsimp only at q21
    by_cases hlt : j < N
    · have hjQ : j < Q.length := by rw [HSQ.out]; exact hlt
      have hrd := (HSL.out _ HKw.out.below).reads
      obtain ⟨ad, hA, hrow⟩ := rowAt hrd HQ.out hjQ HSQ.out
      dsimp only at hA
      subst hA
      have hih := HIH.out (Q[j]) (List.getElem_mem _)
      have hmx : (Q.take (j + 1)).map Prod.fst = (Q.take j).map Prod.fst ++ [(Q[j]).1] := by
        rw [List.take_succ_eq_append_getElem hjQ, List.map_append]; rfl
      obtain ⟨⟨x, xc⟩, hx⟩ : ∃ x, x = Q[j] := ⟨_, rfl⟩
      rw [← hx] at hrow hih hmx
      dsimp only at hrow hih hmx
      have HMX := Lib.hid hmx
      have HROW := Lib.hid hrow
      have HIX := Lib.hid hih
      have HOL : Hid (∀ g, (Value.slice A4 j c4).ownBlock = some g → g < wr.heap.size) := fun g hg => HF.out.lt hg
      clear hx hrow hih hmx hjQ hrd
      go_wp2_with (first
        | ((with_reducible refine wpAt 39 ?_); refine wpList_load_at (by rfl) 33 (.tmp 38) rfl (ad.add (j * 22)) rfl xc _ HROW.out.cells Tryz.underlying33 rfl HROW.out.info ?_)
        | (go_at_call 31
           refine (HIX.out _ HKw.out.below).mono ?_
           rintro e w5 ⟨rc, rfl, hrc, hb5⟩
           have HRC := Lib.hid hrc
           have HF5 := Lib.hid (HF.out.later hb5)
           have HB5 := Lib.hid (HB.out.trans (hb5.mono HF.out.bs))
           have HRS : Hid ((Value.agg rc.toArray).cells.size = 22) := (by unfold Hid; show rc.toArray.size = 22; rw [List.size_toArray, hrc.len])
           clear hb5 hrc)
        | (refine wpList_build1 rfl 31 33 (.tmp 40) rfl (.agg rc.toArray) rfl 22 Tryz.underlying31 isz_33 zer_res (by decide) HRS.out ?_
           obtain ⟨w6, hw6⟩ : ∃ w6, w5.alloc (.cells rc.toArray 33) = w6 := ⟨_, rfl⟩
           have hc6 : (Value.agg rc.toArray).cells = rc.toArray := rfl
           rw [hc6, hw6]
           have hb6 := newB hw6
           have hn6 := newK hw6
           have HF6 := Lib.hid (HF5.out.later hb6)
           have HB6 := Lib.hid (HB5.out.trans (hb6.mono HF5.out.bs))
           have HW6 : Hid (Win w6 wr.heap.size w6.heap.size x rc) := Win.new (HRC.out.later hb6)
           have HR6 : Hid (Reads w6 w6.heap.size 22 (some ⟨w5.heap.size, 0, none⟩) 1 rc) := ⟨(by rw [HRC.out.len]), fun _ => ⟨⟨w5.heap.size, 0, none⟩, rfl, hn6.lt, fun j u hj => (by rw [Go.WideShapes.add_plain, Nat.zero_add, hn6.cell]; simpa using hj)⟩⟩
           have HO6 : Hid (∀ u ∈ rc, u.oneCell' = true) := fun v hv => (by
             have := HRC.out.one
             rw [Array.all_eq_true_iff_forall_mem] at this
             exact this v (by simpa using hv))
           have HOW : Hid (w6.ownsRow u8.heap.size 33 22 (.slice A4 j c4) j (R.flatMap Prod.snd)) := (by unfold Hid; have := HF6.out.own; rwa [HRL.out] at this)
           clear hw6 hc6 hb6 hn6)
        | (with_reducible refine wpAt 42 ?_
           refine wpList_append_any _ rfl (.tmp 34) (.tmp 41) _ rfl u8.heap.size 33 io _ 22 240 Tryz.underlying31 hio hzo hso hyo rfl (by decide) (.slice A4 j c4) j (R.flatMap Prod.snd) rfl HOW.out w6.heap.size (some ⟨w5.heap.size, 0, none⟩) 1 1 rc rfl HR6.out HO6.out (by unfold maxLen; omega) (by omega) HF6.out.bs ?_
           intro v7 w7 ho hg hat
           obtain ⟨A7, c7, rfl⟩ := slice_form ho
           have HF7 : Hid (FlatSt u8.heap.size (.slice A7 (j + 1) c7) (R ++ [(x, rc)]) w7) := HF6.out.snoc (r := (x, rc)) HW6.out HF.out.bs HOL.out (by rw [HRL.out]; exact ho) hg hat
           have HB7 : Hid (Below u8.heap.size u8 w7) := HB6.out.grown hg HF6.out.bs (fun k hk => (HOW.out.lt k hk).1)
           clear ho hg hat))
      go_roundw
      case rel => exact ⟨j + 1, A7, c7, R ++ [(x, rc)], by omega, rfl, by go_num, by unfold Hid; rw [List.length_append, HRL.out]; rfl, by unfold Hid; rw [List.map_append, HRM.out, HMX.out]; rfl, HF7.out, HB7.out⟩
      case measure => simp [intOf]; omega
    · obtain rfl : j = N := by omega
      have HRQ : Hid (R.map Prod.fst = Q.map Prod.fst) := by unfold Hid; rw [HRM.out, List.take_of_length_le (by rw [HSQ.out]; exact Nat.le_refl _)]
      clear hlt hj HRM HIH HSL
      obtain ⟨s5, hs5⟩ : ∃ s : Sl, s = ⟨A4, j, c4⟩ := ⟨_, rfl⟩
      have hv5 : Value.slice A4 j c4 = .slice s5.A s5.n s5.c := by rw [hs5]
      have hfa : SlAt wr (some u8.heap.size) 33 22 240 s5 R.length (R.flatMap Prod.snd) ∧ ∀ q ∈ R, At wr (some u8.heap.size) q.1 q.2 := by
        have h1 := HF.out
        obtain rfl := HRL.out
        rw [hs5]
        exact h1.at_ HREA.out
      have HN9 := Lib.hid (hfa.1.lo HK9.out.size)
      have HE9 : Hid (∀ q ∈ R, At wr (some (w.heap.size + 2)) q.1 q.2) := fun q hq => (hfa.2 q hq).lo rfl HK9.out.size
      have HCw := Lib.hid (HC.out.later HB.out)
      rw [hv5]
      clear hv5 hs5 hfa HK9 HC HF HRL
      go_wp2_with (first
        | (with_reducible show wpList _ _ _ (Oper.mk none (.store _ (.tmp 44) _) _ _ _ _ :: _) _ _
           refine wpList_store_mid rfl 31 (.tmp 44) (.tmp 43) rfl w.heap.size 21 (.slice s5.A s5.n s5.c) rfl rfl HKw.out.blk (news := [.slice s5.A s5.n s5.c]) rfl isz_31 (by rw [row_asize]; exact (by decide : 21 + 1 ≤ 22)) (by simp [Value.oneCell']) ?_
           intro wn cn hBn hxn hgn hzn
           have HKt : Hid (KSt w f s1 s2 s3 s4 s5 wn) := HKw.out.put hBn hgn (hxn.trans row_s)
           have HCt := Lib.hid (HCw.out.grown hgn (by omega))
           have HS5t := Lib.hid (HN9.out.grown hgn (by omega))
           have HEt : Hid (∀ q ∈ R, At wn (some (w.heap.size + 2)) q.1 q.2) := fun q hq => (HE9.out q hq).grown rfl hgn (by omega)
           clear hBn hxn hgn hzn
           refine Hid.out ?_))
      have HAT : Hid (At wn (some (w.heap.size + 2)) (.mk f (Q.map Prod.fst)) (f.row s1 s2 s3 s4 s5)) := clone_end HOK.out HCt.out HS5t.out HEt.out HRQ.out
      clear HKw HCw HCt HS5t HEt HN9 HE9
      obtain ⟨zr, hz1', hz2'⟩ := HKt.out.res
      have HZR := Lib.hid hz1'
      have hzs : zr.size = 22 := hz2'
      have HINF : Hid ((Tryz.prog.info? 33).map (·.size) = some (f.row s1 s2 s3 s4 s5).toArray.size) := by unfold Hid; rw [row_asize]; exact isz_33
      have HZS : Hid (zr.size = (f.row s1 s2 s3 s4 s5).toArray.size) := by unfold Hid; rw [row_asize]; exact hzs
      clear hz1' hz2' hzs
      refine Lib.hid ?_
      go_wp2_with (first
        | (refine wpList_load_row rfl 33 (.tmp 1) rfl w.heap.size rfl 33 _ _ _ HKt.out.blk Tryz.underlying33 rfl HINF.out ?_)
        | (refine wpList_store_row rfl 33 (.tmp 2) (.tmp 45) rfl (w.heap.size + 1) _ rfl rfl 33 _ HZR.out HINF.out HZS.out row_one ?_
           generalize hww : World.setRow _ _ _ = wz
           have HGZ : Hid (wn.grownBy wz (some (w.heap.size + 1))) := (by unfold Hid; rw [← hww]; exact only_setRow' _ _ _)
           have HBZ : Hid (Blk wz (w.heap.size + 1) 33 (f.row s1 s2 s3 s4 s5).toArray) := (by unfold Hid; rw [← hww]; exact cells_setRow HZR.out)
           clear hww))
      refine bodyPost_ret (results_cell_row rfl _ _ (w.heap.size + 1) 33 _ _ _ rfl HBZ.out Tryz.underlying33 rfl HINF.out) rfl ?_
      exact ⟨_, rfl, (HAT.out.grown rfl HGZ.out (by omega)).lo rfl (by omega), HKt.out.below.grown HGZ.out (by have := HKt.out.size; omega) (fun k hk => by injection hk with hk; omega)⟩
theorem refResClone_any {w : World} {lo : Option Nat} {x : ResC} {cs : List Value} (h : At w lo x cs) : ∀ W, Below w.heap.size w W → Calls Tryz.prog 31 #[.agg cs.toArray] W (Cloned W x) := by
  induction h with
  | mk f d a k i s Q ok hd ha hk hi hs hQ ih =>
    intro W hW
    exact cloneR_walk f d a k i s Q W ok (hd.later hW) (ha.later hW) (hk.later hW) (hi.later hW) (hs.later hW) (fun q hq => (hQ q hq).later hW) (fun q hq W' hW' => ih q hq W' (hW.trans (hW'.mono hW.size))) _ rfl
end Go.Proofs.YtnbaajplelchjaaGreatDoor
