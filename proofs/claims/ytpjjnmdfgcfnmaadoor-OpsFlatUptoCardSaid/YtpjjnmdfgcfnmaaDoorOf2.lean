/- OpsFlat: the walk. -/
import Derived.Test.YtpjjnmdfgcfnmaaDoorOf1
import Derived.Test.YtpjjnmdfgcfnmaaDoorOq31
set_option linter.unusedVariables false
set_option linter.unusedSimpArgs false
namespace Go.Proofs.YtpjjnmdfgcfnmaaDoor
open Go.RowKit

theorem listed_len {R : List (OpC × List Value)} {x : OpC} (h : R.map Prod.fst = x.flatten) : R.length ≤ x.nodes := by
  have h1 : R.length = x.flatten.length := by rw [← h, List.length_map]
  have h2 := (OpC.counts_le x).1
  by_cases hr : x.rightE = 0
  · rw [flatten_len hr] at h1; omega
  · rw [flatten_no hr, List.length_nil] at h1; omega
theorem reach_of {n : Nat} (h : n ≤ 4000) : n * 296 ≤ reachBytes := by unfold reachBytes; omega
/-- the rest of a list in memory -/
theorem type_at {w0 w : World} {n : Nat} {A : Option Addr} {Q : List (OpC × List Value)} (h : Reads w w.heap.size 19 A n (Q.flatMap Prod.snd)) (hQ : ∀ q ∈ Q, At w0 none q.1 q.2) {j : Nat} (hj : j < Q.length) (hn : Q.length = n) :
    ∃ ad, A = some ad ∧ w.cell? (ad.add (j * 19)) = some (.int .i32 (Q[j]).1.f.t) := by
  obtain ⟨ad, hA, hc⟩ := subs_cells h (fun q hq => (hQ q hq).len) hj hn
  refine ⟨ad, hA, ?_⟩
  have := hc 0 _ (hQ _ (List.getElem_mem hj)).c0
  rw [show (ad.add (j * 19)).add 0 = ad.add (j * 19) from by cases ad; simp [Addr.add]] at this
  exact this
theorem wrap_at {W : World} {g : Nat} {x : OpC} {xs : List Value} (hb : Blk W g 29 xs.toArray) (ha : At W none x xs) : At W none (.mk (zF 14) [x]) ((zF 14).row nilS nilS nilS nilS nilS nilS nilS nilS ⟨some ⟨g, 0, none⟩, 1, 1⟩) := by
  have hz : ∀ e size bytes, SlAt W none e size bytes nilS 0 [] := fun e size bytes => (SlAt.zero W 0 e size bytes).any
  have := At.mk (w := W) (lo := none) (zF 14) nilS nilS nilS nilS nilS nilS nilS nilS ⟨some ⟨g, 0, none⟩, 1, 1⟩ [(x, xs)] (zF_ok rfl) (hz _ _ _) (hz _ _ _) (hz _ _ _) (hz _ _ _) (hz _ _ _) (hz _ _ _) (hz _ _ _) (hz _ _ _) ⟨fun h => (nomatch h), Nat.le_refl _, by show 1 ≤ maxLen; unfold maxLen; omega, by show 1 * 296 ≤ reachBytes; unfold reachBytes; omega, rfl, ⟨by simp [ha.len], fun _ => ⟨_, rfl, hb.lt, fun j u hu => by
    rw [Go.WideShapes.add_plain, Nat.zero_add]
    exact blk_cell hb j (by simpa using hu)⟩⟩, fun _ h => (nomatch h)⟩ (fun q hq => by
    rw [List.mem_singleton] at hq
    subst hq
    exact ha)
  exact this
set_option maxRecDepth 100000 in
set_option maxHeartbeats 16000000 in
theorem flatLaw_walk {w : World} {x : OpC} {xs : List Value} (h : At w none x xs) (E : Env w) (hb : x.bulk ≤ 1048576) :
    Calls Tryd.prog 5 #[.agg xs.toArray] w fun e w' => e = .returned (.bool true) ∧ Below w.heap.size w w' := by
  have HE := Lib.hid (fun W (h : Below w.heap.size w W) => E.below h)
  have HAT := Lib.hid (fun W (hW : Below w.heap.size w W) => h.later hW)
  have hb9 : x.bulk ≤ 1000000000 := by omega
  have HAL : Hid (∀ W, Below w.heap.size w W → Calls Tryd.prog 8 #[] W fun e w' => e = .returned (.bool true) ∧ Below W.heap.size W w') := fun W hW => alive_any W (E.below hW)
  obtain ⟨cs, hcs⟩ : ∃ cs : Array Value, cs = xs.toArray := ⟨_, rfl⟩
  obtain ⟨w1, hw1⟩ : ∃ w1, w.alloc (.cells cs 29) = w1 := ⟨_, rfl⟩
  have hb1 := newB hw1
  have hn1 : Blk w1 w.heap.size 29 cs := by rw [← hw1]; exact Blk.new _ _ _
  have HN1 := Lib.hid hn1
  have HB1 := Lib.hid hb1
  have h19 := h.len
  have HZ : Hid ((Tryd.prog.info? 29).map (·.size) = some cs.size) := by unfold Hid; rw [hcs, List.size_toArray, h19]; exact isz_29
  have HC0 : Hid (cs[0]? = some (.int .i32 x.f.t)) := by unfold Hid; rw [hcs]; simpa using h.c0
  have HBL : Hid (∀ W, Below w1.heap.size w1 W → Blk W w.heap.size 29 cs) := fun W hW => hn1.below hW hn1.lt
  have HCS := Lib.hid hcs
  have HBK := Lib.hid hb9
  have HGR : Hid (∀ W, Below w.heap.size w W → Calls Tryd.prog 9 #[.agg cs] W fun e w' => e = .returned (.bool (decide (3000 < x.cnt 0))) ∧ Below W.heap.size W w') := fun W hW => by rw [hcs]; exact great_any h W hW
  rw [← hcs]
  have hl1 : w.heap.size < w1.heap.size := hn1.lt
  by_cases hgr : 3000 < x.cnt 0
  · rw [decide_eq_true hgr] at HGR
    clear h E hb hb9 hcs hb1 hn1 h19 hgr
    go_enter Tryd.func5, Tryd.ntmps5
    go_wp2_with (first
      | (go_at_call 8
         refine (HAL.out _ HB1.out).mono ?_
         rintro e w2 ⟨rfl, hb⟩
         have HB2 := hidT HB1 hb
         have HB12 := Lib.hid (hb.mono (Nat.le_refl _))
         clear hb)
      | (with_reducible refine wpAt 14 ?_
         refine wpList_load_row rfl 29 (.tmp 1) rfl w.heap.size rfl 29 _ _ _ (HBL.out _ HB12.out) Tryd.underlying29 rfl HZ.out ?_)
      | (go_at_call 9
         refine (HGR.out _ HB2.out).mono ?_
         rintro e w3 ⟨rfl, hb⟩
         have HB3 := hidT HB2 hb
         clear hb))
    go_ret
    exact ⟨rfl, HB3.out⟩
  rw [decide_eq_false hgr] at HGR
  have hnod : x.nodes ≤ 3000 := by
    have := OpC.nodes_cnt x 0 (by omega)
    omega
  have HFL : Hid (∀ W, Below w.heap.size w W → Calls Tryd.prog 15 #[.agg cs] W (Listed W x.flatten)) := fun W hW => by rw [hcs]; exact flatten_any (h.later hW) (E.below hW) hb9 (by omega)
  have HRI : Hid (∀ W, Below w.heap.size w W → Calls Tryd.prog 11 #[.agg cs] W fun e w' => e = .returned (.int .i64 x.rightE) ∧ Below W.heap.size W w') := fun W hW => by rw [hcs]; exact right_any (h.later hW) (E.below hW) hb9
  have HCO : Hid (∀ W, Below w.heap.size w W → Calls Tryd.prog 16 #[.agg cs] W fun e w' => e = .returned (countV x) ∧ Below W.heap.size W w') := fun W hW => by rw [hcs]; exact counts_any h W (by omega) hW
  by_cases hr : x.rightE = 0
  rotate_left
  · have HF0 := Lib.hid (flatten_no hr)
    obtain ⟨re, hre⟩ : ∃ z, z = x.rightE := ⟨_, rfl⟩
    rw [← hre] at HRI hr
    have hrb : (re != 0) = true := by simpa using hr
    clear h E hb hb9 hcs hb1 hn1 h19 hgr hre hr hnod
    go_enter Tryd.func5, Tryd.ntmps5
    go_wp2_with (first
      | (go_at_call 8
         refine (HAL.out _ HB1.out).mono ?_
         rintro e w2 ⟨rfl, hb⟩
         have HB2 := hidT HB1 hb
         have HB12 := Lib.hid hb
         clear hb)
      | (with_reducible refine wpAt 14 ?_
         refine wpList_load_row rfl 29 (.tmp 1) rfl w.heap.size rfl 29 _ _ _ (HBL.out _ HB12.out) Tryd.underlying29 rfl HZ.out ?_)
      | (go_at_call 9
         refine (HGR.out _ HB2.out).mono ?_
         rintro e w3 ⟨rfl, hb⟩
         have HB3 := hidT HB2 hb
         have HB13 := hidT HB12 hb
         clear hb)
      | (with_reducible refine wpAt 16 ?_
         refine wpList_load_row rfl 29 (.tmp 1) rfl w.heap.size rfl 29 _ _ _ (HBL.out _ HB13.out) Tryd.underlying29 rfl HZ.out ?_)
      | (go_at_call 15
         refine (HFL.out _ HB3.out).mono ?_
         rintro e w4 ⟨A4, c4, R, base, rfl, hR, _, _, hb⟩
         have HB4 := hidT HB3 hb
         have HB14 := hidT HB13 hb
         rw [HF0.out] at hR
         obtain rfl : R = [] := (by simpa using hR)
         clear hb hR)
      | (with_reducible refine wpAt 18 ?_
         refine wpList_load_row rfl 29 (.tmp 1) rfl w.heap.size rfl 29 _ _ _ (HBL.out _ HB14.out) Tryd.underlying29 rfl HZ.out ?_)
      | (go_at_call 11
         refine (HRI.out _ HB4.out).mono ?_
         rintro e w5 ⟨rfl, hb⟩
         have HB5 := hidT HB4 hb
         clear hb))
    go_ret
    exact ⟨rfl, HB5.out⟩
  obtain ⟨f, S⟩ := x
  have hlen := flatten_len hr
  have hd8 := (rightE_parts hr).2.1
  have hm8 := (rightE_parts hr).2.2.2
  have hp8 := (rightE_parts hr).2.2.1
  have HRT := Lib.hid hr
  rw [hr] at HRI
  have hd0 := depth_0 (.mk f S)
  obtain ⟨pa, hpa⟩ : ∃ z, z = (OpC.mk f S).parts := ⟨_, rfl⟩
  obtain ⟨mu, hmu⟩ : ∃ z, z = (OpC.mk f S).multis := ⟨_, rfl⟩
  obtain ⟨de, hde⟩ : ∃ z, z = (OpC.mk f S).depth := ⟨_, rfl⟩
  unfold countV at HCO
  rw [← hpa, ← hmu, ← hde] at HCO
  rw [← hpa] at hlen hp8
  rw [← hmu] at hm8
  rw [← hde] at hd8 hd0
  have HMU := Lib.hid hmu
  have HDE := Lib.hid hde
  have HNOD := Lib.hid hnod
  have HKI : Hid (∀ W, Calls Tryd.prog 12 #[.int .i32 f.t] W fun e w' => e = .returned (.int .i64 (kindN f.t)) ∧ w' = W) := fun W => kind_any f.t W
  have HC0 : Hid (cs[0]? = some (.int .i32 f.t)) := HC0
  have HD0 : Hid (de = 0 ↔ f.t ≠ 14) := hd0
  obtain ⟨xt, hxt⟩ : ∃ z, z = f.t := ⟨_, rfl⟩
  have HXT := Lib.hid hxt
  rw [← hxt] at HKI HC0 HD0
  obtain ⟨kn, hkn⟩ : ∃ z, z = kindN xt := ⟨_, rfl⟩
  have HKN := Lib.hid hkn
  rw [← hkn] at HKI
  -- the operation's own cells
  obtain ⟨s, Q, hs, hQa, hQf, hc18⟩ : ∃ (s : Sl) (Q : List (OpC × List Value)), SlAt w none 29 19 296 s Q.length (Q.flatMap Prod.snd) ∧ (∀ q ∈ Q, At w none q.1 q.2) ∧ Q.map Prod.fst = S ∧ cs[18]? = some s.v := by
    cases h with
    | mk f d a k0 k1 k2 k3 k4 i s Q ok hd ha hk0 hk1 hk2 hk3 hk4 hi hs hQ => exact ⟨s, Q, hs, hQ, rfl, by rw [hcs]; rfl⟩
  have HS := Lib.hid hs
  have HQA := Lib.hid hQa
  have HQF := Lib.hid hQf
  have HC18 := Lib.hid hc18
  have HLEN := Lib.hid hlen
  have HSB : Hid (∀ y ∈ S, y.bulk ≤ 1000000000 ∧ y.nodes ≤ 1000000) := fun y hy => by
    have h1 := bulkL_mem hy
    have h2 := nodesL_mem hy
    rw [OpC.bulk] at hb
    rw [OpC.nodes] at hnod
    omega
  have HXA := Lib.hid h
  have HBM := Lib.hid hb
  clear h E hb hb9 hcs hb1 hn1 h19 hgr hr hnod hlen hpa hmu hde hd0 hxt hkn hs hQa hQf hc18
  have hsn : s.n ≤ 4611686018427387904 := HS.out.bd (by decide)
  obtain ⟨sA, N, sc⟩ := s
  dsimp only at hsn
  have HSQ : Hid (Q.length = N) := HS.out.len
  go_enter Tryd.func5, Tryd.ntmps5
  go_wp2_with (first
    | (go_at_call 8
       refine (HAL.out _ HB1.out).mono ?_
       rintro e w2 ⟨rfl, hb⟩
       have HB2 := hidT HB1 hb
       have HB12 := Lib.hid hb
       clear hb)
    | (with_reducible refine wpAt 14 ?_
       refine wpList_load_row rfl 29 (.tmp 1) rfl w.heap.size rfl 29 _ _ _ (HBL.out _ HB12.out) Tryd.underlying29 rfl HZ.out ?_)
    | (go_at_call 9
       refine (HGR.out _ HB2.out).mono ?_
       rintro e w3 ⟨rfl, hb⟩
       have HB3 := hidT HB2 hb
       have HB13 := hidT HB12 hb
       clear hb)
    | (with_reducible refine wpAt 16 ?_
       refine wpList_load_row rfl 29 (.tmp 1) rfl w.heap.size rfl 29 _ _ _ (HBL.out _ HB13.out) Tryd.underlying29 rfl HZ.out ?_)
    | (go_at_call 15
       refine (HFL.out _ HB3.out).mono ?_
       rintro e w4 ⟨A4, c4, R, base4, rfl, hR, hbs, hF, hb⟩
       have HB4 := hidT HB3 hb
       have HB14 := hidT HB13 hb
       have HR := Lib.hid hR
       have HF4 := Lib.hid hF
       have hRl : pa = R.length := (by rw [← HLEN.out, ← hR, List.length_map])
       have HRL := Lib.hid hRl
       subst hRl
       clear hb hR hbs hF HLEN)
    | (with_reducible refine wpAt 18 ?_
       refine wpList_load_row rfl 29 (.tmp 1) rfl w.heap.size rfl 29 _ _ _ (HBL.out _ HB14.out) Tryd.underlying29 rfl HZ.out ?_)
    | (go_at_call 11
       refine (HRI.out _ HB4.out).mono ?_
       rintro e w5 ⟨rfl, hb⟩
       have HB5 := hidT HB4 hb
       have HB15 := hidT HB14 hb
       have HF5 := Lib.hid (HF4.out.later hb)
       clear hb)
    | (with_reducible refine wpAt 25 ?_
       refine wpList_load_row rfl 29 (.tmp 1) rfl w.heap.size rfl 29 _ _ _ (HBL.out _ HB15.out) Tryd.underlying29 rfl HZ.out ?_)
    | (go_at_call 16
       refine (HCO.out _ HB5.out).mono ?_
       rintro e w6 ⟨rfl, hb⟩
       have HB6 := hidT HB5 hb
       have HB16 := hidT HB15 hb
       have HF6 := Lib.hid (HF5.out.later hb)
       clear hb
       refine Hid.out ?_))

  refine Lib.hid ?_
  obtain ⟨b14, hb14⟩ : ∃ b, b = (xt != 14) := ⟨_, rfl⟩
  have hxb : (xt != 14) = b14 := hb14.symm
  have hdb : ((de : Int) == 0) = b14 := by
    have h1 := HD0.out
    rw [hb14, Bool.eq_iff_iff]
    simp
    omega
  have HB14' := Lib.hid hb14
  have hd9 : ¬ (8 : Int) < (de : Int) := by omega
  have hm9 : ¬ (1024 : Int) < (mu : Int) := by omega
  have d06 := blk_cell (HBL.out _ HB16.out) 0 HC0.out
  clear hb14
  obtain ⟨i0, hi0, hz0, hzi1, hzi2⟩ := info_parts op_info
  go_wp2
  clear hdb hxb d06
  have hz6 := HF6.out.bs
  go_loopw [7, 8] (fun v7 vi wr => ∃ (k m c7 : Nat) (A7 : Option Addr) (M : List (OpC × List Value)), k ≤ N ∧ m ≤ 3000 ∧ v7 = .slice A7 m c7 ∧ vi = .int .i64 (k : Int) ∧ Hid (m = M.length) ∧ Hid (FlatSt w6.heap.size (.slice A7 m c7) M wr) ∧ Hid (M.map Prod.fst = (S.take k).flatMap OpC.flatten) ∧ Hid (M.length + nodesL (S.drop k) ≤ nodesL S) ∧ Hid (Below w6.heap.size w6 wr)) (fun _ vi _ => N - (intOf vi).toNat)
  case atStart => exact ⟨0, 0, 0, none, [], Nat.zero_le _, Nat.zero_le _, rfl, rfl, rfl, FlatSt.nil w6, rfl, (by unfold Hid; simp), Below.refl _ _⟩
  case round =>
    obtain ⟨k, m, c7, A7, M, hk, hm, rfl, rfl, HM, HFM, HMX, HMN, HBR⟩ := hrel
    have HBr := Lib.hid (HB6.out.trans (HBR.out.mono HB6.out.size))
    have HB1r := Lib.hid (HB16.out.trans (HBR.out.mono HB16.out.size))
    have d18 := blk_cell (HBL.out _ HB1r.out) 18 HC18.out
    have d0 := blk_cell (HBL.out _ HB1r.out) 0 HC0.out
    unfold Sl.v at d18
    dsimp only at d18
    by_cases hkn : k < N
    · have hkQ : k < Q.length := by rw [HSQ.out]; exact hkn
      obtain ⟨ad, hA, hrow⟩ := subs_cells ((HS.out.reads.below HBr.out).more HBr.out.size) (fun q hq => (HQA.out q hq).len) hkQ HSQ.out
      dsimp only at hA
      subst hA
      have hdrop : S.drop k = (Q[k]).1 :: S.drop (k + 1) := by
        rw [← HQF.out, List.drop_eq_getElem_cons (by simpa using hkQ)]
        simp
      have htake : S.take (k + 1) = S.take k ++ [(Q[k]).1] := by
        rw [← HQF.out, List.take_succ_eq_append_getElem (by simpa using hkQ)]
        simp
      have hmem : (Q[k]).1 ∈ S := by rw [← HQF.out]; exact List.mem_map_of_mem (List.getElem_mem _)
      have hya := (HQA.out _ (List.getElem_mem hkQ)).later HBr.out
      have hsb := HSB.out _ hmem
      obtain ⟨⟨y, yc⟩, hy⟩ : ∃ y, y = Q[k] := ⟨_, rfl⟩
      rw [← hy] at hrow hdrop htake hya hsb
      dsimp only at hrow hdrop htake hya hsb
      have HROW := Lib.hid hrow
      have ZX : Hid ((Tryd.prog.info? 29).map (·.size) = some yc.length) := by unfold Hid; rw [hya.len]; exact isz_29
      have HFY := Lib.hid (flatten_any hya (HE.out _ HBr.out) hsb.1 hsb.2)
      have HDR := Lib.hid hdrop
      have HTK := Lib.hid htake
      clear hy hrow hdrop htake hya hmem hsb hkQ d0
      go_wp2_with (first
        | (refine wpList_load_at (by rfl) 29 (.tmp 61) rfl (ad.add (k * 19)) rfl yc _ HROW.out Tryd.underlying29 rfl ZX.out ?_)
        | (go_at_call 15
           refine HFY.out.mono ?_
           rintro e w3 ⟨AY, cY, RY, baseY, rfl, hRY, hbs, hFY, hb⟩
           have HFM3 := Lib.hid (HFM.out.later hb)
           have HB3 := hidT HBR hb
           have HFY3 := Lib.hid hFY
           have HRY := Lib.hid hRY
           have HBS := Lib.hid hbs
           have hlY : M.length + RY.length ≤ 3000 := (by
             have h1 := listed_len hRY
             have h2 := HMN.out
             have h3 := HNOD.out
             rw [HDR.out, nodesL] at h2
             rw [OpC.nodes] at h3
             omega)
           have HLY := Lib.hid hlY
           have hlY' : m + RY.length ≤ 3000 := (by rw [HM.out]; exact hlY)
           have HRR : Hid (Reads w3 w3.heap.size 19 AY RY.length (RY.flatMap Prod.snd)) := Reads.of_own hFY.own
           have HON : Hid (∀ u ∈ RY.flatMap Prod.snd, u.oneCell' = true) := fun v hv => (by
             obtain ⟨r, hr, hv⟩ := List.mem_flatMap.1 hv
             have := (hFY.ats r hr).one
             rw [Array.all_eq_true_iff_forall_mem] at this
             exact this v (by simpa using hv))
           have HOW : Hid (w3.ownsRow w6.heap.size 29 19 (.slice A7 m c7) m (M.flatMap Prod.snd)) := (by unfold Hid; have := HFM3.out.own; rwa [← HM.out] at this)
           clear hb hRY hFY hbs hlY)
        | (at_builtin
           refine wpList_append_any _ rfl (.tmp 57) (.tmp 63) _ rfl w6.heap.size 29 i0 _ 19 296 Tryd.underlying27 hi0 hz0 hzi1 hzi2 rfl (by decide) (.slice A7 m c7) m (M.flatMap Prod.snd) rfl HOW.out w3.heap.size AY RY.length cY (RY.flatMap Prod.snd) rfl HRR.out HON.out (by unfold maxLen; omega) (by omega) HB3.out.size ?_
           intro v9 w9 hown9 hg9 hat9
           obtain ⟨A9, c9, rfl⟩ := slice_form hown9
           have HOW9 := Lib.hid hown9
           have HG9 := Lib.hid hg9
           have HA9 := Lib.hid hat9
           clear hown9 hg9 hat9))
      have HFC : Hid (FlatSt w6.heap.size (.slice A9 (m + RY.length) c9) (M ++ RY) w9) := by
        have h4 : w9.ownsRow w6.heap.size 29 19 (.slice A9 (m + RY.length) c9) (M.length + RY.length) (M.flatMap Prod.snd ++ RY.flatMap Prod.snd) := by have := HOW9.out; rwa [HM.out] at this ⊢
        exact HFM3.out.cat (base' := wr.heap.size) (fun r hr => by
          obtain ⟨b, e, h1, h2, _⟩ := HFY3.out.win r hr
          exact ⟨b, e, Nat.le_trans HBS.out h1, h2⟩) HBR.out.size (fun g hg => HFM.out.lt hg) h4 HG9.out HA9.out
      have HBN : Hid (Below w6.heap.size w6 w9) := HB3.out.grown HG9.out (by have := HB3.out.size; omega) (fun g hg => (HOW.out.lt g hg).1)
      go_roundw
      case rel => exact ⟨k + 1, m + RY.length, c9, A9, M ++ RY, by omega, by omega, rfl, by go_num, (by unfold Hid; rw [List.length_append, HM.out]), HFC.out, (by unfold Hid; rw [List.map_append, HMX.out, HRY.out, HTK.out, List.flatMap_append, List.flatMap_cons, List.flatMap_nil, List.append_nil]), (by
        have h2 := HMN.out
        have h1 := listed_len HRY.out
        rw [HDR.out, nodesL] at h2
        unfold Hid
        rw [List.length_append]
        omega), HBN.out⟩
      case measure => simp [intOf]; omega
    · have hkk : k = N := by omega
      subst hkk
      have HFr := Lib.hid (HF6.out.later HBR.out)
      have HMS : Hid (M.map Prod.fst = S.flatMap OpC.flatten) := by
        unfold Hid
        rw [HMX.out, List.take_of_length_le (by rw [← HQF.out, List.length_map, HSQ.out]; exact Nat.le_refl _)]
      have hMl : M.length ≤ 3000 := by rw [← HM.out]; exact hm
      clear hk HMX HMN
      by_cases h14 : xt = 14
      case' pos =>
        subst h14
        have HSL : Hid (SlAt wr none 29 19 296 ⟨A7, m, c7⟩ M.length (M.flatMap Prod.snd)) := by
          have h1 := HFM.out
          rw [HM.out] at h1
          have := h1.sl (reach_of (by omega))
          unfold Hid
          rw [HM.out]
          exact this
        obtain ⟨b, hb1, hb2⟩ := samel_any (HFr.out.sl (reach_of (by omega))) HFr.out.ats HSL.out HFM.out.ats
        obtain rfl : b = true := hb1.2 (by rw [HR.out, HMS.out]; exact flatten_14 HRT.out HXT.out.symm)
        have HSMR : Hid (Calls Tryd.prog 17 #[.slice A4 R.length c4, .slice A7 m c7] wr fun e w' => e = .returned (.bool true) ∧ Below wr.heap.size wr w') := hb2 wr (Below.refl _ _)
        clear hb1 hb2 hMl HFM HSL
        go_wp2_with (first
          | (go_at_call 17
             refine HSMR.out.mono ?_
             rintro e w7 ⟨rfl, hb⟩
             have HB7 := hidT HBr hb
             have HB17 := hidT HB1r hb
             have HF7 := Lib.hid (HFr.out.later hb)
             clear hb))
        clear d0 d18
      case' neg =>
        have h14b : (xt == 14) = false := by simpa using h14
        have h14c : ¬ xt = 14 := h14
        clear hMl h14
        go_wp2
        clear d0 d18 HFM
        obtain ⟨w7, rfl⟩ : ∃ v : World, v = wr := ⟨_, rfl⟩
        have HB7 := HBr
        have HB17 := HB1r
        have HF7 := HFr
      all_goals
        have HRX := Lib.hid (HF7.out.sl (reach_of (by omega)))
        have HRA := Lib.hid HF7.out.ats
        go_loop [9] (fun vi => ∃ k : Nat, k ≤ R.length ∧ vi = .int .i64 (k : Int)) (fun vi => R.length - (intOf vi).toNat)
        case atStart => exact ⟨0, Nat.zero_le _, rfl⟩
        case round =>
          obtain ⟨k, hk, rfl⟩ := hrel
          by_cases hkr : k < R.length
          · obtain ⟨ad, hA, hc⟩ := type_at HRX.out.reads HRA.out hkr rfl
            have ht := flatten_types (x := OpC.mk f S) (y := (R[k]).1) (by rw [← HR.out]; exact List.mem_map_of_mem (List.getElem_mem _))
            obtain ⟨t, ht'⟩ : ∃ t, t = (R[k]).1.f.t := ⟨_, rfl⟩
            rw [← ht'] at hc ht
            have htb : (t == 14) = false := by simpa using ht
            have htc : ¬ t = 14 := ht
            dsimp only at hA
            subst hA
            clear ht' ht
            go_wp2
            go_round
            case rel => exact ⟨k + 1, by omega, by go_num⟩
            case measure => simp [intOf]; omega
          · clear hk
            have HBW : Hid ((OpC.mk (zF 14) [.mk f S]).bulk ≤ 1000000000) := by
              have := HBM.out
              unfold Hid
              rw [OpC.bulk, bulkL, bulkL]
              have : (zF 14).bulk = 20 := rfl
              omega
            have HN3 : Hid ((OpC.mk (zF 14) [.mk f S]).nodes ≤ 3001) := by
              have := HNOD.out
              unfold Hid
              rw [OpC.nodes, nodesL, nodesL]
              omega
            have HNW : Hid ((OpC.mk (zF 14) [.mk f S]).nodes ≤ 1000000) := Nat.le_trans HN3.out (by omega)
            by_cases hk : kn = 3 ∨ kn = 2
            · by_cases h8 : de = 8
              · have h8b : ((de : Int) == 8) = true := by simp [h8]
                have h8c : (de : Int) = 8 := by omega
                clear h8
                rcases hk with rfl | rfl
                all_goals
                  have d0x := blk_cell (HBL.out _ HB17.out) 0 HC0.out
                  go_wp2_with (first
                    | (with_reducible refine wpAt 86 ?_
                       refine wpList_load_row rfl 29 (.tmp 1) rfl w.heap.size rfl 29 _ _ _ (HBL.out _ HB17.out) Tryd.underlying29 rfl HZ.out ?_)
                    | (refine wpList_build1 rfl 27 29 (.tmp 86) rfl (.agg cs) rfl 19 Tryd.underlying27 isz_29 zer_op (by decide) (by have h1 := HCS.out; have h2 := HXA.out.len; show cs.size = 19; rw [h1, List.size_toArray, h2]) ?_
                       obtain ⟨w8, hw8⟩ : ∃ x, w7.alloc (.cells cs 29) = x := ⟨_, rfl⟩
                       have hc8 : (Value.agg cs).cells = cs := rfl
                       rw [hc8, hw8]
                       have hb8 := newB hw8
                       have HB8 := hidT HB7 hb8
                       have HB18 := hidT HB17 hb8
                       have HF8 := Lib.hid (HF7.out.later hb8)
                       have HK8 : Hid (Blk w8 w7.heap.size 29 xs.toArray) := (by unfold Hid; rw [← hw8, ← HCS.out]; exact Blk.new _ _ _)
                       have HA8 := Lib.hid (wrap_at HK8.out (HAT.out _ HB8.out))
                       clear hw8 hc8 hb8)
                    | (with_reducible refine wpAt 10 ?_
                       refine wpList_newrow rfl rfl 29 rfl 10 rfl (.tmp 88) rfl rfl ((zF 14).row nilS nilS nilS nilS nilS nilS nilS nilS ⟨some ⟨w7.heap.size, 0, none⟩, 1, 1⟩).toArray (fun _ => rfl) (show 10 < 113 by decide) zer_op isz_29 (row_one _ _ _ _ _ _ _ _ _ _) ?_
                       obtain ⟨w9, hw9⟩ : ∃ x, w8.alloc (.cells ((zF 14).row nilS nilS nilS nilS nilS nilS nilS nilS ⟨some ⟨w7.heap.size, 0, none⟩, 1, 1⟩).toArray 29) = x := ⟨_, rfl⟩
                       rw [hw9]
                       have hb9 := newB hw9
                       have HB9 := hidT HB8 hb9
                       have HB19 := hidT HB18 hb9
                       have HF9 := Lib.hid (HF8.out.later hb9)
                       have HA9 := Lib.hid (HA8.out.later hb9)
                       have HK9 := Lib.hid (newK hw9)
                       have HR9 := Lib.hid (cellsB HK9.out)
                       have d09 := blk_cell (HBL.out _ HB19.out) 0 HC0.out
                       clear hw9 hb9)
                    | (go_at_call 12; refine (HKI.out _).mono ?_; rintro e w10 ⟨rfl, he⟩; obtain rfl := he.symm))
                  go_ret
                  exact ⟨rfl, HB9.out⟩
              have h8b : ((de : Int) == 8) = false := by simp; omega
              have h8c : ¬ (de : Int) = 8 := by omega
              by_cases h10 : mu = 1024
              · have h10b : ((mu : Int) == 1024) = true := by simp [h10]
                have h10c : (mu : Int) = 1024 := by omega
                clear h8 h10
                rcases hk with rfl | rfl
                all_goals
                  have d0x := blk_cell (HBL.out _ HB17.out) 0 HC0.out
                  go_wp2_with (first
                    | (with_reducible refine wpAt 86 ?_
                       refine wpList_load_row rfl 29 (.tmp 1) rfl w.heap.size rfl 29 _ _ _ (HBL.out _ HB17.out) Tryd.underlying29 rfl HZ.out ?_)
                    | (refine wpList_build1 rfl 27 29 (.tmp 86) rfl (.agg cs) rfl 19 Tryd.underlying27 isz_29 zer_op (by decide) (by have h1 := HCS.out; have h2 := HXA.out.len; show cs.size = 19; rw [h1, List.size_toArray, h2]) ?_
                       obtain ⟨w8, hw8⟩ : ∃ x, w7.alloc (.cells cs 29) = x := ⟨_, rfl⟩
                       have hc8 : (Value.agg cs).cells = cs := rfl
                       rw [hc8, hw8]
                       have hb8 := newB hw8
                       have HB8 := hidT HB7 hb8
                       have HB18 := hidT HB17 hb8
                       have HF8 := Lib.hid (HF7.out.later hb8)
                       have HK8 : Hid (Blk w8 w7.heap.size 29 xs.toArray) := (by unfold Hid; rw [← hw8, ← HCS.out]; exact Blk.new _ _ _)
                       have HA8 := Lib.hid (wrap_at HK8.out (HAT.out _ HB8.out))
                       clear hw8 hc8 hb8)
                    | (with_reducible refine wpAt 10 ?_
                       refine wpList_newrow rfl rfl 29 rfl 10 rfl (.tmp 88) rfl rfl ((zF 14).row nilS nilS nilS nilS nilS nilS nilS nilS ⟨some ⟨w7.heap.size, 0, none⟩, 1, 1⟩).toArray (fun _ => rfl) (show 10 < 113 by decide) zer_op isz_29 (row_one _ _ _ _ _ _ _ _ _ _) ?_
                       obtain ⟨w9, hw9⟩ : ∃ x, w8.alloc (.cells ((zF 14).row nilS nilS nilS nilS nilS nilS nilS nilS ⟨some ⟨w7.heap.size, 0, none⟩, 1, 1⟩).toArray 29) = x := ⟨_, rfl⟩
                       rw [hw9]
                       have hb9 := newB hw9
                       have HB9 := hidT HB8 hb9
                       have HB19 := hidT HB18 hb9
                       have HF9 := Lib.hid (HF8.out.later hb9)
                       have HA9 := Lib.hid (HA8.out.later hb9)
                       have HK9 := Lib.hid (newK hw9)
                       have HR9 := Lib.hid (cellsB HK9.out)
                       have d09 := blk_cell (HBL.out _ HB19.out) 0 HC0.out
                       clear hw9 hb9)
                    | (go_at_call 12; refine (HKI.out _).mono ?_; rintro e w10 ⟨rfl, he⟩; obtain rfl := he.symm))
                  go_ret
                  exact ⟨rfl, HB9.out⟩
              have h10b : ((mu : Int) == 1024) = false := by simp; omega
              have h10c : ¬ (mu : Int) = 1024 := by omega
              have HWF : Hid ((OpC.mk (zF 14) [.mk f S]).flatten = (OpC.mk f S).flatten) := wrap_flatten HRT.out (by show kindN f.t = 3 ∨ kindN f.t = 2; rw [← HXT.out, ← HKN.out]; exact hk) (by rw [← HDE.out]; exact h8) (by rw [← HMU.out]; exact h10)
              clear h8 h10
              rcases hk with rfl | rfl
              all_goals
                have d0x := blk_cell (HBL.out _ HB17.out) 0 HC0.out
                go_wp2_with (first
                  | (with_reducible refine wpAt 86 ?_
                     refine wpList_load_row rfl 29 (.tmp 1) rfl w.heap.size rfl 29 _ _ _ (HBL.out _ HB17.out) Tryd.underlying29 rfl HZ.out ?_)
                  | (refine wpList_build1 rfl 27 29 (.tmp 86) rfl (.agg cs) rfl 19 Tryd.underlying27 isz_29 zer_op (by decide) (by have h1 := HCS.out; have h2 := HXA.out.len; show cs.size = 19; rw [h1, List.size_toArray, h2]) ?_
                     obtain ⟨w8, hw8⟩ : ∃ x, w7.alloc (.cells cs 29) = x := ⟨_, rfl⟩
                     have hc8 : (Value.agg cs).cells = cs := rfl
                     rw [hc8, hw8]
                     have hb8 := newB hw8
                     have HB8 := hidT HB7 hb8
                     have HB18 := hidT HB17 hb8
                     have HF8 := Lib.hid (HF7.out.later hb8)
                     have HK8 : Hid (Blk w8 w7.heap.size 29 xs.toArray) := (by unfold Hid; rw [← hw8, ← HCS.out]; exact Blk.new _ _ _)
                     have HA8 := Lib.hid (wrap_at HK8.out (HAT.out _ HB8.out))
                     clear hw8 hc8 hb8)
                  | (with_reducible refine wpAt 10 ?_
                     refine wpList_newrow rfl rfl 29 rfl 10 rfl (.tmp 88) rfl rfl ((zF 14).row nilS nilS nilS nilS nilS nilS nilS nilS ⟨some ⟨w7.heap.size, 0, none⟩, 1, 1⟩).toArray (fun _ => rfl) (show 10 < 113 by decide) zer_op isz_29 (row_one _ _ _ _ _ _ _ _ _ _) ?_
                     obtain ⟨w9, hw9⟩ : ∃ x, w8.alloc (.cells ((zF 14).row nilS nilS nilS nilS nilS nilS nilS nilS ⟨some ⟨w7.heap.size, 0, none⟩, 1, 1⟩).toArray 29) = x := ⟨_, rfl⟩
                     rw [hw9]
                     have hb9 := newB hw9
                     have HB9 := hidT HB8 hb9
                     have HB19 := hidT HB18 hb9
                     have HF9 := Lib.hid (HF8.out.later hb9)
                     have HA9 := Lib.hid (HA8.out.later hb9)
                     have HK9 := Lib.hid (newK hw9)
                     have HR9 := Lib.hid (cellsB HK9.out)
                     have d09 := blk_cell (HBL.out _ HB19.out) 0 HC0.out
                     clear hw9 hb9)
                  | (go_at_call 12; refine (HKI.out _).mono ?_; rintro e w10 ⟨rfl, he⟩; obtain rfl := he.symm)
                  | (with_reducible refine wpAt 105 ?_
                     refine wpList_load_at (by rfl) 29 (.tmp 10) rfl ⟨w8.heap.size, 0, none⟩ rfl ((zF 14).row nilS nilS nilS nilS nilS nilS nilS nilS ⟨some ⟨w7.heap.size, 0, none⟩, 1, 1⟩) _ HR9.out Tryd.underlying29 rfl isz_29 ?_)
                  | (go_at_call 15
                     refine (flatten_any HA9.out (HE.out _ HB9.out) HBW.out HNW.out).mono ?_
                     rintro e w11 ⟨AW, cW, RW, baseW, rfl, hRW, _, hFW, hb⟩
                     have HB11 := hidT HB9 hb
                     have HF11 := Lib.hid (HF9.out.later hb)
                     have hlw : RW.length ≤ 3001 := Nat.le_trans (listed_len hRW) HN3.out
                     obtain ⟨b, hb1, hb2⟩ := samel_any (hFW.sl (reach_of (by omega))) hFW.ats (HF11.out.sl (reach_of (by omega))) HF11.out.ats
                     obtain rfl : b = true := hb1.2 (by rw [hRW, HR.out]; exact HWF.out)
                     have HSM := Lib.hid (hb2 w11 (Below.refl _ _))
                     clear hb hRW hFW hb1 hb2 hlw)
                  | (go_at_call 17
                     refine HSM.out.mono ?_
                     rintro e w12 ⟨rfl, hb⟩
                     have HB12' := hidT HB11 hb
                     clear hb))
                go_ret
                exact ⟨rfl, HB12'.out⟩
            have hk3 : (kn == 3) = false := by simp; omega
            have hk2 : (kn == 2) = false := by simp; omega
            have HWN : Hid ((OpC.mk (zF 14) [.mk f S]).rightE = 110) := wrap_no (by show ¬ (kindN f.t = 3 ∨ kindN f.t = 2); rw [← HXT.out, ← HKN.out]; exact hk)
            clear hk
            have d0x := blk_cell (HBL.out _ HB17.out) 0 HC0.out
            go_wp2_with (first
              | (with_reducible refine wpAt 86 ?_
                 refine wpList_load_row rfl 29 (.tmp 1) rfl w.heap.size rfl 29 _ _ _ (HBL.out _ HB17.out) Tryd.underlying29 rfl HZ.out ?_)
              | (refine wpList_build1 rfl 27 29 (.tmp 86) rfl (.agg cs) rfl 19 Tryd.underlying27 isz_29 zer_op (by decide) (by have h1 := HCS.out; have h2 := HXA.out.len; show cs.size = 19; rw [h1, List.size_toArray, h2]) ?_
                 obtain ⟨w8, hw8⟩ : ∃ x, w7.alloc (.cells cs 29) = x := ⟨_, rfl⟩
                 have hc8 : (Value.agg cs).cells = cs := rfl
                 rw [hc8, hw8]
                 have hb8 := newB hw8
                 have HB8 := hidT HB7 hb8
                 have HB18 := hidT HB17 hb8
                 have HF8 := Lib.hid (HF7.out.later hb8)
                 have HK8 : Hid (Blk w8 w7.heap.size 29 xs.toArray) := (by unfold Hid; rw [← hw8, ← HCS.out]; exact Blk.new _ _ _)
                 have HA8 := Lib.hid (wrap_at HK8.out (HAT.out _ HB8.out))
                 clear hw8 hc8 hb8)
              | (with_reducible refine wpAt 10 ?_
                 refine wpList_newrow rfl rfl 29 rfl 10 rfl (.tmp 88) rfl rfl ((zF 14).row nilS nilS nilS nilS nilS nilS nilS nilS ⟨some ⟨w7.heap.size, 0, none⟩, 1, 1⟩).toArray (fun _ => rfl) (show 10 < 113 by decide) zer_op isz_29 (row_one _ _ _ _ _ _ _ _ _ _) ?_
                 obtain ⟨w9, hw9⟩ : ∃ x, w8.alloc (.cells ((zF 14).row nilS nilS nilS nilS nilS nilS nilS nilS ⟨some ⟨w7.heap.size, 0, none⟩, 1, 1⟩).toArray 29) = x := ⟨_, rfl⟩
                 rw [hw9]
                 have hb9 := newB hw9
                 have HB9 := hidT HB8 hb9
                 have HB19 := hidT HB18 hb9
                 have HF9 := Lib.hid (HF8.out.later hb9)
                 have HA9 := Lib.hid (HA8.out.later hb9)
                 have HK9 := Lib.hid (newK hw9)
                 have HR9 := Lib.hid (cellsB HK9.out)
                 have d09 := blk_cell (HBL.out _ HB19.out) 0 HC0.out
                 clear hw9 hb9)
              | (go_at_call 12; refine (HKI.out _).mono ?_; rintro e w10 ⟨rfl, he⟩; obtain rfl := he.symm)
              | (with_reducible refine wpAt 110 ?_
                 refine wpList_load_row rfl 29 (.tmp 10) rfl w8.heap.size rfl 29 _ _ _ HK9.out Tryd.underlying29 rfl isz_29 ?_)
              | (go_at_call 11
                 refine (right_any HA9.out (HE.out _ HB9.out) HBW.out).mono ?_
                 rintro e w11 ⟨he, hb⟩
                 rw [HWN.out] at he
                 subst he
                 have HB11 := hidT HB9 hb
                 clear hb))
            go_ret
            exact ⟨rfl, HB11.out⟩
end Go.Proofs.YtpjjnmdfgcfnmaaDoor
