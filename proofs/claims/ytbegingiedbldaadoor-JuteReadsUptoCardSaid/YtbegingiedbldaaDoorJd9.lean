/- JuteReads: the walk; the arguments as they were read. -/
import Derived.Test.YtbegingiedbldaaDoorJd8
import Derived.Test.YtbegingiedbldaaDoorJo1
import Derived.Test.YtbegingiedbldaaDoorJl3
namespace Go.Proofs.YtbegingiedbldaaDoor
open Go.RowKit

set_option maxRecDepth 100000 in
set_option maxHeartbeats 8000000 in
theorem reads_any (A0 SA : Option Addr) (n0 c0 sn sc : Nat) (b : List UInt8) (S : List St) (w : World) (hE : Env w)
    (h0 : Reads w w.heap.size 1 A0 n0 (bcells b)) (hS : Reads w w.heap.size 4 SA sn (S.flatMap stCells)) (hn0 : n0 ≤ c0) (hz0 : A0 = none → c0 = 0) (hb : n0 ≤ 1048576) (hsn : sn ≤ 1048576) :
    Calls Tryd.prog 3 #[.slice A0 n0 c0, .slice SA sn sc] w fun e w' => e = .returned (.bool true) ∧ Below w.heap.size w w' := by
  obtain ⟨i0, hi0, hq0, hq1, hq2⟩ := info_parts u8_info
  have hl0 : b.length = n0 := by have := h0.1; rw [bcells_length] at this; omega
  have hls : S.length = sn := by have := hS.1; rw [flat_len] at this; omega
  subst hl0 hls
  have hmf : ∀ (fn : Fn) (first cap : Array Value) (w : World), (Instr.makeFunc fn first cap).run Tryd.prog w = .ok (.func fn first cap) w := fun _ _ _ _ => rfl
  have HC := Lib.hid (play_counts S b 0 (Nat.zero_le _))
  obtain ⟨G, hP⟩ : ∃ P, P = play S b 0 := ⟨_, rfl⟩
  rw [← hP] at HC
  have HPE := Lib.hid hP
  have HE := Lib.hid hE
  have H0 := Lib.hid h0
  have HS := Lib.hid hS
  clear hE h0 hS hP
  go_enter Tryd.func3, Tryd.ntmps3
  go_wp2_with (first
    | (at_builtin
       refine wpList_append_any _ rfl (.tmp 13) (.tmp 14) _ rfl w.heap.size 5 i0 _ 1 1 Tryd.underlying22 hi0 hq0 hq1 hq2 rfl (by decide) (.slice (some ⟨w.heap.size, 0, none⟩) 0 0) 0 [] rfl (World.ownsRow_made w #[] 0 (Nat.le_refl _) (by decide) rfl) w.heap.size A0 b.length c0 (bcells b) rfl (H0.out.alloc (Nat.le_refl _) _) (bcells_one _) (by simp only [maxLen]; omega) (by omega) (by simp) ?_
       intro v2 w2 ho2 hg2 hat2
       obtain ⟨A2, c2, rfl⟩ := slice_form ho2
       rw [Nat.zero_add, List.nil_append] at ho2
       rw [Nat.zero_add]
       have HO2 := Lib.hid ho2
       have hb2 : Below w.heap.size w w2 := ((Below.refl _ _).alloc (Nat.le_refl _) _).grown hg2 (by simp) (fun k hk => by simp [Value.ownBlock] at hk; omega)
       have HB2 := Lib.hid hb2
       obtain ⟨w3, hw3⟩ : ∃ w3, w2.alloc (.cells #[.slice SA S.length sc, .slice none 0 0, .slice none 0 0, .pointer none, .int .i64 0] 31) = w3 := ⟨_, rfl⟩
       have hb3 : Below w2.heap.size w2 w3 := (by rw [← hw3]; exact (Below.refl _ _).alloc (Nat.le_refl _) _)
       have HP3 : Hid (Blk w3 w2.heap.size 31 #[.slice SA S.length sc, .slice none 0 0, .slice none 0 0, .pointer none, .int .i64 0]) := (by unfold Hid; rw [← hw3]; exact Blk.new _ _ _)
       have HB23 := Lib.hid hb3
       have HB3 : Hid (Below w.heap.size w w3) := hb2.trans (hb3.mono hb2.size)
       clear ho2 hg2 hat2 hb2 hb3)
    | (go_at_call 11
       have hrd := readPlay_any A2 SA b.length c2 S.length sc w2.heap.size w.heap.size b S (.pointer none) 0 w3 (((Reads.of_own HO2.out).below HB23.out).more HB23.out.size) (own_cap HO2.out).1 (by omega) (own_cap HO2.out).2 (HE.out.below HB3.out) HP3.out (HS.out.below HB3.out) HB2.out.size (by omega) (by omega) (by omega) (fun _ ad e => by
         have := (HO2.out.lt ad.block (by rw [e]; rfl)).2
         omega) ⟨by have := HE.out.g1; have := HB2.out.size; omega, by have := HE.out.g2; have := HB2.out.size; omega⟩
       rw [← HPE.out] at hrd
       with_reducible refine hrd.mono ?_
       clear hrd
       rintro e w4 ⟨rfl, hk4, ⟨vN, vT, hp4⟩, hov4⟩
       obtain ⟨pN, dN, rfl⟩ := slice_form hp4.nums
       obtain ⟨pT, dT, rfl⟩ := slice_form hp4.txts
       have HP4 := Lib.hid hp4
       have HK4 := Lib.hid hk4
       have HV4 := Lib.hid hov4
       obtain ⟨w5, hw5⟩ : ∃ w5, w4.alloc (.cells #[.slice A0 b.length c0, .int .i64 0, .int .i64 0] 38) = w5 := ⟨_, rfl⟩
       have hb5 : Below w4.heap.size w4 w5 := (by rw [← hw5]; exact (Below.refl _ _).alloc (Nat.le_refl _) _)
       have HB4 : Hid (Below w.heap.size w w4) := HB3.out.trans (hk4.below (by simp; exact HB2.out.size) HB3.out.size)
       have HB5 : Hid (Below w.heap.size w w5) := HB4.out.trans (hb5.mono HB4.out.size)
       have HB45 := Lib.hid hb5
       have HR5 : Hid (RR w5 w.heap.size w4.heap.size A0 c0 b 0 0) := ⟨(by rw [← hw5]; exact Blk.new _ _ _), H0.out.below HB5.out, HB4.out.size, hn0, Nat.zero_le _, (by omega), hz0⟩
       clear hk4 hp4 hov4 hb5)
    | (go_at_call 13
       have hrd := reading_any w.heap.size w4.heap.size A0 SA c0 S.length sc w.heap.size b S w5 HR5.out (HS.out.below HB5.out) (Nat.le_refl _) HB5.out.size hsn hb
       rw [← HPE.out] at hrd
       with_reducible refine hrd.mono ?_
       clear hrd
       rintro e w6 ⟨aN, cN, aT, cT, rfl, hk6, hn6, ht6, hr6⟩
       have HK6 := Lib.hid hk6
       have HN6 := Lib.hid hn6
       have HT6 := Lib.hid ht6
       have HR6 := Lib.hid hr6
       clear hk6 hn6 ht6 hr6))
  obtain ⟨w7, hw7⟩ : ∃ w7, w6.alloc (.cells #[.slice aN G.1.1.length cN, .slice aT G.1.2.length cT] 28) = w7 := ⟨_, rfl⟩
  have hb7 : Below w6.heap.size w6 w7 := by rw [← hw7]; exact (Below.refl _ _).alloc (Nat.le_refl _) _
  have HGB7 : Hid (Blk w7 w6.heap.size 28 #[.slice aN G.1.1.length cN, .slice aT G.1.2.length cT]) := by unfold Hid; rw [← hw7]; exact Blk.new _ _ _
  have HB47 : Hid (Below w4.heap.size w4 w7) := (HB45.out.trans (HK6.out.below (by simp) HB45.out.size)).trans (hb7.mono (Nat.le_trans HB45.out.size HK6.out.size))
  have HB7 : Hid (Below w.heap.size w w7) := HB4.out.trans (HB47.out.mono HB4.out.size)
  have HP7 := Lib.hid (HP4.out.later HB47.out)
  have hO4 : w4.ownsRow w.heap.size 5 1 (.slice A2 b.length c2) b.length (bcells b) := own_kp (own_kp HO2.out (Kp.of_below (X := []) HB23.out) (fun _ h => by cases h)) HK4.out (fun x hx e => by have := (HO2.out.lt x e).2; simp at hx; omega)
  have HO7 := Lib.hid (own_kp hO4 (Kp.of_below (X := []) HB47.out) (fun _ h => by cases h))
  have HV7 := Lib.hid (HV4.out.below HB47.out HV4.out.lt)
  have HN7 := Lib.hid (own_kp HN6.out (Kp.of_below (X := []) hb7) (fun _ h => by cases h))
  have HT7 := Lib.hid (own_kp HT6.out (Kp.of_below (X := []) hb7) (fun _ h => by cases h))
  have HR7 := Lib.hid (HR6.out.later hb7)
  have hz23 : w2.heap.size < w3.heap.size := HP3.out.lt
  have hz34 : w3.heap.size + 1 + 1 < w4.heap.size := HV4.out.lt
  have hz45 : w4.heap.size < w5.heap.size := HR5.out.lt
  have hz56 : w5.heap.size ≤ w6.heap.size := HK6.out.size
  have hz67 : w6.heap.size < w7.heap.size := HGB7.out.lt
  have hzw4 : w.heap.size ≤ w4.heap.size := HB4.out.size
  have hcn := HC.out
  rw [hw7]
  have qAt : ∀ W, Below w7.heap.size w7 W → W.cell? ⟨w4.heap.size, 1, none⟩ = some (.int .i64 (rAt G.2)) := fun W hB0 => (HR7.out.later hB0).cells.2.1
  have qEr : ∀ W, Below w7.heap.size w7 W → W.cell? ⟨w4.heap.size, 2, none⟩ = some (.int .i64 (rE G.2)) := fun W hB0 => (HR7.out.later hB0).cells.2.2.1
  have qC : ∀ W, Below w7.heap.size w7 W → W.cell? ⟨w2.heap.size, 4, none⟩ = some (.int .i64 1) := fun W hB0 => by rw [(HP7.out.later hB0).blk.cell 4]; rfl
  have qP : ∀ W, Below w7.heap.size w7 W → W.rangeAt w2.heap.size 1 [.slice pN G.1.1.length dN, .slice pT G.1.2.length dT] := fun W hB0 j v hj => by
    have hb := (HP7.out.later hB0).blk
    match j, hj with
    | 0, hj => rw [hb.cell]; simpa using hj
    | 1, hj => rw [hb.cell]; simpa using hj
  have qG : ∀ W, Below w7.heap.size w7 W → W.rangeAt w6.heap.size 0 [.slice aN G.1.1.length cN, .slice aT G.1.2.length cT] := fun W hB0 j v hj => by
    have hb := HGB7.out.below hB0 HGB7.out.lt
    match j, hj with
    | 0, hj => rw [hb.cell]; simpa using hj
    | 1, hj => rw [hb.cell]; simpa using hj
  have nn : ∀ W, Below w7.heap.size w7 W → Calls Tryd.prog 14 #[.int .i64 (rE G.2)] W fun e w'' => e = .returned (.int .i64 (rE G.2)) ∧ Below w7.heap.size w7 w'' := fun W hB0 => to_class_same hB0 (no_any _ W)
  have lv : ∀ W, Below w7.heap.size w7 W → Calls Tryd.prog 17 #[] W fun e w'' => e = .returned (.bool true) ∧ Below w7.heap.size w7 w'' := fun W hB0 => to_class hB0 (live_any W (HE.out.below (HB7.out.trans (hB0.mono HB7.out.size))))
  have sb : ∀ W, Below w7.heap.size w7 W → Calls Tryd.prog 16 #[.slice A2 b.length c2, .slice A0 b.length c0] W fun e w'' => e = .returned (.bool true) ∧ Below w7.heap.size w7 w'' := fun W hB0 => to_class hB0 ((sameBytes_true A2 A0 b.length c2 c0 w7.heap.size w.heap.size b W ((Reads.of_own HO7.out).below hB0) (H0.out.below (HB7.out.trans (hB0.mono HB7.out.size))) (by omega)).mono fun _ _ ⟨h1, m, h2⟩ => ⟨h1, by rw [h2]; exact below_drewN' (Below.refl _ _) m⟩)
  have sm : ∀ W, Below w7.heap.size w7 W → Calls Tryd.prog 15 #[.agg #[.slice pN G.1.1.length dN, .slice pT G.1.2.length dT], .agg #[.slice aN G.1.1.length cN, .slice aT G.1.2.length cT]] W fun e w'' => e = .returned (.bool true) ∧ Below w7.heap.size w7 w'' := fun W hB0 => to_class hB0 (by
    have h2 := HP7.out.later hB0
    have h := same_true G.1.1 (G.1.2.map bs) pN aN pT aT dN cN dT cT W.heap.size W (Nat.le_refl _) (Reads.of_own h2.nums) (((Reads.of_own HN7.out).below hB0).more hB0.size) (by rw [List.length_map]; exact Reads.of_own h2.txts) (by rw [List.length_map]; exact ((Reads.of_own HT7.out).below hB0).more hB0.size) (by omega) (by rw [List.length_map]; omega)
    rwa [List.length_map] at h)
  have QA := Lib.hid qAt
  have QE := Lib.hid qEr
  have QC := Lib.hid qC
  have QP := Lib.hid qP
  have QG := Lib.hid qG
  have NN := Lib.hid nn
  have LV := Lib.hid lv
  have SB := Lib.hid sb
  have SM := Lib.hid sm
  clear qAt qEr qC qP qG nn lv sb sm hb7 hO4 hw7 HK6 HN6 HT6 HR6 HR5 HB45 HV4 HP4 HK4 HB3 HP3 HB23 HO2
  refine wp_region_past (by as_aux_lemma => kernel_rfl) (by as_aux_lemma => kernel_rfl) ?_
  repeat (first
    | go_big_quiet_skip
    | (go_big_quiet_want
       first
         | (refine quiet_load_int 3 (.tmp 35) rfl w4.heap.size 1 rfl .i64 (.int .i64 (rAt G.2)) QA.out Tryd.underlying3 ?_; simp only [Act.put, List.setIfInBounds_toArray, List.set_cons_zero, List.set_cons_succ])
         | (refine quiet_load_int 3 (.tmp 43) rfl w4.heap.size 2 rfl .i64 (.int .i64 (rE G.2)) QE.out Tryd.underlying3 ?_; simp only [Act.put, List.setIfInBounds_toArray, List.set_cons_zero, List.set_cons_succ])
         | (refine quiet_load_mid 28 (.tmp 50) rfl w2.heap.size 1 rfl [.slice pN G.1.1.length dN, .slice pT G.1.2.length dT] _ QP.out Tryd.underlying28 rfl (by as_aux_lemma => kernel_rfl) ?_; simp only [Act.put, List.setIfInBounds_toArray, List.set_cons_zero, List.set_cons_succ])
         | (refine quiet_load_mid 28 (.tmp 10) rfl w6.heap.size 0 rfl [.slice aN G.1.1.length cN, .slice aT G.1.2.length cT] _ QG.out Tryd.underlying28 rfl (by as_aux_lemma => kernel_rfl) ?_; simp only [Act.put, List.setIfInBounds_toArray, List.set_cons_zero, List.set_cons_succ])
         | (refine quiet_load_int 3 (.tmp 59) rfl w2.heap.size 4 rfl .i64 (.int .i64 1) QC.out Tryd.underlying3 ?_; simp only [Act.put, List.setIfInBounds_toArray, List.set_cons_zero, List.set_cons_succ])
         | (refine quiet_call 15 _ _ rfl (#[.agg #[.slice pN G.1.1.length dN, .slice pT G.1.2.length dT], .agg #[.slice aN G.1.1.length cN, .slice aT G.1.2.length cT]]) rfl Tryd.func15 (by as_aux_lemma => kernel_rfl) (by as_aux_lemma => kernel_rfl) (.bool true) SM.out ?_; simp only [Act.put, List.setIfInBounds_toArray, List.set_cons_zero, List.set_cons_succ])
         | (refine quiet_call 16 _ _ rfl (#[.slice A2 b.length c2, .slice A0 b.length c0]) rfl Tryd.func16 (by as_aux_lemma => kernel_rfl) (by as_aux_lemma => kernel_rfl) (.bool true) SB.out ?_; simp only [Act.put, List.setIfInBounds_toArray, List.set_cons_zero, List.set_cons_succ])
         | (refine quiet_call 17 _ _ rfl (#[]) rfl Tryd.func17 (by as_aux_lemma => kernel_rfl) (by as_aux_lemma => kernel_rfl) (.bool true) LV.out ?_; simp only [Act.put, List.setIfInBounds_toArray, List.set_cons_zero, List.set_cons_succ])
         | (refine quiet_call 14 _ _ rfl (#[.int .i64 (rE G.2)]) rfl Tryd.func14 (by as_aux_lemma => kernel_rfl) (by as_aux_lemma => kernel_rfl) (.int .i64 (rE G.2)) NN.out ?_; simp only [Act.put, List.setIfInBounds_toArray, List.set_cons_zero, List.set_cons_succ])
         | go_big_quiet_op
       go_big_quiet_on))
  refine wpQuiet_nil ?_
  rintro ⟨w8, hb8⟩
  dsimp only
  have hz78 : w7.heap.size ≤ w8.heap.size := hb8.size
  have HB78 := Lib.hid hb8
  have HB8 : Hid (Below w.heap.size w w8) := HB7.out.trans (hb8.mono HB7.out.size)
  obtain ⟨w9, hw9⟩ : ∃ w9, w8.alloc (.cells #[.slice SA S.length sc, .slice none 0 0, .slice none 0 0, .pointer none, .int .i64 0] 31) = w9 := ⟨_, rfl⟩
  have hb9 : Below w8.heap.size w8 w9 := by rw [← hw9]; exact (Below.refl _ _).alloc (Nat.le_refl _) _
  have HP9 : Hid (Blk w9 w8.heap.size 31 #[.slice SA S.length sc, .slice none 0 0, .slice none 0 0, .pointer none, .int .i64 0]) := by unfold Hid; rw [← hw9]; exact Blk.new _ _ _
  have HB79 : Hid (Below w7.heap.size w7 w9) := hb8.trans (hb9.mono hb8.size)
  have HB9 : Hid (Below w.heap.size w w9) := HB7.out.trans (HB79.out.mono HB7.out.size)
  have hz89 : w8.heap.size < w9.heap.size := HP9.out.lt
  clear hb8 hb9 QA QE QC QP QG NN LV SB SM
  go_wp2_with (first
    | (go_at_call 18
       have hrd := allPlay_any A2 SA b.length c2 S.length sc w8.heap.size w.heap.size b S (.pointer none) 0 w9 (((Reads.of_own HO7.out).below HB79.out).more HB79.out.size) (own_cap HO7.out).1 (by omega) (own_cap HO7.out).2 (HE.out.below HB9.out) HP9.out (HS.out.below HB9.out) HB8.out.size (by omega) (by omega) (by omega) (fun _ ad e => by
         have := (HO7.out.lt ad.block (by rw [e]; rfl)).2
         omega) ⟨by have := HE.out.g1; have := HB8.out.size; omega, by have := HE.out.g2; have := HB8.out.size; omega⟩
       rw [← HPE.out] at hrd
       with_reducible refine hrd.mono ?_
       clear hrd
       rintro e w10 ⟨rfl, hk10, vN10, vT10, hp10⟩
       obtain ⟨rN, eN, rfl⟩ := slice_form hp10.nums
       obtain ⟨rT, eT, rfl⟩ := slice_form hp10.txts
       have HP10 := Lib.hid hp10
       have HK10 := Lib.hid hk10
       have HR10 := Lib.hid ((HR7.out.later HB79.out).kp hk10 (by simp; omega) (by simp; exact HB8.out.size))
       clear hk10 hp10)
    | (go_at_call 19
       have hrd := dEnd w.heap.size w4.heap.size A0 c0 b (rAt G.2) w10 (rE G.2) HR10.out
       rw [show (if rE G.2 = 0 ∧ rAt G.2 < b.length then 21 else rE G.2) = rAllE b G.2 from rfl] at hrd
       with_reducible refine hrd.mono ?_
       clear hrd
       rintro e w11 ⟨rfl, hk11, hr11⟩
       have HK11 := Lib.hid hk11
       have HR11 := Lib.hid hr11
       clear hk11 hr11))
  have hz910 : w9.heap.size ≤ w10.heap.size := HK10.out.size
  have hk911 : Kp [w8.heap.size, w4.heap.size] w9 w11 := HK10.out.to HK11.out (fun x hx _ => by simp at hx; simp [hx]) (fun x hx _ => by simp at hx; simp [hx])
  have HB11 : Hid (Below w.heap.size w w11) := HB9.out.trans (hk911.below (fun x hx => by have := HB8.out.size; simp at hx; omega) HB9.out.size)
  have HP11 : Hid (PlaySt w11 w9.heap.size w8.heap.size (.slice SA S.length sc) (.slice rN G.1.1.length eN) (.slice rT G.1.2.length eT) G.1.1 G.1.2 (.pointer (some ⟨w9.heap.size + 1 + 1, 0, none⟩)) (0 + 1)) :=
    ⟨HP10.out.blk.kp HK11.out (by simp; omega), own_kp HP10.out.nums HK11.out (fun x hx e => by have := (HP10.out.nums.lt x e).1; simp at hx; omega), own_kp HP10.out.txts HK11.out (fun x hx e => by have := (HP10.out.txts.lt x e).1; simp at hx; omega)⟩
  have HN11 := Lib.hid (own_kp (own_kp HN7.out (Kp.of_below (X := []) HB79.out) (fun _ h => by cases h)) hk911 (fun x hx e => by have := HN7.out.lt x e; simp at hx; omega))
  have HT11 := Lib.hid (own_kp (own_kp HT7.out (Kp.of_below (X := []) HB79.out) (fun _ h => by cases h)) hk911 (fun x hx e => by have := HT7.out.lt x e; simp at hx; omega))
  have HG11 := Lib.hid ((HGB7.out.below HB79.out HGB7.out.lt).kp hk911 (by simp; omega))
  have HV11 := Lib.hid ((HV7.out.below HB79.out (by omega)).kp hk911 (by simp; omega))
  have HQ11 := Lib.hid ((HP7.out.blk.below HB79.out HP7.out.blk.lt).kp hk911 (by simp; omega))
  have qAt : ∀ W, Below w11.heap.size w11 W → W.cell? ⟨w4.heap.size, 1, none⟩ = some (.int .i64 (rAt G.2)) := fun W hB0 => (HR11.out.later hB0).cells.2.1
  have qEr : ∀ W, Below w11.heap.size w11 W → W.cell? ⟨w4.heap.size, 2, none⟩ = some (.int .i64 (rAllE b G.2)) := fun W hB0 => (HR11.out.later hB0).cells.2.2.1
  have qP : ∀ W, Below w11.heap.size w11 W → W.rangeAt w8.heap.size 1 [.slice rN G.1.1.length eN, .slice rT G.1.2.length eT] := fun W hB0 j v hj => by
    have hb := (HP11.out.later hB0).blk
    match j, hj with
    | 0, hj => rw [hb.cell]; simpa using hj
    | 1, hj => rw [hb.cell]; simpa using hj
  have qG : ∀ W, Below w11.heap.size w11 W → W.rangeAt w6.heap.size 0 [.slice aN G.1.1.length cN, .slice aT G.1.2.length cT] := fun W hB0 j v hj => by
    have hb := HG11.out.below hB0 HG11.out.lt
    match j, hj with
    | 0, hj => rw [hb.cell]; simpa using hj
    | 1, hj => rw [hb.cell]; simpa using hj
  have nn : ∀ W, Below w11.heap.size w11 W → Calls Tryd.prog 14 #[.int .i64 (rAllE b G.2)] W fun e w'' => e = .returned (.int .i64 (rAllE b G.2)) ∧ Below w11.heap.size w11 w'' := fun W hB0 => to_class_same hB0 (no_any _ W)
  have sm : ∀ W, Below w11.heap.size w11 W → Calls Tryd.prog 15 #[.agg #[.slice rN G.1.1.length eN, .slice rT G.1.2.length eT], .agg #[.slice aN G.1.1.length cN, .slice aT G.1.2.length cT]] W fun e w'' => e = .returned (.bool true) ∧ Below w11.heap.size w11 w'' := fun W hB0 => to_class hB0 (by
    have h2 := HP11.out.later hB0
    have h := same_true G.1.1 (G.1.2.map bs) rN aN rT aT eN cN eT cT W.heap.size W (Nat.le_refl _) (Reads.of_own h2.nums) (((Reads.of_own HN11.out).below hB0).more hB0.size) (by rw [List.length_map]; exact Reads.of_own h2.txts) (by rw [List.length_map]; exact ((Reads.of_own HT11.out).below hB0).more hB0.size) (by omega) (by rw [List.length_map]; omega)
    rwa [List.length_map] at h)
  have QA := Lib.hid qAt
  have QE := Lib.hid qEr
  have QP := Lib.hid qP
  have QG := Lib.hid qG
  have NN := Lib.hid nn
  have SM := Lib.hid sm
  clear qAt qEr qP qG nn sm hk911
  refine wp_region_past (by as_aux_lemma => kernel_rfl) (by as_aux_lemma => kernel_rfl) ?_
  repeat (first
    | go_big_quiet_skip
    | (go_big_quiet_want
       first
         | (refine quiet_load_int 3 (.tmp 88) rfl w4.heap.size 1 rfl .i64 (.int .i64 (rAt G.2)) QA.out Tryd.underlying3 ?_; simp only [Act.put, List.setIfInBounds_toArray, List.set_cons_zero, List.set_cons_succ])
         | (refine quiet_load_int 3 (.tmp 96) rfl w4.heap.size 2 rfl .i64 (.int .i64 (rAllE b G.2)) QE.out Tryd.underlying3 ?_; simp only [Act.put, List.setIfInBounds_toArray, List.set_cons_zero, List.set_cons_succ])
         | (refine quiet_load_mid 28 (.tmp 103) rfl w8.heap.size 1 rfl [.slice rN G.1.1.length eN, .slice rT G.1.2.length eT] _ QP.out Tryd.underlying28 rfl (by as_aux_lemma => kernel_rfl) ?_; simp only [Act.put, List.setIfInBounds_toArray, List.set_cons_zero, List.set_cons_succ])
         | (refine quiet_load_mid 28 (.tmp 10) rfl w6.heap.size 0 rfl [.slice aN G.1.1.length cN, .slice aT G.1.2.length cT] _ QG.out Tryd.underlying28 rfl (by as_aux_lemma => kernel_rfl) ?_; simp only [Act.put, List.setIfInBounds_toArray, List.set_cons_zero, List.set_cons_succ])
         | (refine quiet_call 15 _ _ rfl (#[.agg #[.slice rN G.1.1.length eN, .slice rT G.1.2.length eT], .agg #[.slice aN G.1.1.length cN, .slice aT G.1.2.length cT]]) rfl Tryd.func15 (by as_aux_lemma => kernel_rfl) (by as_aux_lemma => kernel_rfl) (.bool true) SM.out ?_; simp only [Act.put, List.setIfInBounds_toArray, List.set_cons_zero, List.set_cons_succ])
         | (refine quiet_call 14 _ _ rfl (#[.int .i64 (rAllE b G.2)]) rfl Tryd.func14 (by as_aux_lemma => kernel_rfl) (by as_aux_lemma => kernel_rfl) (.int .i64 (rAllE b G.2)) NN.out ?_; simp only [Act.put, List.setIfInBounds_toArray, List.set_cons_zero, List.set_cons_succ])
         | go_big_quiet_op
       go_big_quiet_on))
  refine wpQuiet_nil ?_
  rintro ⟨w12, hb12⟩
  dsimp only
  have HB12 : Hid (Below w.heap.size w w12) := HB11.out.trans (hb12.mono HB11.out.size)
  have hv12 := HV11.out.below hb12 HV11.out.lt
  have hq12 := HQ11.out.below hb12 HQ11.out.lt
  have v2 : w12.cell? ⟨w3.heap.size + 1 + 1, 2, none⟩ = some (.bool true) := by rw [hv12.cell 2]; rfl
  have v3 : w12.cell? ⟨w2.heap.size, 3, none⟩ = some (.pointer (some ⟨w3.heap.size + 1 + 1, 0, none⟩)) := by rw [hq12.cell 3]; rfl
  have HO := Lib.hid (off_over (w3.heap.size + 1 + 1) w12 v2)
  clear hb12 hv12 hq12 v2 QA QE QP QG NN SM
  go_wp2_with (first
    | (go_at_call 20; (with_reducible refine (oBool _ _ HO.out).mono ?_); rintro e wn ⟨rfl, rfl⟩)
    | (go_at_call 21; (with_reducible refine (oByte _ _ HO.out).mono ?_); rintro e wn ⟨rfl, rfl⟩)
    | (go_at_call 22; (with_reducible refine (oInt _ _ HO.out).mono ?_); rintro e wn ⟨rfl, rfl⟩)
    | (go_at_call 23; (with_reducible refine (oLong _ _ HO.out).mono ?_); rintro e wn ⟨rfl, rfl⟩)
    | (go_at_call 24; (with_reducible refine (oBuffer _ _ _ HO.out).mono ?_); rintro e wn ⟨rfl, rfl⟩)
    | (go_at_call 25; (with_reducible refine (oText _ _ _ HO.out).mono ?_); rintro e wn ⟨rfl, rfl⟩)
    | (go_at_call 26; (with_reducible refine (oCount _ _ _ _ HO.out).mono ?_); rintro e wn ⟨rfl, rfl⟩)
    | (go_at_call 27; (with_reducible refine (oLeft _ _ HO.out).mono ?_); rintro e wn ⟨rfl, rfl⟩))
  go_ret
  exact ⟨rfl, HB12.out⟩
end Go.Proofs.YtbegingiedbldaaDoor

namespace Go.Proofs.YtbegingiedbldaaDoor
open Go.ChangeShapes Go.WideShapes Go.ChangeAt Go.RowKit

set_option maxRecDepth 100000 in
theorem juteReads_walk {H : Type} (enc : TypeId × Value → H) (base : Nat) (W : World) (v0 : Value) (d0 : DataW H) (p0 : List MemPlace) (hv0 : Value.okWide Tryd.prog W .any base 22 v0) (h0 : DataW.Trod enc Tryd.prog W 0 (fun _ => true) true 22 v0 d0 p0)
    (v1 : Value) (d1 : DataW H) (p1 : List MemPlace) (hv1 : Value.okWide Tryd.prog W .any base 23 v1) (h1 : DataW.Trod enc Tryd.prog W 0 (fun _ => true) true 23 v1 d1 p1)
    (hsz : (DataW.weightsEach Tryd.prog ([22, 23] : List TypeId) ([d0, d1] : List (DataW H))).all (· ≤ reachBytes) = true)
    (hk : Rows.uptoBulkAll ([d0, d1] : List (DataW H)) ≤ 1048576) (hlaid : laidMetH Tryd.prog Rows.juteReadsUptoRow.laid W) :
    Calls Tryd.prog 3 #[v0, v1] W fun e W' => e = .returned (.bool true) ∧ Below W.heap.size W W' := by
  obtain ⟨A0, n0, c0, l, e0, z0, g0, l0, r0, b0⟩ := bytes_open (rdu_of 0 h0 hsz rfl rfl hk)
  obtain ⟨A1, n1, c1, S, e1, l1, _, r1, b1⟩ := script_open (rdu_of 1 h1 hsz rfl rfl hk)
  rw [cells_slice Tryd.underlying22 hv0 e0, cells_slice Tryd.underlying23 hv1 e1]
  exact reads_any A0 A1 n0 c0 n1 c1 l S W (env_of hlaid (by kernel_rfl) (by first | (exact List.mem_cons_self ..) | (exact List.mem_cons_of_mem _ (List.mem_cons_self ..)) | decide) (by first | (exact List.mem_cons_self ..) | (exact List.mem_cons_of_mem _ (List.mem_cons_self ..)) | decide)) r0 r1 g0 (fun h => (z0 h).2) (by omega) (by omega)
end Go.Proofs.YtbegingiedbldaaDoor
