/- OpsBack: the walk. (printed by gen_l2.py) -/
import Derived.Test.YtpjjnmdfgcfnmaaDoorOl1
import Derived.Test.YtpjjnmdfgcfnmaaDoorOq5
set_option linter.unusedVariables false
set_option linter.unusedSimpArgs false
namespace Go.Proofs.YtpjjnmdfgcfnmaaDoor
open Go.RowKit

/-- what a row of a request is good for -/
structure ReqFit (cq : Array Value) (cs : List Value) : Prop where
  size : 20 = cq.size
  zero : ((Tryd.prog.info? 31).bind (·.zero)).map (·.cells.size) = some cq.size
  info : (Tryd.prog.info? 31).map (·.size) = some cq.size
  one : cq.all (·.oneCell') = true
  op : (Tryd.prog.info? 29).map (·.size) = some cs.length
theorem ReqFit.mk' {w : World} {lo : Option Nat} {z : Int} {x : OpC} {cs : List Value} {cq : Array Value} (hcq : cq = (Value.int .i32 z :: cs).toArray) (hat : At w lo x cs) : ReqFit cq cs := by
  have hsz : 20 = cq.size := by rw [hcq, List.size_toArray, List.length_cons, hat.len]
  refine ⟨hsz, by rw [← hsz]; kernel_rfl, by rw [← hsz]; exact req_size, ?_, by rw [hat.len]; exact isz_29⟩
  have := hat.one
  rw [Array.all_eq_true_iff_forall_mem] at this ⊢
  intro v hv
  rw [hcq] at hv
  rcases List.mem_cons.1 (by simpa using hv) with rfl | hv
  · rfl
  · exact this v (by simpa using hv)
theorem dec_case {l : List UInt8} {w w' : World} {e : Ending} (h : Decoded l w e w') : Below w.heap.size w w' ∧ ((∃ q E, decO l = .inl (q, E) ∧ E ≠ 0 ∧ (0 ≤ q ∧ q ≤ l.length) ∧ e = .returned (.tuple #[.agg zReq.toArray, .int .i64 q, .int .i64 E])) ∨
    (∃ z x cs, decO l = .inr (z, x) ∧ e = .returned (.tuple #[.agg (Value.int .i32 z :: cs).toArray, .int .i64 0, .int .i64 0]) ∧ At w' (some w.heap.size) x cs)) := by
  obtain ⟨h1, h2⟩ := h
  refine ⟨h1, ?_⟩
  rcases hd : decO l with ⟨q, E⟩ | ⟨z, x⟩
  · rw [hd] at h2
    exact .inl ⟨q, E, rfl, h2.1, h2.2.1, h2.2.2⟩
  · rw [hd] at h2
    obtain ⟨cs, h3, h4⟩ := h2
    exact .inr ⟨z, x, cs, rfl, h3, h4⟩
theorem same_true {w : World} {lo lo' : Option Nat} {x y : OpC} {cs ds : List Value} (hx : At w lo x cs) (hy : At w lo' y ds) (e : x = y) : ∀ W, Below w.heap.size w W → Calls Tryd.prog 14 #[.agg cs.toArray, .agg ds.toArray] W fun e w' => e = .returned (.bool true) ∧ Below W.heap.size W w' := by
  obtain ⟨b, h1, h2⟩ := same_any hx hy
  obtain rfl : b = true := h1.2 e
  exact h2

set_option maxRecDepth 100000 in
set_option maxHeartbeats 32000000 in
theorem backLaw_walk {w : World} {z : Int} {x : OpC} {xs : List Value} (hz : (Lit.int .i32 z).wf = true) (h : At w none x xs) (hb : x.bulk ≤ 1048576) {A : Option Addr} {n c : Nat} {l : List UInt8} (hr : Reads w w.heap.size 1 A n (bcells l)) (hnc : n ≤ c) (hl : l.length = n) (hlb : l.length ≤ 1048576) (hnil : A = none → c = 0) (E : Env w) :
    Calls Tryd.prog 3 #[.agg (Value.int .i32 z :: xs).toArray, .slice A n c] w fun e w' => e = .returned (.bool true) ∧ Below w.heap.size w w' := by
  have HE := Lib.hid (fun W (h : Below w.heap.size w W) => E.below h)
  have HAT := Lib.hid (fun W (hW : Below w.heap.size w W) => h.later hW)
  have hb9 : x.bulk ≤ 1000000000 := by omega
  have HBK := Lib.hid hb9
  have HAL : Hid (∀ W, Below w.heap.size w W → Calls Tryd.prog 8 #[] W fun e w' => e = .returned (.bool true) ∧ Below W.heap.size W w') := fun W hW => alive_any W (E.below hW)
  obtain ⟨cs, hcs⟩ : ∃ cs : Array Value, cs = (Value.int .i32 z :: xs).toArray := ⟨_, rfl⟩
  have HF0 := Lib.hid (ReqFit.mk' hcs h)
  rw [← hcs]
  obtain ⟨w1, hw1⟩ : ∃ w1, w.alloc (.cells cs 31) = w1 := ⟨_, rfl⟩
  have hb1 := newB hw1
  have hn1 : Blk w1 w.heap.size 31 cs := by rw [← hw1]; exact Blk.new _ _ _
  have HB1 := Lib.hid hb1
  have HQ : Hid (∀ W, Below w1.heap.size w1 W → Blk W w.heap.size 31 cs) := fun W hW => hn1.below hW hn1.lt
  have HQR : Hid (∀ W, Below w1.heap.size w1 W → ReqRow W w.heap.size z x xs) := fun W hW => ReqRow.mk' (by rw [← hcs]; exact hn1.below hW hn1.lt) h
  have HGR : Hid (∀ W, Below w.heap.size w W → Calls Tryd.prog 9 #[.agg xs.toArray] W fun e w' => e = .returned (.bool (decide (3000 < x.cnt 0))) ∧ Below W.heap.size W w') := fun W hW => great_any h W hW
  have HEN : Hid (∀ W, Below w.heap.size w W → Calls Tryd.prog 10 #[.agg cs] W (Encoded W z x)) := fun W hW => by rw [hcs]; exact encode_any z (h.later hW) (E.below hW) hb9
  have HRI : Hid (∀ W, Below w.heap.size w W → Calls Tryd.prog 11 #[.agg xs.toArray] W fun e w' => e = .returned (.int .i64 x.rightE) ∧ Below W.heap.size W w') := fun W hW => right_any (h.later hW) (E.below hW) hb9
  have HKI : Hid (∀ W, Calls Tryd.prog 12 #[.int .i32 x.f.t] W fun e w' => e = .returned (.int .i64 (kindN x.f.t)) ∧ w' = W) := fun W => kind_any x.f.t W
  have HDB : Hid (∀ W, Below w.heap.size w W → Calls Tryd.prog 13 #[.slice A n c] W fun e w' => Decoded l W e w') := fun W hW => opDecode_any c n A l W ((hr.below hW).more hW.size) hnc (by omega) hnil (E.below hW)
  have HL : Hid (∀ W, Below w.heap.size w W → (convert 22 9 (.slice A n c)).run Tryd.prog W = .ok (.string ⟨l.toArray⟩) W) := fun W hW => by
    exact run_string_of_bytes Tryd.underlying22 Tryd.underlying5 (hr.below hW) 9 Tryd.underlying9
  have HXA := Lib.hid h
  have HWZ := Lib.hid hz
  have HLL := Lib.hid hl
  have HLB := Lib.hid hlb
  have hl1 : w.heap.size < w1.heap.size := hn1.lt
  by_cases hgr : 3000 < x.cnt 0
  · rw [decide_eq_true hgr] at HGR
    clear h E hb hb9 hcs hb1 hn1 hgr hr hnc hl hlb hnil hz
    go_enter Tryd.func3, Tryd.ntmps3
    go_wp2_with (first
      | (go_at_call 8
         refine (HAL.out _ HB1.out).mono ?_
         rintro e w2 ⟨rfl, hb⟩
         have HB2 := hidT HB1 hb
         have HB12 := Lib.hid hb
         clear hb)
      | (with_reducible refine wpAt 18 ?_
         refine wpList_load_at (by rfl) 29 (.tmp 17) rfl ⟨w.heap.size, 1, none⟩ rfl xs _ (HQR.out _ HB12.out).row Tryd.underlying29 rfl HF0.out.op ?_)
      | (go_at_call 9
         refine (HGR.out _ HB2.out).mono ?_
         rintro e w3 ⟨rfl, hb⟩
         have HB3 := hidT HB2 hb
         clear hb))
    go_ret
    exact ⟨rfl, HB3.out⟩
  rw [decide_eq_false hgr] at HGR
  obtain ⟨xt, hxt⟩ : ∃ t, t = x.f.t := ⟨_, rfl⟩
  rw [← hxt] at HKI
  have HXT := Lib.hid hxt
  have HCT : Hid (∀ W, Below w1.heap.size w1 W → W.cell? ⟨w.heap.size, 1, none⟩ = some (.int .i32 xt)) := fun W hW => by rw [hxt]; exact (HQR.out W hW).ct HXA.out
  obtain ⟨re, hre⟩ : ∃ r, r = x.rightE := ⟨_, rfl⟩
  obtain ⟨kn, hkn⟩ : ∃ k, k = kindN xt := ⟨_, rfl⟩
  have HRE := Lib.hid hre
  have HKN := Lib.hid hkn
  rw [← hre] at HRI
  rw [← hkn] at HKI
  by_cases he0 : x.encE = 0
  rotate_left
  · have hrk : ¬ (re = 0 ∧ ¬ kn = 5) := fun hh => he0 (by
      unfold OpC.encE
      rw [← HRE.out, hh.1, if_neg (by simp), ← HXT.out, ← HKN.out, if_neg hh.2])
    obtain ⟨en, hen⟩ : ∃ v, v = x.encE := ⟨_, rfl⟩
    have HENV := Lib.hid hen
    rw [← hen] at he0
    have HEZ := Lib.hid he0
    have heb : (en == 0) = false := by simpa using he0
    have hec : ¬ en = 0 := he0
    clear h E hb hb9 hcs hb1 hn1 hgr hr hnc hl hlb hnil hz hen he0 hxt hre hkn
    by_cases hr0 : re = 0
    · subst hr0
      have hk5 : kn = 5 := by
        by_cases hk : kn = 5
        · exact hk
        · exact absurd ⟨rfl, hk⟩ hrk
      subst hk5
      clear hrk
      go_enter Tryd.func3, Tryd.ntmps3
      go_wp2_with (first
        | (go_at_call 8
           refine (HAL.out _ HB1.out).mono ?_
           rintro e w2 ⟨rfl, hb⟩
           have HB2 := hidT HB1 hb
           have HB12 := Lib.hid hb
           clear hb)
        | (with_reducible refine wpAt 18 ?_
           refine wpList_load_at (by rfl) 29 (.tmp 17) rfl ⟨w.heap.size, 1, none⟩ rfl xs _ (HQR.out _ HB12.out).row Tryd.underlying29 rfl HF0.out.op ?_)
        | (go_at_call 9
           refine (HGR.out _ HB2.out).mono ?_
           rintro e w3 ⟨rfl, hb⟩
           have HB3 := hidT HB2 hb
           have HB13 := hidT HB12 hb
           clear hb)
        | (with_reducible refine wpAt 21 ?_
           refine wpList_load_row rfl 31 (.tmp 2) rfl w.heap.size rfl 31 _ _ _ (HQ.out _ HB13.out) Tryd.underlying31 rfl HF0.out.info ?_)
        | (go_at_call 10
           refine (HEN.out _ HB3.out).mono ?_
           rintro e w4 he
           obtain ⟨hb, ⟨_, rfl⟩ | ⟨hne, _⟩⟩ := he
           rotate_left
           · exact absurd (HENV.out.trans hne) HEZ.out
           rw [← HENV.out]
           have HB4 := hidT HB3 hb
           have HB14 := hidT HB13 hb
           clear hb)
        | (with_reducible refine wpAt 26 ?_
           refine wpList_load_at (by rfl) 29 (.tmp 25) rfl ⟨w.heap.size, 1, none⟩ rfl xs _ (HQR.out _ HB14.out).row Tryd.underlying29 rfl HF0.out.op ?_)
        | (go_at_call 11
           refine (HRI.out _ HB4.out).mono ?_
           rintro e w5 ⟨rfl, hb⟩
           have HB5 := hidT HB4 hb
           have HB15 := hidT HB14 hb
           have d1 := HCT.out _ HB15.out
           clear hb)
        | (go_at_call 12; refine (HKI.out _).mono ?_; rintro e w6 ⟨rfl, he⟩; obtain rfl := he.symm; clear d1)
        | (go_at_call 13
           refine (HDB.out _ HB5.out).mono ?_
           rintro e w10 hd
           obtain ⟨hb10, ⟨q, E, hde, hE, hqb, rfl⟩ | ⟨z', y, ys, hde, rfl, hy⟩⟩ := dec_case hd
           all_goals
             have HB10 := hidT HB5 hb10
             have HDE := Lib.hid hde
             clear hb10 hd hde
             refine Hid.out ?_))
      · have HQB := Lib.hid hqb
        have HNE := Lib.hid hE
        have hEb : (E != 0) = true := by simpa using hE
        have hEc : ¬ E = 0 := hE
        have hq0 : 0 ≤ q := hqb.1
        have hqn : q ≤ (n : Int) := by have := hqb.2; rw [HLL.out] at this; exact this
        clear hE hqb
        refine Lib.hid ?_
        go_wp2_with (first
          | (with_reducible refine wpAt 11 ?_
             refine wpList_newrow rfl rfl 31 rfl 11 rfl (.tmp 71) rfl rfl #[.int .i32 0, .int .i32 0, .string ⟨#[]⟩, .slice none 0 0, .slice none 0 0, .int .i32 0, .int .i32 0, .bool false, .int .i64 0, .int .i64 0, .int .i64 0, .int .i64 0, .slice none 0 0, .slice none 0 0, .slice none 0 0, .slice none 0 0, .slice none 0 0, .int .i32 0, .slice none 0 0, .slice none 0 0] (fun _ => rfl) (show 11 < 119 by decide) (by kernel_rfl) req_size (by simp [Value.oneCell']) ?_
             obtain ⟨w11, hnew⟩ : ∃ x, w10.alloc (.cells #[.int .i32 0, .int .i32 0, .string ⟨#[]⟩, .slice none 0 0, .slice none 0 0, .int .i32 0, .int .i32 0, .bool false, .int .i64 0, .int .i64 0, .int .i64 0, .int .i64 0, .slice none 0 0, .slice none 0 0, .slice none 0 0, .slice none 0 0, .slice none 0 0, .int .i32 0, .slice none 0 0, .slice none 0 0] 31) = x := ⟨_, rfl⟩
             rw [hnew]
             have hbn := newB hnew
             have HB11 := hidT HB10 hbn
             have hrr : ReqRow w11 w10.heap.size 0 zOp ((zF 0).row nilS nilS nilS nilS nilS nilS nilS nilS nilS) := ReqRow.mk' (by rw [← hnew]; exact Blk.new _ _ _) (zOp_at w11)
             have HRR := Lib.hid hrr
             have c11 := hrr.c0
             have HSM := Lib.hid (same_true (zOp_at w11) (zOp_at w11) rfl)
             clear hrr
             clear hnew hbn)
          | (with_reducible refine wpAt 91 ?_
             refine wpList_load_at (by rfl) 29 (.tmp 90) rfl ⟨w10.heap.size, 1, none⟩ rfl ((zF 0).row nilS nilS nilS nilS nilS nilS nilS nilS nilS) _ HRR.out.row Tryd.underlying29 rfl isz_29 ?_)
          | (go_at_call 14
             refine (HSM.out _ (Below.refl _ _)).mono ?_
             rintro e w12 ⟨rfl, hb⟩
             have HB12' := hidT HB11 hb
             clear hb))
        go_ret
        exact ⟨rfl, HB12'.out⟩
      · obtain ⟨hle, hyr, hye, hyw⟩ := dec_forth HDE.out
        have hyb : y.bulk ≤ 1000000000 := by have := dec_bulk HDE.out; have := HLB.out; omega
        obtain ⟨cq, hcq⟩ : ∃ v, v = (Value.int .i32 z' :: ys).toArray := ⟨_, rfl⟩
        rw [← hcq]
        have HFY := Lib.hid (ReqFit.mk' hcq hy)
        have HCQ := Lib.hid hcq
        have HYA := Lib.hid hy
        have HYR := Lib.hid hyr
        have HYE := Lib.hid hye
        have HYB := Lib.hid hyb
        have HLE := Lib.hid hle
        clear hcq hy hyr hye hyb hle hyw
        refine Lib.hid ?_
        go_wp2_with (first
          | (with_reducible refine wpAt 11 ?_
             refine wpList_newrow rfl rfl 31 rfl 11 rfl (.tmp 71) rfl rfl cq (fun _ => rfl) (show 11 < 119 by decide) HFY.out.zero HFY.out.info HFY.out.one ?_
             obtain ⟨w11, hnew⟩ : ∃ x, w10.alloc (.cells cq 31) = x := ⟨_, rfl⟩
             rw [hnew]
             have hbn := newB hnew
             have HB11 := hidT HB10 hbn
             have HA11 := Lib.hid (HYA.out.later hbn)
             have HK11 := Lib.hid (newK hnew)
             have HEY : Hid (Calls Tryd.prog 10 #[.agg cq] w11 (Encoded w11 z' y)) := (by unfold Hid; rw [HCQ.out]; exact encode_any z' HA11.out (HE.out _ HB11.out) HYB.out)
             clear hnew hbn)
          | (with_reducible refine wpAt 96 ?_
             refine wpList_load_row rfl 31 (.tmp 11) rfl w10.heap.size rfl 31 _ _ _ HK11.out Tryd.underlying31 rfl HFY.out.info ?_)
          | (go_at_call 10
             refine HEY.out.mono ?_
             rintro e w12 he
             obtain ⟨hb, ⟨hne, _⟩ | ⟨_, base, AE, cE, hbase, rfl, ho⟩⟩ := he
             · exact absurd HYE.out hne
             have HB12' := hidT HB11 hb
             rw [← HLE.out] at ho
             rw [← HLE.out]
             have HA12 := Lib.hid (HA11.out.later hb)
             have hrr : ReqRow w12 w10.heap.size z' y ys := ReqRow.mk' (by rw [← HCQ.out]; exact HK11.out.below hb HK11.out.lt) HA12.out
             have HRR := Lib.hid hrr
             have cvl := HL.out _ HB12'.out
             have cvd : (convert 22 9 (.slice AE l.length cE)).run Tryd.prog w12 = .ok (.string ⟨l.toArray⟩) w12 := run_string_of_bytes Tryd.underlying22 Tryd.underlying5 (Reads.of_own ho) 9 Tryd.underlying9
             have HRY := Lib.hid (right_any HA12.out (HE.out _ HB12'.out) HYB.out)
             clear hb hbase ho hrr)
          | (with_reducible refine wpAt 115 ?_
             refine wpList_load_at (by rfl) 29 (.tmp 114) rfl ⟨w10.heap.size, 1, none⟩ rfl ys _ HRR.out.row Tryd.underlying29 rfl HFY.out.op ?_)
          | (go_at_call 11
             refine HRY.out.mono ?_
             rintro e w13 ⟨he, hb⟩
             rw [HYR.out] at he
             subst he
             have HB13' := Lib.hid (HB12'.out.trans (hb.mono HB12'.out.size))
             clear hb))
        go_ret
        exact ⟨rfl, HB13'.out⟩
    · have hrb : (re == 0) = false := by simpa using hr0
      have hrc : ¬ re = 0 := hr0
      clear hrk hr0
      go_enter Tryd.func3, Tryd.ntmps3
      go_wp2_with (first
        | (go_at_call 8
           refine (HAL.out _ HB1.out).mono ?_
           rintro e w2 ⟨rfl, hb⟩
           have HB2 := hidT HB1 hb
           have HB12 := Lib.hid hb
           clear hb)
        | (with_reducible refine wpAt 18 ?_
           refine wpList_load_at (by rfl) 29 (.tmp 17) rfl ⟨w.heap.size, 1, none⟩ rfl xs _ (HQR.out _ HB12.out).row Tryd.underlying29 rfl HF0.out.op ?_)
        | (go_at_call 9
           refine (HGR.out _ HB2.out).mono ?_
           rintro e w3 ⟨rfl, hb⟩
           have HB3 := hidT HB2 hb
           have HB13 := hidT HB12 hb
           clear hb)
        | (with_reducible refine wpAt 21 ?_
           refine wpList_load_row rfl 31 (.tmp 2) rfl w.heap.size rfl 31 _ _ _ (HQ.out _ HB13.out) Tryd.underlying31 rfl HF0.out.info ?_)
        | (go_at_call 10
           refine (HEN.out _ HB3.out).mono ?_
           rintro e w4 he
           obtain ⟨hb, ⟨_, rfl⟩ | ⟨hne, _⟩⟩ := he
           rotate_left
           · exact absurd (HENV.out.trans hne) HEZ.out
           rw [← HENV.out]
           have HB4 := hidT HB3 hb
           have HB14 := hidT HB13 hb
           clear hb)
        | (with_reducible refine wpAt 26 ?_
           refine wpList_load_at (by rfl) 29 (.tmp 25) rfl ⟨w.heap.size, 1, none⟩ rfl xs _ (HQR.out _ HB14.out).row Tryd.underlying29 rfl HF0.out.op ?_)
        | (go_at_call 11
           refine (HRI.out _ HB4.out).mono ?_
           rintro e w5 ⟨rfl, hb⟩
           have HB5 := hidT HB4 hb
           have HB15 := hidT HB14 hb
           have d1 := HCT.out _ HB15.out
           clear hb)
        | (go_at_call 12; refine (HKI.out _).mono ?_; rintro e w6 ⟨rfl, he⟩; obtain rfl := he.symm; clear d1)
        | (go_at_call 13
           refine (HDB.out _ HB5.out).mono ?_
           rintro e w10 hd
           obtain ⟨hb10, ⟨q, E, hde, hE, hqb, rfl⟩ | ⟨z', y, ys, hde, rfl, hy⟩⟩ := dec_case hd
           all_goals
             have HB10 := hidT HB5 hb10
             have HDE := Lib.hid hde
             clear hb10 hd hde
             refine Hid.out ?_))
      · have HQB := Lib.hid hqb
        have HNE := Lib.hid hE
        have hEb : (E != 0) = true := by simpa using hE
        have hEc : ¬ E = 0 := hE
        have hq0 : 0 ≤ q := hqb.1
        have hqn : q ≤ (n : Int) := by have := hqb.2; rw [HLL.out] at this; exact this
        clear hE hqb
        refine Lib.hid ?_
        go_wp2_with (first
          | (with_reducible refine wpAt 11 ?_
             refine wpList_newrow rfl rfl 31 rfl 11 rfl (.tmp 71) rfl rfl #[.int .i32 0, .int .i32 0, .string ⟨#[]⟩, .slice none 0 0, .slice none 0 0, .int .i32 0, .int .i32 0, .bool false, .int .i64 0, .int .i64 0, .int .i64 0, .int .i64 0, .slice none 0 0, .slice none 0 0, .slice none 0 0, .slice none 0 0, .slice none 0 0, .int .i32 0, .slice none 0 0, .slice none 0 0] (fun _ => rfl) (show 11 < 119 by decide) (by kernel_rfl) req_size (by simp [Value.oneCell']) ?_
             obtain ⟨w11, hnew⟩ : ∃ x, w10.alloc (.cells #[.int .i32 0, .int .i32 0, .string ⟨#[]⟩, .slice none 0 0, .slice none 0 0, .int .i32 0, .int .i32 0, .bool false, .int .i64 0, .int .i64 0, .int .i64 0, .int .i64 0, .slice none 0 0, .slice none 0 0, .slice none 0 0, .slice none 0 0, .slice none 0 0, .int .i32 0, .slice none 0 0, .slice none 0 0] 31) = x := ⟨_, rfl⟩
             rw [hnew]
             have hbn := newB hnew
             have HB11 := hidT HB10 hbn
             have hrr : ReqRow w11 w10.heap.size 0 zOp ((zF 0).row nilS nilS nilS nilS nilS nilS nilS nilS nilS) := ReqRow.mk' (by rw [← hnew]; exact Blk.new _ _ _) (zOp_at w11)
             have HRR := Lib.hid hrr
             have c11 := hrr.c0
             have HSM := Lib.hid (same_true (zOp_at w11) (zOp_at w11) rfl)
             clear hrr
             clear hnew hbn)
          | (with_reducible refine wpAt 91 ?_
             refine wpList_load_at (by rfl) 29 (.tmp 90) rfl ⟨w10.heap.size, 1, none⟩ rfl ((zF 0).row nilS nilS nilS nilS nilS nilS nilS nilS nilS) _ HRR.out.row Tryd.underlying29 rfl isz_29 ?_)
          | (go_at_call 14
             refine (HSM.out _ (Below.refl _ _)).mono ?_
             rintro e w12 ⟨rfl, hb⟩
             have HB12' := hidT HB11 hb
             clear hb))
        go_ret
        exact ⟨rfl, HB12'.out⟩
      · obtain ⟨hle, hyr, hye, hyw⟩ := dec_forth HDE.out
        have hyb : y.bulk ≤ 1000000000 := by have := dec_bulk HDE.out; have := HLB.out; omega
        obtain ⟨cq, hcq⟩ : ∃ v, v = (Value.int .i32 z' :: ys).toArray := ⟨_, rfl⟩
        rw [← hcq]
        have HFY := Lib.hid (ReqFit.mk' hcq hy)
        have HCQ := Lib.hid hcq
        have HYA := Lib.hid hy
        have HYR := Lib.hid hyr
        have HYE := Lib.hid hye
        have HYB := Lib.hid hyb
        have HLE := Lib.hid hle
        clear hcq hy hyr hye hyb hle hyw
        refine Lib.hid ?_
        go_wp2_with (first
          | (with_reducible refine wpAt 11 ?_
             refine wpList_newrow rfl rfl 31 rfl 11 rfl (.tmp 71) rfl rfl cq (fun _ => rfl) (show 11 < 119 by decide) HFY.out.zero HFY.out.info HFY.out.one ?_
             obtain ⟨w11, hnew⟩ : ∃ x, w10.alloc (.cells cq 31) = x := ⟨_, rfl⟩
             rw [hnew]
             have hbn := newB hnew
             have HB11 := hidT HB10 hbn
             have HA11 := Lib.hid (HYA.out.later hbn)
             have HK11 := Lib.hid (newK hnew)
             have HEY : Hid (Calls Tryd.prog 10 #[.agg cq] w11 (Encoded w11 z' y)) := (by unfold Hid; rw [HCQ.out]; exact encode_any z' HA11.out (HE.out _ HB11.out) HYB.out)
             clear hnew hbn)
          | (with_reducible refine wpAt 96 ?_
             refine wpList_load_row rfl 31 (.tmp 11) rfl w10.heap.size rfl 31 _ _ _ HK11.out Tryd.underlying31 rfl HFY.out.info ?_)
          | (go_at_call 10
             refine HEY.out.mono ?_
             rintro e w12 he
             obtain ⟨hb, ⟨hne, _⟩ | ⟨_, base, AE, cE, hbase, rfl, ho⟩⟩ := he
             · exact absurd HYE.out hne
             have HB12' := hidT HB11 hb
             rw [← HLE.out] at ho
             rw [← HLE.out]
             have HA12 := Lib.hid (HA11.out.later hb)
             have hrr : ReqRow w12 w10.heap.size z' y ys := ReqRow.mk' (by rw [← HCQ.out]; exact HK11.out.below hb HK11.out.lt) HA12.out
             have HRR := Lib.hid hrr
             have cvl := HL.out _ HB12'.out
             have cvd : (convert 22 9 (.slice AE l.length cE)).run Tryd.prog w12 = .ok (.string ⟨l.toArray⟩) w12 := run_string_of_bytes Tryd.underlying22 Tryd.underlying5 (Reads.of_own ho) 9 Tryd.underlying9
             have HRY := Lib.hid (right_any HA12.out (HE.out _ HB12'.out) HYB.out)
             clear hb hbase ho hrr)
          | (with_reducible refine wpAt 115 ?_
             refine wpList_load_at (by rfl) 29 (.tmp 114) rfl ⟨w10.heap.size, 1, none⟩ rfl ys _ HRR.out.row Tryd.underlying29 rfl HFY.out.op ?_)
          | (go_at_call 11
             refine HRY.out.mono ?_
             rintro e w13 ⟨he, hb⟩
             rw [HYR.out] at he
             subst he
             have HB13' := Lib.hid (HB12'.out.trans (hb.mono HB12'.out.size))
             clear hb))
        go_ret
        exact ⟨rfl, HB13'.out⟩
  obtain ⟨he1, he2⟩ := encE_parts he0
  rw [← hre] at he1
  subst he1
  rw [← hxt, ← hkn] at he2
  have hkb : (kn == 5) = false := by simpa using he2
  have hkd : (kn != 5) = true := by simpa using he2
  have hkc : ¬ kn = 5 := he2
  have HEZ := Lib.hid he0
  have HGD := Lib.hid h.good
  have hbl := enc_len (z := z) hb
  have HDA : Hid (∀ (W : World) (AE : Option Addr) (cE base : Nat), Below w.heap.size w W → W.ownsRow base 5 1 (.slice AE (encB z x).length cE) (encB z x).length (bcells (encB z x)) → Calls Tryd.prog 13 #[.slice AE (encB z x).length cE] W fun e w' => Below W.heap.size W w' ∧ ∃ cs : List Value, e = .returned (.tuple #[.agg (Value.int .i32 z :: cs).toArray, .int .i64 0, .int .i64 0]) ∧ At w' (some W.heap.size) x cs) := fun W AE cE base hW ho => (opDecode_any cE _ AE (encB z x) W (Reads.of_own ho) (own_capO ho) (by omega) (fun h => (own_nil ho h).2) (HE.out _ hW)).mono fun e w' hd => by
    obtain ⟨h1, h2⟩ := hd
    rw [dec_back HEZ.out HGD.out HWZ.out] at h2
    exact ⟨h1, h2⟩
  obtain ⟨en, hen⟩ : ∃ v, v = (encB z x).length := ⟨_, rfl⟩
  rw [← hen] at HDA hbl
  have HENL := Lib.hid hen
  clear h E hb hb9 hcs hb1 hn1 hgr hr hnc hl hlb hnil hz hxt hre hkn he0 he2 hen
  go_enter Tryd.func3, Tryd.ntmps3
  go_wp2_with (first
    | (go_at_call 8
       refine (HAL.out _ HB1.out).mono ?_
       rintro e w2 ⟨rfl, hb⟩
       have HB2 := hidT HB1 hb
       have HB12 := Lib.hid hb
       clear hb)
    | (with_reducible refine wpAt 18 ?_
       refine wpList_load_at (by rfl) 29 (.tmp 17) rfl ⟨w.heap.size, 1, none⟩ rfl xs _ (HQR.out _ HB12.out).row Tryd.underlying29 rfl HF0.out.op ?_)
    | (go_at_call 9
       refine (HGR.out _ HB2.out).mono ?_
       rintro e w3 ⟨rfl, hb⟩
       have HB3 := hidT HB2 hb
       have HB13 := hidT HB12 hb
       clear hb)
    | (with_reducible refine wpAt 21 ?_
       refine wpList_load_row rfl 31 (.tmp 2) rfl w.heap.size rfl 31 _ _ _ (HQ.out _ HB13.out) Tryd.underlying31 rfl HF0.out.info ?_)
    | (go_at_call 10
       refine (HEN.out _ HB3.out).mono ?_
       rintro e w4 he
       obtain ⟨hb, ⟨hne, _⟩ | ⟨_, base, AE, cE, hbase, rfl, ho⟩⟩ := he
       · exact absurd HEZ.out hne
       rw [← HENL.out] at ho ⊢
       have HO4 := Lib.hid ho
       clear hbase ho
       have HB4 := hidT HB3 hb
       have HB14 := hidT HB13 hb
       clear hb)
    | (with_reducible refine wpAt 26 ?_
       refine wpList_load_at (by rfl) 29 (.tmp 25) rfl ⟨w.heap.size, 1, none⟩ rfl xs _ (HQR.out _ HB14.out).row Tryd.underlying29 rfl HF0.out.op ?_)
    | (go_at_call 11
       refine (HRI.out _ HB4.out).mono ?_
       rintro e w5 ⟨rfl, hb⟩
       have HB5 := hidT HB4 hb
       have HB15 := hidT HB14 hb
       have d1 := HCT.out _ HB15.out
       have HO5 := Lib.hid (own_below HO4.out hb)
       clear hb)
    | (go_at_call 12; refine (HKI.out _).mono ?_; rintro e w6 ⟨rfl, he⟩; obtain rfl := he.symm; clear d1)
    | (go_at_call 13
       refine (HDA.out _ AE cE base HB5.out HO5.out).mono ?_
       rintro e w7 ⟨hb, ys, rfl, hy⟩
       have HB7 := hidT HB5 hb
       have HB17 := hidT HB15 hb
       have HY7 := Lib.hid hy
       obtain ⟨cq, hcq⟩ : ∃ v, v = (Value.int .i32 z :: ys).toArray := ⟨_, rfl⟩
       rw [← hcq]
       have HFY := Lib.hid (ReqFit.mk' hcq hy)
       have HCQ := Lib.hid hcq
       clear hb hy hcq HDA)
    | (with_reducible refine wpAt 8 ?_
       refine wpList_newrow rfl rfl 31 rfl 8 rfl (.tmp 44) rfl rfl cq (fun _ => rfl) (show 8 < 119 by decide) HFY.out.zero HFY.out.info HFY.out.one ?_
       obtain ⟨w8, hnew⟩ : ∃ x, w7.alloc (.cells cq 31) = x := ⟨_, rfl⟩
       rw [hnew]
       have hbn := newB hnew
       have HB8 := hidT HB7 hbn
       have HB18 := hidT HB17 hbn
       have hrr : ReqRow w8 w7.heap.size z x ys := ReqRow.mk' (by rw [← HCQ.out, ← hnew]; exact Blk.new _ _ _) HY7.out
       have HRR := Lib.hid hrr
       have c8 := hrr.c0
       have c80 := (HQR.out _ HB18.out).c0
       have HSM := Lib.hid (same_true (HY7.out.later hbn) (HAT.out _ HB8.out) rfl)
       clear hrr
       clear hnew hbn)
    | (with_reducible refine wpAt 62 ?_
       refine wpList_load_at (by rfl) 29 (.tmp 61) rfl ⟨w7.heap.size, 1, none⟩ rfl ys _ HRR.out.row Tryd.underlying29 rfl HFY.out.op ?_)
    | (with_reducible refine wpAt 64 ?_
       refine wpList_load_at (by rfl) 29 (.tmp 63) rfl ⟨w.heap.size, 1, none⟩ rfl xs _ (HQR.out _ HB18.out).row Tryd.underlying29 rfl HF0.out.op ?_)
    | (go_at_call 14
       refine (HSM.out _ (Below.refl _ _)).mono ?_
       rintro e w9 ⟨rfl, hb⟩
       have HB9 := hidT HB8 hb
       clear hb)
    | (go_at_call 13
       refine (HDB.out _ HB9.out).mono ?_
       rintro e w10 hd
       obtain ⟨hb10, ⟨q, E, hde, hE, hqb, rfl⟩ | ⟨z', y, ys, hde, rfl, hy⟩⟩ := dec_case hd
       all_goals
         have HB10 := hidT HB9 hb10
         have HDE := Lib.hid hde
         clear hb10 hd hde
         refine Hid.out ?_))
  · have HQB := Lib.hid hqb
    have HNE := Lib.hid hE
    have hEb : (E != 0) = true := by simpa using hE
    have hEc : ¬ E = 0 := hE
    have hq0 : 0 ≤ q := hqb.1
    have hqn : q ≤ (n : Int) := by have := hqb.2; rw [HLL.out] at this; exact this
    clear hE hqb
    refine Lib.hid ?_
    go_wp2_with (first
      | (with_reducible refine wpAt 11 ?_
         refine wpList_newrow rfl rfl 31 rfl 11 rfl (.tmp 71) rfl rfl #[.int .i32 0, .int .i32 0, .string ⟨#[]⟩, .slice none 0 0, .slice none 0 0, .int .i32 0, .int .i32 0, .bool false, .int .i64 0, .int .i64 0, .int .i64 0, .int .i64 0, .slice none 0 0, .slice none 0 0, .slice none 0 0, .slice none 0 0, .slice none 0 0, .int .i32 0, .slice none 0 0, .slice none 0 0] (fun _ => rfl) (show 11 < 119 by decide) (by kernel_rfl) req_size (by simp [Value.oneCell']) ?_
         obtain ⟨w11, hnew⟩ : ∃ x, w10.alloc (.cells #[.int .i32 0, .int .i32 0, .string ⟨#[]⟩, .slice none 0 0, .slice none 0 0, .int .i32 0, .int .i32 0, .bool false, .int .i64 0, .int .i64 0, .int .i64 0, .int .i64 0, .slice none 0 0, .slice none 0 0, .slice none 0 0, .slice none 0 0, .slice none 0 0, .int .i32 0, .slice none 0 0, .slice none 0 0] 31) = x := ⟨_, rfl⟩
         rw [hnew]
         have hbn := newB hnew
         have HB11 := hidT HB10 hbn
         have hrr : ReqRow w11 w10.heap.size 0 zOp ((zF 0).row nilS nilS nilS nilS nilS nilS nilS nilS nilS) := ReqRow.mk' (by rw [← hnew]; exact Blk.new _ _ _) (zOp_at w11)
         have HRR := Lib.hid hrr
         have c11 := hrr.c0
         have HSM := Lib.hid (same_true (zOp_at w11) (zOp_at w11) rfl)
         clear hrr
         clear hnew hbn)
      | (with_reducible refine wpAt 91 ?_
         refine wpList_load_at (by rfl) 29 (.tmp 90) rfl ⟨w10.heap.size, 1, none⟩ rfl ((zF 0).row nilS nilS nilS nilS nilS nilS nilS nilS nilS) _ HRR.out.row Tryd.underlying29 rfl isz_29 ?_)
      | (go_at_call 14
         refine (HSM.out _ (Below.refl _ _)).mono ?_
         rintro e w12 ⟨rfl, hb⟩
         have HB12' := hidT HB11 hb
         clear hb))
    go_ret
    exact ⟨rfl, HB12'.out⟩
  · obtain ⟨hle, hyr, hye, hyw⟩ := dec_forth HDE.out
    have hyb : y.bulk ≤ 1000000000 := by have := dec_bulk HDE.out; have := HLB.out; omega
    obtain ⟨cq, hcq⟩ : ∃ v, v = (Value.int .i32 z' :: ys).toArray := ⟨_, rfl⟩
    rw [← hcq]
    have HFY := Lib.hid (ReqFit.mk' hcq hy)
    have HCQ := Lib.hid hcq
    have HYA := Lib.hid hy
    have HYR := Lib.hid hyr
    have HYE := Lib.hid hye
    have HYB := Lib.hid hyb
    have HLE := Lib.hid hle
    clear hcq hy hyr hye hyb hle hyw
    refine Lib.hid ?_
    go_wp2_with (first
      | (with_reducible refine wpAt 11 ?_
         refine wpList_newrow rfl rfl 31 rfl 11 rfl (.tmp 71) rfl rfl cq (fun _ => rfl) (show 11 < 119 by decide) HFY.out.zero HFY.out.info HFY.out.one ?_
         obtain ⟨w11, hnew⟩ : ∃ x, w10.alloc (.cells cq 31) = x := ⟨_, rfl⟩
         rw [hnew]
         have hbn := newB hnew
         have HB11 := hidT HB10 hbn
         have HA11 := Lib.hid (HYA.out.later hbn)
         have HK11 := Lib.hid (newK hnew)
         have HEY : Hid (Calls Tryd.prog 10 #[.agg cq] w11 (Encoded w11 z' y)) := (by unfold Hid; rw [HCQ.out]; exact encode_any z' HA11.out (HE.out _ HB11.out) HYB.out)
         clear hnew hbn)
      | (with_reducible refine wpAt 96 ?_
         refine wpList_load_row rfl 31 (.tmp 11) rfl w10.heap.size rfl 31 _ _ _ HK11.out Tryd.underlying31 rfl HFY.out.info ?_)
      | (go_at_call 10
         refine HEY.out.mono ?_
         rintro e w12 he
         obtain ⟨hb, ⟨hne, _⟩ | ⟨_, base, AE, cE, hbase, rfl, ho⟩⟩ := he
         · exact absurd HYE.out hne
         have HB12' := hidT HB11 hb
         rw [← HLE.out] at ho
         rw [← HLE.out]
         have HA12 := Lib.hid (HA11.out.later hb)
         have hrr : ReqRow w12 w10.heap.size z' y ys := ReqRow.mk' (by rw [← HCQ.out]; exact HK11.out.below hb HK11.out.lt) HA12.out
         have HRR := Lib.hid hrr
         have cvl := HL.out _ HB12'.out
         have cvd : (convert 22 9 (.slice AE l.length cE)).run Tryd.prog w12 = .ok (.string ⟨l.toArray⟩) w12 := run_string_of_bytes Tryd.underlying22 Tryd.underlying5 (Reads.of_own ho) 9 Tryd.underlying9
         have HRY := Lib.hid (right_any HA12.out (HE.out _ HB12'.out) HYB.out)
         clear hb hbase ho hrr)
      | (with_reducible refine wpAt 115 ?_
         refine wpList_load_at (by rfl) 29 (.tmp 114) rfl ⟨w10.heap.size, 1, none⟩ rfl ys _ HRR.out.row Tryd.underlying29 rfl HFY.out.op ?_)
      | (go_at_call 11
         refine HRY.out.mono ?_
         rintro e w13 ⟨he, hb⟩
         rw [HYR.out] at he
         subst he
         have HB13' := Lib.hid (HB12'.out.trans (hb.mono HB12'.out.size))
         clear hb))
    go_ret
    exact ⟨rfl, HB13'.out⟩
end Go.Proofs.YtpjjnmdfgcfnmaaDoor
