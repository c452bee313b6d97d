/- OpsOne: the walk. (printed by gen_l4.py) -/
import Derived.Test.YtpjjnmdfgcfnmaaDoorOl0
import Derived.Test.YtpjjnmdfgcfnmaaDoorOq33
set_option linter.unusedVariables false
set_option linter.unusedSimpArgs false
namespace Go.Proofs.YtpjjnmdfgcfnmaaDoor
open Go.RowKit

theorem enc_one {z z' : Int} {x y : OpC} (hx : x.encE = 0) (hy : y.encE = 0) (gx : x.good) (gy : y.good) (hz : (Lit.int .i32 z).wf = true) (hz' : (Lit.int .i32 z').wf = true) : encB z x = encB z' y ↔ z = z' ∧ x = y := by
  constructor
  · intro h
    have h1 := dec_back hx gx hz
    rw [h, dec_back hy gy hz'] at h1
    injection h1 with h1
    injection h1 with h1 h2
    exact ⟨h1.symm, h2.symm⟩
  · rintro ⟨rfl, rfl⟩
    rfl
theorem one_val {z z' : Int} {x y : OpC} (hx : x.encE = 0) (hy : y.encE = 0) (gx : x.good) (gy : y.good) (hz : (Lit.int .i32 z).wf = true) (hz' : (Lit.int .i32 z').wf = true) {bs : Bool} (hb : bs = true ↔ x = y) {sa sb : ByteArray} (ha : sa = ⟨(encB z x).toArray⟩) (hbb : sb = ⟨(encB z' y).toArray⟩) :
    ((sa.toList == sb.toList) == (((z : Int) == z') && bs)) = true := by
  rw [ha, hbb, Lib.toList_data, Lib.toList_data, beq_iff_eq, Bool.eq_iff_iff, beq_iff_eq, Bool.and_eq_true, beq_iff_eq, hb]
  exact enc_one hx hy gx gy hz hz'

set_option maxRecDepth 100000 in
set_option maxHeartbeats 32000000 in
theorem oneLaw_walk {w : World} {z z' : Int} {x y : OpC} {xs ys : List Value} (hz : (Lit.int .i32 z).wf = true) (hz' : (Lit.int .i32 z').wf = true) (h : At w none x xs) (h' : At w none y ys) (hb : x.bulk ≤ 1048576) (hb' : y.bulk ≤ 1048576) (E : Env w) :
    Calls Tryd.prog 7 #[.agg (Value.int .i32 z :: xs).toArray, .agg (Value.int .i32 z' :: ys).toArray] w fun e w' => e = .returned (.bool true) ∧ Below w.heap.size w w' := by
  have HE := Lib.hid (fun W (h : Below w.heap.size w W) => E.below h)
  have hb9 : x.bulk ≤ 1000000000 := by omega
  have hb9' : y.bulk ≤ 1000000000 := by omega
  have HAL : Hid (∀ W, Below w.heap.size w W → Calls Tryd.prog 8 #[] W fun e w' => e = .returned (.bool true) ∧ Below W.heap.size W w') := fun W hW => alive_any W (E.below hW)
  obtain ⟨cs, hcs⟩ : ∃ cs : Array Value, cs = (Value.int .i32 z :: xs).toArray := ⟨_, rfl⟩
  obtain ⟨ds, hds⟩ : ∃ cs : Array Value, cs = (Value.int .i32 z' :: ys).toArray := ⟨_, rfl⟩
  have HF0 := Lib.hid (ReqFit.mk' hcs h)
  have HF1 := Lib.hid (ReqFit.mk' hds h')
  rw [← hcs, ← hds]
  obtain ⟨wa, hwa⟩ : ∃ v, w.alloc (.cells cs 31) = v := ⟨_, rfl⟩
  have hba := newB hwa
  have hka : Blk wa w.heap.size 31 cs := by rw [← hwa]; exact Blk.new _ _ _
  have hza : wa.heap.size = w.heap.size + 1 := by rw [← hwa]; simp
  obtain ⟨w1, hw1⟩ : ∃ v, wa.alloc (.cells ds 31) = v := ⟨_, rfl⟩
  have hb1 := newB hw1
  have hn0 : Blk w1 w.heap.size 31 cs := hka.below hb1 hka.lt
  have hn1 : Blk w1 (w.heap.size + 1) 31 ds := by
    have : Blk w1 wa.heap.size 31 ds := by rw [← hw1]; exact Blk.new _ _ _
    rwa [hza] at this
  have HB1 : Hid (Below w.heap.size w w1) := hba.trans (hb1.mono hba.size)
  have HQ : Hid (∀ W, Below w1.heap.size w1 W → Blk W w.heap.size 31 cs) := fun W hW => hn0.below hW hn0.lt
  have HQ' : Hid (∀ W, Below w1.heap.size w1 W → Blk W (w.heap.size + 1) 31 ds) := fun W hW => hn1.below hW hn1.lt
  have HQR : Hid (∀ W, Below w1.heap.size w1 W → ReqRow W w.heap.size z x xs) := fun W hW => ReqRow.mk' (by rw [← hcs]; exact hn0.below hW hn0.lt) h
  have HQS : Hid (∀ W, Below w1.heap.size w1 W → ReqRow W (w.heap.size + 1) z' y ys) := fun W hW => ReqRow.mk' (by rw [← hds]; exact hn1.below hW hn1.lt) h'
  have HGR : Hid (∀ W, Below w.heap.size w W → Calls Tryd.prog 9 #[.agg xs.toArray] W fun e w' => e = .returned (.bool (decide (3000 < x.cnt 0))) ∧ Below W.heap.size W w') := fun W hW => great_any h W hW
  have HGS : Hid (∀ W, Below w.heap.size w W → Calls Tryd.prog 9 #[.agg ys.toArray] W fun e w' => e = .returned (.bool (decide (3000 < y.cnt 0))) ∧ Below W.heap.size W w') := fun W hW => great_any h' W hW
  have HEN : Hid (∀ W, Below w.heap.size w W → Calls Tryd.prog 10 #[.agg cs] W (Encoded W z x)) := fun W hW => by rw [hcs]; exact encode_any z (h.later hW) (E.below hW) hb9
  have HES : Hid (∀ W, Below w.heap.size w W → Calls Tryd.prog 10 #[.agg ds] W (Encoded W z' y)) := fun W hW => by rw [hds]; exact encode_any z' (h'.later hW) (E.below hW) hb9'
  obtain ⟨bs, hbs, hsm⟩ := opsSame_any h h'
  have HSB := Lib.hid hbs
  have HSM := Lib.hid hsm
  have HGX := Lib.hid h.good
  have HGY := Lib.hid h'.good
  have HWZ := Lib.hid hz
  have HWZ' := Lib.hid hz'
  have hl1 : w.heap.size + 1 < w1.heap.size := hn1.lt
  obtain ⟨gx, hgx⟩ : ∃ b, b = decide (3000 < x.cnt 0) := ⟨_, rfl⟩
  obtain ⟨gy, hgy⟩ : ∃ b, b = decide (3000 < y.cnt 0) := ⟨_, rfl⟩
  rw [← hgx] at HGR
  rw [← hgy] at HGS
  by_cases he0 : x.encE = 0
  rotate_left
  · obtain ⟨en, hen⟩ : ∃ v, v = x.encE := ⟨_, rfl⟩
    have HENV := Lib.hid hen
    rw [← hen] at he0
    have HEZ := Lib.hid he0
    have heb : (en != 0) = true := by simpa using he0
    have hec : ¬ en = 0 := he0
    by_cases he1 : y.encE = 0
    · have HEY := Lib.hid he1
      clear h h' E hb hb9 hb' hb9' hcs hds hba hka hb1 hn0 hn1 hz hz' hbs hsm hgx hgy hen he0 he1
      cases gx <;> cases gy
      all_goals
        go_enter Tryd.func7, Tryd.ntmps7
        go_wp2_with (first
          | (go_at_call 8
             refine (HAL.out _ HB1.out).mono ?_
             rintro e w2 ⟨rfl, hb⟩
             have HB2 := hidT HB1 hb
             have HB12 := Lib.hid hb
             clear hb)
          | (with_reducible refine wpAt 12 ?_
             refine wpList_load_at (by rfl) 29 (.tmp 11) rfl ⟨w.heap.size, 1, none⟩ rfl xs _ (HQR.out _ HB12.out).row Tryd.underlying29 rfl HF0.out.op ?_)
          | (go_at_call 9
             refine (HGR.out _ HB2.out).mono ?_
             rintro e w3 ⟨rfl, hb⟩
             have HB3 := hidT HB2 hb
             have HB13 := hidT HB12 hb
             clear hb HGR)
          | (with_reducible refine wpAt 16 ?_
             refine wpList_load_at (by rfl) 29 (.tmp 15) rfl ⟨(w.heap.size + 1), 1, none⟩ rfl ys _ (HQS.out _ HB13.out).row Tryd.underlying29 rfl HF1.out.op ?_)
          | (go_at_call 9
             refine (HGS.out _ HB3.out).mono ?_
             rintro e w4 ⟨rfl, hb⟩
             have HB4 := hidT HB3 hb
             have HB14 := hidT HB13 hb
             clear hb)
          | (with_reducible refine wpAt 20 ?_
             refine wpList_load_row rfl 31 (.tmp 2) rfl w.heap.size rfl 31 _ _ _ (HQ.out _ HB14.out) Tryd.underlying31 rfl HF0.out.info ?_)
          | (go_at_call 10
             refine (HEN.out _ HB4.out).mono ?_
             rintro e w5 he
             obtain ⟨hb, ⟨_, rfl⟩ | ⟨hne, _⟩⟩ := he
             rotate_left
             · exact absurd (HENV.out.trans hne) HEZ.out
             rw [← HENV.out]
             have HB5 := hidT HB4 hb
             have HB15 := hidT HB14 hb
             clear hb HEN)
          | (with_reducible refine wpAt 25 ?_
             refine wpList_load_row rfl 31 (.tmp 3) rfl (w.heap.size + 1) rfl 31 _ _ _ (HQ'.out _ HB15.out) Tryd.underlying31 rfl HF1.out.info ?_)
          | (go_at_call 10
             refine (HES.out _ HB5.out).mono ?_
             rintro e w6 he
             obtain ⟨hb, ⟨hne, _⟩ | ⟨_, base2, A2, c2, hbase, rfl, ho⟩⟩ := he
             · exact absurd HEY.out hne
             clear hbase ho
             have HB6 := hidT HB5 hb
             have HB16 := hidT HB15 hb
             clear hb HES))
        go_ret
        first | exact ⟨rfl, HB6.out⟩ | exact ⟨rfl, HB4.out⟩ | exact ⟨rfl, HB3.out⟩
    · obtain ⟨fn, hfn⟩ : ∃ v, v = y.encE := ⟨_, rfl⟩
      have HFNV := Lib.hid hfn
      rw [← hfn] at he1
      have HFZ := Lib.hid he1
      clear h h' E hb hb9 hb' hb9' hcs hds hba hka hb1 hn0 hn1 hz hz' hbs hsm hgx hgy hen he0 he1 hfn
      cases gx <;> cases gy
      all_goals
        go_enter Tryd.func7, Tryd.ntmps7
        go_wp2_with (first
          | (go_at_call 8
             refine (HAL.out _ HB1.out).mono ?_
             rintro e w2 ⟨rfl, hb⟩
             have HB2 := hidT HB1 hb
             have HB12 := Lib.hid hb
             clear hb)
          | (with_reducible refine wpAt 12 ?_
             refine wpList_load_at (by rfl) 29 (.tmp 11) rfl ⟨w.heap.size, 1, none⟩ rfl xs _ (HQR.out _ HB12.out).row Tryd.underlying29 rfl HF0.out.op ?_)
          | (go_at_call 9
             refine (HGR.out _ HB2.out).mono ?_
             rintro e w3 ⟨rfl, hb⟩
             have HB3 := hidT HB2 hb
             have HB13 := hidT HB12 hb
             clear hb HGR)
          | (with_reducible refine wpAt 16 ?_
             refine wpList_load_at (by rfl) 29 (.tmp 15) rfl ⟨(w.heap.size + 1), 1, none⟩ rfl ys _ (HQS.out _ HB13.out).row Tryd.underlying29 rfl HF1.out.op ?_)
          | (go_at_call 9
             refine (HGS.out _ HB3.out).mono ?_
             rintro e w4 ⟨rfl, hb⟩
             have HB4 := hidT HB3 hb
             have HB14 := hidT HB13 hb
             clear hb)
          | (with_reducible refine wpAt 20 ?_
             refine wpList_load_row rfl 31 (.tmp 2) rfl w.heap.size rfl 31 _ _ _ (HQ.out _ HB14.out) Tryd.underlying31 rfl HF0.out.info ?_)
          | (go_at_call 10
             refine (HEN.out _ HB4.out).mono ?_
             rintro e w5 he
             obtain ⟨hb, ⟨_, rfl⟩ | ⟨hne, _⟩⟩ := he
             rotate_left
             · exact absurd (HENV.out.trans hne) HEZ.out
             rw [← HENV.out]
             have HB5 := hidT HB4 hb
             have HB15 := hidT HB14 hb
             clear hb HEN)
          | (with_reducible refine wpAt 25 ?_
             refine wpList_load_row rfl 31 (.tmp 3) rfl (w.heap.size + 1) rfl 31 _ _ _ (HQ'.out _ HB15.out) Tryd.underlying31 rfl HF1.out.info ?_)
          | (go_at_call 10
             refine (HES.out _ HB5.out).mono ?_
             rintro e w6 he
             obtain ⟨hb, ⟨_, rfl⟩ | ⟨hne, _⟩⟩ := he
             rotate_left
             · exact absurd (HFNV.out.trans hne) HFZ.out
             rw [← HFNV.out]
             have HB6 := hidT HB5 hb
             have HB16 := hidT HB15 hb
             clear hb HES))
        go_ret
        first | exact ⟨rfl, HB6.out⟩ | exact ⟨rfl, HB4.out⟩ | exact ⟨rfl, HB3.out⟩
  have HEX := Lib.hid he0
  have hbl := enc_len (z := z) hb
  obtain ⟨n1, hn1'⟩ : ∃ v, v = (encB z x).length := ⟨_, rfl⟩
  have HN1 := Lib.hid hn1'
  by_cases he1 : y.encE = 0
  rotate_left
  · obtain ⟨fn, hfn⟩ : ∃ v, v = y.encE := ⟨_, rfl⟩
    have HFNV := Lib.hid hfn
    rw [← hfn] at he1
    have HFZ := Lib.hid he1
    have heb : (fn != 0) = true := by simpa using he1
    have hec : ¬ fn = 0 := he1
    clear h h' E hb hb9 hb' hb9' hcs hds hba hka hb1 hn0 hn1 hz hz' hbs hsm hgx hgy he0 he1 hfn hn1' hbl
    cases gx <;> cases gy
    all_goals
      go_enter Tryd.func7, Tryd.ntmps7
      go_wp2_with (first
        | (go_at_call 8
           refine (HAL.out _ HB1.out).mono ?_
           rintro e w2 ⟨rfl, hb⟩
           have HB2 := hidT HB1 hb
           have HB12 := Lib.hid hb
           clear hb)
        | (with_reducible refine wpAt 12 ?_
           refine wpList_load_at (by rfl) 29 (.tmp 11) rfl ⟨w.heap.size, 1, none⟩ rfl xs _ (HQR.out _ HB12.out).row Tryd.underlying29 rfl HF0.out.op ?_)
        | (go_at_call 9
           refine (HGR.out _ HB2.out).mono ?_
           rintro e w3 ⟨rfl, hb⟩
           have HB3 := hidT HB2 hb
           have HB13 := hidT HB12 hb
           clear hb HGR)
        | (with_reducible refine wpAt 16 ?_
           refine wpList_load_at (by rfl) 29 (.tmp 15) rfl ⟨(w.heap.size + 1), 1, none⟩ rfl ys _ (HQS.out _ HB13.out).row Tryd.underlying29 rfl HF1.out.op ?_)
        | (go_at_call 9
           refine (HGS.out _ HB3.out).mono ?_
           rintro e w4 ⟨rfl, hb⟩
           have HB4 := hidT HB3 hb
           have HB14 := hidT HB13 hb
           clear hb)
        | (with_reducible refine wpAt 20 ?_
           refine wpList_load_row rfl 31 (.tmp 2) rfl w.heap.size rfl 31 _ _ _ (HQ.out _ HB14.out) Tryd.underlying31 rfl HF0.out.info ?_)
        | (go_at_call 10
           refine (HEN.out _ HB4.out).mono ?_
           rintro e w5 he
           obtain ⟨hb, ⟨hne, _⟩ | ⟨_, base1, A1, c1, hbase, rfl, ho⟩⟩ := he
           · exact absurd HEX.out hne
           rw [← HN1.out] at ho ⊢
           have HO1 := Lib.hid ho
           clear hbase ho
           have HB5 := hidT HB4 hb
           have HB15 := hidT HB14 hb
           clear hb HEN)
        | (with_reducible refine wpAt 25 ?_
           refine wpList_load_row rfl 31 (.tmp 3) rfl (w.heap.size + 1) rfl 31 _ _ _ (HQ'.out _ HB15.out) Tryd.underlying31 rfl HF1.out.info ?_)
        | (go_at_call 10
           refine (HES.out _ HB5.out).mono ?_
           rintro e w6 he
           obtain ⟨hb, ⟨_, rfl⟩ | ⟨hne, _⟩⟩ := he
           rotate_left
           · exact absurd (HFNV.out.trans hne) HFZ.out
           rw [← HFNV.out]
           have HB6 := hidT HB5 hb
           have HB16 := hidT HB15 hb
           clear hb HES))
      go_ret
      first | exact ⟨rfl, HB6.out⟩ | exact ⟨rfl, HB4.out⟩ | exact ⟨rfl, HB3.out⟩
  have HEY := Lib.hid he1
  obtain ⟨n2, hn2'⟩ : ∃ v, v = (encB z' y).length := ⟨_, rfl⟩
  have HN2 := Lib.hid hn2'
  clear h h' E hb hb9 hb' hb9' hcs hds hba hka hb1 hn0 hn1 hz hz' hbs hsm hgx hgy he0 he1 hn1' hn2' hbl
  cases gx <;> cases gy
  rotate_left
  all_goals try
    go_enter Tryd.func7, Tryd.ntmps7
    go_wp2_with (first
      | (go_at_call 8
         refine (HAL.out _ HB1.out).mono ?_
         rintro e w2 ⟨rfl, hb⟩
         have HB2 := hidT HB1 hb
         have HB12 := Lib.hid hb
         clear hb)
      | (with_reducible refine wpAt 12 ?_
         refine wpList_load_at (by rfl) 29 (.tmp 11) rfl ⟨w.heap.size, 1, none⟩ rfl xs _ (HQR.out _ HB12.out).row Tryd.underlying29 rfl HF0.out.op ?_)
      | (go_at_call 9
         refine (HGR.out _ HB2.out).mono ?_
         rintro e w3 ⟨rfl, hb⟩
         have HB3 := hidT HB2 hb
         have HB13 := hidT HB12 hb
         clear hb HGR)
      | (with_reducible refine wpAt 16 ?_
         refine wpList_load_at (by rfl) 29 (.tmp 15) rfl ⟨(w.heap.size + 1), 1, none⟩ rfl ys _ (HQS.out _ HB13.out).row Tryd.underlying29 rfl HF1.out.op ?_)
      | (go_at_call 9
         refine (HGS.out _ HB3.out).mono ?_
         rintro e w4 ⟨rfl, hb⟩
         have HB4 := hidT HB3 hb
         have HB14 := hidT HB13 hb
         clear hb))
    go_ret
    first | exact ⟨rfl, HB4.out⟩ | exact ⟨rfl, HB3.out⟩
  go_enter Tryd.func7, Tryd.ntmps7
  go_wp2_with (first
    | (go_at_call 8
       refine (HAL.out _ HB1.out).mono ?_
       rintro e w2 ⟨rfl, hb⟩
       have HB2 := hidT HB1 hb
       have HB12 := Lib.hid hb
       clear hb)
    | (with_reducible refine wpAt 12 ?_
       refine wpList_load_at (by rfl) 29 (.tmp 11) rfl ⟨w.heap.size, 1, none⟩ rfl xs _ (HQR.out _ HB12.out).row Tryd.underlying29 rfl HF0.out.op ?_)
    | (go_at_call 9
       refine (HGR.out _ HB2.out).mono ?_
       rintro e w3 ⟨rfl, hb⟩
       have HB3 := hidT HB2 hb
       have HB13 := hidT HB12 hb
       clear hb HGR)
    | (with_reducible refine wpAt 16 ?_
       refine wpList_load_at (by rfl) 29 (.tmp 15) rfl ⟨(w.heap.size + 1), 1, none⟩ rfl ys _ (HQS.out _ HB13.out).row Tryd.underlying29 rfl HF1.out.op ?_)
    | (go_at_call 9
       refine (HGS.out _ HB3.out).mono ?_
       rintro e w4 ⟨rfl, hb⟩
       have HB4 := hidT HB3 hb
       have HB14 := hidT HB13 hb
       clear hb)
    | (with_reducible refine wpAt 20 ?_
       refine wpList_load_row rfl 31 (.tmp 2) rfl w.heap.size rfl 31 _ _ _ (HQ.out _ HB14.out) Tryd.underlying31 rfl HF0.out.info ?_)
    | (go_at_call 10
       refine (HEN.out _ HB4.out).mono ?_
       rintro e w5 he
       obtain ⟨hb, ⟨hne, _⟩ | ⟨_, base1, A1, c1, hbase, rfl, ho⟩⟩ := he
       · exact absurd HEX.out hne
       rw [← HN1.out] at ho ⊢
       have HO1 := Lib.hid ho
       clear hbase ho
       have HB5 := hidT HB4 hb
       have HB15 := hidT HB14 hb
       clear hb HEN)
    | (with_reducible refine wpAt 25 ?_
       refine wpList_load_row rfl 31 (.tmp 3) rfl (w.heap.size + 1) rfl 31 _ _ _ (HQ'.out _ HB15.out) Tryd.underlying31 rfl HF1.out.info ?_)
    | (go_at_call 10
       refine (HES.out _ HB5.out).mono ?_
       rintro e w6 he
       obtain ⟨hb, ⟨hne, _⟩ | ⟨_, base2, A2, c2, hbase, rfl, ho⟩⟩ := he
       · exact absurd HEY.out hne
       rw [← HN2.out] at ho ⊢
       have HO2 := Lib.hid ho
       clear hbase ho
       have HO16 := Lib.hid (own_below HO1.out hb)
       have HB6 := hidT HB5 hb
       have HB16 := hidT HB15 hb
       clear hb HES))
  have CV1 : Hid (∀ W, Below w6.heap.size w6 W → (convert 22 9 (.slice A1 n1 c1)).run Tryd.prog W = .ok (.string ⟨(encB z x).toArray⟩) W) := fun W hW => run_string_of_bytes Tryd.underlying22 Tryd.underlying5 (Reads.of_own (own_below HO16.out hW)) 9 Tryd.underlying9
  have CV2 : Hid (∀ W, Below w6.heap.size w6 W → (convert 22 9 (.slice A2 n2 c2)).run Tryd.prog W = .ok (.string ⟨(encB z' y).toArray⟩) W) := fun W hW => run_string_of_bytes Tryd.underlying22 Tryd.underlying5 (Reads.of_own (own_below HO2.out hW)) 9 Tryd.underlying9
  obtain ⟨sa, hsa⟩ : ∃ s : ByteArray, s = ⟨(encB z x).toArray⟩ := ⟨_, rfl⟩
  obtain ⟨sb, hsb⟩ : ∃ s : ByteArray, s = ⟨(encB z' y).toArray⟩ := ⟨_, rfl⟩
  rw [← hsa] at CV1
  rw [← hsb] at CV2
  have HV := Lib.hid (one_val HEX.out HEY.out HGX.out HGY.out HWZ.out HWZ'.out HSB.out hsa hsb)
  clear hsa hsb
  have CZ1 : Hid (∀ {W}, Below w6.heap.size w6 W → W.cell? ⟨w.heap.size, 0, none⟩ = some (.int .i32 z)) := fun {W} hW => (HQR.out W (HB16.out.trans (hW.mono HB16.out.size))).c0
  have CZ2 : Hid (∀ {W}, Below w6.heap.size w6 W → W.cell? ⟨w.heap.size + 1, 0, none⟩ = some (.int .i32 z')) := fun {W} hW => (HQS.out W (HB16.out.trans (hW.mono HB16.out.size))).c0
  have CX1 : Hid (∀ {W}, Below w6.heap.size w6 W → ∀ j v, xs[j]? = some v → W.cell? ((⟨w.heap.size, 1, none⟩ : Addr).add j) = some v) := fun {W} hW => (HQR.out W (HB16.out.trans (hW.mono HB16.out.size))).row
  have CX2 : Hid (∀ {W}, Below w6.heap.size w6 W → ∀ j v, ys[j]? = some v → W.cell? ((⟨w.heap.size + 1, 1, none⟩ : Addr).add j) = some v) := fun {W} hW => (HQS.out W (HB16.out.trans (hW.mono HB16.out.size))).row
  have CJ : Hid (∀ W, Below w6.heap.size w6 W → Calls Tryd.prog 21 #[.agg xs.toArray, .agg ys.toArray] W fun e w' => e = .returned (.bool bs) ∧ Below W.heap.size W w') := fun W hW => HSM.out W (HB6.out.trans (hW.mono HB6.out.size))
  obtain ⟨x35, H35⟩ : ∃ x : Value, Hid (x = .slice A1 n1 c1) := ⟨_, rfl⟩
  obtain ⟨x36, H36⟩ : ∃ x : Value, Hid (x = .string sa) := ⟨_, rfl⟩
  obtain ⟨x37, H37⟩ : ∃ x : Value, Hid (x = .slice A2 n2 c2) := ⟨_, rfl⟩
  obtain ⟨x38, H38⟩ : ∃ x : Value, Hid (x = .string sb) := ⟨_, rfl⟩
  obtain ⟨x39, H39⟩ : ∃ x : Value, Hid (x = .bool (sa.toList == sb.toList)) := ⟨_, rfl⟩
  obtain ⟨x40, H40⟩ : ∃ x : Value, Hid (x = .pointer (some ⟨w.heap.size, 0, none⟩)) := ⟨_, rfl⟩
  obtain ⟨x41, H41⟩ : ∃ x : Value, Hid (x = .int .i32 z) := ⟨_, rfl⟩
  obtain ⟨x42, H42⟩ : ∃ x : Value, Hid (x = .pointer (some ⟨(w.heap.size + 1), 0, none⟩)) := ⟨_, rfl⟩
  obtain ⟨x43, H43⟩ : ∃ x : Value, Hid (x = .int .i32 z') := ⟨_, rfl⟩
  obtain ⟨x44, H44⟩ : ∃ x : Value, Hid (x = .bool ((z : Int) == z')) := ⟨_, rfl⟩
  obtain ⟨x45, H45⟩ : ∃ x : Value, Hid (x = .bool ((z : Int) == z')) := ⟨_, rfl⟩
  obtain ⟨x46, H46⟩ : ∃ x : Value, Hid (x = bif (((z : Int) == z') == true) then .pointer (some ⟨w.heap.size, 1, none⟩) else undef) := ⟨_, rfl⟩
  obtain ⟨x47, H47⟩ : ∃ x : Value, Hid (x = bif (((z : Int) == z') == true) then .agg xs.toArray else undef) := ⟨_, rfl⟩
  obtain ⟨x48, H48⟩ : ∃ x : Value, Hid (x = bif (((z : Int) == z') == true) then .pointer (some ⟨(w.heap.size + 1), 1, none⟩) else undef) := ⟨_, rfl⟩
  obtain ⟨x49, H49⟩ : ∃ x : Value, Hid (x = bif (((z : Int) == z') == true) then .agg ys.toArray else undef) := ⟨_, rfl⟩
  obtain ⟨x50, H50⟩ : ∃ x : Value, Hid (x = bif (((z : Int) == z') == true) then .bool bs else undef) := ⟨_, rfl⟩
  obtain ⟨x51, H51⟩ : ∃ x : Value, Hid (x = .bool (((z : Int) == z') && bs)) := ⟨_, rfl⟩
  obtain ⟨x52, H52⟩ : ∃ x : Value, Hid (x = .bool ((sa.toList == sb.toList) == (((z : Int) == z') && bs))) := ⟨_, rfl⟩
  refine wp_region_ord (w0 := w6) (.inl x35 ::
    .inl x36 ::
    .inl x37 ::
    .inl x38 ::
    .inl x39 ::
    .inl x40 ::
    .inl x41 ::
    .inl x42 ::
    .inl x43 ::
    .inl x44 ::
    .inl x45 ::
    .inl x46 ::
    .inl x47 ::
    .inl x48 ::
    .inl x49 ::
    .inl x50 ::
    .inl x51 ::
    .inl x52 ::
    .inl (.bool ((sa.toList == sb.toList) == (((z : Int) == z') && bs))) :: []) rfl (by as_aux_lemma => kernel_rfl) (by as_aux_lemma => kernel_rfl) (by as_aux_lemma => kernel_rfl) (by as_aux_lemma => kernel_rfl) (nomono rfl) ⟨fun ac W hb hold hdep K hK => op_u (u := .slice A1 n1 c1) rfl (r_move _ rfl (eval_tmp ((hold 5 (free_slot (by as_aux_lemma => kernel_rfl))).trans rfl))) (hK _ _ H35.out.symm (Below.refl _ _)),
    fun ac W hb hold hdep K hK => op_u (u := .string sa) rfl (r_conv 22 9 _ rfl (eval_tmp ((dep_val (hdep ⟨0, .data⟩ (by simp) rfl 35 rfl)).trans (congrArg some H35.out))) (CV1.out _ hb)) (hK _ _ H36.out.symm (Below.refl _ _)),
    fun ac W hb hold hdep K hK => op_u (u := .slice A2 n2 c2) rfl (r_move _ rfl (eval_tmp ((hold 7 (free_slot (by as_aux_lemma => kernel_rfl))).trans rfl))) (hK _ _ H37.out.symm (Below.refl _ _)),
    fun ac W hb hold hdep K hK => op_u (u := .string sb) rfl (r_conv 22 9 _ rfl (eval_tmp ((dep_val (hdep ⟨2, .data⟩ (by simp) rfl 37 rfl)).trans (congrArg some H37.out))) (CV2.out _ hb)) (hK _ _ H38.out.symm (Below.refl _ _)),
    fun ac W hb hold hdep K hK => op_u (u := .bool (sa.toList == sb.toList)) rfl (r_seq 9 _ _ _ rfl (eval_tmp ((dep_val (hdep ⟨1, .data⟩ (by simp) rfl 36 rfl)).trans (congrArg some H36.out))) (eval_tmp ((dep_val (hdep ⟨3, .data⟩ (by simp) rfl 38 rfl)).trans (congrArg some H38.out)))) (hK _ _ H39.out.symm (Below.refl _ _)),
    fun ac W hb hold hdep K hK => op_u (u := .pointer (some ⟨w.heap.size, 0, none⟩)) rfl (r_field 31 _ 0 rfl (eval_tmp ((hold 2 (free_slot (by as_aux_lemma => kernel_rfl))).trans rfl)) Tryd.underlying31 rfl (n := 0) isz_21 rfl) (hK _ _ H40.out.symm (Below.refl _ _)),
    fun ac W hb hold hdep K hK => op_u (u := .int .i32 z) rfl (r_load 21 _ rfl (eval_tmp ((dep_val (hdep ⟨5, .data⟩ (by simp) rfl 40 rfl)).trans (congrArg some H40.out))) (CZ1.out hb) Tryd.underlying21 rfl) (hK _ _ H41.out.symm (Below.refl _ _)),
    fun ac W hb hold hdep K hK => op_u (u := .pointer (some ⟨(w.heap.size + 1), 0, none⟩)) rfl (r_field 31 _ 0 rfl (eval_tmp ((hold 3 (free_slot (by as_aux_lemma => kernel_rfl))).trans rfl)) Tryd.underlying31 rfl (n := 0) isz_21 rfl) (hK _ _ H42.out.symm (Below.refl _ _)),
    fun ac W hb hold hdep K hK => op_u (u := .int .i32 z') rfl (r_load 21 _ rfl (eval_tmp ((dep_val (hdep ⟨7, .data⟩ (by simp) rfl 42 rfl)).trans (congrArg some H42.out))) (CZ2.out hb) Tryd.underlying21 rfl) (hK _ _ H43.out.symm (Below.refl _ _)),
    fun ac W hb hold hdep K hK => op_u (u := .bool ((z : Int) == z')) rfl (r_ieq 21 _ _ _ rfl (eval_tmp ((dep_val (hdep ⟨6, .data⟩ (by simp) rfl 41 rfl)).trans (congrArg some H41.out))) (eval_tmp ((dep_val (hdep ⟨8, .data⟩ (by simp) rfl 43 rfl)).trans (congrArg some H43.out)))) (hK _ _ H44.out.symm (Below.refl _ _)),
    fun ac W hb hold hdep K hK => op_u (u := .bool ((z : Int) == z')) rfl (r_move _ rfl (eval_tmp ((dep_val (hdep ⟨9, .data⟩ (by simp) rfl 44 rfl)).trans (congrArg some H44.out)))) (hK _ _ H45.out.symm (Below.refl _ _)),
    fun ac W hb hold hdep K hK => op_g (u := .pointer (some ⟨w.heap.size, 1, none⟩)) (want_all rfl rfl ((dep_val (hdep ⟨10, .guard⟩ (by simp) rfl 45 rfl)).trans (congrArg some H45.out))) (fun hc => r_field 31 _ 1 rfl (eval_tmp ((hold 2 (free_slot (by as_aux_lemma => kernel_rfl))).trans rfl)) Tryd.underlying31 rfl (n := 18) isz_29 rfl) (hK _ _ H46.out.symm (Below.refl _ _)),
    fun ac W hb hold hdep K hK => op_g (u := .agg xs.toArray) (want_all rfl rfl ((dep_val (hdep ⟨10, .guard⟩ (by simp) rfl 45 rfl)).trans (congrArg some H45.out))) (fun hc => r_load_row 29 _ rfl (eval_if ((dep_val (hdep ⟨11, .data⟩ (by simp) rfl 46 rfl)).trans (congrArg some H46.out)) hc) xs (CX1.out hb) Tryd.underlying29 rfl HF0.out.op) (hK _ _ H47.out.symm (Below.refl _ _)),
    fun ac W hb hold hdep K hK => op_g (u := .pointer (some ⟨(w.heap.size + 1), 1, none⟩)) (want_all rfl rfl ((dep_val (hdep ⟨10, .guard⟩ (by simp) rfl 45 rfl)).trans (congrArg some H45.out))) (fun hc => r_field 31 _ 1 rfl (eval_tmp ((hold 3 (free_slot (by as_aux_lemma => kernel_rfl))).trans rfl)) Tryd.underlying31 rfl (n := 18) isz_29 rfl) (hK _ _ H48.out.symm (Below.refl _ _)),
    fun ac W hb hold hdep K hK => op_g (u := .agg ys.toArray) (want_all rfl rfl ((dep_val (hdep ⟨10, .guard⟩ (by simp) rfl 45 rfl)).trans (congrArg some H45.out))) (fun hc => r_load_row 29 _ rfl (eval_if ((dep_val (hdep ⟨13, .data⟩ (by simp) rfl 48 rfl)).trans (congrArg some H48.out)) hc) ys (CX2.out hb) Tryd.underlying29 rfl HF1.out.op) (hK _ _ H49.out.symm (Below.refl _ _)),
    fun ac W hb hold hdep K hK => op_call (u := .bool bs) (want_all rfl rfl ((dep_val (hdep ⟨10, .guard⟩ (by simp) rfl 45 rfl)).trans (congrArg some H45.out))) 21 _ _ rfl (#[.agg xs.toArray, .agg ys.toArray]) (fun hc => by simp [(eval_if ((dep_val (hdep ⟨12, .data⟩ (by simp) rfl 47 rfl)).trans (congrArg some H47.out)) hc), (eval_if ((dep_val (hdep ⟨14, .data⟩ (by simp) rfl 49 rfl)).trans (congrArg some H49.out)) hc)]) Tryd.func21 (by as_aux_lemma => kernel_rfl) (by as_aux_lemma => kernel_rfl) (fun hc => CJ.out W hb) (fun w' hbl => hK _ _ H50.out.symm hbl),
    fun ac W hb hold hdep K hK => op_u (u := .bool (((z : Int) == z') && bs)) rfl (r_and _ _ _ rfl (eval_tmp ((dep_val (hdep ⟨10, .data⟩ (by simp) rfl 45 rfl)).trans (congrArg some H45.out))) (fun hb => eval_if ((dep_val (hdep ⟨15, .data⟩ (by simp) rfl 50 rfl)).trans (congrArg some H50.out)) (by simp [hb])) rfl) (hK _ _ H51.out.symm (Below.refl _ _)),
    fun ac W hb hold hdep K hK => op_u (u := .bool ((sa.toList == sb.toList) == (((z : Int) == z') && bs))) rfl (r_beq 4 _ _ _ rfl Tryd.underlying4 (eval_tmp ((dep_val (hdep ⟨4, .data⟩ (by simp) rfl 39 rfl)).trans (congrArg some H39.out))) (eval_tmp ((dep_val (hdep ⟨16, .data⟩ (by simp) rfl 51 rfl)).trans (congrArg some H51.out)))) (hK _ _ H52.out.symm (Below.refl _ _)),
    fun ac W hb hold hdep K hK => op_u (u := .bool ((sa.toList == sb.toList) == (((z : Int) == z') && bs))) rfl (r_assign _ rfl (eval_tmp ((dep_val (hdep ⟨17, .data⟩ (by simp) rfl 52 rfl)).trans (congrArg some H52.out)))) (hK _ _ rfl (Below.refl _ _)), trivial⟩ ?_
  intro w7 hb7
  simp only [Fin, Act.put, List.setIfInBounds_toArray, List.set_cons_zero, List.set_cons_succ]
  clear H35 H36 H37 H38 H39 H40 H41 H42 H43 H44 H45 H46 H47 H48 H49 H50 H51 H52
  have HB7 := hidT HB6 hb7
  clear hb7
  go_wp2
  go_ret
  exact ⟨by rw [HV.out]; rfl, HB7.out⟩
end Go.Proofs.YtpjjnmdfgcfnmaaDoor
