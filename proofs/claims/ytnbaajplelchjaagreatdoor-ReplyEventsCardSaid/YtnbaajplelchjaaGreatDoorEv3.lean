/- An event's bytes: the document's EncodeEvent: the walk. (printed by gen_v3.py) -/
import Derived.Test.YtnbaajplelchjaaGreatDoorEv1
import Derived.Test.YtnbaajplelchjaaGreatDoorJe0
set_option linter.unusedVariables false
set_option linter.unusedSimpArgs false
namespace Go.Proofs.YtnbaajplelchjaaGreatDoor
open Go.RowKit

/-- what the document says of text -/
def Vref (p : ByteArray) (v : Bool) (w : World) : Prop := ∀ W, Below w.heap.size w W → Calls Tryz.prog 62 #[.string p] W fun e w' => e = .returned (.bool v) ∧ Below W.heap.size W w'
set_option maxRecDepth 100000 in
theorem int4_any (base : Nat) (v : Value) (l : List UInt8) (z : Int) (w : World) (h : Rb w base v l) (hbase : base ≤ w.heap.size) (hsz : l.length + 8 ≤ 140737488355328) :
    Calls Tryz.prog 37 #[v, .int .i32 z] w fun e w' => ∃ v', e = .returned v' ∧ Rb w' base v' (l ++ bInt z) ∧ Below base w w' ∧ Keeps w w' := by
  have H := Lib.hid h
  clear h
  go_enter Tryz.func37, Tryz.ntmps37
  go_wp2_with (go_at_call 38
               refine (refPut4 base v l _ z w ?_ ?_ ?_ H.out hbase hsz).mono ?_
               · omega
               · omega
               · omega
               rintro e w1 ⟨v1, rfl, hr1, hb1, hk1⟩
               have HR1 := Lib.hid hr1
               have HB1 := Lib.hid hb1
               have HK1 := Lib.hid hk1
               clear hr1 hb1 hk1)
  go_ret
  exact ⟨_, rfl, HR1.out, HB1.out, HK1.out⟩

set_option maxRecDepth 100000 in
set_option maxHeartbeats 4000000 in
theorem refEncodeEvent_any (s k : Int) (p : ByteArray) (v : Bool) (w : World) (hv : Vref p v w) :
    Calls Tryz.prog 20 #[.agg #[.int .i64 s, .int .i32 k, .string p]] w fun e w' => Below w.heap.size w w' ∧
      ((evX k v p.size ≠ 0 ∧ e = .returned (.tuple #[.slice none 0 0, .int .i64 (evX k v p.size)])) ∨
       (evX k v p.size = 0 ∧ ∃ A n c, e = .returned (.tuple #[.slice A n c, .int .i64 0]) ∧ w'.ownsRow w.heap.size 5 1 (.slice A n c) n (bcells (evB k p.data.toList s)))) := by
  obtain ⟨w1, hw1⟩ : ∃ w1, w.alloc (.cells #[.int .i64 s, .int .i32 k, .string p] 55) = w1 := ⟨_, rfl⟩
  have hb1 : Below w.heap.size w w1 := by rw [← hw1]; exact (Below.refl _ _).alloc (Nat.le_refl _) _
  have hS : Blk w1 w.heap.size 55 #[.int .i64 s, .int .i32 k, .string p] := by rw [← hw1]; exact Blk.new _ _ _
  have hz1 : w1.heap.size = w.heap.size + 1 := by rw [← hw1]; simp
  have hvs := hv w1 hb1
  have HB1 := Lib.hid hb1
  have HS := Lib.hid hS
  have HV := Lib.hid hvs
  have kc1 := lit_cell hS 1 rfl
  have kc2 := lit_cell hS 2 rfl
  obtain ⟨E, hE⟩ : ∃ E, E = evX k v p.size := ⟨_, rfl⟩
  rw [← hE]
  unfold evX at hE
  have HXE := Lib.hid hE
  clear hb1 hS hvs hv hE
  by_cases h1 : k < 1
  · have h0 : E = 1 := by rw [HXE.out, if_neg (by omega)]
    subst h0
    clear HXE
    go_enter Tryz.func20, Tryz.ntmps20
    go_wp2
    go_ret2
    exact ⟨HB1.out, .inl ⟨by decide, rfl⟩⟩
  by_cases h2 : 4 < k
  · have h0 : E = 1 := by rw [HXE.out, if_neg (by omega)]
    subst h0
    clear HXE
    go_enter Tryz.func20, Tryz.ntmps20
    go_wp2
    go_ret2
    refine ⟨HB1.out, ?_⟩
    first | exact .inl ⟨by decide, rfl⟩ | rfl | simp
  rcases v with _ | _
  · have h0 : E = 1 := by rw [HXE.out, if_neg (by simp)]
    subst h0
    clear HXE
    go_enter Tryz.func20, Tryz.ntmps20
    go_wp2_with (go_at_call 62; refine HV.out.mono ?_; rintro e w2 ⟨rfl, hb⟩; have HB2 := Lib.hid (HB1.out.trans (hb.mono HB1.out.size)); clear hb kc1 kc2)
    go_ret2
    exact ⟨HB2.out, .inl ⟨by decide, rfl⟩⟩
  by_cases hp : 4096 < p.size
  · have h0 : E = 3 := by rw [HXE.out, if_pos ⟨by omega, rfl⟩, if_pos hp]
    subst h0
    clear HXE
    have hp2 : (4096 : Int) < (p.size : Int) := by omega
    go_enter Tryz.func20, Tryz.ntmps20
    go_wp2_with (go_at_call 62; refine HV.out.mono ?_; rintro e w2 ⟨rfl, hb⟩; have HB2 := Lib.hid (HB1.out.trans (hb.mono HB1.out.size)); have kd2 : w2.cell? ⟨w.heap.size, 2, none⟩ = some (.string p) := lit_cell (HS.out.below hb (by omega)) 2 rfl; clear hb kc1 kc2)
    go_ret2
    exact ⟨HB2.out, .inl ⟨by decide, rfl⟩⟩
  have h0 : E = 0 := by rw [HXE.out, if_pos ⟨by omega, rfl⟩, if_neg hp]
  subst h0
  clear HXE
  have hp2 : ¬ (4096 : Int) < (p.size : Int) := by omega
  have hps : p.size ≤ 4096 := by omega
  clear hp
  go_enter Tryz.func20, Tryz.ntmps20
  go_wp2_with (go_at_call 62; refine HV.out.mono ?_; rintro e w3 ⟨rfl, hb⟩; have HB12 := Lib.hid hb; clear kc1 kc2; refine Hid.out ?_)
  have hz2 := HB12.out.size
  have HS3 := Lib.hid (HS.out.below HB12.out (by omega))
  clear hb
  have kd2 := lit_cell HS3.out 2 rfl
  have HB3 : Hid (Below w.heap.size w w3) := HB1.out.trans (HB12.out.mono (by omega))
  have H3 : Hid (Rb w3 w3.heap.size (.slice none 0 0) []) := Rb.nil _ _
  have hz3 : w3.heap.size ≤ w3.heap.size := Nat.le_refl _
  have HE3 : Hid (Below w3.heap.size w3 w3) := Below.refl _ _
  have hw64 : IntKind.u64.wrap (-1) = 18446744073709551615 := by rw [IntKind.wrap_u64]; rfl
  have hp8 : ∀ (v : Value) (l : List UInt8) (W : World), Rb W w3.heap.size v l → w3.heap.size ≤ W.heap.size → l.length + 8 ≤ 140737488355328 → Calls Tryz.prog 38 #[v, .int .u64 18446744073709551615, .int .i64 8] W fun e w' => ∃ v', e = .returned v' ∧ Rb w' w3.heap.size v' (l ++ bLong (-1)) ∧ Below w3.heap.size W w' ∧ Keeps W w' := fun v l W h1 h2 h3 => by
    have h := refPut8 w3.heap.size v l (-1) W h1 h2 h3
    rwa [hw64] at h
  have HP8 := Lib.hid hp8
  clear hp8 hw64
  refine Lib.hid ?_
  go_wp2_with (go_at_call 37; refine (int4_any w3.heap.size (.slice none 0 0) _ (-1) w3 H3.out hz3 (by simp)).mono ?_; rintro e w4 ⟨v4, rfl, hr, hb, hk⟩; have hz4 : w3.heap.size ≤ w4.heap.size := Nat.le_trans hz3 hb.size; have HS4 := Lib.hid (hk _ _ _ (by decide) HS3.out); have H4 := Lib.hid hr; have HE4 := Lib.hid (HE3.out.trans hb); clear hr hb hk kd2; refine Hid.out ?_)
  refine Lib.hid ?_
  go_wp2_with (go_at_call 38; refine (HP8.out v4 _ w4 H4.out hz4 (by simp only [List.nil_append, List.append_nil, List.length_append, bInt_len, bLong_len, bBuf_len, ← bsize_eq, List.length_nil]; omega)).mono ?_; rintro e w5 ⟨v5, rfl, hr, hb, hk⟩; have hz5 : w3.heap.size ≤ w5.heap.size := Nat.le_trans hz4 hb.size; have HS5 := Lib.hid (hk _ _ _ (by decide) HS4.out); have H5 := Lib.hid hr; have HE5 := Lib.hid (HE4.out.trans hb); clear hr hb hk; refine Hid.out ?_)
  refine Lib.hid ?_
  go_wp2_with (go_at_call 37; refine (int4_any w3.heap.size v5 _ 0 w5 H5.out hz5 (by simp only [List.nil_append, List.append_nil, List.length_append, bInt_len, bLong_len, bBuf_len, ← bsize_eq, List.length_nil]; omega)).mono ?_; rintro e w6 ⟨v6, rfl, hr, hb, hk⟩; have hz6 : w3.heap.size ≤ w6.heap.size := Nat.le_trans hz5 hb.size; have HS6 := Lib.hid (hk _ _ _ (by decide) HS5.out); have H6 := Lib.hid hr; have HE6 := Lib.hid (HE5.out.trans hb); have c1 := lit_cell HS6.out 1 rfl; clear hr hb hk; refine Hid.out ?_)
  refine Lib.hid ?_
  go_wp2_with (go_at_call 37; refine (int4_any w3.heap.size v6 _ k w6 H6.out hz6 (by simp only [List.nil_append, List.append_nil, List.length_append, bInt_len, bLong_len, bBuf_len, ← bsize_eq, List.length_nil]; omega)).mono ?_; rintro e w7 ⟨v7, rfl, hr, hb, hk⟩; have hz7 : w3.heap.size ≤ w7.heap.size := Nat.le_trans hz6 hb.size; have HS7 := Lib.hid (hk _ _ _ (by decide) HS6.out); have H7 := Lib.hid hr; have HE7 := Lib.hid (HE6.out.trans hb); clear hr hb hk; refine Hid.out ?_)
  refine Lib.hid ?_
  go_wp2_with (go_at_call 37; refine (int4_any w3.heap.size v7 _ 3 w7 H7.out hz7 (by simp only [List.nil_append, List.append_nil, List.length_append, bInt_len, bLong_len, bBuf_len, ← bsize_eq, List.length_nil]; omega)).mono ?_; rintro e w8 ⟨v8, rfl, hr, hb, hk⟩; have hz8 : w3.heap.size ≤ w8.heap.size := Nat.le_trans hz7 hb.size; have HS8 := Lib.hid (hk _ _ _ (by decide) HS7.out); have H8 := Lib.hid hr; have HE8 := Lib.hid (HE7.out.trans hb); have c2 := lit_cell HS8.out 2 rfl; clear hr hb hk; refine Hid.out ?_)
  refine Lib.hid ?_
  go_wp2_with (go_at_call 63; refine (refText_any w3.heap.size v8 _ p w8 H8.out hz8 (by simp only [List.nil_append, List.append_nil, List.length_append, bInt_len, bLong_len, bBuf_len, ← bsize_eq, List.length_nil]; omega)).mono ?_; rintro e w9 ⟨v9, rfl, hr, hb, hk⟩; have hz9 : w3.heap.size ≤ w9.heap.size := Nat.le_trans hz8 hb.size; have HS9 := Lib.hid (hk _ _ _ (by decide) HS8.out); have H9 := Lib.hid hr; have HE9 := Lib.hid (HE8.out.trans hb); have c0 := lit_cell HS9.out 0 rfl; clear hr hb hk; refine Hid.out ?_)
  refine Lib.hid ?_
  go_wp2_with (go_at_call 38; refine (refPut8 w3.heap.size v9 _ s w9 H9.out hz9 (by simp only [List.nil_append, List.append_nil, List.length_append, bInt_len, bLong_len, bBuf_len, ← bsize_eq, List.length_nil]; omega)).mono ?_; rintro e w10 ⟨v10, rfl, hr, hb, hk⟩; have H10 := Lib.hid hr; have HE10 := Lib.hid (HE9.out.trans hb); clear hr hb hk)
  go_ret2
  have hr : Rb w10 w3.heap.size v10 (evB k p.data.toList s) := by
    have h := H10.out
    unfold evB
    simpa only [List.nil_append, List.append_assoc] using h
  unfold Rb at hr
  obtain ⟨A, c, rfl⟩ := slice_form hr
  exact ⟨HB3.out.trans (HE10.out.mono HB3.out.size), .inr ⟨by first | rfl | trivial, A, _, c, rfl, own_low hr HB3.out.size⟩⟩
end Go.Proofs.YtnbaajplelchjaaGreatDoor
