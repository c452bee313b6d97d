/- OpsCuts: the walk. (printed by gen_l3.py) -/
import Derived.Test.YtpjjnmdfgcfnmaaDoorOl2h
set_option linter.unusedVariables false
set_option linter.unusedSimpArgs false
namespace Go.Proofs.YtpjjnmdfgcfnmaaDoor
open Go.RowKit

theorem run_to {w : World} {B n c : Nat} {A : Option Addr} {l : List UInt8} (h : Reads w B 1 A n (bcells l)) (hc : n ≤ c) {k : Nat} (hk : k < n) : ∃ A1, (∀ W : World, (Instr.sliceAt 22 (.slice A n c) none (some (.int .i64 (k : Int))) none).run Tryd.prog W = .ok (.slice A1 k c) W) ∧ Reads w B 1 A1 k (bcells (l.take k)) ∧ (A1 = none → c = 0) := by
  refine ⟨A.map fun x => x.add 0, fun W => ?_, by simpa using reads_part (p := 0) h (by omega), fun hA => ?_⟩
  · have h2 : (k : Int) ≤ c := by omega
    have h3 : ¬ c = 0 := by omega
    simp [go_sem, h2, h3]
  · obtain ⟨ad, rfl, _⟩ := h.2 (by omega)
    cases hA
theorem u8_of {z : Int} (h : (Lit.int .u8 z).wf = true) : ∃ m : UInt8, (m.toNat : Int) = z := by
  have h1 : 0 ≤ z ∧ z < 256 := by
    have h0 : IntKind.u8.min = 0 := by decide
    have h2 : IntKind.u8.max = 255 := by decide
    simp [Lit.wf] at h
    omega
  exact ⟨UInt8.ofNat z.toNat, by rw [UInt8.toNat_ofNat']; omega⟩
theorem dec_more' {l : List UInt8} {z : Int} {x : OpC} {m : UInt8} {n : Nat} (h : x.encE = 0) (hg : x.good) (hz : (Lit.int .i32 z).wf = true) (hl : l = encB z x) (hn : n = l.length) {w w' : World} {e : Ending} (hd : Decoded (l ++ [m]) w e w') : Below w.heap.size w w' ∧ e = .returned (.tuple #[.agg zReq.toArray, .int .i64 (n : Int), .int .i64 21]) := by
  subst hl hn
  obtain ⟨h1, h2⟩ := hd
  rw [dec_more h hg hz (by simp)] at h2
  exact ⟨h1, h2.2.2⟩
theorem tmod_bd (a : Int) {n : Nat} (h : 0 < n) : -(n : Int) < a.tmod n ∧ a.tmod n < n := by
  have h1 := Int.natAbs_tmod a n
  have h2 : (a.tmod n).natAbs < n := by
    rw [h1]
    exact Nat.mod_lt _ (by simpa using h)
  omega
theorem dec_cut' {l : List UInt8} {z : Int} {x : OpC} (h : x.encE = 0) (hg : x.good) (hz : (Lit.int .i32 z).wf = true) {k : Nat} (hk : k < (encB z x).length) (hl : l = encB z x) {w w' : World} {e : Ending} (hd : Decoded (l.take k) w e w') : Below w.heap.size w w' ∧ ∃ q E, E ≠ 0 ∧ q ≤ (k : Int) ∧ e = .returned (.tuple #[.agg zReq.toArray, .int .i64 q, .int .i64 E]) := by
  subst hl
  obtain ⟨h1, ⟨q, E, _, h2, h3, h4⟩ | ⟨z', x', cs, h2, _, h4⟩⟩ := dec_case hd
  · refine ⟨h1, q, E, h2, ?_, h4⟩
    have := h3.2
    rw [List.length_take] at this
    omega
  · exfalso
    refine dec_cut h hg hz hk (fun w0 x0 h0 => ?_) h2
    rw [h2] at h0
    injection h0 with h0
    injection h0 with _ h0
    rw [← h0]
    exact h4.good

set_option maxRecDepth 100000 in
set_option maxHeartbeats 32000000 in
theorem cutsLaw_walk {w : World} {z : Int} {x : OpC} {xs : List Value} (hz : (Lit.int .i32 z).wf = true) (h : At w none x xs) (hb : x.bulk ≤ 1048576) (cut more : Int) (hm : (Lit.int .u8 more).wf = true) (E : Env w) :
    Calls Tryd.prog 4 #[.agg (Value.int .i32 z :: xs).toArray, .int .i64 cut, .int .u8 more] w fun e w' => e = .returned (.bool true) ∧ Below w.heap.size w w' := by
  have HE := Lib.hid (fun W (h : Below w.heap.size w W) => E.below h)
  have hb9 : x.bulk ≤ 1000000000 := by omega
  have HAL : Hid (∀ W, Below w.heap.size w W → Calls Tryd.prog 8 #[] W fun e w' => e = .returned (.bool true) ∧ Below W.heap.size W w') := fun W hW => alive_any W (E.below hW)
  obtain ⟨cs, hcs⟩ : ∃ cs : Array Value, cs = (Value.int .i32 z :: xs).toArray := ⟨_, rfl⟩
  have HF0 := Lib.hid (ReqFit.mk' hcs h)
  rw [← hcs]
  obtain ⟨w1, hw1⟩ : ∃ w1, w.alloc (.cells cs 31) = w1 := ⟨_, rfl⟩
  have hb1 := newB hw1
  have hn1 : Blk w1 w.heap.size 31 cs := by rw [← hw1]; exact Blk.new _ _ _
  have HB1 := Lib.hid hb1
  have HQ : Hid (∀ W, Below w1.heap.size w1 W → Blk W w.heap.size 31 cs) := fun W hW => hn1.below hW hn1.lt
  have HQR : Hid (∀ W, Below w1.heap.size w1 W → ReqRow W w.heap.size z x xs) := fun W hW => ReqRow.mk' (by rw [← hcs]; exact hn1.below hW hn1.lt) h
  have HGR : Hid (∀ W, Below w.heap.size w W → Calls Tryd.prog 9 #[.agg xs.toArray] W fun e w' => e = .returned (.bool (decide (3000 < x.cnt 0))) ∧ Below W.heap.size W w') := fun W hW => great_any h W hW
  have HEN : Hid (∀ W, Below w.heap.size w W → Calls Tryd.prog 10 #[.agg cs] W (Encoded W z x)) := fun W hW => by rw [hcs]; exact encode_any z (h.later hW) (E.below hW) hb9
  have hl1 : w.heap.size < w1.heap.size := hn1.lt
  by_cases hgr : 3000 < x.cnt 0
  · rw [decide_eq_true hgr] at HGR
    clear h E hb hb9 hcs hb1 hn1 hgr hz hm
    go_enter Tryd.func4, Tryd.ntmps4
    go_wp2_with (first
      | (go_at_call 8
         refine (HAL.out _ HB1.out).mono ?_
         rintro e w2 ⟨rfl, hb⟩
         have HB2 := hidT HB1 hb
         have HB12 := Lib.hid hb
         clear hb)
      | (with_reducible refine wpAt 18 ?_
         refine wpList_load_at (by rfl) 29 (.tmp 17) rfl ⟨w.heap.size, 1, none⟩ rfl xs _ (HQR.out _ HB12.out).row Tryd.underlying29 rfl HF0.out.op ?_)
      | (go_at_call 9
         refine (HGR.out _ HB2.out).mono ?_
         rintro e w3 ⟨rfl, hb⟩
         have HB3 := hidT HB2 hb
         have HB13 := hidT HB12 hb
         clear hb))
    go_ret
    exact ⟨rfl, HB3.out⟩
  rw [decide_eq_false hgr] at HGR
  by_cases he0 : x.encE = 0
  rotate_left
  · obtain ⟨en, hen⟩ : ∃ v, v = x.encE := ⟨_, rfl⟩
    have HENV := Lib.hid hen
    rw [← hen] at he0
    have HEZ := Lib.hid he0
    have heb : (en != 0) = true := by simpa using he0
    have hec : ¬ en = 0 := he0
    clear h E hb hb9 hcs hb1 hn1 hgr hz hm hen he0
    go_enter Tryd.func4, Tryd.ntmps4
    go_wp2_with (first
      | (go_at_call 8
         refine (HAL.out _ HB1.out).mono ?_
         rintro e w2 ⟨rfl, hb⟩
         have HB2 := hidT HB1 hb
         have HB12 := Lib.hid hb
         clear hb)
      | (with_reducible refine wpAt 18 ?_
         refine wpList_load_at (by rfl) 29 (.tmp 17) rfl ⟨w.heap.size, 1, none⟩ rfl xs _ (HQR.out _ HB12.out).row Tryd.underlying29 rfl HF0.out.op ?_)
      | (go_at_call 9
         refine (HGR.out _ HB2.out).mono ?_
         rintro e w3 ⟨rfl, hb⟩
         have HB3 := hidT HB2 hb
         have HB13 := hidT HB12 hb
         clear hb)
      | (with_reducible refine wpAt 21 ?_
         refine wpList_load_row rfl 31 (.tmp 3) rfl w.heap.size rfl 31 _ _ _ (HQ.out _ HB13.out) Tryd.underlying31 rfl HF0.out.info ?_)
      | (go_at_call 10
         refine (HEN.out _ HB3.out).mono ?_
         rintro e w4 he
         obtain ⟨hb, ⟨_, rfl⟩ | ⟨hne, _⟩⟩ := he
         rotate_left
         · exact absurd (HENV.out.trans hne) HEZ.out
         rw [← HENV.out]
         have HB4 := hidT HB3 hb
         clear hb))
    go_ret
    exact ⟨rfl, HB4.out⟩
  have HEZ := Lib.hid he0
  have HGD := Lib.hid h.good
  have HWZ := Lib.hid hz
  have hbl := enc_len (z := z) hb
  have hpos := enc_pos z x
  obtain ⟨l, hl⟩ : ∃ v, v = encB z x := ⟨_, rfl⟩
  have HLE := Lib.hid hl
  rw [← hl] at hbl hpos
  obtain ⟨en, hen⟩ : ∃ v, v = l.length := ⟨_, rfl⟩
  have HENL := Lib.hid hen
  rw [← hen] at hbl hpos
  obtain ⟨r, hr⟩ : ∃ r, cut.tmod (en : Int) = r := ⟨_, rfl⟩
  have hrb := tmod_bd cut hpos
  rw [hr] at hrb
  have hs0 : 0 ≤ (r + (en : Int)) := by omega
  obtain ⟨k, hk⟩ : ∃ k : Nat, (r + (en : Int)).tmod (en : Int) = k := by
    refine ⟨((r + (en : Int)).tmod (en : Int)).toNat, ?_⟩
    have := Int.tmod_nonneg (en : Int) hs0
    omega
  have hkb := tmod_bd (r + (en : Int)) hpos
  rw [hk] at hkb
  have hkn : k < en := by omega
  have hew : IntKind.i64.wrap (r + (en : Int)) = r + (en : Int) := IntWalk.i64_in _ (by omega)
  have hrw : IntKind.i64.wrap r = r := IntWalk.i64_in _ (by omega)
  have hkw : IntKind.i64.wrap (k : Int) = k := IntWalk.i64_in _ (by omega)
  have hez : ¬ (en : Int) = 0 := by omega
  have hez2 : ((en : Int) == 0) = false := by simp; omega
  obtain ⟨mb, rfl⟩ := u8_of hm
  have HBC : Hid (bcells l ++ [.int .u8 (mb.toNat : Int)] = bcells (l ++ [mb])) := by unfold Hid bcells; rw [List.map_append]; rfl
  have HKL : Hid (k < (encB z x).length) := by unfold Hid; rw [← hl, ← hen]; exact hkn
  clear h E hb hb9 hcs hb1 hn1 hgr hz hm he0 hen hl hkb
  obtain ⟨i0, hi0, hz0, hzi1, hzi2⟩ := info_parts u8_info
  go_enter Tryd.func4, Tryd.ntmps4
  go_wp2_with (first
    | (go_at_call 8
       refine (HAL.out _ HB1.out).mono ?_
       rintro e w2 ⟨rfl, hb⟩
       have HB2 := hidT HB1 hb
       have HB12 := Lib.hid hb
       clear hb)
    | (with_reducible refine wpAt 18 ?_
       refine wpList_load_at (by rfl) 29 (.tmp 17) rfl ⟨w.heap.size, 1, none⟩ rfl xs _ (HQR.out _ HB12.out).row Tryd.underlying29 rfl HF0.out.op ?_)
    | (go_at_call 9
       refine (HGR.out _ HB2.out).mono ?_
       rintro e w3 ⟨rfl, hb⟩
       have HB3 := hidT HB2 hb
       have HB13 := hidT HB12 hb
       clear hb)
    | (with_reducible refine wpAt 21 ?_
       refine wpList_load_row rfl 31 (.tmp 3) rfl w.heap.size rfl 31 _ _ _ (HQ.out _ HB13.out) Tryd.underlying31 rfl HF0.out.info ?_)
    | (go_at_call 10
       refine (HEN.out _ HB3.out).mono ?_
       rintro e w4 he
       obtain ⟨hb, ⟨hne, _⟩ | ⟨_, base, AE, cE, hbase, rfl, ho⟩⟩ := he
       · exact absurd HEZ.out hne
       rw [← HLE.out, ← HENL.out] at ho ⊢
       have HO4 := Lib.hid ho
       have HBS := Lib.hid hbase
       obtain ⟨A1, hsl, hr1, hn1⟩ := run_to (Reads.of_own ho) (own_capO ho) hkn
       have HD1 := Lib.hid (opDecode_any cE k A1 (l.take k) w4 hr1 (by have := own_capO ho; omega) (by omega) hn1 (HE.out _ (HB3.out.trans (hb.mono HB3.out.size))))
       clear hbase ho hr1 hn1
       have HB4 := hidT HB3 hb
       clear hb)
    | (go_at_call 13
       refine HD1.out.mono ?_
       clear HD1
       rintro e w5 hd
       obtain ⟨hb, q, E', hE, hq, rfl⟩ := dec_cut' HEZ.out HGD.out HWZ.out HKL.out HLE.out hd
       have HB5 := hidT HB4 hb
       have HO5 := Lib.hid (own_below HO4.out hb)
       have hEb : (E' != 0) = true := (by simpa using hE)
       have hEc : ¬ E' = 0 := hE
       clear hd hb hE)
    | (with_reducible refine wpAt 10 ?_
       refine wpList_newrow rfl rfl 31 rfl 10 rfl (.tmp 50) rfl rfl #[.int .i32 0, .int .i32 0, .string ⟨#[]⟩, .slice none 0 0, .slice none 0 0, .int .i32 0, .int .i32 0, .bool false, .int .i64 0, .int .i64 0, .int .i64 0, .int .i64 0, .slice none 0 0, .slice none 0 0, .slice none 0 0, .slice none 0 0, .slice none 0 0, .int .i32 0, .slice none 0 0, .slice none 0 0] (fun _ => rfl) (show 10 < 81 by decide) (by kernel_rfl) req_size (by simp [Value.oneCell']) ?_
       obtain ⟨w6, hnew⟩ : ∃ x, w5.alloc (.cells #[.int .i32 0, .int .i32 0, .string ⟨#[]⟩, .slice none 0 0, .slice none 0 0, .int .i32 0, .int .i32 0, .bool false, .int .i64 0, .int .i64 0, .int .i64 0, .int .i64 0, .slice none 0 0, .slice none 0 0, .slice none 0 0, .slice none 0 0, .slice none 0 0, .int .i32 0, .slice none 0 0, .slice none 0 0] 31) = x := ⟨_, rfl⟩
       rw [hnew]
       have hbn := newB hnew
       have HB6 := hidT HB5 hbn
       have HO6 := Lib.hid (own_below HO5.out hbn)
       clear hnew hbn)
    | (with_reducible refine wpAt 56 ?_
       refine wpList_append_any _ rfl (.tmp 54) (.tmp 55) _ rfl w6.heap.size 5 i0 _ 1 1 Tryd.underlying22 hi0 hz0 hzi1 hzi2 rfl (by decide) (.slice (some ⟨w6.heap.size, 0, none⟩) 0 0) 0 [] rfl (World.ownsRow_made w6 #[] 0 (Nat.le_refl _) (by decide) rfl) w6.heap.size AE en cE (bcells l) rfl ((Reads.of_own HO6.out).alloc (Nat.le_refl _) _) (bcells_one _) (by simp only [maxLen]; omega) (by omega) (by simp) ?_
       intro v7 w7 ho7 hg7 hat7
       obtain ⟨A7, c7, rfl⟩ := slice_form ho7
       rw [Nat.zero_add, List.nil_append] at ho7
       rw [Nat.zero_add]
       have hb7 : Below w6.heap.size w6 w7 := ((Below.refl _ _).alloc (Nat.le_refl _) _).grown hg7 (by simp) (fun k hk => by simp [Value.ownBlock] at hk; omega)
       have HB7 := hidT HB6 hb7
       have HO7 := Lib.hid ho7
       have hz7 := hb7.size
       clear ho7 hg7 hat7 hb7)
    | (with_reducible refine wpAt 59 ?_
       refine wpList_append_any _ rfl (.tmp 56) (.tmp 58) _ rfl w6.heap.size 5 i0 _ 1 1 Tryd.underlying22 hi0 hz0 hzi1 hzi2 rfl (by decide) (.slice A7 en c7) en (bcells l) rfl (World.ownsRow.alloc HO7.out _) (w7.heap.size + 1) (some ⟨w7.heap.size, 0, none⟩) 1 1 [.int .u8 (mb.toNat : Int)] rfl (reads_litO w7 5 _ [.int .u8 (mb.toNat : Int)]) (fun u hu => by simp at hu; subst hu; rfl) (by simp only [maxLen]; omega) (by omega) (by simp; omega) ?_
       intro v8 w8 ho8 hg8 hat8
       obtain ⟨A8, c8, rfl⟩ := slice_form ho8
       rw [HBC.out] at ho8
       have hb8 : Below w7.heap.size w7 (w7.alloc (.cells #[.int .u8 (mb.toNat : Int)] 5)) := (Below.refl _ _).alloc (Nat.le_refl _) _
       have HB8 : Hid (Below w.heap.size w w8) := (HB7.out.trans (hb8.mono HB7.out.size)).grown hg8 (by simp; have := HB7.out.size; omega) (fun k hk => Nat.le_trans HB6.out.size (HO7.out.lt k hk).1)
       have HD2 := Lib.hid (opDecode_any c8 (en + 1) A8 (l ++ [mb]) w8 (Reads.of_own ho8) (own_capO ho8) (by omega) (fun h => (own_nil ho8 h).2) (HE.out _ HB8.out))
       clear ho8 hg8 hat8 hb8)
    | (go_at_call 13
       refine HD2.out.mono ?_
       clear HD2
       rintro e w9 hd
       obtain ⟨hb, rfl⟩ := dec_more' HEZ.out HGD.out HWZ.out HLE.out HENL.out hd
       have HB9 := hidT HB8 hb
       clear hd hb)
    | (with_reducible refine wpAt 12 ?_
       refine wpList_newrow rfl rfl 31 rfl 12 rfl (.tmp 61) rfl rfl #[.int .i32 0, .int .i32 0, .string ⟨#[]⟩, .slice none 0 0, .slice none 0 0, .int .i32 0, .int .i32 0, .bool false, .int .i64 0, .int .i64 0, .int .i64 0, .int .i64 0, .slice none 0 0, .slice none 0 0, .slice none 0 0, .slice none 0 0, .slice none 0 0, .int .i32 0, .slice none 0 0, .slice none 0 0] (fun _ => rfl) (show 12 < 81 by decide) (by kernel_rfl) req_size (by simp [Value.oneCell']) ?_
       obtain ⟨wb, hnew⟩ : ∃ x, w9.alloc (.cells #[.int .i32 0, .int .i32 0, .string ⟨#[]⟩, .slice none 0 0, .slice none 0 0, .int .i32 0, .int .i32 0, .bool false, .int .i64 0, .int .i64 0, .int .i64 0, .int .i64 0, .slice none 0 0, .slice none 0 0, .slice none 0 0, .slice none 0 0, .slice none 0 0, .int .i32 0, .slice none 0 0, .slice none 0 0] 31) = x := ⟨_, rfl⟩
       rw [hnew]
       have hbn := newB hnew
       have HBb := hidT HB9 hbn
       clear hnew hbn))
  go_ret
  exact ⟨rfl, HBb.out⟩
end Go.Proofs.YtpjjnmdfgcfnmaaDoor
