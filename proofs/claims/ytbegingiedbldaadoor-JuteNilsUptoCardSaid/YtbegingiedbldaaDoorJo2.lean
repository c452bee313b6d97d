/- JuteNils: the walk. -/
import Derived.Test.YtbegingiedbldaaDoorJo1
import Derived.Test.YtbegingiedbldaaDoorJb1
namespace Go.Proofs.YtbegingiedbldaaDoor
open Go.RowKit

theorem play_seven (n : Int) (l : List UInt8) (m q : Nat) (hc : gCount n 0 l 0 = .inl (m, q)) : play [⟨7, n, 0, 0⟩] l 0 = (([(m : Int)], []), .inl q) := by
  have hs : stepR ⟨7, n, 0, 0⟩ l 0 = .inl (([(m : Int)], []), q) := by
    simp [stepR, Rg.map, hc]
  simp [play, hs]
theorem count_size (n : Nat) (l : List UInt8) (h : gSize n l 0 = .inl (n, 4)) : gCount n 0 l 0 = .inl (n, 4) := by
  unfold gCount
  rw [h]
  simp
theorem size_n (n : Nat) (hn : n ≤ 2147483647) : gSize n (bInt n) 0 = .inl (n, 4) := size_atb (Atb.all (bInt (n : Int))) hn (Int.le_refl _)
theorem nils_play (n : Nat) (hn : n ≤ 2147483647) : play [⟨7, n, 0, 0⟩] (bInt n) 0 = (([(n : Int)], []), .inl 4) := play_seven _ _ n 4 (count_size n _ (size_n n hn))

set_option maxRecDepth 100000 in
set_option maxHeartbeats 8000000 in
theorem nils_any (A0 : Option Addr) (n0 c0 : Nat) (most : Int) (A1 : Option Addr) (n1 c1 : Nat) (L : List ByteArray) (w : World) (hE : Env w)
    (h1 : Reads w w.heap.size 1 A1 n1 (scells L)) (hn1 : n1 ≤ 1048576) :
    Calls Tryd.prog 9 #[.slice A0 n0 c0, .int .i64 most, .slice A1 n1 c1] w fun e w' => e = .returned (.bool true) ∧ Below w.heap.size w w' := by
  have hmf : ∀ (fn : Fn) (first cap : Array Value) (w : World), (Instr.makeFunc fn first cap).run Tryd.prog w = .ok (.func fn first cap) w := fun _ _ _ _ => rfl
  have HE := Lib.hid hE
  have H1 := Lib.hid h1
  have HPL := Lib.hid (nils_play n1 (by omega))
  clear hE h1
  go_enter Tryd.func9, Tryd.ntmps9
  go_wp2_with (first
    | (go_at_call 11
       with_reducible refine (readNil_any A0 n0 c0 w).mono ?_
       rintro e w1 ⟨rfl, hb⟩
       have HB1 : Hid (Below w.heap.size w w1) := hb
       clear hb)
    | (go_at_call 18
       with_reducible refine (allNil_any A0 n0 c0 w1).mono ?_
       rintro e w2 ⟨rfl, hb⟩
       have HB2 : Hid (Below w.heap.size w w2) := HB1.out.trans (hb.mono HB1.out.size)
       clear hb)
    | (go_at_call 14; (with_reducible refine (no_any _ _).mono ?_); rintro e wn ⟨rfl, rfl⟩)
    | (go_at_call 17
       with_reducible refine (live_any w2 (HE.out.below HB2.out)).mono ?_
       rintro e w3 ⟨rfl, hb⟩
       have HB3 : Hid (Below w.heap.size w w3) := HB2.out.trans (hb.mono HB2.out.size)
       clear hb)
    | (go_at_call 35
       with_reducible refine (nBool w3).mono ?_
       rintro e w4 ⟨rfl, hb⟩
       have HB4 : Hid (Below w.heap.size w w4) := HB3.out.trans (hb.mono HB3.out.size)
       clear hb)
    | (go_at_call 29
       with_reducible refine (nByte _ w4).mono ?_
       rintro e w5 ⟨rfl, hb⟩
       have HB5 : Hid (Below w.heap.size w w5) := HB4.out.trans (hb.mono HB4.out.size)
       clear hb)
    | (go_at_call 36
       with_reducible refine (nInt _ w5).mono ?_
       rintro e w6 ⟨rfl, hb⟩
       have HB6 : Hid (Below w.heap.size w w6) := HB5.out.trans (hb.mono HB5.out.size)
       clear hb)
    | (go_at_call 37
       with_reducible refine (nLong _ w6).mono ?_
       rintro e w7 ⟨rfl, hb⟩
       have HB7 : Hid (Below w.heap.size w w7) := HB6.out.trans (hb.mono HB6.out.size)
       clear hb)
    | (go_at_call 28
       with_reducible refine (nBuffer _ _ _ w7).mono ?_
       rintro e w8 ⟨rfl, hb⟩
       have HB8 : Hid (Below w.heap.size w w8) := HB7.out.trans (hb.mono HB7.out.size)
       clear hb)
    | (go_at_call 38
       with_reducible refine (nText _ w8).mono ?_
       rintro e w9 ⟨rfl, hb⟩
       have HB9 : Hid (Below w.heap.size w w9) := HB8.out.trans (hb.mono HB8.out.size)
       clear hb)
    | (go_at_call 39
       with_reducible refine (nCount _ w9).mono ?_
       rintro e w10 ⟨rfl, hb⟩
       have HB10 : Hid (Below w.heap.size w w10) := HB9.out.trans (hb.mono HB9.out.size)
       clear hb)
    | (go_at_call 40
       with_reducible refine (nList A1 n1 c1 w.heap.size L w10 (H1.out.below HB10.out) HB10.out.size (by omega)).mono ?_
       rintro e w11 ⟨rfl, hb⟩
       have HB11 : Hid (Below w.heap.size w w11) := HB10.out.trans (hb.mono HB10.out.size)
       clear hb)
    | (go_at_call 42
       with_reducible refine (oFail _ _ w11 (off_nil _)).mono ?_
       rintro e wn ⟨rfl, rfl⟩
       obtain ⟨w12, hw12⟩ : ∃ w12, w11.alloc (.cells #[.int .i64 most] 84) = w12 := ⟨_, rfl⟩
       have HB12 : Hid (Below w.heap.size w w12) := (by unfold Hid; rw [← hw12]; exact HB11.out.alloc HB11.out.size _))
    | (go_at_call 30; (with_reducible refine (nBytes _).mono ?_); rintro e wn ⟨rfl, rfl⟩)
    | (go_at_call 32; (with_reducible refine (nLen _).mono ?_); rintro e wn ⟨rfl, rfl⟩)
    | (go_at_call 20; (with_reducible refine (oBool _ _ (off_nil _)).mono ?_); rintro e wn ⟨rfl, rfl⟩)
    | (go_at_call 21; (with_reducible refine (oByte _ _ (off_nil _)).mono ?_); rintro e wn ⟨rfl, rfl⟩)
    | (go_at_call 22; (with_reducible refine (oInt _ _ (off_nil _)).mono ?_); rintro e wn ⟨rfl, rfl⟩)
    | (go_at_call 23; (with_reducible refine (oLong _ _ (off_nil _)).mono ?_); rintro e wn ⟨rfl, rfl⟩)
    | (go_at_call 24; (with_reducible refine (oBuffer _ _ _ (off_nil _)).mono ?_); rintro e wn ⟨rfl, rfl⟩)
    | (go_at_call 25; (with_reducible refine (oText _ _ _ (off_nil _)).mono ?_); rintro e wn ⟨rfl, rfl⟩)
    | (go_at_call 26; (with_reducible refine (oCount _ _ _ _ (off_nil _)).mono ?_); rintro e wn ⟨rfl, rfl⟩)
    | (go_at_call 27; (with_reducible refine (oLeft _ _ (off_nil _)).mono ?_); rintro e wn ⟨rfl, rfl⟩)
    | (go_at_call 43
       with_reducible refine (oGet _ _ _ w12).mono ?_
       rintro e w13 ⟨⟨AG, cG, rfl⟩, hb⟩
       have HB13 : Hid (Below w.heap.size w w13) := HB12.out.trans (hb.mono HB12.out.size)
       clear hb))
  obtain ⟨w14, hw14⟩ : ∃ w14, w13.alloc (.cells #[.slice none 0 0] 57) = w14 := ⟨_, rfl⟩
  have hb14 : Below w13.heap.size w13 w14 := by rw [← hw14]; exact (Below.refl _ _).alloc (Nat.le_refl _) _
  have HW14 : Hid (Wr w14 w13.heap.size w13.heap.size (.slice none 0 0) []) := ⟨by rw [← hw14]; exact Blk.new' rfl, World.ownsRow_nil _ _ _ _⟩
  have HB14 : Hid (Below w.heap.size w w14) := HB13.out.trans (hb14.mono HB13.out.size)
  have HZ14 : Hid (w13.heap.size ≤ w14.heap.size) := hb14.size
  rw [hw14]
  clear hb14 HB1 HB2 HB3 HB4 HB5 HB6 HB7 HB8 HB9 HB10 HB11 HB12 H1
  have hl4 : (bInt (n1 : Int)).length = 4 := bInt_len _
  obtain ⟨l, hl⟩ : ∃ l, l = bInt (n1 : Int) := ⟨_, rfl⟩
  rw [← hl] at hl4 HPL
  have HL := Lib.hid hl
  have HL4 := Lib.hid hl4
  clear hl hl4
  with_reducible refine (wListNil_any w13.heap.size w13.heap.size _ [] A1 n1 c1 w14 HW14.out HZ14.out (by decide)).mono ?_
  rintro e w15 ⟨rfl, v15, hp⟩
  have HB15 : Hid (Below w.heap.size w w15) := HB14.out.trans (hp.below HB13.out.size (fun x e => by simp [Value.ownBlock] at e) HB14.out.size)
  have HW15 : Hid (Wr w15 w13.heap.size w13.heap.size v15 l) := by unfold Hid; rw [HL.out]; simpa using hp.1
  have HZ15 : Hid (w13.heap.size ≤ w15.heap.size) := Nat.le_trans HZ14.out hp.size
  obtain ⟨w16, hw16⟩ : ∃ w16, (w15.alloc (.cells #[.int .i64 7, .int .i64 n1, .int .i64 0, .int .i64 0] 53)).alloc (.cells #[.slice (some ⟨w15.heap.size, 0, none⟩) 1 1, .slice none 0 0, .slice none 0 0, .pointer none, .int .i64 0] 31) = w16 := ⟨_, rfl⟩
  have hb16 : Below w15.heap.size w15 w16 := by rw [← hw16]; exact ((Below.refl _ _).alloc (Nat.le_refl _) _).alloc (by simp) _
  have HP16 : Hid (Blk w16 (w15.heap.size + 1) 31 #[.slice (some ⟨w15.heap.size, 0, none⟩) 1 1, .slice none 0 0, .slice none 0 0, .pointer none, .int .i64 0]) := by unfold Hid; rw [← hw16]; exact Blk.new' (by simp)
  have HS16 : Hid (Reads w16 (w15.heap.size + 1) 4 (some ⟨w15.heap.size, 0, none⟩) 1 (([⟨7, n1, 0, 0⟩] : List St).flatMap stCells)) := by unfold Hid; rw [← hw16]; exact (reads_lits w15 53 (([⟨7, n1, 0, 0⟩] : List St).flatMap stCells) 4 1 rfl).alloc (by simp) _
  have HZ16 : Hid (w16.heap.size = w15.heap.size + 2) := by unfold Hid; rw [← hw16]; simp
  have HW16 := Lib.hid (HW15.out.later hb16)
  have HB16 : Hid (Below w.heap.size w w16) := HB15.out.trans (hb16.mono HB15.out.size)
  clear hp hb16
  go_wp2_with (first
    | (go_at_call 30
       have hrd := wBytes_any w13.heap.size w13.heap.size v15 l w16 HW16.out (by rw [HL4.out]; decide)
       rw [HL4.out] at hrd
       with_reducible refine hrd.mono ?_
       clear hrd
       rintro e w17 ⟨A17, c17, rfl, ho17, hb17⟩
       have HO17 := Lib.hid ho17
       have HB1617 := Lib.hid hb17
       have HB17 : Hid (Below w.heap.size w w17) := HB16.out.trans (hb17.mono HB16.out.size)
       have HP17 := Lib.hid (HP16.out.below hb17 HP16.out.lt)
       have HS17 := Lib.hid (HS16.out.below (hb17.mono (by have := HZ16.out; omega)))
       clear ho17 hb17)
    | (go_at_call 18
       have hrd := allPlay_any A17 (some ⟨w15.heap.size, 0, none⟩) 4 c17 1 1 (w15.heap.size + 1) (w15.heap.size + 1) l [⟨7, n1, 0, 0⟩] (.pointer none) 0 w17 (Reads.of_own HO17.out) (own_cap HO17.out).1 (by omega) (own_cap HO17.out).2 (HE.out.below HB17.out) HP17.out HS17.out (Nat.le_refl _) (by omega) (by omega) (by omega) (fun _ ad e => by
         have := (HO17.out.lt ad.block (by rw [e]; rfl)).1
         have := HZ16.out
         omega) ⟨by have := HE.out.g1; have := HB15.out.size; omega, by have := HE.out.g2; have := HB15.out.size; omega⟩
       rw [HPL.out, show rAllE l (.inl 4) = 0 by simp [rAllE, rE, rAt, HL4.out]] at hrd
       with_reducible refine hrd.mono ?_
       clear hrd
       rintro e w18 ⟨rfl, hk18, vN, vT, hp18⟩
       rw [show rAt (.inl 4) = 4 from rfl]
       obtain ⟨aN, cN, rfl⟩ := slice_form hp18.nums
       obtain ⟨aT, cT, rfl⟩ := slice_form hp18.txts
       have hp18 : PlaySt w18 w17.heap.size (w15.heap.size + 1) (.slice (some ⟨w15.heap.size, 0, none⟩) 1 1) (.slice aN 1 cN) (.slice aT 0 cT) [(n1 : Int)] [] (.pointer (some ⟨w17.heap.size + 1 + 1, 0, none⟩)) (0 + 1) := hp18
       have g1 : w18.cell? ⟨w15.heap.size + 1, 1, none⟩ = some (.slice aN 1 cN) := (by rw [hp18.blk.cell 1]; rfl)
       have g2 : w18.cell? ⟨w15.heap.size + 1, 2, none⟩ = some (.slice aT 0 cT) := (by rw [hp18.blk.cell 2]; rfl)
       have g3 : w15.heap.size + 1 < w18.heap.size := hp18.blk.lt
       have HP18 := Lib.hid hp18
       have HB18 : Hid (Below w.heap.size w w18) := HB17.out.trans (hk18.below (by simp; have := HB15.out.size; omega) HB17.out.size)
       clear hk18 hp18)
    | (go_at_call 14; (with_reducible refine (no_any _ _).mono ?_); rintro e wn ⟨rfl, rfl⟩)
    | (go_at_call 15
       obtain ⟨w19, hw19⟩ : ∃ w19, w18.alloc (.cells #[.int .i64 n1] 2) = w19 := ⟨_, rfl⟩
       have hb19 : Below w18.heap.size w18 w19 := (by rw [← hw19]; exact (Below.refl _ _).alloc (Nat.le_refl _) _)
       have r1 : Reads w19 w19.heap.size 1 aN 1 (icells [(n1 : Int)]) := ((Reads.of_own HP18.out.nums).below hb19).more hb19.size
       have r2 : Reads w19 w19.heap.size 1 (some ⟨w18.heap.size, 0, none⟩) 1 (icells [(n1 : Int)]) := (by
         rw [← hw19]
         exact (reads_lits w18 2 (icells [(n1 : Int)]) 1 1 rfl).more (by simp))
       have hs : Calls Tryd.prog 15 #[.agg #[.slice aN 1 cN, .slice aT 0 cT], .agg #[.slice (some ⟨w18.heap.size, 0, none⟩) 1 1, .slice none 0 0]] w19 fun e w' => e = .returned (.bool true) ∧ Below w19.heap.size w19 w' := same_true [(n1 : Int)] [] aN (some ⟨w18.heap.size, 0, none⟩) aT none cN 1 cT 0 w19.heap.size w19 (Nat.le_refl _) r1 r2 (reads_zero _ _ _) (reads_zero _ _ _) (by simp) (by simp)
       rw [hw19]
       refine hs.mono ?_
       rintro e w20 ⟨rfl, hb20⟩
       have HB20 := Lib.hid ((HB18.out.trans (hb19.mono HB18.out.size)).trans (hb20.mono (Nat.le_trans HB18.out.size hb19.size)))
       clear r1 r2 hb19 hs hb20 hw19))
  go_ret
  exact ⟨rfl, HB20.out⟩
end Go.Proofs.YtbegingiedbldaaDoor
