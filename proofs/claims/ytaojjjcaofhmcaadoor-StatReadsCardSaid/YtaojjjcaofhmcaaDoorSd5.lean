/- A Stat read: the program's walk. (printed by gen_d5.py) -/
import Derived.Test.YtaojjjcaofhmcaaDoorSd2
set_option linter.unusedVariables false
set_option linter.unusedSimpArgs false
namespace Go.Proofs.YtaojjjcaofhmcaaDoor
open Go.RowKit

/-- what is read of a Stat -/
structure StR where
  (xs ys : List Int)
  (o d n p : Int)
def gStat : Rg StR := (gMany gLong 4).bind fun xs => (gMany gInt 3).bind fun ys => gLong.bind fun o => gInt.bind fun d => gInt.bind fun n => gLong.map fun p => ⟨xs, ys, o, d, n, p⟩
theorem sure_stat : Sure gStat := (sure_long.many _).bind fun _ => (sure_int.many _).bind fun _ => sure_long.bind fun _ => sure_int.bind fun _ => sure_int.bind fun _ => sure_long.map
def statCs (x : StR) : Array Value := ((((putL .i32 (putL .i64 #[.int .i64 0, .int .i64 0, .int .i64 0, .int .i64 0, .int .i32 0, .int .i32 0, .int .i32 0, .int .i64 0, .int .i32 0, .int .i32 0, .int .i64 0] 0 x.xs) 4 x.ys).setIfInBounds 7 (.int .i64 x.o)).setIfInBounds 8 (.int .i32 x.d)).setIfInBounds 9 (.int .i32 x.n)).setIfInBounds 10 (.int .i64 x.p)
def StatAt (w : World) (nb : Nat) (x : StR) : Prop := Blk w nb 23 (statCs x) ∧ x.xs.length = 4 ∧ x.ys.length = 3
def DidS (B : Nat → Prop) (R c : Nat) (A : Option Addr) (l : List UInt8) (nb : Nat) (r : (StR × Nat) ⊕ (Int × Nat)) (w : World) (e : Ending) (w' : World) : Prop :=
  match r with
  | .inl (x, q) => (∃ v, e = .returned v) ∧ StatAt w' nb x ∧ Kp [R, nb] w w' ∧ Rdr w' B R A c l q
  | .inr (er, q) => e = .panicked (fails R er) ∧ Kp [R, nb] w w' ∧ Rdr w' B R A c l q
structure DSs (w0 : World) (B : Nat → Prop) (R c : Nat) (A : Option Addr) (l : List UInt8) (nb q : Nat) (cs : Array Value) (w : World) : Prop where
  rdr : Rdr w B R A c l q
  blk : Blk w nb 23 cs
  kp : Kp [R, nb] w0 w
  nR : R ≠ nb
  nB : ¬ B nb
  old : R < w0.heap.size ∧ nb < w0.heap.size
section
variable {w0 w w' : World} {B : Nat → Prop} {R c nb q q' : Nat} {A : Option Addr} {l : List UInt8} {cs : Array Value} {er : Int} {r : (StR × Nat) ⊕ (Int × Nat)}
theorem DSs.read (h : DSs w0 B R c A l nb q cs w) (hk : Kp [R] w w') (hR : Rdr w' B R A c l q') : DSs w0 B R c A l nb q' cs w' :=
  ⟨hR, h.blk.kp hk (by simpa using h.nR.symm), h.kp.to hk (fun _ h _ => h) (fun y hy _ => by simp at hy; simp [hy]), h.nR, h.nB, h.old⟩
theorem DSs.set (h : DSs w0 B R c A l nb q cs w) (i : Nat) (v : Value) : DSs w0 B R c A l nb q (cs.setIfInBounds i v) (w.setCell ⟨nb, i, none⟩ v) :=
  ⟨h.rdr.set h.nR h.nB i v, h.blk.set_ i v, h.kp.set_in (by simp) i v, h.nR, h.nB, h.old⟩
theorem DSs.later (h : DSs w0 B R c A l nb q cs w) (hb : Below w.heap.size w w') : DSs w0 B R c A l nb q cs w' :=
  ⟨h.rdr.later hb, h.blk.below hb h.blk.lt, h.kp.later hb, h.nR, h.nB, h.old⟩
theorem DSs.no (h : DSs w0 B R c A l nb q cs w) (hk : Kp [R] w w') (hR : Rdr w' B R A c l q') (hr : r = .inr (er, q')) : DidS B R c A l nb r w0 (.panicked (fails R er)) w' := by
  subst hr
  exact ⟨rfl, (h.read hk hR).kp, hR⟩
end
theorem ptrs4 (b : Nat) : (#[.pointer (some ⟨b, 0, none⟩), .pointer (some ⟨b, 1, none⟩), .pointer (some ⟨b, 2, none⟩), .pointer (some ⟨b, 3, none⟩)] : Array Value) = ptrs b 0 4 := rfl
theorem ptrs3 (b : Nat) : (#[.pointer (some ⟨b, 4, none⟩), .pointer (some ⟨b, 5, none⟩), .pointer (some ⟨b, 6, none⟩)] : Array Value) = ptrs b 4 3 := rfl
theorem list4 {α : Type} {xs : List α} (h : xs.length = 4) : ∃ a0 a1 a2 a3, xs = [a0, a1, a2, a3] := by
  match xs, h with
  | [a0, a1, a2, a3], _ => exact ⟨_, _, _, _, rfl⟩

set_option maxRecDepth 100000 in
set_option maxHeartbeats 8000000 in
theorem readF_any (B : Nat → Prop) (R c p nb : Nat) (A : Option Addr) (l : List UInt8) (w : World) (h : DSs w B R c A l nb p #[.int .i64 0, .int .i64 0, .int .i64 0, .int .i64 0, .int .i32 0, .int .i32 0, .int .i32 0, .int .i64 0, .int .i32 0, .int .i32 0, .int .i64 0] w) :
    Calls Tryd.prog 80 #[.pointer (some ⟨R, 0, none⟩), .pointer (some ⟨nb, 0, none⟩)] w fun e w' => DidS B R c A l nb (gStat l p) w e w' := by
  have hold := h.old
  have hb1 : ∀ o, Below w.heap.size w (w.alloc o) := fun o => (Below.refl _ _).alloc (Nat.le_refl _) _
  have H0 := Lib.hid h
  have HB1 := Lib.hid hb1
  have hne : w.heap.size ≠ R ∧ w.heap.size ≠ nb := by omega
  obtain ⟨cs0, hcs0⟩ : ∃ cs : Array Value, cs = #[.int .i64 0, .int .i64 0, .int .i64 0, .int .i64 0, .int .i32 0, .int .i32 0, .int .i32 0, .int .i64 0, .int .i32 0, .int .i32 0, .int .i64 0] := ⟨_, rfl⟩
  rw [← hcs0] at H0
  have HCS := Lib.hid hcs0
  have HSZ : Hid (cs0.size = 11) := by unfold Hid; rw [hcs0]; rfl
  have HN1 : Hid (∀ e, gMany gLong 4 l p = .inr e → gStat l p = .inr e) := fun e h4 => by simp only [gStat, Rg.bind, h4]
  have HN2 : Hid (∀ xs q, gMany gLong 4 l p = .inl (xs, q) → gStat l p = ((gMany gInt 3).bind fun ys => gLong.bind fun o => gInt.bind fun d => gInt.bind fun n => gLong.map fun p => StR.mk xs ys o d n p) l q) := fun xs q h4 => by simp only [gStat, Rg.bind, h4]
  clear h hb1 hcs0
  go_enter Tryd.func80, Tryd.ntmps80
  go_wp2
  go_loopw [13] (fun i wr => ∃ (j q : Nat) (xs : List Int), j ≤ 4 ∧ i = .int .i64 j ∧ xs.length = j ∧ Hid (after xs (gMany gLong (4 - j) l q) = gMany gLong 4 l p) ∧ DSs w B R c A l nb q (putL .i64 cs0 0 xs) wr ∧ Blk wr w.heap.size 101 (ptrs nb 0 4)) (fun i _ => 4 - (intOf i).toNat)
  case atStart => exact ⟨0, p, [], Nat.zero_le _, rfl, rfl, by show _ = _; rcases gMany gLong 4 l p with ⟨r, q'⟩ | e <;> rfl, H0.out.later (HB1.out _), by rw [← ptrs4]; exact Blk.new _ _ _⟩
  case round =>
    clear H0
    obtain ⟨j, q, xs, hj, rfl, hxl, HA, hD, hP1⟩ := hrel
    have HD := Lib.hid hD
    have HXL := Lib.hid hxl
    have HP1 := Lib.hid hP1
    by_cases hlt : j < 4
    · obtain ⟨m, hm⟩ : ∃ m, 4 - j = m + 1 := ⟨4 - j - 1, by omega⟩
      rw [hm] at HA
      have hc := lit_cell hP1 j (ptrs_get nb 0 4 j hlt)
      rw [Nat.zero_add] at hc
      have ht := rLong_any B R c q A l wr hD.rdr
      rcases hgr : gLong l q with ⟨z, q1⟩ | ⟨er, q1⟩
      · rw [hgr] at ht
        have HT := Lib.hid ht
        have HA2 : Hid (after (xs ++ [z]) (gMany gLong m l q1) = gMany gLong 4 l p) := by
          show _ = _
          rw [← HA.out, after_step gLong xs m l q q1 z hgr]
        clear ht hgr HA hD hP1 hxl
        go_wp2_with (go_at_call 71; refine HT.out.mono ?_; rintro e w8 ⟨⟨v, rfl, rfl⟩, hkp, hR⟩; have H8 := Lib.hid (HD.out.read hkp hR); obtain ⟨u, kc⟩ := blk_has H8.out.blk j (by rw [putL_size, HSZ.out]; omega); have kf := H8.out.blk.frozen j; have HQ1 := Lib.hid ((HP1.out.kp hkp (by simp; exact hne.1)).far (p := ⟨nb, j, none⟩) hne.2 (.int .i64 z)); clear hkp hR)
        go_roundw
        case rel => exact ⟨j + 1, q1, xs ++ [z], by omega, by go_num, by rw [List.length_append, HXL.out]; rfl, by rw [show 4 - (j + 1) = m by omega]; exact HA2.out, by rw [putL_snoc, HXL.out, Nat.zero_add]; exact H8.out.set _ _, HQ1.out⟩
        case measure => simp [intOf]; omega
      · rw [hgr] at ht
        have HT := Lib.hid ht
        have hga : gStat l p = .inr (er, q1) := by
          refine HN1.out _ ?_
          rw [← HA.out, gMany_succ, hgr]
          rfl
        have HG := Lib.hid hga
        clear ht hgr hga HA hD hP1 hxl
        go_wp2_with (go_at_call 71; refine HT.out.mono ?_; rintro e w8 ⟨rfl, hkp, hR⟩; have HR := Lib.hid (HD.out.no hkp hR HG.out); clear hkp hR)
        exact ⟨rfl, HR.out⟩
    · have hj4 : j = 4 := by omega
      subst hj4
      have h4 : gMany gLong 4 l p = .inl (xs, q) := by
        rw [← HA.out, Nat.sub_self]
        show (Sum.inl (xs ++ [], q) : (List Int × Nat) ⊕ (Int × Nat)) = _
        rw [List.append_nil]
      have HN3 := Lib.hid (HN2.out xs q h4)
      rw [show ((4 : Nat) : Int) = 4 from rfl]
      have hsw := hD.kp.size
      have hne2 : wr.heap.size ≠ R ∧ wr.heap.size ≠ nb := by omega
      have HB2 : Hid (∀ o, Below wr.heap.size wr (wr.alloc o)) := fun o => (Below.refl _ _).alloc (Nat.le_refl _) _
      clear h4 HA HN1 HN2 hD hP1 hxl hlt hj HP1
      rename World => wa
      go_wp2
      go_loopw [27] (fun i wr => ∃ (j q' : Nat) (ys : List Int), j ≤ 3 ∧ i = .int .i64 j ∧ ys.length = j ∧ Hid (after ys (gMany gInt (3 - j) l q') = gMany gInt 3 l q) ∧ DSs w B R c A l nb q' (putL .i32 (putL .i64 cs0 0 xs) 4 ys) wr ∧ Blk wr wa.heap.size 102 (ptrs nb 4 3)) (fun i _ => 3 - (intOf i).toNat)
      case atStart => exact ⟨0, q, [], Nat.zero_le _, rfl, rfl, by show _ = _; rcases gMany gInt 3 l q with ⟨r, q'⟩ | e <;> rfl, HD.out.later (HB2.out _), by rw [← ptrs3]; exact Blk.new _ _ _⟩
      case round =>
        clear HD
        obtain ⟨j, q', ys, hj, rfl, hyl, HA, hD, hP2⟩ := hrel
        have HD := Lib.hid hD
        have HYL := Lib.hid hyl
        have HP2 := Lib.hid hP2
        by_cases hlt : j < 3
        · obtain ⟨m, hm⟩ : ∃ m, 3 - j = m + 1 := ⟨3 - j - 1, by omega⟩
          rw [hm] at HA
          have hc := lit_cell hP2 j (ptrs_get nb 4 3 j hlt)
          have ht := rInt_any B R c q' A l wr hD.rdr
          rcases hgr : gInt l q' with ⟨z, q1⟩ | ⟨er, q1⟩
          · rw [hgr] at ht
            have HT := Lib.hid ht
            have HA2 : Hid (after (ys ++ [z]) (gMany gInt m l q1) = gMany gInt 3 l q) := by
              show _ = _
              rw [← HA.out, after_step gInt ys m l q' q1 z hgr]
            clear ht hgr HA hD hP2 hyl
            go_wp2_with (go_at_call 70; refine HT.out.mono ?_; rintro e w8 ⟨⟨v, rfl, rfl⟩, hkp, hR⟩; have H8 := Lib.hid (HD.out.read hkp hR); obtain ⟨u, kc⟩ := blk_has H8.out.blk (4 + j) (by rw [putL_size, putL_size, HSZ.out]; omega); have kf := H8.out.blk.frozen (4 + j); have HQ2 := Lib.hid ((HP2.out.kp hkp (by simp; exact hne2.1)).far (p := ⟨nb, 4 + j, none⟩) hne2.2 (.int .i32 z)); clear hkp hR)
            go_roundw
            case rel => exact ⟨j + 1, q1, ys ++ [z], by omega, by go_num, by rw [List.length_append, HYL.out]; rfl, by rw [show 3 - (j + 1) = m by omega]; exact HA2.out, by rw [putL_snoc, HYL.out]; exact H8.out.set _ _, HQ2.out⟩
            case measure => simp [intOf]; omega
          · rw [hgr] at ht
            have HT := Lib.hid ht
            have hga : gStat l p = .inr (er, q1) := by
              have h5 : gMany gInt 3 l q = .inr (er, q1) := by
                rw [← HA.out, gMany_succ, hgr]
                rfl
              rw [HN3.out]
              simp only [Rg.bind, h5]
            have HG := Lib.hid hga
            clear ht hgr hga HA hD hP2 hyl
            go_wp2_with (go_at_call 70; refine HT.out.mono ?_; rintro e w8 ⟨rfl, hkp, hR⟩; have HR := Lib.hid (HD.out.no hkp hR HG.out); clear hkp hR)
            exact ⟨rfl, HR.out⟩
        · have hj3 : j = 3 := by omega
          subst hj3
          have h5 : gMany gInt 3 l q = .inl (ys, q') := by
            rw [← HA.out, Nat.sub_self]
            show (Sum.inl (ys ++ [], q') : (List Int × Nat) ⊕ (Int × Nat)) = _
            rw [List.append_nil]
          have HN4 : Hid (gStat l p = (gLong.bind fun o => gInt.bind fun d => gInt.bind fun n => gLong.map fun p => StR.mk xs ys o d n p) l q') := by
            unfold Hid
            rw [HN3.out]
            simp only [Rg.bind, h5]
          rw [show ((3 : Nat) : Int) = 3 from rfl]
          clear h5 HA HN3 hD hP2 hyl hlt hj HP2
          obtain ⟨cs4, hcs4⟩ : ∃ cs, cs = putL .i32 (putL .i64 cs0 0 xs) 4 ys := ⟨_, rfl⟩
          have hsz4 : cs4.size = 11 := by rw [hcs4, putL_size, putL_size, HSZ.out]
          rw [← hcs4] at HD
          have HC4 := Lib.hid hcs4
          have HSZ4 := Lib.hid hsz4
          have H0 := HD
          clear hcs4 hsz4 HD
          have ht := rLong_any B R c q' A l wr H0.out.rdr
          rcases h10 : gLong l q' with ⟨v1, p1⟩ | ⟨er, p1⟩
          rotate_left
          · rw [h10] at ht
            have HT := Lib.hid ht
            have HG : Hid (gStat l p = .inr (er, p1)) := by unfold Hid; rw [HN4.out]; simp only [Rg.bind, Rg.map, h10]
            clear ht h10
            go_wp2_with (go_at_call 71; refine HT.out.mono ?_; rintro e w8 ⟨rfl, hkp, hR⟩; have HR := Lib.hid (H0.out.no hkp hR HG.out); clear hkp hR)
            exact ⟨rfl, HR.out⟩
          rw [h10] at ht
          have HT1 := Lib.hid ht
          clear ht
          go_wp2_with (go_at_call 71; refine HT1.out.mono ?_; rintro e x1 ⟨⟨v, rfl, rfl⟩, hkp, hR⟩; have K1 := Lib.hid (H0.out.read hkp hR); clear hkp hR; refine Hid.out ?_)
          obtain ⟨u50, kc⟩ := blk_has K1.out.blk 7 (by simp only [Array.size_setIfInBounds, HSZ4.out]; omega)
          have kf := K1.out.blk.frozen 7
          have H1 := Lib.hid (K1.out.set 7 (.int .i64 v1))
          have ht := rInt_any B R c p1 A l _ H1.out.rdr
          rcases h11 : gInt l p1 with ⟨v2, p2⟩ | ⟨er, p2⟩
          rotate_left
          · rw [h11] at ht
            have HT := Lib.hid ht
            have HG : Hid (gStat l p = .inr (er, p2)) := by unfold Hid; rw [HN4.out]; simp only [Rg.bind, Rg.map, h10, h11]
            clear ht h10 h11
            refine Lib.hid ?_
            go_wp2_with (go_at_call 70; refine HT.out.mono ?_; rintro e w8 ⟨rfl, hkp, hR⟩; have HR := Lib.hid (H1.out.no hkp hR HG.out); clear hkp hR)
            exact ⟨rfl, HR.out⟩
          rw [h11] at ht
          have HT2 := Lib.hid ht
          clear ht
          refine Lib.hid ?_
          go_wp2_with (go_at_call 70; refine HT2.out.mono ?_; rintro e x2 ⟨⟨v, rfl, rfl⟩, hkp, hR⟩; have K2 := Lib.hid (H1.out.read hkp hR); clear hkp hR kc kf; refine Hid.out ?_)
          obtain ⟨u51, kc⟩ := blk_has K2.out.blk 8 (by simp only [Array.size_setIfInBounds, HSZ4.out]; omega)
          have kf := K2.out.blk.frozen 8
          have H2 := Lib.hid (K2.out.set 8 (.int .i32 v2))
          have ht := rInt_any B R c p2 A l _ H2.out.rdr
          rcases h12 : gInt l p2 with ⟨v3, p3⟩ | ⟨er, p3⟩
          rotate_left
          · rw [h12] at ht
            have HT := Lib.hid ht
            have HG : Hid (gStat l p = .inr (er, p3)) := by unfold Hid; rw [HN4.out]; simp only [Rg.bind, Rg.map, h10, h11, h12]
            clear ht h10 h11 h12
            refine Lib.hid ?_
            go_wp2_with (go_at_call 70; refine HT.out.mono ?_; rintro e w8 ⟨rfl, hkp, hR⟩; have HR := Lib.hid (H2.out.no hkp hR HG.out); clear hkp hR)
            exact ⟨rfl, HR.out⟩
          rw [h12] at ht
          have HT3 := Lib.hid ht
          clear ht
          refine Lib.hid ?_
          go_wp2_with (go_at_call 70; refine HT3.out.mono ?_; rintro e x3 ⟨⟨v, rfl, rfl⟩, hkp, hR⟩; have K3 := Lib.hid (H2.out.read hkp hR); clear hkp hR kc kf; refine Hid.out ?_)
          obtain ⟨u52, kc⟩ := blk_has K3.out.blk 9 (by simp only [Array.size_setIfInBounds, HSZ4.out]; omega)
          have kf := K3.out.blk.frozen 9
          have H3 := Lib.hid (K3.out.set 9 (.int .i32 v3))
          have ht := rLong_any B R c p3 A l _ H3.out.rdr
          rcases h13 : gLong l p3 with ⟨v4, p4⟩ | ⟨er, p4⟩
          rotate_left
          · rw [h13] at ht
            have HT := Lib.hid ht
            have HG : Hid (gStat l p = .inr (er, p4)) := by unfold Hid; rw [HN4.out]; simp only [Rg.bind, Rg.map, h10, h11, h12, h13]
            clear ht h10 h11 h12 h13
            refine Lib.hid ?_
            go_wp2_with (go_at_call 71; refine HT.out.mono ?_; rintro e w8 ⟨rfl, hkp, hR⟩; have HR := Lib.hid (H3.out.no hkp hR HG.out); clear hkp hR)
            exact ⟨rfl, HR.out⟩
          rw [h13] at ht
          have HT4 := Lib.hid ht
          have HG : Hid (gStat l p = .inl (⟨xs, ys, v1, v2, v3, v4⟩, p4)) := by unfold Hid; rw [HN4.out]; simp only [Rg.bind, Rg.map, h10, h11, h12, h13]
          clear ht h10 h11 h12 h13
          refine Lib.hid ?_
          go_wp2_with (go_at_call 71; refine HT4.out.mono ?_; rintro e x4 ⟨⟨v, rfl, rfl⟩, hkp, hR⟩; have K4 := Lib.hid (H3.out.read hkp hR); clear hkp hR kc kf; obtain ⟨u9, kc⟩ := blk_has K4.out.blk 10 (by simp only [Array.size_setIfInBounds, HSZ4.out]; omega); have kf := K4.out.blk.frozen 10)
          go_end0
          have H13 := K4.out.set 10 (.int .i64 v4)
          rw [HC4.out, HCS.out] at H13
          rw [HG.out]
          exact ⟨⟨_, rfl⟩, ⟨H13.blk, HXL.out, HYL.out⟩, H13.kp, H13.rdr⟩

set_option maxRecDepth 100000 in
theorem readF_enters (args : Array Value) (W : World) : (callFunc 80 args).run Tryd.prog W = .ok (.enter 80 args) W := by
  have hn : (Tryd.f80.name == "runtime.NumGoroutine") = false := by as_aux_lemma => kernel_rfl
  have hb : Tryd.f80.body.isNone = false := by as_aux_lemma => kernel_rfl
  have hn' : ¬ Tryd.f80.name = "runtime.NumGoroutine" := by simpa using hn
  have hb' : ¬ Tryd.f80.body = none := fun h => by rw [h] at hb; cases hb
  simp [callFunc, Tryd.func80, hn', hb']

theorem allStat_any (c n nb b0 : Nat) (A : Option Addr) (l : List UInt8) (w : World) (hr : Reads w b0 1 A n (bcells l)) (hnc : n ≤ c) (hn : n ≤ 140737488355328) (hnil : A = none → c = 0) (hE : Env w)
    (hb0 : b0 ≤ nb) (hg : 0 < b0 ∧ 1 < b0) (hN : Blk w nb 23 #[.int .i64 0, .int .i64 0, .int .i64 0, .int .i64 0, .int .i32 0, .int .i32 0, .int .i32 0, .int .i64 0, .int .i32 0, .int .i32 0, .int .i64 0]) :
    Calls Tryd.prog 64 #[.slice A n c, .func (.func 80) #[] #[.pointer (some ⟨nb, 0, none⟩)]] w fun e w' => ∃ at_ : Int, e = .returned (.tuple #[.int .i64 at_, .int .i64 (allE l (gStat l 0))]) ∧ Kp [nb] w w' ∧ ∀ x q, gStat l 0 = .inl (x, q) → StatAt w' nb x := by
  have hnl := hN.lt
  refine (all_any (fun x => x < b0) c n A l 80 #[] #[.pointer (some ⟨nb, 0, none⟩)] [nb] (fun W => ∀ x q, gStat l 0 = .inl (x, q) → StatAt W nb x) (rOf (gStat l 0)) w (hr.more (by omega)) hnc hn hnil (fun x hx => by omega) hE.tab hg
    (fun h ad e => by obtain ⟨ad', e', hb, _⟩ := hr.2 h; rw [e] at e'; cases e'; exact hb) (fun x hx => by simp at hx; omega) readF_enters (fun W hk hz hR => ?_)).mono ?_
  · refine (readF_any (fun x => x < b0) (w.heap.size + 1 + 1) c 0 nb A l W ⟨hR, hN.kp hk (by simp), Kp.refl _ _, by omega, by omega, by omega⟩).mono fun e w' h => ?_
    unfold Did
    rcases hres : gStat l 0 with ⟨x, q⟩ | ⟨er, q⟩
    · rw [hres] at h
      obtain ⟨h1, h2, h3, h4⟩ := h
      exact ⟨h1, (fun x' q' hx => by cases hx; exact h2), h3, h4⟩
    · rw [hres] at h
      obtain ⟨h1, h3, h4⟩ := h
      exact ⟨h1, (fun x' q' hx => by cases hx), h3, h4⟩
  · rintro e w' ⟨rfl, hk, ⟨W', hP, hk2, _, hz⟩, _⟩
    refine ⟨_, by rw [rAllE_of sure_stat], hk, fun x q hx => ?_⟩
    obtain ⟨h1, h2, h3⟩ := hP x q hx
    exact ⟨h1.kp hk2 (by simp; omega), h2, h3⟩

theorem statCs_lit (x0 x1 x2 x3 y0 y1 y2 o d n p : Int) : statCs ⟨[x0, x1, x2, x3], [y0, y1, y2], o, d, n, p⟩ = #[.int .i64 x0, .int .i64 x1, .int .i64 x2, .int .i64 x3, .int .i32 y0, .int .i32 y1, .int .i32 y2, .int .i64 o, .int .i32 d, .int .i32 n, .int .i64 p] := by
  simp only [statCs, putL, List.setIfInBounds_toArray, List.set_cons_zero, List.set_cons_succ]
theorem stat_sizeR : (Tryd.prog.info? 23).map (·.size) = some 11 := by kernel_rfl
def decS (l : List UInt8) : Int ⊕ StR := match gStat l 0 with
  | .inr (e, _) => .inl e
  | .inl (x, q) => if q < l.length then .inl 21 else .inr x
/-- behind ReadRecord -/
def RecEnd (l : List UInt8) (w : World) (e : Ending) (w' : World) : Prop := Below w.heap.size w w' ∧ match decS l with
  | .inl E => E ≠ 0 ∧ e = .returned (.tuple #[.agg #[.int .i64 0, .int .i64 0, .int .i64 0, .int .i64 0, .int .i32 0, .int .i32 0, .int .i32 0, .int .i64 0, .int .i32 0, .int .i32 0, .int .i64 0], .int .i64 E])
  | .inr x => e = .returned (.tuple #[.agg (statCs x), .int .i64 0]) ∧ x.xs.length = 4 ∧ x.ys.length = 3

set_option maxRecDepth 100000 in
set_option maxHeartbeats 4000000 in
theorem readRecord_any (c n : Nat) (A : Option Addr) (l : List UInt8) (w : World) (hr : Reads w w.heap.size 1 A n (bcells l)) (hnc : n ≤ c) (hn : n ≤ 140737488355328) (hnil : A = none → c = 0) (hE : Env w) :
    Calls Tryd.prog 25 #[.slice A n c] w fun e w' => RecEnd l w e w' := by
  obtain ⟨w2, hw2⟩ : ∃ w2, (w.alloc (.cells #[.int .i64 0, .int .i64 0, .int .i64 0, .int .i64 0, .int .i32 0, .int .i32 0, .int .i32 0, .int .i64 0, .int .i32 0, .int .i32 0, .int .i64 0] 23)).alloc (.cells #[.int .i64 0, .int .i64 0, .int .i64 0, .int .i64 0, .int .i32 0, .int .i32 0, .int .i32 0, .int .i64 0, .int .i32 0, .int .i32 0, .int .i64 0] 23) = w2 := ⟨_, rfl⟩
  have hz2 : w2.heap.size = w.heap.size + 2 := by rw [← hw2]; simp
  have hb2 : Below w.heap.size w w2 := by rw [← hw2]; exact ((Below.refl _ _).alloc (Nat.le_refl _) _).alloc (by simp) _
  have br : Blk w2 w.heap.size 23 #[.int .i64 0, .int .i64 0, .int .i64 0, .int .i64 0, .int .i32 0, .int .i32 0, .int .i32 0, .int .i64 0, .int .i32 0, .int .i32 0, .int .i64 0] := by rw [← hw2]; exact (Blk.new _ _ _).alloc _
  have bn : Blk w2 (w.heap.size + 1) 23 #[.int .i64 0, .int .i64 0, .int .i64 0, .int .i64 0, .int .i32 0, .int .i32 0, .int .i32 0, .int .i64 0, .int .i32 0, .int .i32 0, .int .i64 0] := by rw [← hw2]; exact Blk.new' (by simp)
  have hA := allStat_any c n (w.heap.size + 1) w.heap.size A l w2 (hr.below hb2) hnc hn hnil (hE.below hb2) (by omega) ⟨hE.g1, hE.g2⟩ bn
  have HB2 := Lib.hid hb2
  have HR := Lib.hid br
  have hmf : ∀ (fn : Fn) (first cap : Array Value) (w : World), (Instr.makeFunc fn first cap).run Tryd.prog w = .ok (.func fn first cap) w := fun _ _ _ _ => rfl
  clear hE hb2 br bn hr
  by_cases h0 : allE l (gStat l 0) = 0
  rotate_left
  · have hd : decS l = .inl (allE l (gStat l 0)) := by
      unfold decS
      unfold allE at h0 ⊢
      rcases hres : gStat l 0 with ⟨x, q⟩ | ⟨er, q⟩
      · rw [hres] at h0
        dsimp only at h0 ⊢
        by_cases hq : q < l.length
        · rw [if_pos hq, if_pos hq]
        · rw [if_neg hq] at h0; exact absurd rfl h0
      · rfl
    have HD := Lib.hid hd
    obtain ⟨E, hEE⟩ : ∃ E, E = allE l (gStat l 0) := ⟨_, rfl⟩
    rw [← hEE] at hA HD h0
    have HA := Lib.hid hA
    have h1 : (E == 0) = false := by simp [h0]
    have h2 : (E != 0) = true := by simp [h0]
    have HNE := Lib.hid h0
    clear hA hd hEE h0
    go_enter Tryd.func25, Tryd.ntmps25
    go_wp2_with (first
      | (go_at_call 64; refine HA.out.mono ?_; rintro e w3 ⟨at_, rfl, hk, _⟩; have hR3 := HR.out.kp hk (by simp); have hb3 : Below w.heap.size w w3 := HB2.out.trans (hk.below (by simp) (by omega)); have HR3 := Lib.hid hR3; have HB3 := Lib.hid hb3; clear hk hR3 hb3)
      | (refine wpList_store_row rfl 23 (.tmp 2) (.tmp 15) rfl w.heap.size #[.int .i64 0, .int .i64 0, .int .i64 0, .int .i64 0, .int .i32 0, .int .i32 0, .int .i32 0, .int .i64 0, .int .i32 0, .int .i32 0, .int .i64 0] rfl rfl 23 _ HR3.out (by rw [stat_sizeR]; rfl) rfl (by simp [Value.oneCell']) ?_
         generalize hww : World.setRow _ _ _ = w4
         have HB4 : Hid (Below w.heap.size w w4) := by unfold Hid; rw [← hww]; exact below_setRow' HB3.out (Nat.le_refl _) _
         have HR4 : Hid (Blk w4 w.heap.size 23 #[.int .i64 0, .int .i64 0, .int .i64 0, .int .i64 0, .int .i32 0, .int .i32 0, .int .i32 0, .int .i64 0, .int .i32 0, .int .i32 0, .int .i64 0]) := by unfold Hid; rw [← hww]; exact cells_setRow HR3.out
         clear hww))
    refine bodyPost_ret (results_cell_tmp rfl _ _ w.heap.size 23 #[.int .i64 0, .int .i64 0, .int .i64 0, .int .i64 0, .int .i32 0, .int .i32 0, .int .i32 0, .int .i64 0, .int .i32 0, .int .i32 0, .int .i64 0] _ (.int .i64 E) rfl rfl HR4.out Tryd.underlying23 rfl (by rw [stat_sizeR]; rfl)) rfl ?_
    refine ⟨HB4.out, ?_⟩
    rw [HD.out]
    exact ⟨HNE.out, rfl⟩
  · obtain ⟨x, q, hres, hq⟩ : ∃ x q, gStat l 0 = .inl (x, q) ∧ ¬ q < l.length := by
      unfold allE at h0
      rcases hres : gStat l 0 with ⟨x, q⟩ | ⟨er, q⟩
      · rw [hres] at h0
        dsimp only at h0
        by_cases hq : q < l.length
        · rw [if_pos hq] at h0; cases h0
        · exact ⟨x, q, rfl, hq⟩
      · rw [hres] at h0
        exact absurd h0 (sure_stat _ _ _ _ hres)
    rw [h0] at hA
    have hA' : Calls Tryd.prog 64 #[.slice A n c, .func (.func 80) #[] #[.pointer (some ⟨w.heap.size + 1, 0, none⟩)]] w2 fun e w' => ∃ at_ : Int, e = .returned (.tuple #[.int .i64 at_, .int .i64 0]) ∧ Kp [w.heap.size + 1] w2 w' ∧ StatAt w' (w.heap.size + 1) x :=
      hA.mono fun e w' ⟨at_, h1, h2, h3⟩ => ⟨at_, h1, h2, h3 x q hres⟩
    have HA := Lib.hid hA'
    have HDX : Hid (decS l = .inr x) := by unfold Hid decS; rw [hres]; dsimp only; rw [if_neg hq]
    clear hA hA' h0 hres hq
    go_enter Tryd.func25, Tryd.ntmps25
    go_wp2_with (first
      | (go_at_call 64
         refine HA.out.mono ?_
         rintro e w3 ⟨at_, rfl, hk, hb, hx, hy⟩
         have hz3 := hk.size
         have hb3 : Below w.heap.size w w3 := HB2.out.trans (hk.below (by simp) (by omega))
         obtain ⟨xs, ys, xo, xd, xn, xp⟩ := x
         dsimp only at hx hy
         obtain ⟨a0, a1, a2, a3, rfl⟩ := list4 hx
         obtain ⟨b0, b1, b2, rfl⟩ := list3 hy
         rw [statCs_lit] at hb
         have HBN := Lib.hid hb
         have HR3 := Lib.hid (HR.out.kp hk (by simp))
         have HB3 := Lib.hid hb3
         clear hk hb hx hy hb3)
      | (refine wpList_load_row rfl 23 (.tmp 4) rfl (w.heap.size + 1) rfl 23 _ _ _ HBN.out Tryd.underlying23 rfl (by rw [stat_sizeR]; rfl) ?_)
      | (refine wpList_store_row rfl 23 (.tmp 2) (.tmp 17) rfl w.heap.size _ rfl rfl 23 _ HR3.out (by rw [stat_sizeR]; rfl) rfl (by simp [Value.oneCell']) ?_
         generalize hww : World.setRow _ _ _ = w5
         have HB5 : Hid (Below w.heap.size w w5) := by unfold Hid; rw [← hww]; exact below_setRow' HB3.out (Nat.le_refl _) _
         have HR5 : Hid (Blk w5 w.heap.size 23 (statCs ⟨[a0, a1, a2, a3], [b0, b1, b2], xo, xd, xn, xp⟩)) := by unfold Hid; rw [← hww, statCs_lit]; exact cells_setRow HR3.out
         clear hww))
    refine bodyPost_ret (results_cell_tmp rfl _ _ w.heap.size 23 _ _ (.int .i64 0) rfl rfl HR5.out Tryd.underlying23 rfl (by rw [stat_sizeR, statCs_lit]; rfl)) rfl ?_
    refine ⟨HB5.out, ?_⟩
    rw [HDX.out]
    exact ⟨rfl, rfl, rfl⟩
end Go.Proofs.YtaojjjcaofhmcaaDoor
