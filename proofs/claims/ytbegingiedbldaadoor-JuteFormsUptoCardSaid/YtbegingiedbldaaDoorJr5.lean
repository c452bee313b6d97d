/- The reader: Int, Long, sizes. -/
import Derived.Test.YtbegingiedbldaaDoorJr4
namespace Go.Proofs.YtbegingiedbldaaDoor
open Go.RowKit

theorem gNum_yes {k p : Nat} {l : List UInt8} (h : p + k ≤ l.length) : gNum k l p = .inl (beNum ((l.drop p).take k), p + k) := by
  simp [gNum, Rg.map, gNext, h]
theorem gNum_no {k p : Nat} {l : List UInt8} (h : ¬ p + k ≤ l.length) : gNum k l p = .inr (20, p) := by
  simp [gNum, Rg.map, gNext, h]
theorem beNum_bd {k p : Nat} {l : List UInt8} (h : p + k ≤ l.length) : beNum ((l.drop p).take k) < 256 ^ k := by
  have := beNum_lt ((l.drop p).take k)
  rwa [List.length_take, List.length_drop, Nat.min_eq_left (by omega)] at this

set_option maxRecDepth 100000 in
set_option maxHeartbeats 400000 in
theorem rInt_any (B : Nat → Prop) (R c p : Nat) (A : Option Addr) (l : List UInt8) (w : World) (h : Rdr w B R A c l p) :
    Calls Tryd.prog 22 #[.pointer (some ⟨R, 0, none⟩)] w fun e w' => Rend B R c A l vInt32 (gInt l p) w e w' := by
  have H := Lib.hid h
  by_cases hk : p + 4 ≤ l.length
  · have hg : gInt l p = .inl (wrap32 (beNum ((l.drop p).take 4)), p + 4) := by simp [gInt, Rg.map, gNum_yes hk]
    have HG := Lib.hid hg
    have hk1 : (p : Int) + 4 ≤ l.length := by omega
    have hb := beNum_bd hk
    rw [show (256 : Nat) ^ 4 = 4294967296 by decide] at hb
    clear h hg
    go_enter Tryd.func22, Tryd.ntmps22
    go_wp2_with (first
      | (go_at_call 52; refine (done_any B R c p A l w H.out).mono ?_; rintro e w2 ⟨rfl, rfl⟩)
      | (go_at_call 53; refine (next_ok B R c p A l 4 (by omega) w H.out hk1).mono ?_; rintro e w2 ⟨⟨A', c', rfl, hr, hn⟩, hkp, hR⟩; have HRD := Lib.hid hr; have HKP := Lib.hid hkp; have HR := Lib.hid hR; clear hr hn hkp hR)
      | (go_at_call 55; refine (rnumber_any A' _ c' w2.heap.size _ w2 HRD.out (by decide)).mono ?_; rintro e w3 ⟨rfl, rfl⟩))
    go_ret
    exact Rend.yes HG.out rfl HKP.out HR.out
  · have hg : gInt l p = .inr (20, p) := by simp [gInt, Rg.map, gNum_no hk]
    have HG := Lib.hid hg
    have hk1 : (l.length : Int) < (p : Int) + 4 := by omega
    clear h hg
    go_enter Tryd.func22, Tryd.ntmps22
    go_wp2_with (first
      | (go_at_call 52; refine (done_any B R c p A l w H.out).mono ?_; rintro e w2 ⟨rfl, rfl⟩)
      | (go_at_call 53; refine (next_no B R c p A l 4 w H.out hk1).mono ?_; rintro e w2 ⟨rfl, hkp, hR⟩; have HKP := Lib.hid hkp; have HR := Lib.hid hR; clear hkp hR))
    exact ⟨rfl, Rend.no HG.out HKP.out HR.out⟩

set_option maxRecDepth 100000 in
set_option maxHeartbeats 400000 in
theorem rLong_any (B : Nat → Prop) (R c p : Nat) (A : Option Addr) (l : List UInt8) (w : World) (h : Rdr w B R A c l p) :
    Calls Tryd.prog 23 #[.pointer (some ⟨R, 0, none⟩)] w fun e w' => Rend B R c A l vInt64 (gLong l p) w e w' := by
  have H := Lib.hid h
  by_cases hk : p + 8 ≤ l.length
  · have hg : gLong l p = .inl (wrap64 (beNum ((l.drop p).take 8)), p + 8) := by simp [gLong, Rg.map, gNum_yes hk]
    have HG := Lib.hid hg
    have hk1 : (p : Int) + 8 ≤ l.length := by omega
    clear h hg
    go_enter Tryd.func23, Tryd.ntmps23
    go_wp2_with (first
      | (go_at_call 52; refine (done_any B R c p A l w H.out).mono ?_; rintro e w2 ⟨rfl, rfl⟩)
      | (go_at_call 53; refine (next_ok B R c p A l 8 (by omega) w H.out hk1).mono ?_; rintro e w2 ⟨⟨A', c', rfl, hr, hn⟩, hkp, hR⟩; have HRD := Lib.hid hr; have HKP := Lib.hid hkp; have HR := Lib.hid hR; clear hr hn hkp hR)
      | (go_at_call 55; refine (rnumber_any A' _ c' w2.heap.size _ w2 HRD.out (by decide)).mono ?_; rintro e w3 ⟨rfl, rfl⟩))
    go_ret
    exact Rend.yes HG.out rfl HKP.out HR.out
  · have hg : gLong l p = .inr (20, p) := by simp [gLong, Rg.map, gNum_no hk]
    have HG := Lib.hid hg
    have hk1 : (l.length : Int) < (p : Int) + 8 := by omega
    clear h hg
    go_enter Tryd.func23, Tryd.ntmps23
    go_wp2_with (first
      | (go_at_call 52; refine (done_any B R c p A l w H.out).mono ?_; rintro e w2 ⟨rfl, rfl⟩)
      | (go_at_call 53; refine (next_no B R c p A l 8 w H.out hk1).mono ?_; rintro e w2 ⟨rfl, hkp, hR⟩; have HKP := Lib.hid hkp; have HR := Lib.hid hR; clear hkp hR))
    exact ⟨rfl, Rend.no HG.out HKP.out HR.out⟩
end Go.Proofs.YtbegingiedbldaaDoor
