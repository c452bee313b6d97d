/- The reader: sizes, buffers. -/
import Derived.Test.YtbegingiedbldaaDoorJr5
import Derived.Test.YtbegingiedbldaaDoorJw5
namespace Go.Proofs.YtbegingiedbldaaDoor
open Go.RowKit

set_option maxRecDepth 100000 in
set_option maxHeartbeats 400000 in
theorem rSize_any (B : Nat → Prop) (R c p : Nat) (A : Option Addr) (l : List UInt8) (most : Int) (w : World) (h : Rdr w B R A c l p) :
    Calls Tryd.prog 59 #[.pointer (some ⟨R, 0, none⟩), .int .i64 most] w fun e w' => Rend B R c A l vNat (gSize most l p) w e w' := by
  have HI := rInt_any B R c p A l w h
  have hp := h.here
  rcases hres : gInt l p with ⟨n, q⟩ | ⟨er, q⟩
  · rw [hres] at HI
    obtain ⟨hq1, hn, rfl⟩ := gInt_inl hres
    have hbd := wrap32_bd (beNum ((l.drop p).take 4))
    rw [← hn] at hbd
    obtain ⟨hbd1, hbd2⟩ := hbd
    have HI := Lib.hid HI
    by_cases hc : n < 0 ∨ most < n
    · have hg : gSize most l p = .inr (22, p) := by unfold gSize; rw [hres]; exact if_pos hc
      have HG := Lib.hid hg
      clear h hg hn hres
      by_cases hc0 : n < 0
      all_goals (
        try (have hc1 : most < n := by omega)
        clear hc
        go_enter Tryd.func59, Tryd.ntmps59
        go_wp2_with (first
          | (go_at_call 22; refine (HI.out).mono ?_; rintro e w2 ⟨⟨v, rfl, rfl⟩, hkp, hR⟩; have HKP := Lib.hid hkp; have HR := Lib.hid hR; clear hkp hR)
          | (go_at_call 54; refine (back_any B R c _ A l 4 22 (by omega) (by simp; omega) rfl _ HR.out).mono ?_; rintro e w3 ⟨rfl, hk3, hR3⟩; have HK3 := Lib.hid hk3; have HR3 := Lib.hid hR3; clear hk3 hR3))
        exact ⟨rfl, Rend.no HG.out (HKP.out.trans HK3.out) HR3.out⟩)
    · have hg : gSize most l p = .inl (n.toNat, p + 4) := by unfold gSize; rw [hres]; exact if_neg hc
      have HG := Lib.hid hg
      have hc0 : ¬ n < 0 := by omega
      have hc1 : ¬ most < n := by omega
      clear h hg hn hres hc
      go_enter Tryd.func59, Tryd.ntmps59
      go_wp2_with (go_at_call 22; refine (HI.out).mono ?_; rintro e w2 ⟨⟨v, rfl, rfl⟩, hkp, hR⟩; have HKP := Lib.hid hkp; have HR := Lib.hid hR; clear hkp hR)
      go_ret
      exact Rend.yes HG.out (show Value.int .i64 n = .int .i64 (n.toNat : Int) by rw [Int.toNat_of_nonneg (by omega)]) HKP.out HR.out
  · rw [hres] at HI
    have HI := Lib.hid HI
    have hg : gSize most l p = .inr (er, q) := by unfold gSize; rw [hres]
    have HG := Lib.hid hg
    clear h hg hres
    go_enter Tryd.func59, Tryd.ntmps59
    go_wp2_with (go_at_call 22; refine (HI.out).mono ?_; rintro e w2 ⟨rfl, hkp, hR⟩; have HKP := Lib.hid hkp; have HR := Lib.hid hR; clear hkp hR)
    exact ⟨rfl, Rend.no HG.out HKP.out HR.out⟩


/-- bytes as they lie in memory -/
def vSlice (x : List UInt8) (v : Value) (w : World) : Prop := ∃ A' c', v = .slice A' x.length c' ∧ Reads w w.heap.size 1 A' x.length (bcells x) ∧ (A' = none → x.length = 0 ∧ c' = 0) ∧ x.length ≤ c'
/-- bytes in memory of the call's own -/
def vOwn (base : Nat) (x : List UInt8) (v : Value) (w : World) : Prop := ∃ A' c', v = .slice A' x.length c' ∧ w.ownsRow base 5 1 v x.length (bcells x)

set_option maxRecDepth 100000 in
set_option maxHeartbeats 400000 in
theorem rBytes_any (B : Nat → Prop) (R c p : Nat) (A : Option Addr) (l : List UInt8) (most : Int) (w : World) (h : Rdr w B R A c l p) :
    Calls Tryd.prog 57 #[.pointer (some ⟨R, 0, none⟩), .int .i64 most] w fun e w' => Rend B R c A l vSlice (gBuf most l p) w e w' := by
  have HI := rSize_any B R c p A l most w h
  rcases hres : gSize most l p with ⟨n, q⟩ | ⟨er, q⟩
  · rw [hres] at HI
    obtain ⟨hq1, rfl, _, hbd, _⟩ := gSize_inl hres
    have HI := Lib.hid HI
    have hlen := h.len
    by_cases hc : p + 4 + n ≤ l.length
    · have hg : gBuf most l p = .inl ((l.drop (p + 4)).take n, p + 4 + n) := by unfold gBuf; rw [hres]; exact if_pos hc
      have HG := Lib.hid hg
      have hc1 : ¬ (l.length : Int) - (p + 4) < n := by omega
      have hc2 : ((p + 4 : Nat) : Int) + (n : Int) ≤ l.length := by omega
      have HT : Hid (((l.drop (p + 4)).take n).length = n) := by show _ = _; rw [List.length_take, List.length_drop]; omega
      clear h hg hres
      go_enter Tryd.func57, Tryd.ntmps57
      go_wp2_with (first
        | (go_at_call 59; refine (HI.out).mono ?_; rintro e w2 ⟨⟨v, rfl, rfl⟩, hkp, hR⟩; have HL : Hid (((l.length - (p + 4) : Nat) : Int) = (l.length : Int) - (p + 4)) := (by show _ = _; have := hR.here; omega); have HKP := Lib.hid hkp; have HR := Lib.hid hR; clear hkp hR)
        | (go_at_call 27; refine (left_any B R c _ A l _ HR.out).mono ?_; rintro e w3 ⟨rfl, n0, rfl⟩; have HR0 := Lib.hid (HR.out.later (below_drewN' (Below.refl _ _) n0)); rw [HL.out])
        | (go_at_call 53; refine (next_ok B R c _ A l _ (by omega) _ HR0.out hc2).mono ?_; rintro e w4 ⟨⟨A', c', rfl, hr, hn⟩, hk4, hR4⟩; have HRD := Lib.hid hr; have HN := Lib.hid hn; have HK4 := Lib.hid hk4; have HR4 := Lib.hid hR4; clear hr hn hk4 hR4))
      go_ret
      exact Rend.yes HG.out ⟨A', c', by rw [HT.out]; rfl, by rw [HT.out]; exact HRD.out, by rw [HT.out]; exact HN.out⟩ ((HKP.out.trans (Kp.drewN n0)).trans HK4.out) HR4.out
    · have hg : gBuf most l p = .inr (20, p) := by unfold gBuf; rw [hres]; exact if_neg hc
      have HG := Lib.hid hg
      have hc1 : (l.length : Int) - (p + 4) < n := by omega
      clear h hg hres
      go_enter Tryd.func57, Tryd.ntmps57
      go_wp2_with (first
        | (go_at_call 59; refine (HI.out).mono ?_; rintro e w2 ⟨⟨v, rfl, rfl⟩, hkp, hR⟩; have HL : Hid (((l.length - (p + 4) : Nat) : Int) = (l.length : Int) - (p + 4)) := (by show _ = _; have := hR.here; omega); have HKP := Lib.hid hkp; have HR := Lib.hid hR; clear hkp hR)
        | (go_at_call 27; refine (left_any B R c _ A l _ HR.out).mono ?_; rintro e w3 ⟨rfl, n0, rfl⟩; have HR0 := Lib.hid (HR.out.later (below_drewN' (Below.refl _ _) n0)); rw [HL.out])
        | (go_at_call 54; refine (back_any B R c _ A l 4 20 (by omega) (by simp; omega) rfl _ HR0.out).mono ?_; rintro e w4 ⟨rfl, hk3, hR3⟩; have HK3 := Lib.hid hk3; have HR3 := Lib.hid hR3; clear hk3 hR3))
      exact ⟨rfl, Rend.no HG.out ((HKP.out.trans (Kp.drewN n0)).trans HK3.out) HR3.out⟩
  · rw [hres] at HI
    have HI := Lib.hid HI
    have hg : gBuf most l p = .inr (er, q) := by unfold gBuf; rw [hres]
    have HG := Lib.hid hg
    clear h hg hres
    go_enter Tryd.func57, Tryd.ntmps57
    go_wp2_with (go_at_call 59; refine (HI.out).mono ?_; rintro e w2 ⟨rfl, hkp, hR⟩; have HKP := Lib.hid hkp; have HR := Lib.hid hR; clear hkp hR)
    exact ⟨rfl, Rend.no HG.out HKP.out HR.out⟩


theorem gBuf_len {most : Int} {l x : List UInt8} {p q : Nat} (h : gBuf most l p = .inl (x, q)) (hl : l.length ≤ 140737488355328) : x.length ≤ 140737488355328 := by
  unfold gBuf at h
  split at h
  · split at h
    · simp only [Sum.inl.injEq, Prod.mk.injEq] at h
      obtain ⟨rfl, _⟩ := h
      rw [List.length_take, List.length_drop]
      omega
    · cases h
  · cases h

theorem own_base {w : World} {base base' : Nat} {e : TypeId} {size n : Nat} {v : Value} {xs : List Value} (h : w.ownsRow base e size v n xs) (hb : base' ≤ base) : w.ownsRow base' e size v n xs := by
  refine ⟨h.1, ?_⟩
  rcases h.2 with h2 | ⟨g, cap, cur, h1, h3, h4⟩
  · exact .inl h2
  · exact .inr ⟨g, cap, cur, h1, Nat.le_trans hb h3, h4⟩

set_option maxRecDepth 100000 in
set_option maxHeartbeats 400000 in
theorem rBuffer_any (B : Nat → Prop) (R c p : Nat) (A : Option Addr) (l : List UInt8) (most : Int) (w : World) (h : Rdr w B R A c l p) :
    Calls Tryd.prog 24 #[.pointer (some ⟨R, 0, none⟩), .int .i64 most] w fun e w' => Rend B R c A l (vOwn w.heap.size) (gBuf most l p) w e w' := by
  have HI := rBytes_any B R c p A l most w h
  have H := Lib.hid h
  rcases hres : gBuf most l p with ⟨x, q⟩ | ⟨er, q⟩
  · rw [hres] at HI
    have HI := Lib.hid HI
    have HX := Lib.hid (gBuf_len hres h.len)
    clear h hres
    go_enter Tryd.func24, Tryd.ntmps24
    go_wp2_with (first
      | (go_at_call 52; refine (done_any B R c p A l w H.out).mono ?_; rintro e w1 ⟨rfl, rfl⟩)
      | (go_at_call 57; refine (HI.out).mono ?_; rintro e w2 ⟨⟨v, rfl, A', c', rfl, hr, hn⟩, hkp, hR⟩; have HRD := Lib.hid hr; have HN := Lib.hid hn; have HKP := Lib.hid hkp; have HR := Lib.hid hR; clear hkp hR)
      | (go_at_call 56; have hx : x.length ≤ 140737488355328 := (by
           have h1 := HRD.out.1
           rw [bcells_length] at h1
           have h2 := HX.out
           omega)
         refine (clone_any A' _ c' w2.heap.size (bcells x) w2 HRD.out (bcells_one _) (Nat.le_refl _) hx HN.out.1).mono ?_; rintro e w3 ⟨A2, c2, rfl, ho, hb⟩; have HO := Lib.hid ho; have HB3 := Lib.hid hb; clear ho hb))
    go_ret
    exact Rend.yes rfl ⟨A2, c2, rfl, own_base HO.out HKP.out.size⟩ (HKP.out.to (Kp.of_below (X := []) HB3.out) (fun _ h _ => h) (fun _ h => by cases h)) (HR.out.later HB3.out)
  · rw [hres] at HI
    have HI := Lib.hid HI
    clear h hres
    go_enter Tryd.func24, Tryd.ntmps24
    go_wp2_with (first
      | (go_at_call 52; refine (done_any B R c p A l w H.out).mono ?_; rintro e w1 ⟨rfl, rfl⟩)
      | (go_at_call 57; refine (HI.out).mono ?_; rintro e w2 ⟨rfl, hkp, hR⟩; have HKP := Lib.hid hkp; have HR := Lib.hid hR; clear hkp hR))
    exact ⟨rfl, Rend.no rfl HKP.out HR.out⟩

set_option maxRecDepth 100000 in
set_option maxHeartbeats 400000 in
theorem rCount_any (B : Nat → Prop) (R c p : Nat) (A : Option Addr) (l : List UInt8) (most least : Int) (w : World) (h : Rdr w B R A c l p) :
    Calls Tryd.prog 26 #[.pointer (some ⟨R, 0, none⟩), .int .i64 most, .int .i64 least] w fun e w' => Rend B R c A l vNat (gCount most least l p) w e w' := by
  have HI := rSize_any B R c p A l most w h
  have H := Lib.hid h
  rcases hres : gSize most l p with ⟨n, q⟩ | ⟨er, q⟩
  · rw [hres] at HI
    obtain ⟨hq1, rfl, _, hbd, _⟩ := gSize_inl hres
    have HI := Lib.hid HI
    have hlen := h.len
    by_cases h1 : 1 ≤ least
    · by_cases hc : ((l.length - (p + 4) : Nat) : Int) / least < n
      · have hg : gCount most least l p = .inr (20, p) := by unfold gCount; rw [hres]; exact if_pos ⟨h1, hc⟩
        have HG := Lib.hid hg
        have e1 : ((l.length - (p + 4) : Nat) : Int) = (l.length : Int) - (p + 4) := by omega
        rw [e1] at hc
        clear h hg hres e1
        go_enter Tryd.func26, Tryd.ntmps26
        go_wp2_with (first
          | (go_at_call 52; refine (done_any B R c p A l w H.out).mono ?_; rintro e w1 ⟨rfl, rfl⟩)
          | (go_at_call 59; refine (HI.out).mono ?_; rintro e w2 ⟨⟨v, rfl, rfl⟩, hkp, hR⟩; have HL : Hid (((l.length - (p + 4) : Nat) : Int) = (l.length : Int) - (p + 4)) := (by show _ = _; have := hR.here; omega); have HKP := Lib.hid hkp; have HR := Lib.hid hR; clear hkp hR)
          | (go_at_call 27; refine (left_any B R c _ A l _ HR.out).mono ?_; rintro e w3 ⟨rfl, n0, rfl⟩; have HR0 := Lib.hid (HR.out.later (below_drewN' (Below.refl _ _) n0)); rw [HL.out])
          | (go_at_call 54; refine (back_any B R c _ A l 4 20 (by omega) (by simp; omega) rfl _ HR0.out).mono ?_; rintro e w4 ⟨rfl, hk3, hR3⟩; have HK3 := Lib.hid hk3; have HR3 := Lib.hid hR3; clear hk3 hR3))
        exact ⟨rfl, Rend.no HG.out ((HKP.out.trans (Kp.drewN n0)).trans HK3.out) HR3.out⟩
      · have hg : gCount most least l p = .inl (n, p + 4) := by unfold gCount; rw [hres]; exact if_neg (fun h => hc h.2)
        have HG := Lib.hid hg
        have e1 : ((l.length - (p + 4) : Nat) : Int) = (l.length : Int) - (p + 4) := by omega
        rw [e1] at hc
        clear h hg hres e1
        go_enter Tryd.func26, Tryd.ntmps26
        go_wp2_with (first
          | (go_at_call 52; refine (done_any B R c p A l w H.out).mono ?_; rintro e w1 ⟨rfl, rfl⟩)
          | (go_at_call 59; refine (HI.out).mono ?_; rintro e w2 ⟨⟨v, rfl, rfl⟩, hkp, hR⟩; have HL : Hid (((l.length - (p + 4) : Nat) : Int) = (l.length : Int) - (p + 4)) := (by show _ = _; have := hR.here; omega); have HKP := Lib.hid hkp; have HR := Lib.hid hR; clear hkp hR)
          | (go_at_call 27; refine (left_any B R c _ A l _ HR.out).mono ?_; rintro e w3 ⟨rfl, n0, rfl⟩; have HR0 := Lib.hid (HR.out.later (below_drewN' (Below.refl _ _) n0)); rw [HL.out]))
        go_ret
        exact Rend.yes HG.out rfl (HKP.out.trans (Kp.drewN n0)) HR0.out
    · have hg : gCount most least l p = .inl (n, p + 4) := by unfold gCount; rw [hres]; exact if_neg (fun h => h1 h.1)
      have HG := Lib.hid hg
      clear h hg hres
      go_enter Tryd.func26, Tryd.ntmps26
      go_wp2_with (first
        | (go_at_call 52; refine (done_any B R c p A l w H.out).mono ?_; rintro e w1 ⟨rfl, rfl⟩)
        | (go_at_call 59; refine (HI.out).mono ?_; rintro e w2 ⟨⟨v, rfl, rfl⟩, hkp, hR⟩; have HL : Hid (((l.length - (p + 4) : Nat) : Int) = (l.length : Int) - (p + 4)) := (by show _ = _; have := hR.here; omega); have HKP := Lib.hid hkp; have HR := Lib.hid hR; clear hkp hR))
      go_ret
      exact Rend.yes HG.out rfl HKP.out HR.out
  · rw [hres] at HI
    have HI := Lib.hid HI
    have hg : gCount most least l p = .inr (er, q) := by unfold gCount; rw [hres]
    have HG := Lib.hid hg
    clear h hg hres
    go_enter Tryd.func26, Tryd.ntmps26
    go_wp2_with (first
      | (go_at_call 52; refine (done_any B R c p A l w H.out).mono ?_; rintro e w1 ⟨rfl, rfl⟩)
      | (go_at_call 59; refine (HI.out).mono ?_; rintro e w2 ⟨rfl, hkp, hR⟩; have HKP := Lib.hid hkp; have HR := Lib.hid hR; clear hkp hR))
    exact ⟨rfl, Rend.no HG.out HKP.out HR.out⟩

end Go.Proofs.YtbegingiedbldaaDoor
