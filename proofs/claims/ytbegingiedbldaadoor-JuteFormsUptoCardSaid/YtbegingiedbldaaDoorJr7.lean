/- The reader: texts, lists of what a function reads. -/
import Derived.Test.YtbegingiedbldaaDoorJr6
import Derived.Test.YtbegingiedbldaaDoorJu2
namespace Go.Proofs.YtbegingiedbldaaDoor
open Go.RowKit

def vText (x : List UInt8) (v : Value) (_ : World) : Prop := v = .string ⟨x.toArray⟩

theorem gBuf_inl {most : Int} {l x : List UInt8} {p q : Nat} (h : gBuf most l p = .inl (x, q)) : p + 4 + x.length = q ∧ q ≤ l.length := by
  unfold gBuf at h
  split at h
  · rename_i n q' hs
    obtain ⟨_, rfl, _, _, _⟩ := gSize_inl hs
    split at h
    · simp only [Sum.inl.injEq, Prod.mk.injEq] at h
      obtain ⟨rfl, rfl⟩ := h
      rw [List.length_take, List.length_drop]
      omega
    · cases h
  · cases h

set_option maxRecDepth 100000 in
set_option maxHeartbeats 400000 in
theorem rText_any (B : Nat → Prop) (R c p : Nat) (A : Option Addr) (l : List UInt8) (most : Int) (w : World) (h : Rdr w B R A c l p) :
    Calls Tryd.prog 25 #[.pointer (some ⟨R, 0, none⟩), .int .i64 most] w fun e w' => Rend B R c A l vText (gText most l p) w e w' := by
  have HI := rBytes_any B R c p A l most w h
  have H := Lib.hid h
  have hlen := h.len
  rcases hres : gBuf most l p with ⟨x, q⟩ | ⟨er, q⟩
  · rw [hres] at HI
    obtain ⟨hq1, hq2⟩ := gBuf_inl hres
    have HI := Lib.hid HI
    rcases Bool.eq_false_or_eq_true (Lib.validD x) with hv | hv
    · have hg : gText most l p = .inl (x, q) := by unfold gText; rw [hres]; exact if_pos hv
      have HG := Lib.hid hg
      have HV := Lib.hid hv
      have HQ := Lib.hid hq1
      have hx : x.length ≤ 140737488355328 := by omega
      clear h hg hres hv hq1
      go_enter Tryd.func25, Tryd.ntmps25
      go_wp2_with (first
        | (go_at_call 52; refine (done_any B R c p A l w H.out).mono ?_; rintro e w1 ⟨rfl, rfl⟩)
        | (go_at_call 57; refine (HI.out).mono ?_; rintro e w2 ⟨⟨v, rfl, A', c', rfl, hr, hn⟩, hkp, hR⟩; have HRD := Lib.hid hr; have HNC := Lib.hid hn.2; have HKP := Lib.hid hkp; have HR := Lib.hid hR; clear hr hn hkp hR)
        | (go_at_call 58; refine (valid_any A' _ c' w2.heap.size x w2 HRD.out HNC.out hx (Nat.le_refl _) HR.out.tab).mono ?_; rintro e w3 ⟨rfl, hb⟩; rw [HV.out]; have HB3 := Lib.hid hb
           have hcv := run_string_of_bytes (P := Tryd.prog) (w := w3) (src := 22) (e := 5) Tryd.underlying22 Tryd.underlying5 (HRD.out.below hb) (c := c') 9 Tryd.underlying9
           clear hb))
      go_ret
      exact Rend.yes HG.out rfl (HKP.out.to (Kp.of_below (X := []) HB3.out) (fun _ h _ => h) (fun _ h => by cases h)) (HR.out.later HB3.out)
    · have hg : gText most l p = .inr (22, p) := by unfold gText; rw [hres]; exact if_neg (by simp [hv])
      have HG := Lib.hid hg
      have HV := Lib.hid hv
      have HQ := Lib.hid hq1
      have hx : x.length ≤ 140737488355328 := by omega
      have hq3 : 4 + (x.length : Int) ≤ q := by omega
      clear h hg hres hv hq1
      go_enter Tryd.func25, Tryd.ntmps25
      go_wp2_with (first
        | (go_at_call 52; refine (done_any B R c p A l w H.out).mono ?_; rintro e w1 ⟨rfl, rfl⟩)
        | (go_at_call 57; refine (HI.out).mono ?_; rintro e w2 ⟨⟨v, rfl, A', c', rfl, hr, hn⟩, hkp, hR⟩; have HRD := Lib.hid hr; have HNC := Lib.hid hn.2; have HKP := Lib.hid hkp; have HR := Lib.hid hR; clear hr hn hkp hR)
        | (go_at_call 58; refine (valid_any A' _ c' w2.heap.size x w2 HRD.out HNC.out hx (Nat.le_refl _) HR.out.tab).mono ?_; rintro e w3 ⟨rfl, hb⟩; rw [HV.out]; have HB3 := Lib.hid hb; clear hb)
        | (go_at_call 54; refine (back_any B R c _ A l _ 22 (by omega) hq3 rfl _ (HR.out.later HB3.out)).mono ?_; rintro e w4 ⟨rfl, hk3, hR3⟩; have HK3 := Lib.hid hk3; have HR3 := Lib.hid hR3; clear hk3 hR3))
      have e : q - (4 + (x.length : Int)).toNat = p := by have := HQ.out; omega
      exact ⟨rfl, Rend.no HG.out ((HKP.out.to (Kp.of_below (X := []) HB3.out) (fun _ h _ => h) (fun _ h => by cases h)).trans HK3.out) (e ▸ HR3.out)⟩
  · rw [hres] at HI
    have HI := Lib.hid HI
    have hg : gText most l p = .inr (er, q) := by unfold gText; rw [hres]
    have HG := Lib.hid hg
    clear h hg hres
    go_enter Tryd.func25, Tryd.ntmps25
    go_wp2_with (first
      | (go_at_call 52; refine (done_any B R c p A l w H.out).mono ?_; rintro e w1 ⟨rfl, rfl⟩)
      | (go_at_call 57; refine (HI.out).mono ?_; rintro e w2 ⟨rfl, hkp, hR⟩; have HKP := Lib.hid hkp; have HR := Lib.hid hR; clear hkp hR))
    exact ⟨rfl, Rend.no HG.out HKP.out HR.out⟩
end Go.Proofs.YtbegingiedbldaaDoor
