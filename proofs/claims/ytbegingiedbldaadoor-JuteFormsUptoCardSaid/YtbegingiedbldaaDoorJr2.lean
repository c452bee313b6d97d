/- The reader: the next bytes. -/
import Derived.Test.YtbegingiedbldaaDoorJr1
namespace Go.Proofs.YtbegingiedbldaaDoor
open Go.RowKit

theorem reads_zero (w : World) (B : Nat) (A : Option Addr) : Reads w B 1 A 0 [] := ⟨by simp, fun h => absurd h (by omega)⟩
theorem reads_part {w : World} {B n p k : Nat} {A : Option Addr} {l : List UInt8} (h : Reads w B 1 A n (bcells l)) (hp : p + k ≤ n) : Reads w B 1 (A.map fun x => x.add p) k (bcells ((l.drop p).take k)) := by
  have hl : l.length = n := by have := h.1; rw [bcells_length] at this; omega
  refine ⟨by rw [bcells_length, List.length_take, List.length_drop]; omega, fun hk => ?_⟩
  obtain ⟨ad, rfl, hb, hc⟩ := h.2 (by omega)
  refine ⟨ad.add p, rfl, by rw [block_of_add]; exact hb, fun j u hu => ?_⟩
  rw [add_of_add]
  refine hc _ u ?_
  rw [bcells_get] at hu ⊢
  rw [List.getElem?_take] at hu
  split at hu
  · rwa [List.getElem?_drop] at hu
  · cases hu

set_option maxRecDepth 100000 in
set_option maxHeartbeats 400000 in
theorem next_ok (B : Nat → Prop) (R c p : Nat) (A : Option Addr) (l : List UInt8) (k : Int) (h0 : 0 ≤ k) (w : World) (h : Rdr w B R A c l p) (hk : p + k ≤ l.length) :
    Calls Tryd.prog 53 #[.pointer (some ⟨R, 0, none⟩), .int .i64 k] w fun e w' => (∃ A' c', e = .returned (.slice A' k.toNat c') ∧ Reads w' w'.heap.size 1 A' k.toNat (bcells ((l.drop p).take k.toNat)) ∧ (A' = none → k.toNat = 0 ∧ c' = 0) ∧ k.toNat ≤ c') ∧ Kp [R] w w' ∧ Rdr w' B R A c l (p + k.toNat) := by
  obtain ⟨k, rfl⟩ := Int.eq_ofNat_of_zero_le h0
  rw [Int.toNat_natCast]
  have H := Lib.hid h
  obtain ⟨c0, c1, c2, f1⟩ := h.cells
  have hp := h.here
  have hl := h.len
  have hc := h.cap
  clear h h0
  go_enter Tryd.func53, Tryd.ntmps53
  go_wp2_with (go_at_call 27; refine (left_any B R c p A l w H.out).mono ?_; rintro e w2 ⟨rfl, n0, rfl⟩)
  go_quiet (fail)
  go_wp2
  · obtain rfl : c = p := by assumption
    have hk0 : k = 0 := by omega
    go_ret
    exact ⟨⟨A, 0, rfl, by rw [hk0]; simpa [bcells] using reads_zero _ _ _, fun _ => by simp [hk0], by simp [hk0]⟩, (Kp.drewN (n0 + nq)).to (Kp.setCell _ _) (fun _ h _ => h) (fun _ h _ => by simpa using h), (H.out.later (below_drewN' (Below.refl _ _) (n0 + nq))).move (q := c + k) (by omega)⟩
  · have hcp : ¬c = p := by assumption
    go_ret
    exact ⟨⟨_, _, rfl, reads_part ((H.out.later (below_drewN' (Below.refl _ _) (n0 + nq))).move (q := p + k) (by omega)).reads (by omega), (fun hA => by
      cases A with
      | none => have := H.out.nil rfl; omega
      | some ad => cases hA), by omega⟩, (Kp.drewN (n0 + nq)).to (Kp.setCell _ _) (fun _ h _ => h) (fun _ h _ => by simpa using h), (H.out.later (below_drewN' (Below.refl _ _) (n0 + nq))).move (by omega)⟩

set_option maxRecDepth 100000 in
set_option maxHeartbeats 400000 in
theorem next_no (B : Nat → Prop) (R c p : Nat) (A : Option Addr) (l : List UInt8) (k : Int) (w : World) (h : Rdr w B R A c l p) (hk : (l.length : Int) < p + k) :
    Calls Tryd.prog 53 #[.pointer (some ⟨R, 0, none⟩), .int .i64 k] w fun e w' => e = .panicked (fails R 20) ∧ Kp [R] w w' ∧ Rdr w' B R A c l p := by
  have H := Lib.hid h
  obtain ⟨c0, c1, c2, f1⟩ := h.cells
  have hp := h.here
  have hl := h.len
  have hc := h.cap
  have e : ((l.length - p : Nat) : Int) = (l.length : Int) - p := by omega
  have HE := Lib.hid e
  clear h e
  go_enter Tryd.func53, Tryd.ntmps53
  go_wp2_with (first
    | (go_at_call 27; refine (left_any B R c p A l w H.out).mono ?_; rintro e w2 ⟨rfl, n0, rfl⟩; rw [HE.out])
    | (go_at_call 42; refine (fail_any B R c p A l 20 rfl _ (H.out.later (below_drewN' (Below.refl _ _) n0))).mono ?_; rintro e w2 ⟨rfl, rfl⟩))
  exact ⟨rfl, rfl, Kp.drewN n0, H.out.later (below_drewN' (Below.refl _ _) n0)⟩
end Go.Proofs.YtbegingiedbldaaDoor
