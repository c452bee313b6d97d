/- The reader: bools, bytes, numbers. -/
import Derived.Test.YtbegingiedbldaaDoorJr3
import Derived.Test.YtbegingiedbldaaDoorJp
namespace Go.Proofs.YtbegingiedbldaaDoor
open Go.RowKit

/-- behind a reading whose outcome is r -/
def Rend {α : Type} (B : Nat → Prop) (R c : Nat) (A : Option Addr) (l : List UInt8) (val : α → Value → World → Prop) (r : (α × Nat) ⊕ (Int × Nat)) (w : World) (e : Ending) (w' : World) : Prop :=
  match r with
  | .inl (x, q) => (∃ v, e = .returned v ∧ val x v w') ∧ Kp [R] w w' ∧ Rdr w' B R A c l q
  | .inr (er, q) => e = .panicked (fails R er) ∧ Kp [R] w w' ∧ Rdr w' B R A c l q

theorem Rend.split {α : Type} {B : Nat → Prop} {R c : Nat} {A : Option Addr} {l : List UInt8} {val : α → Value → World → Prop} {r : (α × Nat) ⊕ (Int × Nat)} {w : World} {e : Ending} {w' : World} (h : Rend B R c A l val r w e w') :
    (∃ x q v, r = .inl (x, q) ∧ e = .returned v ∧ val x v w' ∧ Kp [R] w w' ∧ Rdr w' B R A c l q) ∨ (∃ er q, r = .inr (er, q) ∧ e = .panicked (fails R er) ∧ Kp [R] w w' ∧ Rdr w' B R A c l q) := by
  rcases r with ⟨x, q⟩ | ⟨er, q⟩
  · obtain ⟨⟨v, h1, h2⟩, h3, h4⟩ := h
    exact .inl ⟨x, q, v, rfl, h1, h2, h3, h4⟩
  · obtain ⟨h1, h3, h4⟩ := h
    exact .inr ⟨er, q, rfl, h1, h3, h4⟩
theorem Rend.yes {α : Type} {B : Nat → Prop} {R c : Nat} {A : Option Addr} {l : List UInt8} {val : α → Value → World → Prop} {r : (α × Nat) ⊕ (Int × Nat)} {w : World} {v : Value} {w' : World} {x : α} {q : Nat} (hr : r = .inl (x, q)) (hv : val x v w') (hk : Kp [R] w w') (hR : Rdr w' B R A c l q) : Rend B R c A l val r w (.returned v) w' := by
  subst hr
  exact ⟨⟨v, rfl, hv⟩, hk, hR⟩
theorem Rend.no {α : Type} {B : Nat → Prop} {R c : Nat} {A : Option Addr} {l : List UInt8} {val : α → Value → World → Prop} {r : (α × Nat) ⊕ (Int × Nat)} {w : World} {w' : World} {er : Int} {q : Nat} (hr : r = .inr (er, q)) (hk : Kp [R] w w') (hR : Rdr w' B R A c l q) : Rend B R c A l val r w (.panicked (fails R er)) w' := by
  subst hr
  exact ⟨rfl, hk, hR⟩

def vBool (b : Bool) (v : Value) (_ : World) : Prop := v = .bool b
def vByte (n : Nat) (v : Value) (_ : World) : Prop := v = .int .u8 n
def vInt32 (n : Int) (v : Value) (_ : World) : Prop := v = .int .i32 n
def vInt64 (n : Int) (v : Value) (_ : World) : Prop := v = .int .i64 n
def vNat (n : Nat) (v : Value) (_ : World) : Prop := v = .int .i64 n

set_option maxRecDepth 100000 in
set_option maxHeartbeats 400000 in
theorem back_any (B : Nat → Prop) (R c p : Nat) (A : Option Addr) (l : List UInt8) (k er : Int) (h0 : 0 ≤ k) (hk : k ≤ p) (he : (er != 0) = true) (w : World) (h : Rdr w B R A c l p) :
    Calls Tryd.prog 54 #[.pointer (some ⟨R, 0, none⟩), .int .i64 k, .int .i64 er] w fun e w' => e = .panicked (fails R er) ∧ Kp [R] w w' ∧ Rdr w' B R A c l (p - k.toNat) := by
  have H := Lib.hid h
  obtain ⟨c0, c1, c2, f1⟩ := h.cells
  have hp := h.here
  have hl := h.len
  have e : ((p - k.toNat : Nat) : Int) = (p : Int) - k := by omega
  have HM := h.move (q := p - k.toNat) (by omega)
  rw [e] at HM
  have HM := Lib.hid HM
  clear h e
  go_enter Tryd.func54, Tryd.ntmps54
  go_wp2_with (go_at_call 42; refine (fail_any B R c (p - k.toNat) A l er he _ HM.out).mono ?_; rintro e w2 ⟨rfl, rfl⟩)
  exact ⟨rfl, rfl, Kp.setCell ⟨R, 1, none⟩ _, HM.out⟩

theorem take_one {l : List UInt8} {p : Nat} (h : p < l.length) : (l.drop p).take 1 = [l[p]] := by
  rw [List.drop_eq_getElem_cons h]; rfl

theorem slice_one {w : World} {B n : Nat} {A : Option Addr} {b : UInt8} (h : Reads w B 1 A n (bcells [b])) : ∃ ad, A = some ad ∧ w.cell? ad = some (.int .u8 b.toNat) := by
  have hn : n = 1 := by have := h.1; simp [bcells] at this; omega
  subst hn
  obtain ⟨ad, u, e, _, hu, hc⟩ := h.at_ (k := 0) (by omega)
  simp [bcells] at hu
  subst hu
  exact ⟨ad, e, by simpa [Addr.add] using hc⟩

set_option maxRecDepth 100000 in
set_option maxHeartbeats 400000 in
theorem rByte_any (B : Nat → Prop) (R c p : Nat) (A : Option Addr) (l : List UInt8) (w : World) (h : Rdr w B R A c l p) :
    Calls Tryd.prog 21 #[.pointer (some ⟨R, 0, none⟩)] w fun e w' => Rend B R c A l vByte (gByte l p) w e w' := by
  have H := Lib.hid h
  by_cases hk : p + 1 ≤ l.length
  · have hg : gByte l p = .inl (l[p].toNat, p + 1) := by
      simp [gByte, gNum, Rg.map, gNext, hk, take_one (show p < l.length by omega), beNum]
    have HT := Lib.hid (take_one (show p < l.length by omega))
    have HG := Lib.hid hg
    have hk1 : (p : Int) + 1 ≤ l.length := by omega
    clear h hg
    go_enter Tryd.func21, Tryd.ntmps21
    go_wp2_with (first
      | (go_at_call 52; refine (done_any B R c p A l w H.out).mono ?_; rintro e w2 ⟨rfl, rfl⟩)
      | (go_at_call 53; refine (next_ok B R c p A l 1 (by omega) w H.out hk1).mono ?_; rintro e w2 ⟨⟨A', c', rfl, hr, hn⟩, hkp, hR⟩; have hr' : Reads w2 w2.heap.size 1 A' 1 (bcells [l[p]]) := by rw [← HT.out]; exact hr
         obtain ⟨ad, rfl, hcell⟩ := slice_one hr'; have HKP := Lib.hid hkp; have HR := Lib.hid hR; clear hr hr' hn hkp hR))
    go_ret
    exact Rend.yes HG.out rfl HKP.out HR.out
  · have hg : gByte l p = .inr (20, p) := by
      simp [gByte, gNum, Rg.map, gNext, hk]
    have HG := Lib.hid hg
    have hk1 : (l.length : Int) < (p : Int) + 1 := by omega
    clear h hg
    go_enter Tryd.func21, Tryd.ntmps21
    go_wp2_with (first
      | (go_at_call 52; refine (done_any B R c p A l w H.out).mono ?_; rintro e w2 ⟨rfl, rfl⟩)
      | (go_at_call 53; refine (next_no B R c p A l 1 w H.out hk1).mono ?_; rintro e w2 ⟨rfl, hkp, hR⟩; have HKP := Lib.hid hkp; have HR := Lib.hid hR; clear hkp hR))
    exact ⟨rfl, Rend.no HG.out HKP.out HR.out⟩

theorem beNum_one (b : UInt8) : beNum [b] = b.toNat := by simp [beNum]

set_option maxRecDepth 100000 in
set_option maxHeartbeats 400000 in
theorem rBool_any (B : Nat → Prop) (R c p : Nat) (A : Option Addr) (l : List UInt8) (w : World) (h : Rdr w B R A c l p) :
    Calls Tryd.prog 20 #[.pointer (some ⟨R, 0, none⟩)] w fun e w' => Rend B R c A l vBool (gBool l p) w e w' := by
  have H := Lib.hid h
  by_cases hk : p + 1 ≤ l.length
  · have hg : gNum 1 l p = .inl (l[p].toNat, p + 1) := by
      simp [gNum, Rg.map, gNext, hk, take_one (show p < l.length by omega), beNum]
    have HT := Lib.hid (take_one (show p < l.length by omega))
    have hk1 : (p : Int) + 1 ≤ l.length := by omega
    have hb : l[p].toNat < 256 := l[p].toNat_lt
    by_cases h1 : 1 < l[p].toNat
    · have hg : gBool l p = .inr (22, p) := by unfold gBool; rw [hg]; exact if_pos h1
      have HG := Lib.hid hg
      have h1' : (1 : Int) < (l[p].toNat : Int) := by omega
      clear h hg
      go_enter Tryd.func20, Tryd.ntmps20
      go_wp2_with (first
        | (go_at_call 52; refine (done_any B R c p A l w H.out).mono ?_; rintro e w2 ⟨rfl, rfl⟩)
        | (go_at_call 53; refine (next_ok B R c p A l 1 (by omega) w H.out hk1).mono ?_; rintro e w2 ⟨⟨A', c', rfl, hr, hn⟩, hkp, hR⟩; have hr' : Reads w2 w2.heap.size 1 A' 1 (bcells [l[p]]) := by rw [← HT.out]; exact hr
           obtain ⟨ad, rfl, hcell⟩ := slice_one hr'; have HKP := Lib.hid hkp; have HR := Lib.hid hR; clear hr hr' hn hkp hR)
        | (go_at_call 54; refine (back_any B R c _ A l 1 22 (by omega) (by simp; omega) rfl _ HR.out).mono ?_; rintro e w3 ⟨rfl, hk3, hR3⟩; have HK3 := Lib.hid hk3; have HR3 := Lib.hid hR3; clear hk3 hR3))
      exact ⟨rfl, Rend.no HG.out (HKP.out.trans HK3.out) HR3.out⟩
    · have hg : gBool l p = .inl (l[p].toNat == 1, p + 1) := by unfold gBool; rw [hg]; exact if_neg h1
      have HG := Lib.hid hg
      have h1' : ¬ (1 : Int) < (l[p].toNat : Int) := by omega
      have hq : ((l[p].toNat : Int) == 1) = (l[p].toNat == 1) := by rw [Bool.eq_iff_iff]; simp; omega
      have HQ := Lib.hid hq
      clear h hg hq
      go_enter Tryd.func20, Tryd.ntmps20
      go_wp2_with (first
        | (go_at_call 52; refine (done_any B R c p A l w H.out).mono ?_; rintro e w2 ⟨rfl, rfl⟩)
        | (go_at_call 53; refine (next_ok B R c p A l 1 (by omega) w H.out hk1).mono ?_; rintro e w2 ⟨⟨A', c', rfl, hr, hn⟩, hkp, hR⟩; have hr' : Reads w2 w2.heap.size 1 A' 1 (bcells [l[p]]) := by rw [← HT.out]; exact hr
           obtain ⟨ad, rfl, hcell⟩ := slice_one hr'; have HKP := Lib.hid hkp; have HR := Lib.hid hR; clear hr hr' hn hkp hR))
      go_ret
      exact Rend.yes HG.out (by show _ = _; rw [← HQ.out]; rfl) HKP.out HR.out
  · have hg : gBool l p = .inr (20, p) := by
      simp [gBool, gNum, Rg.map, gNext, hk]
    have HG := Lib.hid hg
    have hk1 : (l.length : Int) < (p : Int) + 1 := by omega
    clear h hg
    go_enter Tryd.func20, Tryd.ntmps20
    go_wp2_with (first
      | (go_at_call 52; refine (done_any B R c p A l w H.out).mono ?_; rintro e w2 ⟨rfl, rfl⟩)
      | (go_at_call 53; refine (next_no B R c p A l 1 w H.out hk1).mono ?_; rintro e w2 ⟨rfl, hkp, hR⟩; have HKP := Lib.hid hkp; have HR := Lib.hid hR; clear hkp hR))
    exact ⟨rfl, Rend.no HG.out HKP.out HR.out⟩
end Go.Proofs.YtbegingiedbldaaDoor
