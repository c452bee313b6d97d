/- The document's reader: numbers, bools, counts, what is left, its end. -/
import Derived.Test.YtbegingiedbldaaDoorJq6
namespace Go.Proofs.YtbegingiedbldaaDoor
open Go.RowKit

/-- the document's reader at block R: it reads the bytes l, stands at p, and has failed with e (0: it has not) -/
structure RR (w : World) (base R : Nat) (A : Option Addr) (c : Nat) (l : List UInt8) (p : Nat) (e : Int) : Prop where
  blk : Blk w R 38 #[.slice A l.length c, .int .i64 p, .int .i64 e]
  reads : Reads w base 1 A l.length (bcells l)
  old : base ≤ R
  cap : l.length ≤ c
  here : p ≤ l.length
  len : l.length ≤ 1099511627776
  nil : A = none → c = 0

section
variable {w w' : World} {base R c p q : Nat} {A : Option Addr} {l : List UInt8} {X : List Nat} {e z : Int}
theorem RR.lt (h : RR w base R A c l p e) : R < w.heap.size := h.blk.lt
theorem RR.kp (h : RR w base R A c l p e) (hk : Kp X w w') (hR : R ∉ X) (hX : ∀ x ∈ X, base ≤ x) : RR w' base R A c l p e :=
  ⟨h.blk.kp hk hR, h.reads.kp hk (by have := h.lt; have := h.old; omega) hX, h.old, h.cap, h.here, h.len, h.nil⟩
theorem RR.later (h : RR w base R A c l p e) (hb : Below w.heap.size w w') : RR w' base R A c l p e := h.kp (Kp.of_below (X := []) hb) (fun h => by cases h) (fun _ h => by cases h)
theorem RR.move (h : RR w base R A c l p e) (hq : q ≤ l.length) : RR (w.setCell ⟨R, 1, none⟩ (.int .i64 q)) base R A c l q e :=
  ⟨h.blk.set_ 1 _, h.reads.kp (Kp.setCell ⟨R, 1, none⟩ _) (by have := h.lt; have := h.old; omega) (by simp; exact h.old), h.old, h.cap, hq, h.len, h.nil⟩
theorem RR.err (h : RR w base R A c l p e) (z : Int) : RR (w.setCell ⟨R, 2, none⟩ (.int .i64 z)) base R A c l p z :=
  ⟨h.blk.set_ 2 _, h.reads.kp (Kp.setCell ⟨R, 2, none⟩ _) (by have := h.lt; have := h.old; omega) (by simp; exact h.old), h.old, h.cap, h.here, h.len, h.nil⟩
theorem RR.cells (h : RR w base R A c l p e) : w.cell? ⟨R, 0, none⟩ = some (.slice A l.length c) ∧ w.cell? ⟨R, 1, none⟩ = some (.int .i64 p) ∧ w.cell? ⟨R, 2, none⟩ = some (.int .i64 e) ∧ w.frozen? ⟨R, 1, none⟩ = false ∧ w.frozen? ⟨R, 2, none⟩ = false := by
  refine ⟨?_, ?_, ?_, h.blk.frozen 1, h.blk.frozen 2⟩
  · rw [h.blk.cell 0]; rfl
  · rw [h.blk.cell 1]; rfl
  · rw [h.blk.cell 2]; rfl
end

/-- how a reading by the document ends -/
def RefE {α : Type} (base R : Nat) (A : Option Addr) (c : Nat) (l : List UInt8) (val : α → Value → World → Prop) (dv : Value) (r : (α × Nat) ⊕ (Int × Nat)) (w : World) (e : Ending) (w' : World) : Prop :=
  match r with
  | .inl (x, q) => (∃ v, e = .returned v ∧ val x v w') ∧ Kp [R] w w' ∧ RR w' base R A c l q 0
  | .inr (er, q) => e = .returned dv ∧ er ≠ 0 ∧ Kp [R] w w' ∧ RR w' base R A c l q er
theorem RefE.yes {α : Type} {base R : Nat} {A : Option Addr} {c : Nat} {l : List UInt8} {val : α → Value → World → Prop} {dv v : Value} {r : (α × Nat) ⊕ (Int × Nat)} {w w' : World} {x : α} {q : Nat} (hr : r = .inl (x, q)) (hv : val x v w') (hk : Kp [R] w w') (hR : RR w' base R A c l q 0) : RefE base R A c l val dv r w (.returned v) w' := by
  subst hr
  exact ⟨⟨v, rfl, hv⟩, hk, hR⟩
theorem RefE.no {α : Type} {base R : Nat} {A : Option Addr} {c : Nat} {l : List UInt8} {val : α → Value → World → Prop} {dv : Value} {r : (α × Nat) ⊕ (Int × Nat)} {w w' : World} {er : Int} {q : Nat} (hr : r = .inr (er, q)) (he : er ≠ 0) (hk : Kp [R] w w') (hR : RR w' base R A c l q er) : RefE base R A c l val dv r w (.returned dv) w' := by
  subst hr
  exact ⟨rfl, he, hk, hR⟩
def vU64 (n : Nat) (v : Value) (_ : World) : Prop := v = .int .u64 n

section
variable (base R : Nat) (A : Option Addr) (c : Nat) (l : List UInt8) (p : Nat) (w : World)

set_option maxRecDepth 100000 in
set_option maxHeartbeats 400000 in
theorem dFail (z : Int) (h : RR w base R A c l p 0) :
    Calls Tryd.prog 51 #[.pointer (some ⟨R, 0, none⟩), .int .i64 z] w fun e w' => e = .returned (.tuple #[]) ∧ Kp [R] w w' ∧ RR w' base R A c l p z := by
  obtain ⟨c0, c1, c2, f1, f2⟩ := h.cells
  have H := Lib.hid h
  clear h
  go_enter Tryd.func51, Tryd.ntmps51
  go_wp2
  go_end0
  exact ⟨rfl, Kp.setCell ⟨R, 2, none⟩ _, H.out.err z⟩

set_option maxRecDepth 100000 in
set_option maxHeartbeats 1000000 in
theorem dTake (k : Nat) (hk : k ≤ 8) (h : RR w base R A c l p 0) :
    Calls Tryd.prog 66 #[.pointer (some ⟨R, 0, none⟩), .int .i64 k] w (RefE base R A c l vU64 (.int .u64 0) (gNum k l p) w) := by
  obtain ⟨c0, c1, c2, f1, f2⟩ := h.cells
  have hp := h.here
  have hl := h.len
  have H := Lib.hid h
  clear h
  by_cases hpk : p + k ≤ l.length
  · have hs : ¬ ((l.length : Int) - p < k) := by omega
    have HG : Hid (gNum k l p = .inl (beNum ((l.drop p).take k), p + k)) := by unfold Hid gNum Rg.map gNext; rw [if_pos hpk]
    go_enter Tryd.func66, Tryd.ntmps66
    go_wp2
    go_quiet (fail)
    go_wp2
    have hm := H.out.reads
    go_loopw [5, 6] (fun x i wr => ∃ (j n : Nat), j ≤ k ∧ i = .int .i64 j ∧ x = .int .u64 (beNum ((l.drop p).take j)) ∧ wr = w.drewN n) (fun _ i _ => k - (intOf i).toNat)
    case atStart => exact ⟨0, nq, Nat.zero_le _, rfl, rfl, rfl⟩
    case round =>
      obtain ⟨j, n, hj, rfl, rfl, rfl⟩ := hrel
      by_cases hlt : j < k
      · obtain ⟨ad, u, e, _, hu, hcell⟩ := H.out.reads.at_ (k := p + j) (by omega)
        have hget : u = .int .u8 (l[p + j].toNat : Int) := by
          simp only [bcells_get, List.getElem?_eq_getElem (show p + j < l.length by omega), Option.map_some, Option.some.injEq] at hu
          exact hu.symm
        subst hget
        have HE : Hid (bits BinOp.or IntKind.u64 (IntKind.u64.wrap (↑(beNum ((l.drop p).take j)) * 256)) (IntKind.u64.wrap ↑l[p + j].toNat) = ((beNum ((l.drop p).take (j + 1)) : Nat) : Int)) := by
          show _ = _
          have hd : j < (l.drop p).length := by rw [List.length_drop]; omega
          rw [List.take_succ_eq_append_getElem hd, beNum_snoc, List.getElem_drop]
          refine shl8_or _ _ ?_ l[p + j].toNat_lt
          have h1 := beNum_lt ((l.drop p).take j)
          have h2 : ((l.drop p).take j).length ≤ 7 := by rw [List.length_take]; omega
          have h3 : 256 ^ ((l.drop p).take j).length ≤ 256 ^ 7 := Nat.pow_le_pow_right (by decide) h2
          have h4 : (256 : Nat) ^ 7 = 72057594037927936 := by decide
          omega
        subst e
        have s1 : IntKind.i64.wrap ((p : Int) + j) = (p : Int) + j := IntWalk.i64_in _ (by omega)
        have s2 : (0 : Int) ≤ (p : Int) + j := by omega
        have s3 : (p : Int) + j < l.length := by omega
        have s4 : ((p : Int) + j).toNat = p + j := by omega
        clear hu
        go_wp2
        go_quiet (fail)
        clear s1 s2 s3 s4
        go_wp2
        go_roundw
        case rel => exact ⟨j + 1, n + nq, by omega, by go_num, by rw [HE.out], rfl⟩
        case measure => simp [intOf]; omega
      · obtain rfl : j = k := by omega
        go_wp2
        go_ret
        exact RefE.yes HG.out rfl ((Kp.drewN n).trans (Kp.setCell ⟨R, 1, none⟩ _)) ((H.out.later (below_drewN' (Below.refl _ _) n)).move (by omega))
  · have hs : (l.length : Int) - p < k := by omega
    have HG : Hid (gNum k l p = .inr (20, p)) := by unfold Hid gNum Rg.map gNext; rw [if_neg hpk]
    go_enter Tryd.func66, Tryd.ntmps66
    go_wp2
    go_quiet (fail)
    go_wp2_with (go_at_call 51; refine (dFail base R A c l p _ 20 (H.out.later (below_drewN' (Below.refl _ _) nq))).mono ?_; rintro e w2 ⟨rfl, hk2, hR2⟩; have HK2 := Lib.hid hk2; have HR2 := Lib.hid hR2; clear hk2 hR2)
    go_ret
    exact RefE.no HG.out (by decide) ((Kp.drewN nq).trans HK2.out) HR2.out
end

theorem gNum1_one {l : List UInt8} {p n q : Nat} (h : gNum 1 l p = .inl (n, q)) : q = p + 1 ∧ p + 1 ≤ l.length ∧ n < 256 := by
  obtain ⟨h1, _, h3, h4⟩ := gNum_inl h
  exact ⟨h3, h1, by simpa using h4⟩
theorem gNum_ne {k : Nat} {l : List UInt8} {p q : Nat} {er : Int} (h : gNum k l p = .inr (er, q)) : er ≠ 0 := by
  unfold gNum Rg.map gNext at h
  split at h
  · cases h
  · rename_i e he
    split at he
    · cases he
    · simp only [Sum.inr.injEq] at he h
      subst he
      simp only [Prod.mk.injEq] at h
      omega
theorem gInt_ne {l : List UInt8} {p q : Nat} {er : Int} (h : gInt l p = .inr (er, q)) : er ≠ 0 := by
  unfold gInt Rg.map at h
  split at h
  · cases h
  · rename_i e he
    simp only [Sum.inr.injEq] at h
    subst h
    exact gNum_ne he
section
variable (base R : Nat) (A : Option Addr) (c : Nat) (l : List UInt8) (p : Nat) (w : World)

set_option maxRecDepth 100000 in
set_option maxHeartbeats 1000000 in
theorem dInt (h : RR w base R A c l p 0) :
    Calls Tryd.prog 67 #[.pointer (some ⟨R, 0, none⟩)] w (RefE base R A c l vInt32 (.int .i32 0) (gInt l p) w) := by
  have hT := dTake base R A c l p w 4 (by omega) h
  rcases hres : gNum 4 l p with ⟨n, q⟩ | ⟨er, q⟩
  · rw [hres] at hT
    have HT := Lib.hid hT
    have hn : n < 256 ^ 4 := (gNum_inl hres).2.2.2
    have HG : Hid (gInt l p = .inl (wrap32 n, q)) := by unfold Hid gInt Rg.map; rw [hres]
    clear hT hres h
    go_enter Tryd.func67, Tryd.ntmps67
    go_wp2_with (go_at_call 66; refine (HT.out).mono ?_; rintro e w2 ⟨⟨v, rfl, rfl⟩, hk2, hR2⟩; obtain ⟨k0, k1, k2, kf1, kf2⟩ := hR2.cells; have HK2 := Lib.hid hk2; have HR2 := Lib.hid hR2; clear hk2 hR2)
    go_ret
    exact RefE.yes HG.out (by show _ = _; first | rfl | (congr 1; unfold wrap32; omega)) HK2.out HR2.out
  · rw [hres] at hT
    have HT := Lib.hid hT
    have HG : Hid (gInt l p = .inr (er, q)) := by unfold Hid gInt Rg.map; rw [hres]
    clear hT hres h
    go_enter Tryd.func67, Tryd.ntmps67
    go_wp2_with (go_at_call 66; refine (HT.out).mono ?_; rintro e w2 ⟨rfl, hne, hk2, hR2⟩; obtain ⟨k0, k1, k2, kf1, kf2⟩ := hR2.cells; have HK2 := Lib.hid hk2; have HR2 := Lib.hid hR2; clear hk2 hR2)
    go_ret
    exact RefE.no HG.out hne HK2.out HR2.out
set_option maxRecDepth 100000 in
set_option maxHeartbeats 1000000 in
theorem dLong (h : RR w base R A c l p 0) :
    Calls Tryd.prog 68 #[.pointer (some ⟨R, 0, none⟩)] w (RefE base R A c l vInt64 (.int .i64 0) (gLong l p) w) := by
  have hT := dTake base R A c l p w 8 (by omega) h
  rcases hres : gNum 8 l p with ⟨n, q⟩ | ⟨er, q⟩
  · rw [hres] at hT
    have HT := Lib.hid hT
    have hn : n < 256 ^ 8 := (gNum_inl hres).2.2.2
    have HG : Hid (gLong l p = .inl (wrap64 n, q)) := by unfold Hid gLong Rg.map; rw [hres]
    clear hT hres h
    go_enter Tryd.func68, Tryd.ntmps68
    go_wp2_with (go_at_call 66; refine (HT.out).mono ?_; rintro e w2 ⟨⟨v, rfl, rfl⟩, hk2, hR2⟩; obtain ⟨k0, k1, k2, kf1, kf2⟩ := hR2.cells; have HK2 := Lib.hid hk2; have HR2 := Lib.hid hR2; clear hk2 hR2)
    go_ret
    exact RefE.yes HG.out (by show _ = _; first | rfl | congr 1) HK2.out HR2.out
  · rw [hres] at hT
    have HT := Lib.hid hT
    have HG : Hid (gLong l p = .inr (er, q)) := by unfold Hid gLong Rg.map; rw [hres]
    clear hT hres h
    go_enter Tryd.func68, Tryd.ntmps68
    go_wp2_with (go_at_call 66; refine (HT.out).mono ?_; rintro e w2 ⟨rfl, hne, hk2, hR2⟩; obtain ⟨k0, k1, k2, kf1, kf2⟩ := hR2.cells; have HK2 := Lib.hid hk2; have HR2 := Lib.hid hR2; clear hk2 hR2)
    go_ret
    exact RefE.no HG.out hne HK2.out HR2.out
set_option maxRecDepth 100000 in
set_option maxHeartbeats 1000000 in
theorem dBool (h : RR w base R A c l p 0) :
    Calls Tryd.prog 65 #[.pointer (some ⟨R, 0, none⟩)] w (RefE base R A c l vBool (.bool false) (gBool l p) w) := by
  obtain ⟨c0, c1, c2, f1, f2⟩ := h.cells
  have hp := h.here
  have hT := dTake base R A c l p w 1 (by omega) h
  rcases hres : gNum 1 l p with ⟨n, q⟩ | ⟨er, q⟩
  · rw [hres] at hT
    have HT := Lib.hid hT
    have hn := (gNum1_one hres).2.2
    by_cases h1 : 1 < n
    · have n1 : (1 : Int) < n := by omega
      have HG : Hid (gBool l p = .inr (22, p)) := by unfold Hid gBool; rw [hres]; exact if_pos h1
      clear hT hres h
      go_enter Tryd.func65, Tryd.ntmps65
      go_wp2_with (first
        | (go_at_call 66; refine (HT.out).mono ?_; rintro e w2 ⟨⟨v, rfl, rfl⟩, hk2, hR2⟩; obtain ⟨k0, k1, k2, kf1, kf2⟩ := hR2.cells; have HK2 := Lib.hid hk2; have HR2 := Lib.hid hR2; clear hk2 hR2)
        | (go_at_call 51; refine (dFail base R A c l p _ 22 (HR2.out.move hp)).mono ?_; rintro e w3 ⟨rfl, hk3, hR3⟩; obtain ⟨m0, m1, m2, mf1, mf2⟩ := hR3.cells; have HK3 := Lib.hid hk3; have HR3 := Lib.hid hR3; clear hk3 hR3))
      go_ret
      exact RefE.no HG.out (by decide) ((HK2.out.trans (Kp.setCell ⟨R, 1, none⟩ _)).trans HK3.out) HR3.out
    · have n1 : ¬ (1 : Int) < n := by omega
      have HG : Hid (gBool l p = .inl (n == 1, q)) := by unfold Hid gBool; rw [hres]; exact if_neg h1
      clear hT hres h
      rcases Nat.lt_or_ge n 1 with h0 | h0
      · obtain rfl : n = 0 := by omega
        clear h0 h1
        go_enter Tryd.func65, Tryd.ntmps65
        go_wp2_with (go_at_call 66; refine (HT.out).mono ?_; rintro e w2 ⟨⟨v, rfl, rfl⟩, hk2, hR2⟩; obtain ⟨k0, k1, k2, kf1, kf2⟩ := hR2.cells; have HK2 := Lib.hid hk2; have HR2 := Lib.hid hR2; clear hk2 hR2)
        go_ret
        exact RefE.yes HG.out rfl HK2.out HR2.out
      · obtain rfl : n = 1 := by omega
        clear h0 h1
        go_enter Tryd.func65, Tryd.ntmps65
        go_wp2_with (go_at_call 66; refine (HT.out).mono ?_; rintro e w2 ⟨⟨v, rfl, rfl⟩, hk2, hR2⟩; obtain ⟨k0, k1, k2, kf1, kf2⟩ := hR2.cells; have HK2 := Lib.hid hk2; have HR2 := Lib.hid hR2; clear hk2 hR2)
        go_ret
        exact RefE.yes HG.out rfl HK2.out HR2.out
  · rw [hres] at hT
    have HT := Lib.hid hT
    have HG : Hid (gBool l p = .inr (er, q)) := by unfold Hid gBool; rw [hres]
    have hne : er ≠ 0 := gNum_ne hres
    have hnb : (er == 0) = false := by simp [hne]
    clear hT hres h
    go_enter Tryd.func65, Tryd.ntmps65
    go_wp2_with (go_at_call 66; refine (HT.out).mono ?_; rintro e w2 ⟨rfl, hne, hk2, hR2⟩; obtain ⟨k0, k1, k2, kf1, kf2⟩ := hR2.cells; have HK2 := Lib.hid hk2; have HR2 := Lib.hid hR2; clear hk2 hR2)
    go_ret
    exact RefE.no HG.out hne HK2.out HR2.out
set_option maxRecDepth 100000 in
set_option maxHeartbeats 1000000 in
theorem dLeft (h : RR w base R A c l p 0) :
    Calls Tryd.prog 73 #[.pointer (some ⟨R, 0, none⟩)] w (RefE base R A c l vInt64 (.int .i64 0) (gLeft l p) w) := by
  obtain ⟨c0, c1, c2, f1, f2⟩ := h.cells
  have hp := h.here
  have hl := h.len
  have H := Lib.hid h
  have HE : Hid (((l.length - p : Nat) : Int) = (l.length : Int) - p) := by unfold Hid; omega
  clear h
  go_enter Tryd.func73, Tryd.ntmps73
  go_wp2
  go_quiet (fail)
  go_wp2
  go_ret
  exact RefE.yes rfl (by show _ = _; rw [HE.out]; rfl) (Kp.drewN nq) (H.out.later (below_drewN' (Below.refl _ _) nq))
set_option maxRecDepth 100000 in
set_option maxHeartbeats 1000000 in
theorem dFailU (z : Int) (h : RR w base R A c l p 0) :
    Calls Tryd.prog 74 #[.pointer (some ⟨R, 0, none⟩), .int .i64 z] w fun e w' => e = .returned (.tuple #[]) ∧ Kp [R] w w' ∧ RR w' base R A c l p z := by
  have H := Lib.hid h
  clear h
  by_cases hz : z = 0
  · subst hz
    go_enter Tryd.func74, Tryd.ntmps74
    go_wp2
    go_end0
    exact ⟨rfl, Kp.refl _ _, H.out⟩
  · have hb : (z != 0) = true := by simp [hz]
    go_enter Tryd.func74, Tryd.ntmps74
    go_wp2_with (go_at_call 51; refine (dFail base R A c l p _ z H.out).mono ?_; rintro e w3 ⟨rfl, hk3, hR3⟩)
    go_end0
    exact ⟨rfl, hk3, hR3⟩
set_option maxRecDepth 100000 in
set_option maxHeartbeats 1000000 in
theorem dEnd (er : Int) (h : RR w base R A c l p er) :
    Calls Tryd.prog 19 #[.pointer (some ⟨R, 0, none⟩)] w fun e w' => e = .returned (.tuple #[]) ∧ Kp [R] w w' ∧ RR w' base R A c l p (if er = 0 ∧ p < l.length then 21 else er) := by
  obtain ⟨c0, c1, c2, f1, f2⟩ := h.cells
  have hp := h.here
  have hl := h.len
  have H := Lib.hid h
  clear h
  by_cases hz : er = 0
  · subst hz
    by_cases hlt : p < l.length
    · rw [if_pos ⟨rfl, hlt⟩]
      go_enter Tryd.func19, Tryd.ntmps19
      go_wp2
      go_quiet (fail)
      go_wp2_with (go_at_call 51; refine (dFail base R A c l p _ 21 (H.out.later (below_drewN' (Below.refl _ _) nq))).mono ?_; rintro e w3 ⟨rfl, hk3, hR3⟩)
      go_end0
      exact ⟨rfl, (Kp.drewN nq).trans hk3, hR3⟩
    · rw [if_neg (fun h => hlt h.2)]
      go_enter Tryd.func19, Tryd.ntmps19
      go_wp2
      go_quiet (fail)
      go_wp2
      go_end0
      exact ⟨rfl, Kp.drewN nq, H.out.later (below_drewN' (Below.refl _ _) nq)⟩
  · rw [if_neg (fun h => hz h.1)]
    have hb : (er == 0) = false := by simp [hz]
    go_enter Tryd.func19, Tryd.ntmps19
    go_wp2
    go_quiet (fail)
    go_wp2
    go_end0
    exact ⟨rfl, Kp.drewN nq, H.out.later (below_drewN' (Below.refl _ _) nq)⟩
set_option maxRecDepth 100000 in
set_option maxHeartbeats 1000000 in
theorem dCount (most least : Int) (h : RR w base R A c l p 0) :
    Calls Tryd.prog 71 #[.pointer (some ⟨R, 0, none⟩), .int .i64 most, .int .i64 least] w (RefE base R A c l vNat (.int .i64 0) (gCount most least l p) w) := by
  obtain ⟨c0, c1, c2, f1, f2⟩ := h.cells
  have hp := h.here
  have hl := h.len
  have hT := dInt base R A c l p w h
  rcases hres : gInt l p with ⟨z, q⟩ | ⟨er, q⟩
  · rw [hres] at hT
    have HT := Lib.hid hT
    obtain ⟨hq1, hzw, hq2⟩ := gInt_inl hres
    have hzb := wrap32_bd (beNum ((l.drop p).take 4))
    rw [← hzw] at hzb
    have hq : q ≤ l.length := by omega
    have hS : gSize most l p = if z < 0 ∨ most < z then .inr (22, p) else .inl (z.toNat, q) := by unfold gSize; rw [hres]
    have hC : gCount most least l p = match gSize most l p with
      | .inl (n, q) => if 1 ≤ least ∧ ((l.length - q : Nat) : Int) / least < n then .inr (20, p) else .inl (n, q)
      | .inr e => .inr e := rfl
    clear hT hres h hzw hq1 hq2
    by_cases z0 : z < 0
    · have HG : Hid (gCount most least l p = .inr (22, p)) := by unfold Hid; rw [hC, hS, if_pos (.inl z0)]
      clear hC hS
      go_enter Tryd.func71, Tryd.ntmps71
      go_wp2_with (go_at_call 67; refine (HT.out).mono ?_; rintro e w2 ⟨⟨v, rfl, rfl⟩, hk2, hR2⟩; obtain ⟨k0, k1, k2, kf1, kf2⟩ := hR2.cells; have HK2 := Lib.hid hk2; have HR2 := Lib.hid hR2; clear hk2 hR2)
      go_wp2_with (go_at_call 51; refine (dFail base R A c l p _ 22 (HR2.out.move hp)).mono ?_; rintro e w3 ⟨rfl, hk3, hR3⟩; obtain ⟨m0, m1, m2, mf1, mf2⟩ := hR3.cells; have HK3 := Lib.hid hk3; have HR3 := Lib.hid hR3; clear hk3 hR3)
      go_ret
      exact RefE.no HG.out (by decide) ((HK2.out.trans (Kp.setCell ⟨R, 1, none⟩ _)).trans HK3.out) HR3.out
    · by_cases zm : most < z
      · have HG : Hid (gCount most least l p = .inr (22, p)) := by unfold Hid; rw [hC, hS, if_pos (.inr zm)]
        clear hC hS
        go_enter Tryd.func71, Tryd.ntmps71
        go_wp2_with (go_at_call 67; refine (HT.out).mono ?_; rintro e w2 ⟨⟨v, rfl, rfl⟩, hk2, hR2⟩; obtain ⟨k0, k1, k2, kf1, kf2⟩ := hR2.cells; have HK2 := Lib.hid hk2; have HR2 := Lib.hid hR2; clear hk2 hR2)
        go_wp2_with (go_at_call 51; refine (dFail base R A c l p _ 22 (HR2.out.move hp)).mono ?_; rintro e w3 ⟨rfl, hk3, hR3⟩; obtain ⟨m0, m1, m2, mf1, mf2⟩ := hR3.cells; have HK3 := Lib.hid hk3; have HR3 := Lib.hid hR3; clear hk3 hR3)
        go_ret
        exact RefE.no HG.out (by decide) ((HK2.out.trans (Kp.setCell ⟨R, 1, none⟩ _)).trans HK3.out) HR3.out
      · rw [if_neg (by omega)] at hS
        rw [hS] at hC
        obtain ⟨N, rfl⟩ := Int.eq_ofNat_of_zero_le (show 0 ≤ z by omega)
        rw [Int.toNat_natCast] at hC
        dsimp only at hC
        clear hS
        by_cases l1 : 1 ≤ least
        · have hqn : ((l.length - q : Nat) : Int) = (l.length : Int) - q := by omega
          rw [hqn] at hC
          have d1 : ((l.length : Int) - q).tdiv least = ((l.length : Int) - q) / least := Int.tdiv_eq_ediv_of_nonneg (by omega)
          have d2 : 0 ≤ ((l.length : Int) - q) / least := Int.ediv_nonneg (by omega) (by omega)
          have d3 : ((l.length : Int) - q) / least ≤ (l.length : Int) - q := Int.ediv_le_self _ (by omega)
          clear hqn
          by_cases n0 : 0 < N
          · by_cases hd : ((l.length : Int) - q) / least < N
            · have HG : Hid (gCount most least l p = .inr (20, p)) := by unfold Hid; rw [hC, if_pos ⟨l1, hd⟩]
              clear hC
              go_enter Tryd.func71, Tryd.ntmps71
              go_wp2_with (go_at_call 67; refine (HT.out).mono ?_; rintro e w2 ⟨⟨v, rfl, rfl⟩, hk2, hR2⟩; obtain ⟨k0, k1, k2, kf1, kf2⟩ := hR2.cells; have HK2 := Lib.hid hk2; have HR2 := Lib.hid hR2; clear hk2 hR2)
              go_quiet (fail)
              go_wp2_with (go_at_call 51; refine (dFail base R A c l p _ 20 ((HR2.out.later (below_drewN' (Below.refl _ _) nq)).move hp)).mono ?_; rintro e w3 ⟨rfl, hk3, hR3⟩; obtain ⟨m0, m1, m2, mf1, mf2⟩ := hR3.cells; have HK3 := Lib.hid hk3; have HR3 := Lib.hid hR3; clear hk3 hR3)
              go_ret
              exact RefE.no HG.out (by decide) (((HK2.out.trans (Kp.drewN nq)).trans (Kp.setCell ⟨R, 1, none⟩ _)).trans HK3.out) HR3.out
            · have HG : Hid (gCount most least l p = .inl (N, q)) := by unfold Hid; rw [hC, if_neg (fun h => hd h.2)]
              clear hC
              go_enter Tryd.func71, Tryd.ntmps71
              go_wp2_with (go_at_call 67; refine (HT.out).mono ?_; rintro e w2 ⟨⟨v, rfl, rfl⟩, hk2, hR2⟩; obtain ⟨k0, k1, k2, kf1, kf2⟩ := hR2.cells; have HK2 := Lib.hid hk2; have HR2 := Lib.hid hR2; clear hk2 hR2)
              go_quiet (fail)
              go_wp2
              go_ret
              exact RefE.yes HG.out rfl (HK2.out.trans (Kp.drewN nq)) (HR2.out.later (below_drewN' (Below.refl _ _) nq))
          · obtain rfl : N = 0 := by omega
            have HG : Hid (gCount most least l p = .inl (0, q)) := by unfold Hid; rw [hC, if_neg (fun h => by have := h.2; omega)]
            clear hC
            go_enter Tryd.func71, Tryd.ntmps71
            go_wp2_with (go_at_call 67; refine (HT.out).mono ?_; rintro e w2 ⟨⟨v, rfl, rfl⟩, hk2, hR2⟩; obtain ⟨k0, k1, k2, kf1, kf2⟩ := hR2.cells; have HK2 := Lib.hid hk2; have HR2 := Lib.hid hR2; clear hk2 hR2)
            go_quiet (fail)
            go_wp2
            go_ret
            exact RefE.yes HG.out rfl (HK2.out.trans (Kp.drewN nq)) (HR2.out.later (below_drewN' (Below.refl _ _) nq))
        · have HG : Hid (gCount most least l p = .inl (N, q)) := by unfold Hid; rw [hC, if_neg (fun h => l1 h.1)]
          have l2 : decide ((1 : Int) ≤ least) = false := by simpa using l1
          clear hC
          go_enter Tryd.func71, Tryd.ntmps71
          go_wp2_with (go_at_call 67; refine (HT.out).mono ?_; rintro e w2 ⟨⟨v, rfl, rfl⟩, hk2, hR2⟩; obtain ⟨k0, k1, k2, kf1, kf2⟩ := hR2.cells; have HK2 := Lib.hid hk2; have HR2 := Lib.hid hR2; clear hk2 hR2)
          go_quiet (fail)
          go_wp2
          go_ret
          exact RefE.yes HG.out rfl (HK2.out.trans (Kp.drewN nq)) (HR2.out.later (below_drewN' (Below.refl _ _) nq))
  · rw [hres] at hT
    have HT := Lib.hid hT
    have HG : Hid (gCount most least l p = .inr (er, q)) := by unfold Hid gCount gSize; rw [hres]
    have hne : er ≠ 0 := gInt_ne hres
    have hnb : (er != 0) = true := by simp [hne]
    clear hT hres h
    go_enter Tryd.func71, Tryd.ntmps71
    go_wp2_with (go_at_call 67; refine (HT.out).mono ?_; rintro e w2 ⟨rfl, hne, hk2, hR2⟩; obtain ⟨k0, k1, k2, kf1, kf2⟩ := hR2.cells; have HK2 := Lib.hid hk2; have HR2 := Lib.hid hR2; clear hk2 hR2)
    go_ret
    exact RefE.no HG.out hne HK2.out HR2.out
end
end Go.Proofs.YtbegingiedbldaaDoor
