/- The document's reader: numbers, bools, counts, what is left, its end. -/
import Derived.Test.YtnbaajplelchjaaGreatDoorJrb
import Derived.Test.YtnbaajplelchjaaGreatDoorJta
import Derived.Deep.RegionHeld3
set_option linter.unusedVariables false
set_option linter.unusedSimpArgs false
namespace Go.Proofs.YtnbaajplelchjaaGreatDoor
open Go.RowKit

/-- the document's reader at block R: it reads the bytes l, stands at p, and has failed with e (0: it has not) -/
structure RR (w : World) (base R : Nat) (A : Option Addr) (c : Nat) (l : List UInt8) (p : Nat) (e : Int) : Prop where
  blk : Blk w R 101 #[.slice A l.length c, .int .i64 p, .int .i64 e]
  reads : Reads w base 1 A l.length (bcells l)
  old : base ≤ R
  cap : l.length ≤ c
  here : p ≤ l.length
  len : l.length ≤ 140737488355328
  nil : A = none → c = 0

section
variable {w w' : World} {base R c p q : Nat} {A : Option Addr} {l : List UInt8} {X : List Nat} {e z : Int}
theorem RR.lt (h : RR w base R A c l p e) : R < w.heap.size := h.blk.lt
theorem RR.kp (h : RR w base R A c l p e) (hk : Kp X w w') (hR : R ∉ X) (hX : ∀ x ∈ X, base ≤ x) : RR w' base R A c l p e :=
  ⟨h.blk.kp hk hR, h.reads.kp hk (by have := h.lt; have := h.old; omega) hX, h.old, h.cap, h.here, h.len, h.nil⟩
theorem RR.later (h : RR w base R A c l p e) (hb : Below w.heap.size w w') : RR w' base R A c l p e := h.kp (Kp.of_below (X := []) hb) (fun h => by cases h) (fun _ h => by cases h)
theorem RR.move (h : RR w base R A c l p e) (hq : q ≤ l.length) : RR (w.setCell ⟨R, 1, none⟩ (.int .i64 q)) base R A c l q e :=
  ⟨h.blk.set_ 1 _, h.reads.kp (Kp.setCell ⟨R, 1, none⟩ _) (by have := h.lt; have := h.old; omega) (by simp; exact h.old), h.old, h.cap, hq, h.len, h.nil⟩
theorem RR.err (h : RR w base R A c l p e) (z : Int) : RR (w.setCell ⟨R, 2, none⟩ (.int .i64 z)) base R A c l p z :=
  ⟨h.blk.set_ 2 _, h.reads.kp (Kp.setCell ⟨R, 2, none⟩ _) (by have := h.lt; have := h.old; omega) (by simp; exact h.old), h.old, h.cap, h.here, h.len, h.nil⟩
theorem RR.cells (h : RR w base R A c l p e) : w.cell? ⟨R, 0, none⟩ = some (.slice A l.length c) ∧ w.cell? ⟨R, 1, none⟩ = some (.int .i64 p) ∧ w.cell? ⟨R, 2, none⟩ = some (.int .i64 e) ∧ w.frozen? ⟨R, 1, none⟩ = false ∧ w.frozen? ⟨R, 2, none⟩ = false := by
  refine ⟨?_, ?_, ?_, h.blk.frozen 1, h.blk.frozen 2⟩
  · rw [h.blk.cell 0]; rfl
  · rw [h.blk.cell 1]; rfl
  · rw [h.blk.cell 2]; rfl
end

/-- how a reading by the document ends -/
def RefE {α : Type} (base R : Nat) (A : Option Addr) (c : Nat) (l : List UInt8) (val : α → Value → World → Prop) (dv : Value) (r : (α × Nat) ⊕ (Int × Nat)) (w : World) (e : Ending) (w' : World) : Prop :=
  match r with
  | .inl (x, q) => (∃ v, e = .returned v ∧ val x v w') ∧ Kp [R] w w' ∧ RR w' base R A c l q 0
  | .inr (er, q) => e = .returned dv ∧ er ≠ 0 ∧ Kp [R] w w' ∧ RR w' base R A c l q er
theorem RefE.yes {α : Type} {base R : Nat} {A : Option Addr} {c : Nat} {l : List UInt8} {val : α → Value → World → Prop} {dv v : Value} {r : (α × Nat) ⊕ (Int × Nat)} {w w' : World} {x : α} {q : Nat} (hr : r = .inl (x, q)) (hv : val x v w') (hk : Kp [R] w w') (hR : RR w' base R A c l q 0) : RefE base R A c l val dv r w (.returned v) w' := by
  subst hr
  exact ⟨⟨v, rfl, hv⟩, hk, hR⟩
theorem RefE.no {α : Type} {base R : Nat} {A : Option Addr} {c : Nat} {l : List UInt8} {val : α → Value → World → Prop} {dv : Value} {r : (α × Nat) ⊕ (Int × Nat)} {w w' : World} {er : Int} {q : Nat} (hr : r = .inr (er, q)) (he : er ≠ 0) (hk : Kp [R] w w') (hR : RR w' base R A c l q er) : RefE base R A c l val dv r w (.returned dv) w' := by
  subst hr
  exact ⟨rfl, he, hk, hR⟩
def vU64 (n : Nat) (v : Value) (_ : World) : Prop := v = .int .u64 n

section
variable (base R : Nat) (A : Option Addr) (c : Nat) (l : List UInt8) (p : Nat) (w : World)

set_option maxRecDepth 100000 in
set_option maxHeartbeats 400000 in
theorem dFail (z : Int) (h : RR w base R A c l p 0) :
    Calls Tryz.prog 111 #[.pointer (some ⟨R, 0, none⟩), .int .i64 z] w fun e w' => e = .returned (.tuple #[]) ∧ Kp [R] w w' ∧ RR w' base R A c l p z := by
  obtain ⟨c0, c1, c2, f1, f2⟩ := h.cells
  have H := Lib.hid h
  clear h
  go_enter Tryz.func111, Tryz.ntmps111
  go_wp2
  go_end0
  exact ⟨rfl, Kp.setCell ⟨R, 2, none⟩ _, H.out.err z⟩

set_option maxRecDepth 100000 in
set_option maxHeartbeats 1000000 in
theorem dTake (k : Nat) (hk : k ≤ 8) (h : RR w base R A c l p 0) :
    Calls Tryz.prog 110 #[.pointer (some ⟨R, 0, none⟩), .int .i64 k] w (RefE base R A c l vU64 (.int .u64 0) (gNum k l p) w) := by
  obtain ⟨c0, c1, c2, f1, f2⟩ := h.cells
  have hp := h.here
  have hl := h.len
  have H := Lib.hid h
  clear h
  by_cases hpk : p + k ≤ l.length
  · have hs : ¬ ((l.length : Int) - p < k) := by omega
    have HG : Hid (gNum k l p = .inl (beNum ((l.drop p).take k), p + k)) := by unfold Hid gNum Rg.map gNext; rw [if_pos hpk]
    go_enter Tryz.func110, Tryz.ntmps110
    go_wp2
    go_quiet (fail)
    go_wp2
    have hm := H.out.reads
    go_loopw [5, 6] (fun x i wr => ∃ (j n : Nat), j ≤ k ∧ i = .int .i64 j ∧ x = .int .u64 (beNum ((l.drop p).take j)) ∧ wr = w.drewN n) (fun _ i _ => k - (intOf i).toNat)
    case atStart => exact ⟨0, nq, Nat.zero_le _, rfl, rfl, rfl⟩
    case round =>
      obtain ⟨j, n, hj, rfl, rfl, rfl⟩ := hrel
      by_cases hlt : j < k
      · obtain ⟨ad, u, e, _, hu, hcell⟩ := H.out.reads.at_ (k := p + j) (by omega)
        have hget : u = .int .u8 (l[p + j].toNat : Int) := by
          simp only [bcells_get, List.getElem?_eq_getElem (show p + j < l.length by omega), Option.map_some, Option.some.injEq] at hu
          exact hu.symm
        subst hget
        have HE : Hid (bits BinOp.or IntKind.u64 (IntKind.u64.wrap (↑(beNum ((l.drop p).take j)) * 256)) (IntKind.u64.wrap ↑l[p + j].toNat) = ((beNum ((l.drop p).take (j + 1)) : Nat) : Int)) := by
          show _ = _
          have hd : j < (l.drop p).length := by rw [List.length_drop]; omega
          rw [List.take_succ_eq_append_getElem hd, beNum_snoc, List.getElem_drop]
          refine shl8_or _ _ ?_ l[p + j].toNat_lt
          have h1 := beNum_lt ((l.drop p).take j)
          have h2 : ((l.drop p).take j).length ≤ 7 := by rw [List.length_take]; omega
          have h3 : 256 ^ ((l.drop p).take j).length ≤ 256 ^ 7 := Nat.pow_le_pow_right (by decide) h2
          have h4 : (256 : Nat) ^ 7 = 72057594037927936 := by decide
          omega
        subst e
        have s1 : IntKind.i64.wrap ((p : Int) + j) = (p : Int) + j := IntWalk.i64_in _ (by omega)
        have s2 : (0 : Int) ≤ (p : Int) + j := by omega
        have s3 : (p : Int) + j < l.length := by omega
        have s4 : ((p : Int) + j).toNat = p + j := by omega
        clear hu
        go_wp2
        go_quiet (fail)
        clear s1 s2 s3 s4
        go_wp2
        go_roundw
        case rel => exact ⟨j + 1, n + nq, by omega, by go_num, by rw [HE.out], rfl⟩
        case measure => simp [intOf]; omega
      · obtain rfl : j = k := by omega
        go_wp2
        go_ret
        exact RefE.yes HG.out rfl ((Kp.drewN n).trans (Kp.setCell ⟨R, 1, none⟩ _)) ((H.out.later (below_drewN' (Below.refl _ _) n)).move (by omega))
  · have hs : (l.length : Int) - p < k := by omega
    have HG : Hid (gNum k l p = .inr (20, p)) := by unfold Hid gNum Rg.map gNext; rw [if_neg hpk]
    go_enter Tryz.func110, Tryz.ntmps110
    go_wp2
    go_quiet (fail)
    go_wp2_with (go_at_call 111; refine (dFail base R A c l p _ 20 (H.out.later (below_drewN' (Below.refl _ _) nq))).mono ?_; rintro e w2 ⟨rfl, hk2, hR2⟩; have HK2 := Lib.hid hk2; have HR2 := Lib.hid hR2; clear hk2 hR2)
    go_ret
    exact RefE.no HG.out (by decide) ((Kp.drewN nq).trans HK2.out) HR2.out
end

theorem gNum1_one {l : List UInt8} {p n q : Nat} (h : gNum 1 l p = .inl (n, q)) : q = p + 1 ∧ p + 1 ≤ l.length ∧ n < 256 := by
  obtain ⟨h1, _, h3, h4⟩ := gNum_inl h
  exact ⟨h3, h1, by simpa using h4⟩
theorem gNum_ne {k : Nat} {l : List UInt8} {p q : Nat} {er : Int} (h : gNum k l p = .inr (er, q)) : er ≠ 0 := by
  unfold gNum Rg.map gNext at h
  split at h
  · cases h
  · rename_i e he
    split at he
    · cases he
    · simp only [Sum.inr.injEq] at he h
      subst he
      simp only [Prod.mk.injEq] at h
      omega
theorem gInt_ne {l : List UInt8} {p q : Nat} {er : Int} (h : gInt l p = .inr (er, q)) : er ≠ 0 := by
  unfold gInt Rg.map at h
  split at h
  · cases h
  · rename_i e he
    simp only [Sum.inr.injEq] at h
    subst h
    exact gNum_ne he
section
variable (base R : Nat) (A : Option Addr) (c : Nat) (l : List UInt8) (p : Nat) (w : World)

set_option maxRecDepth 100000 in
set_option maxHeartbeats 1000000 in
theorem dInt (h : RR w base R A c l p 0) :
    Calls Tryz.prog 53 #[.pointer (some ⟨R, 0, none⟩)] w (RefE base R A c l vInt32 (.int .i32 0) (gInt l p) w) := by
  have hT := dTake base R A c l p w 4 (by omega) h
  rcases hres : gNum 4 l p with ⟨n, q⟩ | ⟨er, q⟩
  · rw [hres] at hT
    have HT := Lib.hid hT
    have hn : n < 256 ^ 4 := (gNum_inl hres).2.2.2
    have HG : Hid (gInt l p = .inl (wrap32 n, q)) := by unfold Hid gInt Rg.map; rw [hres]
    clear hT hres h
    go_enter Tryz.func53, Tryz.ntmps53
    go_wp2_with (go_at_call 110; refine (HT.out).mono ?_; rintro e w2 ⟨⟨v, rfl, rfl⟩, hk2, hR2⟩; obtain ⟨k0, k1, k2, kf1, kf2⟩ := hR2.cells; have HK2 := Lib.hid hk2; have HR2 := Lib.hid hR2; clear hk2 hR2)
    go_ret
    exact RefE.yes HG.out (by show _ = _; first | rfl | (congr 1; unfold wrap32; omega)) HK2.out HR2.out
  · rw [hres] at hT
    have HT := Lib.hid hT
    have HG : Hid (gInt l p = .inr (er, q)) := by unfold Hid gInt Rg.map; rw [hres]
    clear hT hres h
    go_enter Tryz.func53, Tryz.ntmps53
    go_wp2_with (go_at_call 110; refine (HT.out).mono ?_; rintro e w2 ⟨rfl, hne, hk2, hR2⟩; obtain ⟨k0, k1, k2, kf1, kf2⟩ := hR2.cells; have HK2 := Lib.hid hk2; have HR2 := Lib.hid hR2; clear hk2 hR2)
    go_ret
    exact RefE.no HG.out hne HK2.out HR2.out
set_option maxRecDepth 100000 in
set_option maxHeartbeats 1000000 in
theorem dLong (h : RR w base R A c l p 0) :
    Calls Tryz.prog 54 #[.pointer (some ⟨R, 0, none⟩)] w (RefE base R A c l vInt64 (.int .i64 0) (gLong l p) w) := by
  have hT := dTake base R A c l p w 8 (by omega) h
  rcases hres : gNum 8 l p with ⟨n, q⟩ | ⟨er, q⟩
  · rw [hres] at hT
    have HT := Lib.hid hT
    have hn : n < 256 ^ 8 := (gNum_inl hres).2.2.2
    have HG : Hid (gLong l p = .inl (wrap64 n, q)) := by unfold Hid gLong Rg.map; rw [hres]
    clear hT hres h
    go_enter Tryz.func54, Tryz.ntmps54
    go_wp2_with (go_at_call 110; refine (HT.out).mono ?_; rintro e w2 ⟨⟨v, rfl, rfl⟩, hk2, hR2⟩; obtain ⟨k0, k1, k2, kf1, kf2⟩ := hR2.cells; have HK2 := Lib.hid hk2; have HR2 := Lib.hid hR2; clear hk2 hR2)
    go_ret
    exact RefE.yes HG.out (by show _ = _; first | rfl | congr 1) HK2.out HR2.out
  · rw [hres] at hT
    have HT := Lib.hid hT
    have HG : Hid (gLong l p = .inr (er, q)) := by unfold Hid gLong Rg.map; rw [hres]
    clear hT hres h
    go_enter Tryz.func54, Tryz.ntmps54
    go_wp2_with (go_at_call 110; refine (HT.out).mono ?_; rintro e w2 ⟨rfl, hne, hk2, hR2⟩; obtain ⟨k0, k1, k2, kf1, kf2⟩ := hR2.cells; have HK2 := Lib.hid hk2; have HR2 := Lib.hid hR2; clear hk2 hR2)
    go_ret
    exact RefE.no HG.out hne HK2.out HR2.out
set_option maxRecDepth 100000 in
set_option maxHeartbeats 1000000 in
theorem dBool (h : RR w base R A c l p 0) :
    Calls Tryz.prog 158 #[.pointer (some ⟨R, 0, none⟩)] w (RefE base R A c l vBool (.bool false) (gBool l p) w) := by
  obtain ⟨c0, c1, c2, f1, f2⟩ := h.cells
  have hp := h.here
  have hT := dTake base R A c l p w 1 (by omega) h
  rcases hres : gNum 1 l p with ⟨n, q⟩ | ⟨er, q⟩
  · rw [hres] at hT
    have HT := Lib.hid hT
    have hn := (gNum1_one hres).2.2
    by_cases h1 : 1 < n
    · have n1 : (1 : Int) < n := by omega
      have HG : Hid (gBool l p = .inr (22, p)) := by unfold Hid gBool; rw [hres]; exact if_pos h1
      clear hT hres h
      go_enter Tryz.func158, Tryz.ntmps158
      go_wp2_with (first
        | (go_at_call 110; refine (HT.out).mono ?_; rintro e w2 ⟨⟨v, rfl, rfl⟩, hk2, hR2⟩; obtain ⟨k0, k1, k2, kf1, kf2⟩ := hR2.cells; have HK2 := Lib.hid hk2; have HR2 := Lib.hid hR2; clear hk2 hR2)
        | (go_at_call 111; refine (dFail base R A c l p _ 22 (HR2.out.move hp)).mono ?_; rintro e w3 ⟨rfl, hk3, hR3⟩; obtain ⟨m0, m1, m2, mf1, mf2⟩ := hR3.cells; have HK3 := Lib.hid hk3; have HR3 := Lib.hid hR3; clear hk3 hR3))
      go_ret
      exact RefE.no HG.out (by decide) ((HK2.out.trans (Kp.setCell ⟨R, 1, none⟩ _)).trans HK3.out) HR3.out
    · have n1 : ¬ (1 : Int) < n := by omega
      have HG : Hid (gBool l p = .inl (n == 1, q)) := by unfold Hid gBool; rw [hres]; exact if_neg h1
      clear hT hres h
      rcases Nat.lt_or_ge n 1 with h0 | h0
      · obtain rfl : n = 0 := by omega
        clear h0 h1
        go_enter Tryz.func158, Tryz.ntmps158
        go_wp2_with (go_at_call 110; refine (HT.out).mono ?_; rintro e w2 ⟨⟨v, rfl, rfl⟩, hk2, hR2⟩; obtain ⟨k0, k1, k2, kf1, kf2⟩ := hR2.cells; have HK2 := Lib.hid hk2; have HR2 := Lib.hid hR2; clear hk2 hR2)
        go_ret
        exact RefE.yes HG.out rfl HK2.out HR2.out
      · obtain rfl : n = 1 := by omega
        clear h0 h1
        go_enter Tryz.func158, Tryz.ntmps158
        go_wp2_with (go_at_call 110; refine (HT.out).mono ?_; rintro e w2 ⟨⟨v, rfl, rfl⟩, hk2, hR2⟩; obtain ⟨k0, k1, k2, kf1, kf2⟩ := hR2.cells; have HK2 := Lib.hid hk2; have HR2 := Lib.hid hR2; clear hk2 hR2)
        go_ret
        exact RefE.yes HG.out rfl HK2.out HR2.out
  · rw [hres] at hT
    have HT := Lib.hid hT
    have HG : Hid (gBool l p = .inr (er, q)) := by unfold Hid gBool; rw [hres]
    have hne : er ≠ 0 := gNum_ne hres
    have hnb : (er == 0) = false := by simp [hne]
    clear hT hres h
    go_enter Tryz.func158, Tryz.ntmps158
    go_wp2_with (go_at_call 110; refine (HT.out).mono ?_; rintro e w2 ⟨rfl, hne, hk2, hR2⟩; obtain ⟨k0, k1, k2, kf1, kf2⟩ := hR2.cells; have HK2 := Lib.hid hk2; have HR2 := Lib.hid hR2; clear hk2 hR2)
    go_ret
    exact RefE.no HG.out hne HK2.out HR2.out
set_option maxRecDepth 100000 in
set_option maxHeartbeats 1000000 in
theorem dFailU (z : Int) (h : RR w base R A c l p 0) :
    Calls Tryz.prog 56 #[.pointer (some ⟨R, 0, none⟩), .int .i64 z] w fun e w' => e = .returned (.tuple #[]) ∧ Kp [R] w w' ∧ RR w' base R A c l p z := by
  have H := Lib.hid h
  clear h
  by_cases hz : z = 0
  · subst hz
    go_enter Tryz.func56, Tryz.ntmps56
    go_wp2
    go_end0
    exact ⟨rfl, Kp.refl _ _, H.out⟩
  · have hb : (z != 0) = true := by simp [hz]
    go_enter Tryz.func56, Tryz.ntmps56
    go_wp2_with (go_at_call 111; refine (dFail base R A c l p _ z H.out).mono ?_; rintro e w3 ⟨rfl, hk3, hR3⟩)
    go_end0
    exact ⟨rfl, hk3, hR3⟩
set_option maxRecDepth 100000 in
set_option maxHeartbeats 1000000 in
theorem dEnd (er : Int) (h : RR w base R A c l p er) :
    Calls Tryz.prog 58 #[.pointer (some ⟨R, 0, none⟩)] w fun e w' => e = .returned (.tuple #[]) ∧ Kp [R] w w' ∧ RR w' base R A c l p (if er = 0 ∧ p < l.length then 21 else er) := by
  obtain ⟨c0, c1, c2, f1, f2⟩ := h.cells
  have hp := h.here
  have hl := h.len
  have H := Lib.hid h
  clear h
  by_cases hz : er = 0
  · subst hz
    by_cases hlt : p < l.length
    · rw [if_pos ⟨rfl, hlt⟩]
      go_enter Tryz.func58, Tryz.ntmps58
      go_wp2
      go_quiet (fail)
      go_wp2_with (go_at_call 111; refine (dFail base R A c l p _ 21 (H.out.later (below_drewN' (Below.refl _ _) nq))).mono ?_; rintro e w3 ⟨rfl, hk3, hR3⟩)
      go_end0
      exact ⟨rfl, (Kp.drewN nq).trans hk3, hR3⟩
    · rw [if_neg (fun h => hlt h.2)]
      go_enter Tryz.func58, Tryz.ntmps58
      go_wp2
      go_quiet (fail)
      go_wp2
      go_end0
      exact ⟨rfl, Kp.drewN nq, H.out.later (below_drewN' (Below.refl _ _) nq)⟩
  · rw [if_neg (fun h => hz h.1)]
    have hb : (er == 0) = false := by simp [hz]
    go_enter Tryz.func58, Tryz.ntmps58
    go_wp2
    go_quiet (fail)
    go_wp2
    go_end0
    exact ⟨rfl, Kp.drewN nq, H.out.later (below_drewN' (Below.refl _ _) nq)⟩
set_option maxRecDepth 100000 in
set_option maxHeartbeats 1000000 in
theorem dCount (most least : Int) (h : RR w base R A c l p 0) :
    Calls Tryz.prog 115 #[.pointer (some ⟨R, 0, none⟩), .int .i64 most, .int .i64 least] w (RefE base R A c l vNat (.int .i64 0) (gCount most least l p) w) := by
  obtain ⟨c0, c1, c2, f1, f2⟩ := h.cells
  have hp := h.here
  have hl := h.len
  have hT := dInt base R A c l p w h
  rcases hres : gInt l p with ⟨z, q⟩ | ⟨er, q⟩
  · rw [hres] at hT
    have HT := Lib.hid hT
    obtain ⟨hq1, hzw, hq2⟩ := gInt_inl hres
    have hzb := wrap32_bd (beNum ((l.drop p).take 4))
    rw [← hzw] at hzb
    have hq : q ≤ l.length := by omega
    have hS : gSize most l p = if z < 0 ∨ most < z then .inr (22, p) else .inl (z.toNat, q) := by unfold gSize; rw [hres]
    have hC : gCount most least l p = match gSize most l p with
      | .inl (n, q) => if 1 ≤ least ∧ ((l.length - q : Nat) : Int) / least < n then .inr (20, p) else .inl (n, q)
      | .inr e => .inr e := rfl
    clear hT hres h hzw hq1 hq2
    by_cases z0 : z < 0
    · have HG : Hid (gCount most least l p = .inr (22, p)) := by unfold Hid; rw [hC, hS, if_pos (.inl z0)]
      clear hC hS
      go_enter Tryz.func115, Tryz.ntmps115
      go_wp2_with (go_at_call 53; refine (HT.out).mono ?_; rintro e w2 ⟨⟨v, rfl, rfl⟩, hk2, hR2⟩; obtain ⟨k0, k1, k2, kf1, kf2⟩ := hR2.cells; have HK2 := Lib.hid hk2; have HR2 := Lib.hid hR2; clear hk2 hR2)
      go_wp2_with (go_at_call 111; refine (dFail base R A c l p _ 22 (HR2.out.move hp)).mono ?_; rintro e w3 ⟨rfl, hk3, hR3⟩; obtain ⟨m0, m1, m2, mf1, mf2⟩ := hR3.cells; have HK3 := Lib.hid hk3; have HR3 := Lib.hid hR3; clear hk3 hR3)
      go_ret
      exact RefE.no HG.out (by decide) ((HK2.out.trans (Kp.setCell ⟨R, 1, none⟩ _)).trans HK3.out) HR3.out
    · by_cases zm : most < z
      · have HG : Hid (gCount most least l p = .inr (22, p)) := by unfold Hid; rw [hC, hS, if_pos (.inr zm)]
        clear hC hS
        go_enter Tryz.func115, Tryz.ntmps115
        go_wp2_with (go_at_call 53; refine (HT.out).mono ?_; rintro e w2 ⟨⟨v, rfl, rfl⟩, hk2, hR2⟩; obtain ⟨k0, k1, k2, kf1, kf2⟩ := hR2.cells; have HK2 := Lib.hid hk2; have HR2 := Lib.hid hR2; clear hk2 hR2)
        go_wp2_with (go_at_call 111; refine (dFail base R A c l p _ 22 (HR2.out.move hp)).mono ?_; rintro e w3 ⟨rfl, hk3, hR3⟩; obtain ⟨m0, m1, m2, mf1, mf2⟩ := hR3.cells; have HK3 := Lib.hid hk3; have HR3 := Lib.hid hR3; clear hk3 hR3)
        go_ret
        exact RefE.no HG.out (by decide) ((HK2.out.trans (Kp.setCell ⟨R, 1, none⟩ _)).trans HK3.out) HR3.out
      · rw [if_neg (by omega)] at hS
        rw [hS] at hC
        obtain ⟨N, rfl⟩ := Int.eq_ofNat_of_zero_le (show 0 ≤ z by omega)
        rw [Int.toNat_natCast] at hC
        dsimp only at hC
        clear hS
        by_cases l1 : 1 ≤ least
        · have hqn : ((l.length - q : Nat) : Int) = (l.length : Int) - q := by omega
          rw [hqn] at hC
          have d1 : ((l.length : Int) - q).tdiv least = ((l.length : Int) - q) / least := Int.tdiv_eq_ediv_of_nonneg (by omega)
          have d2 : 0 ≤ ((l.length : Int) - q) / least := Int.ediv_nonneg (by omega) (by omega)
          have d3 : ((l.length : Int) - q) / least ≤ (l.length : Int) - q := Int.ediv_le_self _ (by omega)
          clear hqn
          by_cases n0 : 0 < N
          · by_cases hd : ((l.length : Int) - q) / least < N
            · have HG : Hid (gCount most least l p = .inr (20, p)) := by unfold Hid; rw [hC, if_pos ⟨l1, hd⟩]
              clear hC
              go_enter Tryz.func115, Tryz.ntmps115
              go_wp2_with (go_at_call 53; refine (HT.out).mono ?_; rintro e w2 ⟨⟨v, rfl, rfl⟩, hk2, hR2⟩; obtain ⟨k0, k1, k2, kf1, kf2⟩ := hR2.cells; have HK2 := Lib.hid hk2; have HR2 := Lib.hid hR2; clear hk2 hR2)
              go_quiet (fail)
              go_wp2_with (go_at_call 111; refine (dFail base R A c l p _ 20 ((HR2.out.later (below_drewN' (Below.refl _ _) nq)).move hp)).mono ?_; rintro e w3 ⟨rfl, hk3, hR3⟩; obtain ⟨m0, m1, m2, mf1, mf2⟩ := hR3.cells; have HK3 := Lib.hid hk3; have HR3 := Lib.hid hR3; clear hk3 hR3)
              go_ret
              exact RefE.no HG.out (by decide) (((HK2.out.trans (Kp.drewN nq)).trans (Kp.setCell ⟨R, 1, none⟩ _)).trans HK3.out) HR3.out
            · have HG : Hid (gCount most least l p = .inl (N, q)) := by unfold Hid; rw [hC, if_neg (fun h => hd h.2)]
              clear hC
              go_enter Tryz.func115, Tryz.ntmps115
              go_wp2_with (go_at_call 53; refine (HT.out).mono ?_; rintro e w2 ⟨⟨v, rfl, rfl⟩, hk2, hR2⟩; obtain ⟨k0, k1, k2, kf1, kf2⟩ := hR2.cells; have HK2 := Lib.hid hk2; have HR2 := Lib.hid hR2; clear hk2 hR2)
              go_quiet (fail)
              go_wp2
              go_ret
              exact RefE.yes HG.out rfl (HK2.out.trans (Kp.drewN nq)) (HR2.out.later (below_drewN' (Below.refl _ _) nq))
          · obtain rfl : N = 0 := by omega
            have HG : Hid (gCount most least l p = .inl (0, q)) := by unfold Hid; rw [hC, if_neg (fun h => by have := h.2; omega)]
            clear hC
            go_enter Tryz.func115, Tryz.ntmps115
            go_wp2_with (go_at_call 53; refine (HT.out).mono ?_; rintro e w2 ⟨⟨v, rfl, rfl⟩, hk2, hR2⟩; obtain ⟨k0, k1, k2, kf1, kf2⟩ := hR2.cells; have HK2 := Lib.hid hk2; have HR2 := Lib.hid hR2; clear hk2 hR2)
            go_quiet (fail)
            go_wp2
            go_ret
            exact RefE.yes HG.out rfl (HK2.out.trans (Kp.drewN nq)) (HR2.out.later (below_drewN' (Below.refl _ _) nq))
        · have HG : Hid (gCount most least l p = .inl (N, q)) := by unfold Hid; rw [hC, if_neg (fun h => l1 h.1)]
          have l2 : decide ((1 : Int) ≤ least) = false := by simpa using l1
          clear hC
          go_enter Tryz.func115, Tryz.ntmps115
          go_wp2_with (go_at_call 53; refine (HT.out).mono ?_; rintro e w2 ⟨⟨v, rfl, rfl⟩, hk2, hR2⟩; obtain ⟨k0, k1, k2, kf1, kf2⟩ := hR2.cells; have HK2 := Lib.hid hk2; have HR2 := Lib.hid hR2; clear hk2 hR2)
          go_quiet (fail)
          go_wp2
          go_ret
          exact RefE.yes HG.out rfl (HK2.out.trans (Kp.drewN nq)) (HR2.out.later (below_drewN' (Below.refl _ _) nq))
  · rw [hres] at hT
    have HT := Lib.hid hT
    have HG : Hid (gCount most least l p = .inr (er, q)) := by unfold Hid gCount gSize; rw [hres]
    have hne : er ≠ 0 := gInt_ne hres
    have hnb : (er != 0) = true := by simp [hne]
    clear hT hres h
    go_enter Tryz.func115, Tryz.ntmps115
    go_wp2_with (go_at_call 53; refine (HT.out).mono ?_; rintro e w2 ⟨rfl, hne, hk2, hR2⟩; obtain ⟨k0, k1, k2, kf1, kf2⟩ := hR2.cells; have HK2 := Lib.hid hk2; have HR2 := Lib.hid hR2; clear hk2 hR2)
    go_ret
    exact RefE.no HG.out hne HK2.out HR2.out
end
end Go.Proofs.YtnbaajplelchjaaGreatDoor
/- The document's reader: buffers, texts. -/
namespace Go.Proofs.YtnbaajplelchjaaGreatDoor
open Go.RowKit

/-- 's[p:p+n]' -/
theorem run_cut {w : World} {B : Nat} {A : Option Addr} {l : List UInt8} {c : Nat} (h : Reads w B 1 A l.length (bcells l)) (hc : l.length ≤ c) (hnil : A = none → c = 0) (p n : Nat) (hpn : p + n ≤ l.length) :
    ∃ A1 c1, (∀ W : World, (Instr.sliceAt 25 (.slice A l.length c) (some (.int .i64 (p : Int))) (some (.int .i64 ((p : Int) + n))) none).run Tryz.prog W = .ok (.slice A1 n c1) W) ∧ Reads w B 1 A1 n (bcells ((l.drop p).take n)) ∧ (A1 = none → n = 0) := by
  by_cases e : c = p
  · subst e
    have hn : n = 0 := by omega
    subst hn
    refine ⟨A, 0, fun W => ?_, by simpa [bcells] using reads_zero w B A, fun _ => rfl⟩
    simp [go_sem]
    try omega
  · refine ⟨A.map fun x => x.add p, c - p, fun W => ?_, reads_part h hpn, fun hA => ?_⟩
    · have h1 : (p : Int) ≤ p + n := by omega
      have h2 : (p : Int) + n ≤ c := by omega
      simp [go_sem, e, h1, h2]
      try omega
    · cases A with
      | none => have := hnil rfl; omega
      | some ad => cases hA
theorem quiet_same_left {P : Program} {f : FuncId} {args : Array Value} {w : World} {n : Nat} {v : Value}
    (h : Calls P f args (w.drewN n) fun e w' => e = .returned v ∧ w.drewN n = w') : Calls P f args (w.drewN n) fun e w'' => e = .returned v ∧ ∃ m, w'' = w.drewN m :=
  h.mono fun _ _ ⟨he, hm⟩ => ⟨he, n, hm.symm⟩

section
variable (base R : Nat) (A : Option Addr) (c : Nat) (l : List UInt8) (p : Nat) (w : World)

set_option maxRecDepth 100000 in
set_option maxHeartbeats 4000000 in
theorem dBuf (most : Int) (h : RR w base R A c l p 0) (hbase : base ≤ w.heap.size) :
    Calls Tryz.prog 113 #[.pointer (some ⟨R, 0, none⟩), .int .i64 most, .bool false] w (RefE base R A c l (vOwn w.heap.size) (.slice none 0 0) (gBuf most l p) w) := by
  obtain ⟨i0, hi0, hz0, hz1, hz2⟩ := info_parts u8_info
  obtain ⟨c0, c1, c2, f1, f2⟩ := h.cells
  have hp := h.here
  have hl := h.len
  have hT := dInt base R A c l p w h
  rcases hres : gInt l p with ⟨z, q⟩ | ⟨er, q⟩
  · rw [hres] at hT
    have HT := Lib.hid hT
    obtain ⟨hq1, hzw, hq2⟩ := gInt_inl hres
    have hzb := wrap32_bd (beNum ((l.drop p).take 4))
    rw [← hzw] at hzb
    have hq : q ≤ l.length := by omega
    have hS : gSize most l p = if z < 0 ∨ most < z then .inr (22, p) else .inl (z.toNat, q) := by unfold gSize; rw [hres]
    have hC : gBuf most l p = match gSize most l p with
      | .inl (n, q) => if q + n ≤ l.length then .inl ((l.drop q).take n, q + n) else .inr (20, p)
      | .inr e => .inr e := rfl
    clear hT hres h hzw hq1 hq2
    by_cases z0 : z < 0
    · have HG : Hid (gBuf most l p = .inr (22, p)) := by unfold Hid; rw [hC, hS, if_pos (.inl z0)]
      clear hC hS 
      go_enter Tryz.func113, Tryz.ntmps113
      go_wp2_with (first | (go_at_call 53; refine (HT.out).mono ?_; rintro e w2 ⟨⟨v, rfl, rfl⟩, hk2, hR2⟩; obtain ⟨k0, k1, k2, kf1, kf2⟩ := hR2.cells; have HK2 := Lib.hid hk2; have HR2 := Lib.hid hR2; clear hk2 hR2) | (go_at_call 111; refine (dFail base R A c l p _ 22 (HR2.out.move hp)).mono ?_; rintro e w3 ⟨rfl, hk3, hR3⟩; obtain ⟨m0, m1, m2, mf1, mf2⟩ := hR3.cells; have HK3 := Lib.hid hk3; have HR3 := Lib.hid hR3; clear hk3 hR3))
      go_ret
      exact RefE.no HG.out (by decide) ((HK2.out.trans (Kp.setCell ⟨R, 1, none⟩ _)).trans HK3.out) HR3.out
    · by_cases zm : most < z
      · have HG : Hid (gBuf most l p = .inr (22, p)) := by unfold Hid; rw [hC, hS, if_pos (.inr zm)]
        clear hC hS 
        go_enter Tryz.func113, Tryz.ntmps113
        go_wp2_with (first | (go_at_call 53; refine (HT.out).mono ?_; rintro e w2 ⟨⟨v, rfl, rfl⟩, hk2, hR2⟩; obtain ⟨k0, k1, k2, kf1, kf2⟩ := hR2.cells; have HK2 := Lib.hid hk2; have HR2 := Lib.hid hR2; clear hk2 hR2) | (go_at_call 111; refine (dFail base R A c l p _ 22 (HR2.out.move hp)).mono ?_; rintro e w3 ⟨rfl, hk3, hR3⟩; obtain ⟨m0, m1, m2, mf1, mf2⟩ := hR3.cells; have HK3 := Lib.hid hk3; have HR3 := Lib.hid hR3; clear hk3 hR3))
        go_ret
        exact RefE.no HG.out (by decide) ((HK2.out.trans (Kp.setCell ⟨R, 1, none⟩ _)).trans HK3.out) HR3.out
      · rw [if_neg (by omega)] at hS
        rw [hS] at hC
        obtain ⟨N, rfl⟩ := Int.eq_ofNat_of_zero_le (show 0 ≤ z by omega)
        rw [Int.toNat_natCast] at hC
        dsimp only at hC
        clear hS
        by_cases hqn : q + N ≤ l.length
        · have hqz : ¬ ((l.length : Int) - q < N) := by omega
          rw [if_pos hqn] at hC
          obtain ⟨x, hx⟩ : ∃ x, x = (l.drop q).take N := ⟨_, rfl⟩
          have hxl : x.length = N := by rw [hx, List.length_take, List.length_drop]; omega
          rw [← hx] at hC
          have s1 : IntKind.i64.wrap ((q : Int) + N) = (q : Int) + N := IntWalk.i64_in _ (by omega)
          have HXL := Lib.hid hxl
          have HXE := Lib.hid hx
          have HS1 := Lib.hid s1
          clear hx hxl s1
          have HG : Hid (gBuf most l p = .inl (x, q + N)) := hC
          clear hC
          go_enter Tryz.func113, Tryz.ntmps113
          go_wp2_with (first | (go_at_call 53; refine (HT.out).mono ?_; rintro e w2 ⟨⟨v, rfl, rfl⟩, hk2, hR2⟩; obtain ⟨k0, k1, k2, kf1, kf2⟩ := hR2.cells; have HK2 := Lib.hid hk2; have HR2 := Lib.hid hR2; clear hk2 hR2))
          go_quiet (fail)
          obtain ⟨wb, hwb⟩ : ∃ wb, w2.drewN nq = wb := ⟨_, rfl⟩
          have HRwb : Hid (RR wb base R A c l q 0) := by unfold Hid; rw [← hwb]; exact HR2.out.later (below_drewN' (Below.refl _ _) nq)
          have HKwb : Hid (Kp [R] w wb) := by unfold Hid; rw [← hwb]; exact HK2.out.trans (Kp.drewN nq)
          obtain ⟨k0, k1, k2, kf1, kf2⟩ := HRwb.out.cells
          rw [hwb]
          clear hwb
          go_wp2
          go_quiet (fail)
          obtain ⟨wc, hwc⟩ : ∃ wc, wb.drewN nq = wc := ⟨_, rfl⟩
          have HRwc : Hid (RR wc base R A c l q 0) := by unfold Hid; rw [← hwc]; exact HRwb.out.later (below_drewN' (Below.refl _ _) nq)
          have HKwc : Hid (Kp [R] w wc) := by unfold Hid; rw [← hwc]; exact HKwb.out.trans (Kp.drewN nq)
          obtain ⟨k0, k1, k2, kf1, kf2⟩ := HRwc.out.cells
          rw [hwc]
          clear hwc
          go_wp2
          have hRl := HRwc.out.lt
          have hwz : w.heap.size ≤ wc.heap.size := HKwc.out.size
          obtain ⟨A1, c1, hcut, hrd, hnn⟩ := run_cut HRwc.out.reads HRwc.out.cap HRwc.out.nil q N hqn
          rw [← HXE.out] at hrd
          have hs1 := HS1.out
          have hbase2 : base ≤ wc.heap.size := Nat.le_trans hbase HKwc.out.size
          have hbl : Below wc.heap.size wc (wc.alloc (.cells #[] 5)).drew := ((Below.refl _ _).alloc (Nat.le_refl _) _).drew
          have HBL := Lib.hid hbl
          have HRD : Hid (Reads (wc.alloc (.cells #[] 5)).drew base 1 A1 N (bcells x)) := hrd.below (hbl.mono hbase2)
          have HOW : Hid ((wc.alloc (.cells #[] 5)).drew.ownsRow w.heap.size 5 1 (.slice (some ⟨wc.heap.size, 0, none⟩) 0 0) 0 []) := World.ownsRow_made wc #[] 0 hwz (by decide) rfl
          clear hrd hnn hbl
          go_region_held3 (fun w' => w'.cell? ⟨R, 0, none⟩ = some (.slice A l.length c) ∧ w'.cell? ⟨R, 1, none⟩ = some (.int .i64 q)) (first | go_keep | exact ⟨m0, m1⟩)
            ((refine step_append_any _ (by rfl) (.tmp 75) (.tmp 90) _ (by rfl) w.heap.size 5 i0 _ 1 1 Tryz.underlying25 hi0 hz0 hz1 hz2 rfl (by decide) (.slice (some ⟨wc.heap.size, 0, none⟩) 0 0) 0 [] (by rfl) HOW.out base A1 N c1 (bcells x) (by rfl) HRD.out (bcells_one _) (by simp only [maxLen]; omega) (by omega) (by have := HBL.out.size; omega) ?_; intro v5 w5 ho5 hg5 hat5; have hR5 : RR w5 base R A c l q 0 := ((HRwc.out.later HBL.out).kp (Kp.of_grown hg5) (by simp [Value.ownBlock]; omega) (by simp [Value.ownBlock]; omega)); have HK5 : Hid (Kp [R] w w5) := HKwc.out.to ((Kp.of_below (X := []) HBL.out).to (Kp.of_grown hg5) (Z := [wc.heap.size]) (fun _ h => by cases h) (fun y hy _ => by simpa [Value.ownBlock] using hy)) (fun _ h _ => h) (fun y hy hl => by simp at hy; omega); obtain ⟨m0, m1, m2, mf1, mf2⟩ := hR5.cells; rw [Nat.zero_add, List.nil_append] at ho5; have HO5 := Lib.hid ho5; have HR5 := Lib.hid hR5; obtain ⟨A5, c5, rfl⟩ := slice_form ho5; clear hat5 hg5 ho5 hR5))
          all_goals (
            clear hs1
            go_wp2
            go_ret
            refine RefE.yes HG.out ⟨A5, c5, by rw [HXL.out]; simp, ?_⟩ (HK5.out.trans (Kp.setCell ⟨R, 1, none⟩ _)) (HR5.out.move hqn)
            rw [HXL.out]
            exact own_set HO5.out HR5.out.blk (by decide) 1 _)
        · have hqz : (l.length : Int) - q < N := by omega
          rw [if_neg hqn] at hC
          have HG : Hid (gBuf most l p = .inr (20, p)) := by unfold Hid; rw [hC]
          clear hC 
          go_enter Tryz.func113, Tryz.ntmps113
          go_wp2_with (first | (go_at_call 53; refine (HT.out).mono ?_; rintro e w2 ⟨⟨v, rfl, rfl⟩, hk2, hR2⟩; obtain ⟨k0, k1, k2, kf1, kf2⟩ := hR2.cells; have HK2 := Lib.hid hk2; have HR2 := Lib.hid hR2; clear hk2 hR2))
          go_quiet (fail)
          go_wp2_with (go_at_call 111; refine (dFail base R A c l p _ 20 ((HR2.out.later (below_drewN' (Below.refl _ _) nq)).move hp)).mono ?_; rintro e w3 ⟨rfl, hk3, hR3⟩; obtain ⟨m0, m1, m2, mf1, mf2⟩ := hR3.cells; have HK3 := Lib.hid hk3; have HR3 := Lib.hid hR3; clear hk3 hR3)
          go_ret
          exact RefE.no HG.out (by decide) (((HK2.out.trans (Kp.drewN nq)).trans (Kp.setCell ⟨R, 1, none⟩ _)).trans HK3.out) HR3.out
  · rw [hres] at hT
    have HT := Lib.hid hT
    have HG : Hid (gBuf most l p = .inr (er, q)) := by unfold Hid gBuf gSize; rw [hres]
    have hne : er ≠ 0 := gInt_ne hres
    have hnb : (er != 0) = true := by simp [hne]
    clear hT hres h
    go_enter Tryz.func113, Tryz.ntmps113
    go_wp2_with (go_at_call 53; refine (HT.out).mono ?_; rintro e w2 ⟨rfl, hne, hk2, hR2⟩; obtain ⟨k0, k1, k2, kf1, kf2⟩ := hR2.cells; have HK2 := Lib.hid hk2; have HR2 := Lib.hid hR2; clear hk2 hR2)
    go_ret
    exact RefE.no HG.out hne HK2.out HR2.out
set_option maxRecDepth 100000 in
set_option maxHeartbeats 4000000 in
theorem dBufT (most : Int) (h : RR w base R A c l p 0) (hbase : base ≤ w.heap.size) :
    Calls Tryz.prog 113 #[.pointer (some ⟨R, 0, none⟩), .int .i64 most, .bool true] w (RefE base R A c l (vOwn w.heap.size) (.slice none 0 0) (gText most l p) w) := by
  obtain ⟨i0, hi0, hz0, hz1, hz2⟩ := info_parts u8_info
  obtain ⟨c0, c1, c2, f1, f2⟩ := h.cells
  have hp := h.here
  have hl := h.len
  have hT := dInt base R A c l p w h
  rcases hres : gInt l p with ⟨z, q⟩ | ⟨er, q⟩
  · rw [hres] at hT
    have HT := Lib.hid hT
    obtain ⟨hq1, hzw, hq2⟩ := gInt_inl hres
    have hzb := wrap32_bd (beNum ((l.drop p).take 4))
    rw [← hzw] at hzb
    have hq : q ≤ l.length := by omega
    have hS : gSize most l p = if z < 0 ∨ most < z then .inr (22, p) else .inl (z.toNat, q) := by unfold gSize; rw [hres]
    have hC : gBuf most l p = match gSize most l p with
      | .inl (n, q) => if q + n ≤ l.length then .inl ((l.drop q).take n, q + n) else .inr (20, p)
      | .inr e => .inr e := rfl
    have hX : gText most l p = match gBuf most l p with
      | .inl (b, q) => if Lib.validD b = true then .inl (b, q) else .inr (22, p)
      | .inr e => .inr e := rfl
    clear hT hres h hzw hq1 hq2
    by_cases z0 : z < 0
    · have HG : Hid (gText most l p = .inr (22, p)) := by unfold Hid; rw [hX, hC, hS, if_pos (.inl z0)]
      clear hC hS hX 
      go_enter Tryz.func113, Tryz.ntmps113
      go_wp2_with (first | (go_at_call 53; refine (HT.out).mono ?_; rintro e w2 ⟨⟨v, rfl, rfl⟩, hk2, hR2⟩; obtain ⟨k0, k1, k2, kf1, kf2⟩ := hR2.cells; have HK2 := Lib.hid hk2; have HR2 := Lib.hid hR2; clear hk2 hR2) | (go_at_call 111; refine (dFail base R A c l p _ 22 (HR2.out.move hp)).mono ?_; rintro e w3 ⟨rfl, hk3, hR3⟩; obtain ⟨m0, m1, m2, mf1, mf2⟩ := hR3.cells; have HK3 := Lib.hid hk3; have HR3 := Lib.hid hR3; clear hk3 hR3))
      go_ret
      exact RefE.no HG.out (by decide) ((HK2.out.trans (Kp.setCell ⟨R, 1, none⟩ _)).trans HK3.out) HR3.out
    · by_cases zm : most < z
      · have HG : Hid (gText most l p = .inr (22, p)) := by unfold Hid; rw [hX, hC, hS, if_pos (.inr zm)]
        clear hC hS hX 
        go_enter Tryz.func113, Tryz.ntmps113
        go_wp2_with (first | (go_at_call 53; refine (HT.out).mono ?_; rintro e w2 ⟨⟨v, rfl, rfl⟩, hk2, hR2⟩; obtain ⟨k0, k1, k2, kf1, kf2⟩ := hR2.cells; have HK2 := Lib.hid hk2; have HR2 := Lib.hid hR2; clear hk2 hR2) | (go_at_call 111; refine (dFail base R A c l p _ 22 (HR2.out.move hp)).mono ?_; rintro e w3 ⟨rfl, hk3, hR3⟩; obtain ⟨m0, m1, m2, mf1, mf2⟩ := hR3.cells; have HK3 := Lib.hid hk3; have HR3 := Lib.hid hR3; clear hk3 hR3))
        go_ret
        exact RefE.no HG.out (by decide) ((HK2.out.trans (Kp.setCell ⟨R, 1, none⟩ _)).trans HK3.out) HR3.out
      · rw [if_neg (by omega)] at hS
        rw [hS] at hC
        obtain ⟨N, rfl⟩ := Int.eq_ofNat_of_zero_le (show 0 ≤ z by omega)
        rw [Int.toNat_natCast] at hC
        dsimp only at hC
        clear hS
        by_cases hqn : q + N ≤ l.length
        · have hqz : ¬ ((l.length : Int) - q < N) := by omega
          rw [if_pos hqn] at hC
          obtain ⟨x, hx⟩ : ∃ x, x = (l.drop q).take N := ⟨_, rfl⟩
          have hxl : x.length = N := by rw [hx, List.length_take, List.length_drop]; omega
          rw [← hx] at hC
          have s1 : IntKind.i64.wrap ((q : Int) + N) = (q : Int) + N := IntWalk.i64_in _ (by omega)
          have HXL := Lib.hid hxl
          have HXE := Lib.hid hx
          have HS1 := Lib.hid s1
          clear hx hxl s1
          rcases hvv : Lib.validD x
          · have HG : Hid (gText most l p = .inr (22, p)) := by unfold Hid; rw [hX, hC]; simp [hvv]
            obtain ⟨VV, hVV⟩ : ∃ VV, VV = false := ⟨_, rfl⟩
            have HVV : Hid (Lib.validD x = VV) := by unfold Hid; rw [hvv, hVV]
            clear hC hX hvv
            go_enter Tryz.func113, Tryz.ntmps113
            go_wp2_with (first | (go_at_call 53; refine (HT.out).mono ?_; rintro e w2 ⟨⟨v, rfl, rfl⟩, hk2, hR2⟩; obtain ⟨k0, k1, k2, kf1, kf2⟩ := hR2.cells; have HK2 := Lib.hid hk2; have HR2 := Lib.hid hR2; clear hk2 hR2))
            go_quiet (fail)
            obtain ⟨wb, hwb⟩ : ∃ wb, w2.drewN nq = wb := ⟨_, rfl⟩
            have HRwb : Hid (RR wb base R A c l q 0) := by unfold Hid; rw [← hwb]; exact HR2.out.later (below_drewN' (Below.refl _ _) nq)
            have HKwb : Hid (Kp [R] w wb) := by unfold Hid; rw [← hwb]; exact HK2.out.trans (Kp.drewN nq)
            obtain ⟨k0, k1, k2, kf1, kf2⟩ := HRwb.out.cells
            rw [hwb]
            clear hwb
            go_wp2
            obtain ⟨A1, c1, hcut, hrd, hnn⟩ := run_cut HRwb.out.reads HRwb.out.cap HRwb.out.nil q N hqn
            rw [← HXE.out] at hrd
            have hcv : ∀ m, (convert 25 9 (.slice A1 N c1)).run Tryz.prog (wb.drewN m) = .ok (.string ⟨x.toArray⟩) (wb.drewN m) := fun m => run_string_of_bytes (P := Tryz.prog) (w := wb.drewN m) (src := 25) (e := 5) Tryz.underlying25 Tryz.underlying5 (B := base) (l := x) hrd 9 Tryz.underlying9
            have hut : ∀ m, Calls Tryz.prog 62 #[.string ⟨x.toArray⟩] (wb.drewN m) fun e w'' => e = .returned (.bool VV) ∧ ∃ n, w'' = wb.drewN n := fun m => quiet_same_left (by have h := utf8_any ⟨x.toArray⟩ (wb.drewN m) (by have := HXL.out; show x.toArray.size ≤ _; simp; omega); rw [show (⟨x.toArray⟩ : ByteArray).data.toList = x from rfl, HVV.out] at h; exact h)
            have HUT := Lib.hid hut
            have hs1 := HS1.out
            clear hut hrd
            go_quiet ((go_at_call 62; exact HUT.out _))
            obtain ⟨wc, hwc⟩ : ∃ wc, wb.drewN nq = wc := ⟨_, rfl⟩
            have HRwc : Hid (RR wc base R A c l q 0) := by unfold Hid; rw [← hwc]; exact HRwb.out.later (below_drewN' (Below.refl _ _) nq)
            have HKwc : Hid (Kp [R] w wc) := by unfold Hid; rw [← hwc]; exact HKwb.out.trans (Kp.drewN nq)
            obtain ⟨k0, k1, k2, kf1, kf2⟩ := HRwc.out.cells
            rw [hwc]
            subst hVV
            clear hwc hcut hcv hs1
            go_wp2_with (go_at_call 111; refine (dFail base R A c l p _ 22 (HRwc.out.move hp)).mono ?_; rintro e w3 ⟨rfl, hk3, hR3⟩; obtain ⟨m0, m1, m2, mf1, mf2⟩ := hR3.cells; have HK3 := Lib.hid hk3; have HR3 := Lib.hid hR3; clear hk3 hR3)
            go_ret
            exact RefE.no HG.out (by decide) ((HKwc.out.trans (Kp.setCell ⟨R, 1, none⟩ _)).trans HK3.out) HR3.out
          · have HG : Hid (gText most l p = .inl (x, q + N)) := by unfold Hid; rw [hX, hC]; simp [hvv]
            obtain ⟨VV, hVV⟩ : ∃ VV, VV = true := ⟨_, rfl⟩
            have HVV : Hid (Lib.validD x = VV) := by unfold Hid; rw [hvv, hVV]
            clear hC hX hvv
            go_enter Tryz.func113, Tryz.ntmps113
            go_wp2_with (first | (go_at_call 53; refine (HT.out).mono ?_; rintro e w2 ⟨⟨v, rfl, rfl⟩, hk2, hR2⟩; obtain ⟨k0, k1, k2, kf1, kf2⟩ := hR2.cells; have HK2 := Lib.hid hk2; have HR2 := Lib.hid hR2; clear hk2 hR2))
            go_quiet (fail)
            obtain ⟨wb, hwb⟩ : ∃ wb, w2.drewN nq = wb := ⟨_, rfl⟩
            have HRwb : Hid (RR wb base R A c l q 0) := by unfold Hid; rw [← hwb]; exact HR2.out.later (below_drewN' (Below.refl _ _) nq)
            have HKwb : Hid (Kp [R] w wb) := by unfold Hid; rw [← hwb]; exact HK2.out.trans (Kp.drewN nq)
            obtain ⟨k0, k1, k2, kf1, kf2⟩ := HRwb.out.cells
            rw [hwb]
            clear hwb
            go_wp2
            obtain ⟨A1, c1, hcut, hrd, hnn⟩ := run_cut HRwb.out.reads HRwb.out.cap HRwb.out.nil q N hqn
            rw [← HXE.out] at hrd
            have hcv : ∀ m, (convert 25 9 (.slice A1 N c1)).run Tryz.prog (wb.drewN m) = .ok (.string ⟨x.toArray⟩) (wb.drewN m) := fun m => run_string_of_bytes (P := Tryz.prog) (w := wb.drewN m) (src := 25) (e := 5) Tryz.underlying25 Tryz.underlying5 (B := base) (l := x) hrd 9 Tryz.underlying9
            have hut : ∀ m, Calls Tryz.prog 62 #[.string ⟨x.toArray⟩] (wb.drewN m) fun e w'' => e = .returned (.bool VV) ∧ ∃ n, w'' = wb.drewN n := fun m => quiet_same_left (by have h := utf8_any ⟨x.toArray⟩ (wb.drewN m) (by have := HXL.out; show x.toArray.size ≤ _; simp; omega); rw [show (⟨x.toArray⟩ : ByteArray).data.toList = x from rfl, HVV.out] at h; exact h)
            have HUT := Lib.hid hut
            have hs1 := HS1.out
            clear hut hrd
            go_quiet ((go_at_call 62; exact HUT.out _))
            obtain ⟨wc, hwc⟩ : ∃ wc, wb.drewN nq = wc := ⟨_, rfl⟩
            have HRwc : Hid (RR wc base R A c l q 0) := by unfold Hid; rw [← hwc]; exact HRwb.out.later (below_drewN' (Below.refl _ _) nq)
            have HKwc : Hid (Kp [R] w wc) := by unfold Hid; rw [← hwc]; exact HKwb.out.trans (Kp.drewN nq)
            obtain ⟨k0, k1, k2, kf1, kf2⟩ := HRwc.out.cells
            rw [hwc]
            subst hVV
            clear hwc hcut hcv hs1 hnn
            go_wp2
            have hRl := HRwc.out.lt
            have hwz : w.heap.size ≤ wc.heap.size := HKwc.out.size
            obtain ⟨A1, c1, hcut, hrd, hnn⟩ := run_cut HRwc.out.reads HRwc.out.cap HRwc.out.nil q N hqn
            rw [← HXE.out] at hrd
            have hs1 := HS1.out
            have hbase2 : base ≤ wc.heap.size := Nat.le_trans hbase HKwc.out.size
            have hbl : Below wc.heap.size wc (wc.alloc (.cells #[] 5)).drew := ((Below.refl _ _).alloc (Nat.le_refl _) _).drew
            have HBL := Lib.hid hbl
            have HRD : Hid (Reads (wc.alloc (.cells #[] 5)).drew base 1 A1 N (bcells x)) := hrd.below (hbl.mono hbase2)
            have HOW : Hid ((wc.alloc (.cells #[] 5)).drew.ownsRow w.heap.size 5 1 (.slice (some ⟨wc.heap.size, 0, none⟩) 0 0) 0 []) := World.ownsRow_made wc #[] 0 hwz (by decide) rfl
            clear hrd hnn hbl
            go_region_held3 (fun w' => w'.cell? ⟨R, 0, none⟩ = some (.slice A l.length c) ∧ w'.cell? ⟨R, 1, none⟩ = some (.int .i64 q)) (first | go_keep | exact ⟨m0, m1⟩)
              ((refine step_append_any _ (by rfl) (.tmp 75) (.tmp 90) _ (by rfl) w.heap.size 5 i0 _ 1 1 Tryz.underlying25 hi0 hz0 hz1 hz2 rfl (by decide) (.slice (some ⟨wc.heap.size, 0, none⟩) 0 0) 0 [] (by rfl) HOW.out base A1 N c1 (bcells x) (by rfl) HRD.out (bcells_one _) (by simp only [maxLen]; omega) (by omega) (by have := HBL.out.size; omega) ?_; intro v5 w5 ho5 hg5 hat5; have hR5 : RR w5 base R A c l q 0 := ((HRwc.out.later HBL.out).kp (Kp.of_grown hg5) (by simp [Value.ownBlock]; omega) (by simp [Value.ownBlock]; omega)); have HK5 : Hid (Kp [R] w w5) := HKwc.out.to ((Kp.of_below (X := []) HBL.out).to (Kp.of_grown hg5) (Z := [wc.heap.size]) (fun _ h => by cases h) (fun y hy _ => by simpa [Value.ownBlock] using hy)) (fun _ h _ => h) (fun y hy hl => by simp at hy; omega); obtain ⟨m0, m1, m2, mf1, mf2⟩ := hR5.cells; rw [Nat.zero_add, List.nil_append] at ho5; have HO5 := Lib.hid ho5; have HR5 := Lib.hid hR5; obtain ⟨A5, c5, rfl⟩ := slice_form ho5; clear hat5 hg5 ho5 hR5))
            all_goals (
              clear hs1
              go_wp2
              go_ret
              refine RefE.yes HG.out ⟨A5, c5, by rw [HXL.out]; simp, ?_⟩ (HK5.out.trans (Kp.setCell ⟨R, 1, none⟩ _)) (HR5.out.move hqn)
              rw [HXL.out]
              exact own_set HO5.out HR5.out.blk (by decide) 1 _)
        · have hqz : (l.length : Int) - q < N := by omega
          rw [if_neg hqn] at hC
          have HG : Hid (gText most l p = .inr (20, p)) := by unfold Hid; rw [hX, hC]
          clear hC hX 
          go_enter Tryz.func113, Tryz.ntmps113
          go_wp2_with (first | (go_at_call 53; refine (HT.out).mono ?_; rintro e w2 ⟨⟨v, rfl, rfl⟩, hk2, hR2⟩; obtain ⟨k0, k1, k2, kf1, kf2⟩ := hR2.cells; have HK2 := Lib.hid hk2; have HR2 := Lib.hid hR2; clear hk2 hR2))
          go_quiet (fail)
          go_wp2_with (go_at_call 111; refine (dFail base R A c l p _ 20 ((HR2.out.later (below_drewN' (Below.refl _ _) nq)).move hp)).mono ?_; rintro e w3 ⟨rfl, hk3, hR3⟩; obtain ⟨m0, m1, m2, mf1, mf2⟩ := hR3.cells; have HK3 := Lib.hid hk3; have HR3 := Lib.hid hR3; clear hk3 hR3)
          go_ret
          exact RefE.no HG.out (by decide) (((HK2.out.trans (Kp.drewN nq)).trans (Kp.setCell ⟨R, 1, none⟩ _)).trans HK3.out) HR3.out
  · rw [hres] at hT
    have HT := Lib.hid hT
    have HG : Hid (gText most l p = .inr (er, q)) := by unfold Hid gText gBuf gSize; rw [hres]
    have hne : er ≠ 0 := gInt_ne hres
    have hnb : (er != 0) = true := by simp [hne]
    clear hT hres h
    go_enter Tryz.func113, Tryz.ntmps113
    go_wp2_with (go_at_call 53; refine (HT.out).mono ?_; rintro e w2 ⟨rfl, hne, hk2, hR2⟩; obtain ⟨k0, k1, k2, kf1, kf2⟩ := hR2.cells; have HK2 := Lib.hid hk2; have HR2 := Lib.hid hR2; clear hk2 hR2)
    go_ret
    exact RefE.no HG.out hne HK2.out HR2.out
set_option maxRecDepth 100000 in
set_option maxHeartbeats 4000000 in
theorem dText (most : Int) (h : RR w base R A c l p 0) (hbase : base ≤ w.heap.size) :
    Calls Tryz.prog 68 #[.pointer (some ⟨R, 0, none⟩), .int .i64 most] w (RefE base R A c l vText (.string ⟨#[]⟩) (gText most l p) w) := by
  have hT := dBufT base R A c l p w most h hbase
  rcases hres : gText most l p with ⟨x, q⟩ | ⟨er, q⟩
  · rw [hres] at hT
    have HT := Lib.hid hT
    have HG := Lib.hid hres
    clear hT hres h
    go_enter Tryz.func68, Tryz.ntmps68
    go_wp2_with (go_at_call 113
                 refine (HT.out).mono ?_
                 rintro e w2 ⟨⟨v, rfl, A', c', rfl, ho⟩, hk2, hR2⟩
                 have hcv := run_string_of_bytes (P := Tryz.prog) (w := w2) (src := 25) (e := 5) Tryz.underlying25 Tryz.underlying5 (Reads.of_own ho) (c := c') 9 Tryz.underlying9
                 have HK2 := Lib.hid hk2
                 have HR2 := Lib.hid hR2
                 clear ho hk2 hR2)
    go_ret
    exact RefE.yes rfl rfl HK2.out HR2.out
  · rw [hres] at hT
    have HT := Lib.hid hT
    have HG := Lib.hid hres
    clear hT hres h
    go_enter Tryz.func68, Tryz.ntmps68
    go_wp2_with (go_at_call 113
                 refine (HT.out).mono ?_
                 rintro e w2 ⟨rfl, hne, hk2, hR2⟩
                 have hcv := run_string_of_bytes (P := Tryz.prog) (w := w2) (src := 25) (e := 5) Tryz.underlying25 Tryz.underlying5 (B := 0) (A := none) (n := 0) (l := []) (reads_zero _ _ _) (c := 0) 9 Tryz.underlying9
                 have HK2 := Lib.hid hk2
                 have HR2 := Lib.hid hR2
                 have HNE := Lib.hid hne
                 clear hne hk2 hR2)
    go_ret
    exact RefE.no rfl HNE.out HK2.out HR2.out
end
end Go.Proofs.YtnbaajplelchjaaGreatDoor
/- The document's reader once it has failed; reading on whatever has been. (printed by gen_jt6.py) -/
namespace Go.Proofs.YtnbaajplelchjaaGreatDoor
open Go.RowKit

/-- a reading on, whatever has been: the value (d, where it has failed or fails), the place and the error behind it -/
def stepS {α : Type} (g : Rg α) (d : α) (l : List UInt8) (s : Nat × Int) : α × (Nat × Int) :=
  if s.2 = 0 then (match g l s.1 with | .inl (x, q) => (x, (q, 0)) | .inr (er, q) => (d, (q, er))) else (d, s)
theorem stepS_dead {α : Type} (g : Rg α) (d : α) (l : List UInt8) {p : Nat} {e : Int} (h : e ≠ 0) : stepS g d l (p, e) = (d, (p, e)) := by unfold stepS; rw [if_neg h]
theorem stepS_yes {α : Type} {g : Rg α} (d : α) {l : List UInt8} {p q : Nat} {x : α} (h : g l p = .inl (x, q)) : stepS g d l (p, 0) = (x, (q, 0)) := by unfold stepS; rw [if_pos rfl]; dsimp only; rw [h]
theorem stepS_no {α : Type} {g : Rg α} (d : α) {l : List UInt8} {p q : Nat} {er : Int} (h : g l p = .inr (er, q)) : stepS g d l (p, 0) = (d, (q, er)) := by unfold stepS; rw [if_pos rfl]; dsimp only; rw [h]

/-- how a reading on ends -/
def SE {α : Type} (base R : Nat) (A : Option Addr) (c : Nat) (l : List UInt8) (val : α → Value → World → Prop) (r : α × (Nat × Int)) (w : World) (e : Ending) (w' : World) : Prop :=
  (∃ v, e = .returned v ∧ val r.1 v w') ∧ Kp [R] w w' ∧ RR w' base R A c l r.2.1 r.2.2
section
variable {α : Type} {base R : Nat} {A : Option Addr} {c : Nat} {l : List UInt8} {p : Nat} {w : World} {val : α → Value → World → Prop} {dv : Value} {d : α} {g : Rg α} {f : FuncId} {args : Array Value}
theorem se_of (h : Calls Tryz.prog f args w (RefE base R A c l val dv (g l p) w)) (hd : ∀ w', val d dv w') : Calls Tryz.prog f args w (SE base R A c l val (stepS g d l (p, 0)) w) :=
  h.mono fun e w' h => by
    rcases hr : g l p with ⟨x, q⟩ | ⟨er, q⟩
    · rw [hr] at h
      obtain ⟨⟨v, h1, h2⟩, h3, h4⟩ := h
      rw [stepS_yes d hr]
      exact ⟨⟨v, h1, h2⟩, h3, h4⟩
    · rw [hr] at h
      obtain ⟨h1, _, h3, h4⟩ := h
      rw [stepS_no d hr]
      exact ⟨⟨dv, h1, hd _⟩, h3, h4⟩
theorem se_dead {e : Int} (he : e ≠ 0) (h : Calls Tryz.prog f args w fun e' w' => e' = .returned dv ∧ Kp [R] w w' ∧ RR w' base R A c l p e) (hd : ∀ w', val d dv w') : Calls Tryz.prog f args w (SE base R A c l val (stepS g d l (p, e)) w) :=
  h.mono fun e w' h => by
    rw [stepS_dead g d l he]
    exact ⟨⟨dv, h.1, hd _⟩, h.2.1, h.2.2⟩
end

section
variable (base R : Nat) (A : Option Addr) (c : Nat) (l : List UInt8) (p : Nat) (e : Int) (w : World)

set_option maxRecDepth 100000 in
set_option maxHeartbeats 400000 in
theorem xTake (k : Int) (he : e ≠ 0) (h : RR w base R A c l p e) :
    Calls Tryz.prog 110 #[.pointer (some ⟨R, 0, none⟩), .int .i64 k] w fun e' w' => e' = .returned (.int .u64 0) ∧ w = w' := by
  obtain ⟨c0, c1, c2, f1, f2⟩ := h.cells
  have hb : (e != 0) = true := by simp [he]
  clear h he
  go_enter Tryz.func110, Tryz.ntmps110
  go_wp2
  go_ret
  exact ⟨rfl, rfl⟩

set_option maxRecDepth 100000 in
set_option maxHeartbeats 400000 in
theorem xInt (he : e ≠ 0) (h : RR w base R A c l p e) :
    Calls Tryz.prog 53 #[.pointer (some ⟨R, 0, none⟩)] w fun e' w' => e' = .returned (.int .i32 0) ∧ Kp [R] w w' ∧ RR w' base R A c l p e := by
  obtain ⟨c0, c1, c2, f1, f2⟩ := h.cells
  have hT := Lib.hid (xTake base R A c l p e w 4 he h)
  have H := Lib.hid h
  have hb : (e != 0) = true := by simp [he]
  have hb2 : (e == 0) = false := by simp [he]
  clear h he
  go_enter Tryz.func53, Tryz.ntmps53
  go_wp2_with (go_at_call 110; refine hT.out.mono ?_; rintro e w2 ⟨rfl, rfl⟩)
  go_ret
  exact ⟨rfl, Kp.refl _ _, H.out⟩

set_option maxRecDepth 100000 in
set_option maxHeartbeats 400000 in
theorem xLong (he : e ≠ 0) (h : RR w base R A c l p e) :
    Calls Tryz.prog 54 #[.pointer (some ⟨R, 0, none⟩)] w fun e' w' => e' = .returned (.int .i64 0) ∧ Kp [R] w w' ∧ RR w' base R A c l p e := by
  obtain ⟨c0, c1, c2, f1, f2⟩ := h.cells
  have hT := Lib.hid (xTake base R A c l p e w 8 he h)
  have H := Lib.hid h
  have hb : (e != 0) = true := by simp [he]
  have hb2 : (e == 0) = false := by simp [he]
  clear h he
  go_enter Tryz.func54, Tryz.ntmps54
  go_wp2_with (go_at_call 110; refine hT.out.mono ?_; rintro e w2 ⟨rfl, rfl⟩)
  go_ret
  exact ⟨rfl, Kp.refl _ _, H.out⟩

set_option maxRecDepth 100000 in
set_option maxHeartbeats 400000 in
theorem xBool (he : e ≠ 0) (h : RR w base R A c l p e) :
    Calls Tryz.prog 158 #[.pointer (some ⟨R, 0, none⟩)] w fun e' w' => e' = .returned (.bool false) ∧ Kp [R] w w' ∧ RR w' base R A c l p e := by
  obtain ⟨c0, c1, c2, f1, f2⟩ := h.cells
  have hT := Lib.hid (xTake base R A c l p e w 1 he h)
  have H := Lib.hid h
  have hb : (e != 0) = true := by simp [he]
  have hb2 : (e == 0) = false := by simp [he]
  clear h he
  go_enter Tryz.func158, Tryz.ntmps158
  go_wp2_with (go_at_call 110; refine hT.out.mono ?_; rintro e w2 ⟨rfl, rfl⟩)
  go_ret
  exact ⟨rfl, Kp.refl _ _, H.out⟩

set_option maxRecDepth 100000 in
set_option maxHeartbeats 400000 in
theorem xBuf (most : Int) (t : Bool) (he : e ≠ 0) (h : RR w base R A c l p e) :
    Calls Tryz.prog 113 #[.pointer (some ⟨R, 0, none⟩), .int .i64 most, .bool t] w fun e' w' => e' = .returned (.slice none 0 0) ∧ Kp [R] w w' ∧ RR w' base R A c l p e := by
  obtain ⟨c0, c1, c2, f1, f2⟩ := h.cells
  have hT := Lib.hid (xInt base R A c l p e w he h)
  have hb : (e != 0) = true := by simp [he]
  have hb2 : (e == 0) = false := by simp [he]
  clear h he
  go_enter Tryz.func113, Tryz.ntmps113
  go_wp2_with (go_at_call 53; refine hT.out.mono ?_; rintro e w2 ⟨rfl, hk, hR⟩; obtain ⟨d0, d1, d2, g1, g2⟩ := hR.cells; have HK := Lib.hid hk; have HR := Lib.hid hR; clear hk hR)
  go_ret
  exact ⟨rfl, HK.out, HR.out⟩
set_option maxRecDepth 100000 in
set_option maxHeartbeats 400000 in
theorem xText (most : Int) (he : e ≠ 0) (h : RR w base R A c l p e) :
    Calls Tryz.prog 68 #[.pointer (some ⟨R, 0, none⟩), .int .i64 most] w fun e' w' => e' = .returned (.string ⟨#[]⟩) ∧ Kp [R] w w' ∧ RR w' base R A c l p e := by
  have hT := Lib.hid (xBuf base R A c l p e w most true he h)
  clear h he
  go_enter Tryz.func68, Tryz.ntmps68
  go_wp2_with (go_at_call 113; refine hT.out.mono ?_; rintro e w2 ⟨rfl, hk, hR⟩; have hcv := run_string_of_bytes (P := Tryz.prog) (w := w2) (src := 25) (e := 5) Tryz.underlying25 Tryz.underlying5 (B := 0) (A := none) (n := 0) (l := []) (reads_zero _ _ _) (c := 0) 9 Tryz.underlying9; have HK := Lib.hid hk; have HR := Lib.hid hR; clear hk hR)
  go_ret
  exact ⟨rfl, HK.out, HR.out⟩
set_option maxRecDepth 100000 in
set_option maxHeartbeats 400000 in
theorem xCount (most least : Int) (he : e ≠ 0) (h : RR w base R A c l p e) :
    Calls Tryz.prog 115 #[.pointer (some ⟨R, 0, none⟩), .int .i64 most, .int .i64 least] w fun e' w' => e' = .returned (.int .i64 0) ∧ Kp [R] w w' ∧ RR w' base R A c l p e := by
  obtain ⟨c0, c1, c2, f1, f2⟩ := h.cells
  have hT := Lib.hid (xInt base R A c l p e w he h)
  have hb : (e != 0) = true := by simp [he]
  have hb2 : (e == 0) = false := by simp [he]
  clear h he
  go_enter Tryz.func115, Tryz.ntmps115
  go_wp2_with (go_at_call 53; refine hT.out.mono ?_; rintro e w2 ⟨rfl, hk, hR⟩; obtain ⟨d0, d1, d2, g1, g2⟩ := hR.cells; have HK := Lib.hid hk; have HR := Lib.hid hR; clear hk hR)
  go_ret
  exact ⟨rfl, HK.out, HR.out⟩

/-- a slice of bytes, nil or its own -/
def vOwnS (base : Nat) (x : List UInt8) (v : Value) (w : World) : Prop := ∃ A' c', v = .slice A' x.length c' ∧ w.ownsRow base 5 1 v x.length (bcells x)
theorem sLong (h : RR w base R A c l p e) : Calls Tryz.prog 54 #[.pointer (some ⟨R, 0, none⟩)] w (SE base R A c l vInt64 (stepS gLong 0 l (p, e)) w) := by
  by_cases he : e = 0
  · subst he; exact se_of (dLong base R A c l p w h) (fun _ => rfl)
  · exact se_dead he (xLong base R A c l p e w he h) (fun _ => rfl)
theorem sInt (h : RR w base R A c l p e) : Calls Tryz.prog 53 #[.pointer (some ⟨R, 0, none⟩)] w (SE base R A c l vInt32 (stepS gInt 0 l (p, e)) w) := by
  by_cases he : e = 0
  · subst he; exact se_of (dInt base R A c l p w h) (fun _ => rfl)
  · exact se_dead he (xInt base R A c l p e w he h) (fun _ => rfl)
theorem sBool (h : RR w base R A c l p e) : Calls Tryz.prog 158 #[.pointer (some ⟨R, 0, none⟩)] w (SE base R A c l vBool (stepS gBool false l (p, e)) w) := by
  by_cases he : e = 0
  · subst he; exact se_of (dBool base R A c l p w h) (fun _ => rfl)
  · exact se_dead he (xBool base R A c l p e w he h) (fun _ => rfl)
theorem sText (most : Int) (h : RR w base R A c l p e) (hbase : base ≤ w.heap.size) : Calls Tryz.prog 68 #[.pointer (some ⟨R, 0, none⟩), .int .i64 most] w (SE base R A c l vText (stepS (gText most) [] l (p, e)) w) := by
  by_cases he : e = 0
  · subst he; exact se_of (dText base R A c l p w most h hbase) (fun _ => rfl)
  · exact se_dead he (xText base R A c l p e w most he h) (fun _ => rfl)
theorem sCount (most least : Int) (h : RR w base R A c l p e) : Calls Tryz.prog 115 #[.pointer (some ⟨R, 0, none⟩), .int .i64 most, .int .i64 least] w (SE base R A c l vNat (stepS (gCount most least) 0 l (p, e)) w) := by
  by_cases he : e = 0
  · subst he; exact se_of (dCount base R A c l p w most least h) (fun _ => rfl)
  · exact se_dead he (xCount base R A c l p e w most least he h) (fun _ => rfl)
theorem sBuf (most : Int) (h : RR w base R A c l p e) (hbase : base ≤ w.heap.size) : Calls Tryz.prog 113 #[.pointer (some ⟨R, 0, none⟩), .int .i64 most, .bool false] w (SE base R A c l (vOwn w.heap.size) (stepS (gBuf most) [] l (p, e)) w) := by
  by_cases he : e = 0
  · subst he; exact se_of (dBuf base R A c l p w most h hbase) (fun w' => ⟨none, 0, rfl, World.ownsRow_nil _ _ _ _⟩)
  · exact se_dead he (xBuf base R A c l p e w most false he h) (fun w' => ⟨none, 0, rfl, World.ownsRow_nil _ _ _ _⟩)
end
end Go.Proofs.YtnbaajplelchjaaGreatDoor
