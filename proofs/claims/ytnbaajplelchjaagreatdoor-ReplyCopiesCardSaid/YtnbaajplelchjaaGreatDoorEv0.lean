/- An event's bytes, and a reading of them: plain. -/
import Derived.Test.YtnbaajplelchjaaGreatDoorAtb
import Derived.Test.YtnbaajplelchjaaGreatDoorEv1
set_option linter.unusedVariables false
set_option linter.unusedSimpArgs false
namespace Go.Proofs.YtnbaajplelchjaaGreatDoor
open Go.RowKit

/-- may it be: 0, or the error -/
def evE (k : Int) (p : ByteArray) : Int := if (1 ≤ k ∧ k ≤ 4) ∧ Lib.validD p.data.toList = true then (if 4096 < p.size then 3 else 0) else 1
theorem evE_eq (k : Int) (p : ByteArray) : evE k p = evX k (Lib.validD p.data.toList) p.size := rfl
theorem evB_len (k : Int) (p : List UInt8) (s : Int) : (evB k p s).length = 36 + p.length := by
  simp only [evB, List.length_append, bInt_len, bLong_len, bBuf_len]
  omega
/-- a value that must be that one -/
def gMust (b : Bool) : Rg Unit := gFail (if b = true then 0 else 22)
theorem gMust_yes {b : Bool} (h : b = true) (l : List UInt8) (p : Nat) : gMust b l p = .inl ((), p) := by
  unfold gMust gFail
  rw [if_pos h]
  rfl
theorem gMust_no {b : Bool} (h : b = false) (l : List UInt8) (p : Nat) : gMust b l p = .inr (22, p) := by
  subst h
  rfl
def gEv : Rg (Int × List UInt8 × Int) := gInt.bind fun a => (gMust (a == -1)).bind fun _ => gLong.bind fun b => (gMust (b == -1)).bind fun _ => gInt.bind fun c => (gMust (c == 0)).bind fun _ =>
  gInt.bind fun k => (gMust (decide (1 ≤ k) && decide (k ≤ 4))).bind fun _ => gInt.bind fun d => (gMust (d == 3)).bind fun _ => (gText 4096).bind fun p => gLong.map fun s => (k, p, s)
theorem bind_ev {α β : Type} {f : Rg α} {g : α → Rg β} {l : List UInt8} {p q : Nat} {x : α} (h : f l p = .inl (x, q)) : (f.bind g) l p = g x l q := by unfold Rg.bind; rw [h]
/-- what was written of an event that may be is read back -/
theorem ev_back {k : Int} {p : ByteArray} {s : Int} (h : evE k p = 0) (hs : wrap64 s = s) : gEv (evB k p.data.toList s) 0 = .inl ((k, p.data.toList, s), (evB k p.data.toList s).length) := by
  have hh : (1 ≤ k ∧ k ≤ 4) ∧ Lib.validD p.data.toList = true ∧ p.size ≤ 4096 := by
    unfold evE at h
    split at h
    · rename_i h1
      split at h
      · cases h
      · exact ⟨h1.1, h1.2, by omega⟩
    · cases h
  obtain ⟨⟨k1, k2⟩, hv, hp⟩ := hh
  have ep := bsize_eq p
  obtain ⟨b, hb⟩ : ∃ b, evB k p.data.toList s = b := ⟨_, rfl⟩
  have hl : b.length = 36 + p.data.toList.length := by rw [← hb, evB_len]
  have ha : Atb b 0 (evB k p.data.toList s) := by rw [hb]; exact Atb.all b
  rw [hb]
  unfold evB at ha
  have a7 := ha.right
  have a6 := ha.left.right
  have a5 := ha.left.left.right
  have a4 := ha.left.left.left.right
  have a3 := ha.left.left.left.left.right
  have a2 := ha.left.left.left.left.left.right
  have a1 := ha.left.left.left.left.left.left
  simp only [List.length_append, bBuf_len, bInt_len, bLong_len, Nat.zero_add, Nat.reduceAdd] at a2 a3 a4 a5 a6 a7
  have e1 := int_atb a1
  have e2 := long_atb a2
  have e3 := int_atb a3
  have e4 := int_atb a4
  have e5 := int_atb a5
  have e6 : gText 4096 b 24 = .inl (p.data.toList, 24 + 4 + p.data.toList.length) := by
    unfold gText
    rw [buf_atb a6 (by omega) (most := 4096) (by omega)]
    dsimp only
    rw [if_pos hv]
  have e7 := long_atb a7
  rw [show wrap32 (-1) = -1 by unfold wrap32; omega] at e1
  rw [show wrap64 (-1) = -1 by unfold wrap64; omega] at e2
  rw [show wrap32 0 = 0 by unfold wrap32; omega] at e3
  rw [show wrap32 k = k by unfold wrap32; omega] at e4
  rw [show wrap32 3 = 3 by unfold wrap32; omega] at e5
  rw [hs] at e7
  rw [Nat.zero_add] at e1
  rw [show 24 + (4 + p.data.toList.length) = 24 + 4 + p.data.toList.length by omega] at e7
  unfold gEv
  rw [bind_ev e1, bind_ev (gMust_yes (by decide) _ _), bind_ev e2, bind_ev (gMust_yes (by decide) _ _), bind_ev e3, bind_ev (gMust_yes (by decide) _ _), bind_ev e4, bind_ev (gMust_yes (by simp [k1, k2]) _ _), bind_ev e5, bind_ev (gMust_yes (by decide) _ _), bind_ev e6]
  unfold Rg.map
  rw [e7]
  dsimp only
  rw [hl, show 24 + 4 + p.data.toList.length + 8 = 36 + p.data.toList.length by omega]
/-- what a reading of bytes as an event comes to: the place and the error; or the event -/
def decEv (l : List UInt8) : (Int × Int) ⊕ (Int × List UInt8 × Int) := match gEv l 0 with
  | .inr (e, q) => .inl ((q : Int), e)
  | .inl (x, q) => if q < l.length then .inl ((q : Int), 21) else .inr x
theorem gMust_inl {b : Bool} {l : List UInt8} {p q : Nat} {u : Unit} (h : gMust b l p = .inl (u, q)) : b = true ∧ q = p := by
  cases b
  · rw [gMust_no rfl] at h; cases h
  · rw [gMust_yes rfl] at h
    injection h with h
    injection h with _ h
    exact ⟨rfl, h.symm⟩
/-- what was read is written as it was -/
theorem ev_forth {l : List UInt8} {k s : Int} {p : List UInt8} (h : decEv l = .inr (k, p, s)) : evB k p s = l ∧ evE k (bs p) = 0 := by
  unfold decEv at h
  split at h
  · cases h
  · rename_i y q hy
    split at h
    · cases h
    · rename_i hq
      injection h with h
      subst h
      obtain ⟨a, q1, h1, hy⟩ := bind_inl hy
      obtain ⟨_, r1, m1, hy⟩ := bind_inl hy
      obtain ⟨b, q2, h2, hy⟩ := bind_inl hy
      obtain ⟨_, r2, m2, hy⟩ := bind_inl hy
      obtain ⟨c, q3, h3, hy⟩ := bind_inl hy
      obtain ⟨_, r3, m3, hy⟩ := bind_inl hy
      obtain ⟨k', q4, h4, hy⟩ := bind_inl hy
      obtain ⟨_, r4, m4, hy⟩ := bind_inl hy
      obtain ⟨d, q5, h5, hy⟩ := bind_inl hy
      obtain ⟨_, r5, m5, hy⟩ := bind_inl hy
      obtain ⟨p', q6, h6, hy⟩ := bind_inl hy
      obtain ⟨s', h7, hz⟩ := map_inl hy
      injection hz with z1 hz
      injection hz with z2 z3
      subst z1 z2 z3
      obtain ⟨b1, rfl⟩ := gMust_inl m1
      obtain ⟨b2, rfl⟩ := gMust_inl m2
      obtain ⟨b3, rfl⟩ := gMust_inl m3
      obtain ⟨b4, rfl⟩ := gMust_inl m4
      obtain ⟨b5, rfl⟩ := gMust_inl m5
      obtain rfl : a = -1 := by simpa using b1
      obtain rfl : b = -1 := by simpa using b2
      obtain rfl : c = 0 := by simpa using b3
      obtain rfl : d = 3 := by simpa using b5
      have b4' : 1 ≤ k' ∧ k' ≤ 4 := by simpa using b4
      have k1 := (((((Bk.app (int_bk h1) (long_bk h2)).app (int_bk h3)).app (int_bk h4)).app (int_bk h5)).app (text_back h6)).app (long_bk h7)
      obtain ⟨g1, g2, g3⟩ := k1
      have hb := gBuf_inl (gText_inl h6).1
      have hm : p'.length ≤ 4096 := by
        have h8 := (gText_inl h6).1
        unfold gBuf at h8
        split at h8
        · rename_i n q' hs
          obtain ⟨_, _, hn, _, _⟩ := gSize_inl hs
          split at h8
          · simp only [Sum.inl.injEq, Prod.mk.injEq] at h8
            obtain ⟨rfl, _⟩ := h8
            rw [List.length_take]
            omega
          · cases h8
        · cases h8
      refine ⟨?_, ?_⟩
      · show evB _ _ _ = l
        unfold evB
        rw [g1, show q - 0 = l.length by omega]
        simp
      · unfold evE
        have hv : Lib.validD (bs p').data.toList = true := by
          show Lib.validD p'.toArray.toList = true
          rw [List.toList_toArray]
          exact (gText_inl h6).2
        rw [if_pos ⟨b4', hv⟩, if_neg]
        show ¬ 4096 < (bs p').size
        rw [bsize_eq]
        show ¬ 4096 < p'.toArray.toList.length
        rw [List.toList_toArray]
        omega
end Go.Proofs.YtnbaajplelchjaaGreatDoor
