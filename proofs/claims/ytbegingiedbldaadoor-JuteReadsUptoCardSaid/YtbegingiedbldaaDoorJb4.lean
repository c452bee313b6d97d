/- What was asked and written is read back: plain. -/
import Derived.Test.YtbegingiedbldaaDoorJb1
namespace Go.Proofs.YtbegingiedbldaaDoor
open Go.RowKit

/-- the greatest bound that asking for a value comes to behind k texts of its list -/
def mostTo (v : Vl) : Nat → Nat
  | 0 => v.t.size
  | k + 1 => max (max (mostTo v k) (v.L.getD k ByteArray.empty).size) v.L.length
/-- the reading that is asked for a value -/
def askSt (v : Vl) : St := ⟨v.k, if v.k = 7 then 2147483647 else if v.k = 8 then (mostTo v v.L.length : Nat) else v.t.size, 0, 0⟩
def askV (v : Vl) : List St := if 1 ≤ v.k ∧ v.k ≤ 8 then [askSt v] else []
def askS (S : List Vl) : List St := S.flatMap askV
def askBad (v : Vl) : Prop := v.k = 7 ∧ wrap32 v.z < 0
/-- what a value should be read as -/
def plV (v : Vl) : Gt :=
  if v.k = 1 then ([if v.z = 0 then 0 else 1], []) else if v.k = 2 then ([v.z % 256], []) else if v.k = 3 then ([wrap32 v.z], []) else if v.k = 4 then ([v.z], []) else if v.k = 5 then ([], [v.t.data.toList]) else if v.k = 6 then ([], [v.t.data.toList]) else if v.k = 7 then ([wrap32 v.z], []) else if v.k = 8 then ([(v.n : Int)], v.L.map fun s => s.data.toList) else ([], [])
def plG (S : List Vl) : Gt := (S.flatMap fun v => (plV v).1, S.flatMap fun v => (plV v).2)
def plBad (v : Vl) : Prop := v.k = 6 ∧ Lib.validD v.t.data.toList = false ∨ v.k = 8 ∧ ∃ s ∈ v.L, Lib.validD s.data.toList = false
/-- sizes within an int32 -/
def VlFit (v : Vl) : Prop := v.L.length = v.n ∧ v.n ≤ 2147483647 ∧ v.t.size ≤ 2147483647 ∧ (∀ s ∈ v.L, s.size ≤ 2147483647) ∧ (Lit.int .i64 v.z).wf = true

theorem mostTo_mono (v : Vl) : ∀ (j k : Nat), j ≤ k → mostTo v j ≤ mostTo v k
  | j, 0, h => by
    obtain rfl : j = 0 := by omega
    exact Nat.le_refl _
  | j, k + 1, h => by
    rcases Nat.lt_or_ge j (k + 1) with h1 | h1
    · have := mostTo_mono v j k (by omega)
      simp only [mostTo]
      omega
    · obtain rfl : j = k + 1 := by omega
      exact Nat.le_refl _
theorem mostTo_text (v : Vl) (s : ByteArray) (hs : s ∈ v.L) : s.size ≤ mostTo v v.L.length := by
  obtain ⟨k, hk, rfl⟩ := List.getElem_of_mem hs
  refine Nat.le_trans ?_ (mostTo_mono v (k + 1) v.L.length hk)
  simp only [mostTo, List.getD_eq_getElem?_getD, List.getElem?_eq_getElem hk, Option.getD_some]
  omega
theorem mostTo_len (v : Vl) : v.L.length ≤ mostTo v v.L.length := by
  cases h : v.L.length with
  | zero => omega
  | succ k =>
    simp only [mostTo]
    omega
theorem mostTo_le (v : Vl) (m : Nat) (h0 : v.t.size ≤ m) (h1 : v.L.length ≤ m) (h2 : ∀ s ∈ v.L, s.size ≤ m) : ∀ k, mostTo v k ≤ m
  | 0 => h0
  | k + 1 => by
    have := mostTo_le v m h0 h1 h2 k
    simp only [mostTo]
    have h3 : (v.L.getD k ByteArray.empty).size ≤ m := by
      rw [List.getD_eq_getElem?_getD]
      rcases Nat.lt_or_ge k v.L.length with hk | hk
      · rw [List.getElem?_eq_getElem hk]
        exact h2 _ (List.getElem_mem hk)
      · rw [List.getElem?_eq_none hk]
        exact Nat.zero_le _
    omega

theorem text_atb {l : List UInt8} {p : Nat} {b : List UInt8} {most : Int} (h : Atb l p (bBuf b)) (hn : b.length ≤ 2147483647) (hm : (b.length : Int) ≤ most) (hv : Lib.validD b = true) : gText most l p = .inl (b, p + (bBuf b).length) := by
  unfold gText
  rw [buf_atb h hn hm]
  dsimp only
  rw [if_pos hv, bBuf_len, Nat.add_assoc]
theorem many_atb {l : List UInt8} {most : Int} : ∀ (L : List ByteArray) (p : Nat), Atb l p (bTexts L) → (∀ s ∈ L, s.size ≤ 2147483647 ∧ (s.size : Int) ≤ most ∧ Lib.validD s.data.toList = true) → gMany (gText most) L.length l p = .inl (L.map fun s => s.data.toList, p + (bTexts L).length)
  | [], p, _, _ => by simp [gMany, Rg.ret, bTexts]
  | s :: L, p, h, hs => by
    have h' : Atb l p (bBuf s.data.toList ++ bTexts L) := by simpa [bTexts] using h
    obtain ⟨h1, h2, h3⟩ := hs s (List.mem_cons_self ..)
    rw [bsize_eq] at h1 h2
    simp only [List.length_cons, gMany, Rg.bind]
    rw [text_atb h'.left h1 h2 h3]
    dsimp only
    unfold Rg.map
    rw [many_atb L _ h'.right (fun s hs' => hs s (List.mem_cons_of_mem _ hs'))]
    dsimp only
    rw [show (bTexts (s :: L)).length = (bBuf s.data.toList).length + (bTexts L).length by simp [bTexts], List.map_cons, Nat.add_assoc]

theorem step_atb {l : List UInt8} {p : Nat} {v : Vl} (h : Atb l p (bVl v)) (hf : VlFit v) (ha : ¬ askBad v) (hb : ¬ plBad v) (hk : 1 ≤ v.k ∧ v.k ≤ 8) : stepR (askSt v) l p = .inl (plV v, p + (bVl v).length) := by
  obtain ⟨f1, f2, f3, f4, f5⟩ := hf
  have hz : wrap64 v.z = v.z := by
    have := bounds_i64 f5
    unfold wrap64
    omega
  have hk8 : v.k = 1 ∨ v.k = 2 ∨ v.k = 3 ∨ v.k = 4 ∨ v.k = 5 ∨ v.k = 6 ∨ v.k = 7 ∨ v.k = 8 := by omega
  have hts : v.t.data.toList.length = v.t.size := (bsize_eq _).symm
  rcases hk8 with e | e | e | e | e | e | e | e
  · rw [show bVl v = bBool (v.z != 0) by simp [bVl, e]] at h ⊢
    simp only [stepR, askSt, e, if_true, plV]
    unfold Rg.map
    rw [bool_atb h]
    have : (bBool (v.z != 0)).length = 1 := rfl
    rw [this]
    by_cases h0 : v.z = 0 <;> simp [h0]
  · rw [show bVl v = bByte (v.z % 256) by simp [bVl, e]] at h ⊢
    simp [stepR, askSt, e, plV]
    unfold Rg.map
    rw [byte_atb h (by omega) (by omega)]
    have : (bByte (v.z % 256)).length = 1 := rfl
    rw [this]
    dsimp only
    rw [show (((v.z % 256).toNat : Nat) : Int) = v.z % 256 by omega]
  · rw [show bVl v = bInt v.z by simp [bVl, e]] at h ⊢
    simp [stepR, askSt, e, plV]
    unfold Rg.map
    rw [int_atb h, bInt_len]
  · rw [show bVl v = bLong v.z by simp [bVl, e]] at h ⊢
    simp [stepR, askSt, e, plV]
    unfold Rg.map
    rw [long_atb h, bLong_len, hz]
  · rw [show bVl v = bBuf v.t.data.toList by simp [bVl, e]] at h ⊢
    simp [stepR, askSt, e, plV]
    unfold Rg.map
    rw [buf_atb h (by omega) (by omega), bBuf_len, Nat.add_assoc]
  · rw [show bVl v = bBuf v.t.data.toList by simp [bVl, e]] at h ⊢
    simp [stepR, askSt, e, plV]
    unfold Rg.map
    rw [text_atb h (by omega) (by omega) (by
      rcases hv : Lib.validD v.t.data.toList
      · exact absurd (.inl ⟨e, hv⟩) hb
      · rfl)]
  · rw [show bVl v = bInt v.z by simp [bVl, e]] at h ⊢
    simp [stepR, askSt, e, plV]
    have hw : 0 ≤ wrap32 v.z := by
      by_cases h0 : wrap32 v.z < 0
      · exact absurd ⟨e, h0⟩ ha
      · omega
    have hwb := wrap32_bd v.z
    have hbz : bInt v.z = bInt ((wrap32 v.z).toNat : Nat) := bInt_mod _ _ (by unfold wrap32 at hw ⊢; omega)
    rw [hbz] at h ⊢
    unfold Rg.map gCount
    rw [size_atb h (by omega) (by omega)]
    dsimp only
    rw [if_neg (by omega), bInt_len]
    dsimp only
    rw [show (((wrap32 v.z).toNat : Nat) : Int) = wrap32 v.z by omega]
  · rw [show bVl v = bInt v.n ++ bTexts v.L by simp [bVl, e]] at h ⊢
    simp [stepR, askSt, e, plV]
    have hm := mostTo_len v
    have hml := mostTo_le v 2147483647 f3 (by omega) f4 v.L.length
    have h2 := h.right
    rw [bInt_len] at h2
    unfold Rg.map gGet Rg.bind gCount
    rw [size_atb h.left f2 (by omega)]
    dsimp only
    rw [if_neg (by omega)]
    dsimp only
    have h3 := many_atb v.L (p + 4) h2 (most := ((mostTo v v.L.length : Nat) : Int)) (fun s hs => ⟨f4 s hs, by have := mostTo_text v s hs; omega, by
      rcases hv : Lib.validD s.data.toList
      · exact absurd (.inr ⟨e, s, hs, hv⟩) hb
      · rfl⟩)
    rw [show gMany (gText ((mostTo v v.L.length : Nat) : Int)) v.n l (p + 4) = .inl (v.L.map fun s => s.data.toList, p + 4 + (bTexts v.L).length) by rw [← f1]; exact h3]
    simp [f1, bInt_len, Nat.add_assoc]

theorem play_atb {l : List UInt8} : ∀ (S : List Vl) (p : Nat), Atb l p (S.flatMap bVl) → (∀ v ∈ S, VlFit v ∧ ¬ askBad v ∧ ¬ plBad v) → play (askS S) l p = (plG S, .inl (p + (S.flatMap bVl).length))
  | [], p, _, _ => by simp [askS, play, plG]
  | v :: S, p, h, hv => by
    rw [List.flatMap_cons] at h
    have ih := play_atb S _ h.right (fun x hx => hv x (List.mem_cons_of_mem _ hx))
    obtain ⟨h1, h2, h3⟩ := hv v (List.mem_cons_self ..)
    have hl : (List.flatMap bVl (v :: S)).length = (bVl v).length + (S.flatMap bVl).length := by rw [List.flatMap_cons, List.length_append]
    rw [hl, ← Nat.add_assoc]
    by_cases hk : 1 ≤ v.k ∧ v.k ≤ 8
    · have e : askS (v :: S) = askSt v :: askS S := by simp [askS, askV, hk]
      rw [e]
      simp only [play]
      rw [step_atb h.left h1 h2 h3 hk]
      dsimp only
      rw [ih]
      simp [plG]
    · have e : askS (v :: S) = askS S := by simp [askS, askV, hk]
      have e2 : plV v = ([], []) := by
        unfold plV
        repeat rw [if_neg (by omega)]
      have e3 : bVl v = [] := by
        unfold bVl
        repeat rw [if_neg (by omega)]
      rw [e3, List.length_nil, Nat.add_zero] at ih ⊢
      rw [e, ih]
      simp [plG, e2]
end Go.Proofs.YtbegingiedbldaaDoor
