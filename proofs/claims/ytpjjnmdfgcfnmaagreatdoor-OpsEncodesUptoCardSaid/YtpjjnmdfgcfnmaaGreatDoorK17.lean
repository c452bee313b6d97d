/- Part 17 of a proof: lemmas and walks. -/
import Derived.Test.YtpjjnmdfgcfnmaaGreatDoorK9
import Derived.Test.YtpjjnmdfgcfnmaaGreatDoorK16
set_option linter.unusedVariables false
set_option linter.unusedSimpArgs false
set_option maxRecDepth 100000
set_option maxHeartbeats 16000000
namespace Go.Proofs.YtpjjnmdfgcfnmaaGreatDoor
open Go.RowKit

def mN (b : Nat) : Int := if b < 128 then 0 else if 194 ≤ b ∧ b ≤ 223 then 1 else if b = 224 then 2 else if b = 237 then 2 else if 225 ≤ b ∧ b ≤ 239 then 2 else if b = 240 then 3 else if b = 244 then 3 else if 241 ≤ b ∧ b ≤ 243 then 3 else -1
def mLo (b : Nat) : Int := if b < 128 then 0 else if 194 ≤ b ∧ b ≤ 223 then 128 else if b = 224 then 160 else if b = 237 then 128 else if 225 ≤ b ∧ b ≤ 239 then 128 else if b = 240 then 144 else if b = 244 then 128 else if 241 ≤ b ∧ b ≤ 243 then 128 else 0
def mHi (b : Nat) : Int := if b < 128 then 0 else if 194 ≤ b ∧ b ≤ 223 then 191 else if b = 224 then 191 else if b = 237 then 159 else if 225 ≤ b ∧ b ≤ 239 then 191 else if b = 240 then 191 else if b = 244 then 143 else if 241 ≤ b ∧ b ≤ 243 then 191 else 0

theorem mcls (b : Nat) : (b < 128 ∧ mN b = 0 ∧ mLo b = 0 ∧ mHi b = 0) ∨ (194 ≤ b ∧ b ≤ 223 ∧ mN b = 1 ∧ mLo b = 128 ∧ mHi b = 191) ∨ (b = 224 ∧ mN b = 2 ∧ mLo b = 160 ∧ mHi b = 191) ∨ (b = 237 ∧ mN b = 2 ∧ mLo b = 128 ∧ mHi b = 159) ∨ ((225 ≤ b ∧ b ≤ 236 ∨ 238 ≤ b ∧ b ≤ 239) ∧ mN b = 2 ∧ mLo b = 128 ∧ mHi b = 191) ∨ (b = 240 ∧ mN b = 3 ∧ mLo b = 144 ∧ mHi b = 191) ∨ (b = 244 ∧ mN b = 3 ∧ mLo b = 128 ∧ mHi b = 143) ∨ (241 ≤ b ∧ b ≤ 243 ∧ mN b = 3 ∧ mLo b = 128 ∧ mHi b = 191) ∨ ((128 ≤ b ∧ b < 194 ∨ 244 < b) ∧ mN b = -1 ∧ mLo b = 0 ∧ mHi b = 0) := by
 by_cases c0 : b < 128
 · exact .inl ⟨c0, by unfold mN; rw [if_pos c0], by unfold mLo; rw [if_pos c0], by unfold mHi; rw [if_pos c0]⟩
 ·
  by_cases c1 : 194 ≤ b ∧ b ≤ 223
  · exact .inr (.inl ⟨c1.1, c1.2, by unfold mN; rw [if_neg c0, if_pos c1], by unfold mLo; rw [if_neg c0, if_pos c1], by unfold mHi; rw [if_neg c0, if_pos c1]⟩)
  ·
   by_cases c2 : b = 224
   · exact .inr (.inr (.inl ⟨c2, by unfold mN; rw [if_neg c0, if_neg c1, if_pos c2], by unfold mLo; rw [if_neg c0, if_neg c1, if_pos c2], by unfold mHi; rw [if_neg c0, if_neg c1, if_pos c2]⟩))
   ·
    by_cases c3 : b = 237
    · exact .inr (.inr (.inr (.inl ⟨c3, by unfold mN; rw [if_neg c0, if_neg c1, if_neg c2, if_pos c3], by unfold mLo; rw [if_neg c0, if_neg c1, if_neg c2, if_pos c3], by unfold mHi; rw [if_neg c0, if_neg c1, if_neg c2, if_pos c3]⟩)))
    ·
     by_cases c4 : 225 ≤ b ∧ b ≤ 239
     · exact .inr (.inr (.inr (.inr (.inl ⟨by omega, by unfold mN; rw [if_neg c0, if_neg c1, if_neg c2, if_neg c3, if_pos c4], by unfold mLo; rw [if_neg c0, if_neg c1, if_neg c2, if_neg c3, if_pos c4], by unfold mHi; rw [if_neg c0, if_neg c1, if_neg c2, if_neg c3, if_pos c4]⟩))))
     ·
      by_cases c5 : b = 240
      · exact .inr (.inr (.inr (.inr (.inr (.inl ⟨c5, by unfold mN; rw [if_neg c0, if_neg c1, if_neg c2, if_neg c3, if_neg c4, if_pos c5], by unfold mLo; rw [if_neg c0, if_neg c1, if_neg c2, if_neg c3, if_neg c4, if_pos c5], by unfold mHi; rw [if_neg c0, if_neg c1, if_neg c2, if_neg c3, if_neg c4, if_pos c5]⟩)))))
      ·
       by_cases c6 : b = 244
       · exact .inr (.inr (.inr (.inr (.inr (.inr (.inl ⟨c6, by unfold mN; rw [if_neg c0, if_neg c1, if_neg c2, if_neg c3, if_neg c4, if_neg c5, if_pos c6], by unfold mLo; rw [if_neg c0, if_neg c1, if_neg c2, if_neg c3, if_neg c4, if_neg c5, if_pos c6], by unfold mHi; rw [if_neg c0, if_neg c1, if_neg c2, if_neg c3, if_neg c4, if_neg c5, if_pos c6]⟩))))))
       ·
        by_cases c7 : 241 ≤ b ∧ b ≤ 243
        · exact .inr (.inr (.inr (.inr (.inr (.inr (.inr (.inl ⟨c7.1, c7.2, by unfold mN; rw [if_neg c0, if_neg c1, if_neg c2, if_neg c3, if_neg c4, if_neg c5, if_neg c6, if_pos c7], by unfold mLo; rw [if_neg c0, if_neg c1, if_neg c2, if_neg c3, if_neg c4, if_neg c5, if_neg c6, if_pos c7], by unfold mHi; rw [if_neg c0, if_neg c1, if_neg c2, if_neg c3, if_neg c4, if_neg c5, if_neg c6, if_pos c7]⟩)))))))
        ·
         exact .inr (.inr (.inr (.inr (.inr (.inr (.inr (.inr (⟨by omega, by unfold mN; rw [if_neg c0, if_neg c1, if_neg c2, if_neg c3, if_neg c4, if_neg c5, if_neg c6, if_neg c7], by unfold mLo; rw [if_neg c0, if_neg c1, if_neg c2, if_neg c3, if_neg c4, if_neg c5, if_neg c6, if_neg c7], by unfold mHi; rw [if_neg c0, if_neg c1, if_neg c2, if_neg c3, if_neg c4, if_neg c5, if_neg c6, if_neg c7]⟩))))))))

def inR (b k x : Nat) : Prop := if k = 1 then mLo b ≤ x ∧ (x : Int) ≤ mHi b else 128 ≤ x ∧ x ≤ 191

theorem lead_law (l : List UInt8) (hne : l ≠ []) (h0 : 128 ≤ (l.getD 0 0).toNat) :
 (mN (l.getD 0 0).toNat = -1 → Lib.validD l = false) ∧
 (0 < mN (l.getD 0 0).toNat → (l.length : Int) ≤ mN (l.getD 0 0).toNat → Lib.validD l = false) ∧
 (∀ k : Nat, 1 ≤ k → (k : Int) ≤ mN (l.getD 0 0).toNat → mN (l.getD 0 0).toNat < l.length → ¬ inR (l.getD 0 0).toNat k (l.getD k 0).toNat → Lib.validD l = false) ∧
 (0 < mN (l.getD 0 0).toNat → mN (l.getD 0 0).toNat < l.length → (∀ k : Nat, 1 ≤ k → (k : Int) ≤ mN (l.getD 0 0).toNat → inR (l.getD 0 0).toNat k (l.getD k 0).toNat) → Lib.validD l = Lib.validD (l.drop ((mN (l.getD 0 0).toNat).toNat + 1))) := by
 have hv := Lib.validD_lead l hne h0
 have hb := (l.getD 0 0).toNat_lt
 have hk : ∀ k : Nat, 1 ≤ k → (k : Int) ≤ mN (l.getD 0 0).toNat → k = 1 ∨ k = 2 ∨ k = 3 := fun k h1 h2 => by
  rcases mcls (l.getD 0 0).toNat with h | h | h | h | h | h | h | h | h <;> omega
 generalize (l.getD 0 0).toNat = b0 at *
 generalize e1 : (l.getD 1 0).toNat = b1 at *
 generalize e2 : (l.getD 2 0).toNat = b2 at *
 generalize e3 : (l.getD 3 0).toNat = b3 at *
 have main : ∀ (f : Nat), Lib.firstT b0 = f → ∀ (n : Nat), mN b0 = n → 1 ≤ n → n ≤ 3 → f % 8 = n + 1 → mLo b0 = Lib.accLo (f / 16) → mHi b0 = Lib.accHi (f / 16) →
  (mN b0 = -1 → Lib.validD l = false) ∧
  (0 < mN b0 → (l.length : Int) ≤ mN b0 → Lib.validD l = false) ∧
  (∀ k : Nat, 1 ≤ k → (k : Int) ≤ mN b0 → mN b0 < l.length → ¬ inR b0 k (l.getD k 0).toNat → Lib.validD l = false) ∧
  (0 < mN b0 → mN b0 < l.length → (∀ k : Nat, 1 ≤ k → (k : Int) ≤ mN b0 → inR b0 k (l.getD k 0).toNat) → Lib.validD l = Lib.validD (l.drop ((mN b0).toNat + 1))) := by
  intro f hf n hn hn1 hn3 hsz hlo hhi
  rw [hf, hsz, ← Int.toNat_natCast (Lib.accLo (f / 16)), ← hlo, ← Int.toNat_natCast (Lib.accHi (f / 16)), ← hhi] at hv
  have hlo0 : 0 ≤ mLo b0 := by omega
  have hhi0 : 0 ≤ mHi b0 := by omega
  have bad : (l.length ≤ n ∨ b1 < (mLo b0).toNat ∨ (mHi b0).toNat < b1 ∨ 2 ≤ n ∧ (b2 < 128 ∨ 191 < b2) ∨ 3 ≤ n ∧ (b3 < 128 ∨ 191 < b3)) → Lib.validD l = false := by
   intro h
   rw [hv]
   have : Lib.checkN l.length b1 b2 b3 (n + 1) (mLo b0).toNat (mHi b0).toNat = none := by
    unfold Lib.checkN
    have hn' : n = 1 ∨ n = 2 ∨ n = 3 := by omega
    rcases hn' with rfl | rfl | rfl
    · rw [if_pos rfl, if_pos (by omega)]
    · rw [if_neg (by omega), if_pos rfl, if_pos (by omega)]
    · rw [if_neg (by omega), if_neg (by omega), if_pos rfl, if_pos (by omega)]
   rw [this]
  have good : ¬ (l.length ≤ n ∨ b1 < (mLo b0).toNat ∨ (mHi b0).toNat < b1 ∨ 2 ≤ n ∧ (b2 < 128 ∨ 191 < b2) ∨ 3 ≤ n ∧ (b3 < 128 ∨ 191 < b3)) → Lib.validD l = Lib.validD (l.drop (n + 1)) := by
   intro h
   rw [hv]
   have : Lib.checkN l.length b1 b2 b3 (n + 1) (mLo b0).toNat (mHi b0).toNat = some (n + 1) := by
    unfold Lib.checkN
    have hn' : n = 1 ∨ n = 2 ∨ n = 3 := by omega
    rcases hn' with rfl | rfl | rfl
    · rw [if_pos rfl, if_neg (by omega)]
    · rw [if_neg (by omega), if_pos rfl, if_neg (by omega)]
    · rw [if_neg (by omega), if_neg (by omega), if_pos rfl, if_neg (by omega)]
   rw [this]
  refine ⟨fun h => by omega, fun _ h => bad (.inl (by omega)), fun k h1 h2 h3 h4 => ?_, fun _ h2 h3 => ?_⟩
  · have hk' := hk k h1 h2
    rcases hk' with rfl | rfl | rfl
    · rw [e1] at h4
      simp only [inR, if_true] at h4
      exact bad (by omega)
    · rw [e2] at h4
      unfold inR at h4
      rw [if_neg (by omega)] at h4
      exact bad (by omega)
    · rw [e3] at h4
      unfold inR at h4
      rw [if_neg (by omega)] at h4
      exact bad (by omega)
  · rw [good, hn, Int.toNat_natCast]
    have g1 := h3 1 (by omega) (by omega)
    rw [e1] at g1
    simp only [inR, if_true] at g1
    have g2 : 2 ≤ n → 128 ≤ b2 ∧ b2 ≤ 191 := fun h => by
     have := h3 2 (by omega) (by omega)
     rw [e2] at this
     unfold inR at this
     rw [if_neg (by omega)] at this
     exact this
    have g3 : 3 ≤ n → 128 ≤ b3 ∧ b3 ≤ 191 := fun h => by
     have := h3 3 (by omega) (by omega)
     rw [e3] at this
     unfold inR at this
     rw [if_neg (by omega)] at this
     exact this
    omega
 rcases mcls b0 with h | ⟨h1, h2, h3, h4, h5⟩ | ⟨h1, h3, h4, h5⟩ | ⟨h1, h3, h4, h5⟩ | ⟨h1, h3, h4, h5⟩ | ⟨h1, h3, h4, h5⟩ | ⟨h1, h3, h4, h5⟩ | ⟨h1, h2, h3, h4, h5⟩ | ⟨h1, h3, h4, h5⟩
 · omega
 · exact main 2 (by unfold Lib.firstT; rw [if_neg (by omega), if_neg (by omega), if_pos (by omega)]) 1 h3 (by omega) (by omega) rfl h4 h5
 · exact main 19 (by unfold Lib.firstT; rw [if_neg (by omega), if_neg (by omega), if_neg (by omega), if_pos (by omega)]) 2 h3 (by omega) (by omega) rfl h4 h5
 · exact main 35 (by unfold Lib.firstT; rw [if_neg (by omega), if_neg (by omega), if_neg (by omega), if_neg (by omega), if_neg (by omega), if_pos (by omega)]) 2 h3 (by omega) (by omega) rfl h4 h5
 · have hf : Lib.firstT b0 = 3 := by
    rcases h1 with h1 | h1
    · unfold Lib.firstT; rw [if_neg (by omega), if_neg (by omega), if_neg (by omega), if_neg (by omega), if_pos (by omega)]
    · unfold Lib.firstT; rw [if_neg (by omega), if_neg (by omega), if_neg (by omega), if_neg (by omega), if_neg (by omega), if_neg (by omega), if_pos (by omega)]
   exact main 3 hf 2 h3 (by omega) (by omega) rfl h4 h5
 · exact main 52 (by unfold Lib.firstT; rw [if_neg (by omega), if_neg (by omega), if_neg (by omega), if_neg (by omega), if_neg (by omega), if_neg (by omega), if_neg (by omega), if_pos (by omega)]) 3 h3 (by omega) (by omega) rfl h4 h5
 · exact main 68 (by unfold Lib.firstT; rw [if_neg (by omega), if_neg (by omega), if_neg (by omega), if_neg (by omega), if_neg (by omega), if_neg (by omega), if_neg (by omega), if_neg (by omega), if_neg (by omega), if_pos (by omega)]) 3 h3 (by omega) (by omega) rfl h4 h5
 · exact main 4 (by unfold Lib.firstT; rw [if_neg (by omega), if_neg (by omega), if_neg (by omega), if_neg (by omega), if_neg (by omega), if_neg (by omega), if_neg (by omega), if_neg (by omega), if_pos (by omega)]) 3 h3 (by omega) (by omega) rfl h4 h5
 · have hf : Lib.firstT b0 = 241 := by
    rcases h1 with h1 | h1
    · unfold Lib.firstT; rw [if_neg (by omega), if_pos (by omega)]
    · unfold Lib.firstT; rw [if_neg (by omega), if_neg (by omega), if_neg (by omega), if_neg (by omega), if_neg (by omega), if_neg (by omega), if_neg (by omega), if_neg (by omega), if_neg (by omega), if_neg (by omega)]
   rw [hf] at hv
   have hfalse : Lib.validD l = false := by
    rw [hv]
    rfl
   exact ⟨fun _ => hfalse, fun _ _ => hfalse, fun _ _ _ _ _ => hfalse, fun h => by omega⟩

theorem more_any (b : Nat) (hb : b < 256) (w : World) :
 Calls Tryz.prog 135 #[.int .u8 b] w fun e w' => e = .returned (.tuple #[.int .i64 (mN b), .int .u8 (mLo b), .int .u8 (mHi b)]) ∧ w = w' := by
 rcases mcls b with ⟨h1, h3, h4, h5⟩ | ⟨h1, h2, h3, h4, h5⟩ | ⟨h1, h3, h4, h5⟩ | ⟨h1, h3, h4, h5⟩ | ⟨h1, h3, h4, h5⟩ | ⟨h1, h3, h4, h5⟩ | ⟨h1, h3, h4, h5⟩ | ⟨h1, h2, h3, h4, h5⟩ | ⟨h1, h3, h4, h5⟩
 all_goals rw [h3, h4, h5]; clear h3 h4 h5
 · have i1 : (b : Int) < 128 := by omega
   go_enter Tryz.func135, Tryz.ntmps135
   go_wp2
   go_ret3
   exact ⟨rfl, rfl⟩
 · have i1 : ¬ (b : Int) < 128 := by omega
   have i2 : (194 : Int) ≤ b := by omega
   have i3 : (b : Int) ≤ 223 := by omega
   go_enter Tryz.func135, Tryz.ntmps135
   go_wp2
   go_ret3
   exact ⟨rfl, rfl⟩
 · subst h1
   go_enter Tryz.func135, Tryz.ntmps135
   go_wp2
   go_ret3
   exact ⟨rfl, rfl⟩
 · subst h1
   go_enter Tryz.func135, Tryz.ntmps135
   go_wp2
   go_ret3
   exact ⟨rfl, rfl⟩
 · have i1 : ¬ (b : Int) < 128 := by omega
   have i2 : (194 : Int) ≤ b := by omega
   have i3 : ¬ (b : Int) ≤ 223 := by omega
   have i4 : ((b : Int) == 224) = false := by simp; omega
   have i5 : ((b : Int) == 237) = false := by simp; omega
   have i6 : (225 : Int) ≤ b := by omega
   have i7 : (b : Int) ≤ 239 := by omega
   clear h1
   go_enter Tryz.func135, Tryz.ntmps135
   go_wp2
   go_ret3
   exact ⟨rfl, rfl⟩
 · subst h1
   go_enter Tryz.func135, Tryz.ntmps135
   go_wp2
   go_ret3
   exact ⟨rfl, rfl⟩
 · subst h1
   go_enter Tryz.func135, Tryz.ntmps135
   go_wp2
   go_ret3
   exact ⟨rfl, rfl⟩
 · have i1 : ¬ (b : Int) < 128 := by omega
   have i2 : (194 : Int) ≤ b := by omega
   have i3 : ¬ (b : Int) ≤ 223 := by omega
   have i4 : ((b : Int) == 224) = false := by simp; omega
   have i5 : ((b : Int) == 237) = false := by simp; omega
   have i6 : (225 : Int) ≤ b := by omega
   have i7 : ¬ (b : Int) ≤ 239 := by omega
   have i8 : ((b : Int) == 240) = false := by simp; omega
   have i9 : ((b : Int) == 244) = false := by simp; omega
   have i10 : (241 : Int) ≤ b := by omega
   have i11 : (b : Int) ≤ 243 := by omega
   clear h1 h2
   go_enter Tryz.func135, Tryz.ntmps135
   go_wp2
   go_ret3
   exact ⟨rfl, rfl⟩
 · rcases h1 with ⟨h1, h2⟩ | h1
   · have i1 : ¬ (b : Int) < 128 := by omega
     have i2 : ¬ (194 : Int) ≤ b := by omega
     have i4 : ((b : Int) == 224) = false := by simp; omega
     have i5 : ((b : Int) == 237) = false := by simp; omega
     have i6 : ¬ (225 : Int) ≤ b := by omega
     have i8 : ((b : Int) == 240) = false := by simp; omega
     have i9 : ((b : Int) == 244) = false := by simp; omega
     have i10 : ¬ (241 : Int) ≤ b := by omega
     clear h1 h2
     go_enter Tryz.func135, Tryz.ntmps135
     go_wp2
     go_ret3
     exact ⟨rfl, rfl⟩
   · have i1 : ¬ (b : Int) < 128 := by omega
     have i2 : (194 : Int) ≤ b := by omega
     have i3 : ¬ (b : Int) ≤ 223 := by omega
     have i4 : ((b : Int) == 224) = false := by simp; omega
     have i5 : ((b : Int) == 237) = false := by simp; omega
     have i6 : (225 : Int) ≤ b := by omega
     have i7 : ¬ (b : Int) ≤ 239 := by omega
     have i8 : ((b : Int) == 240) = false := by simp; omega
     have i9 : ((b : Int) == 244) = false := by simp; omega
     have i10 : (241 : Int) ≤ b := by omega
     have i11 : ¬ (b : Int) ≤ 243 := by omega
     clear h1
     go_enter Tryz.func135, Tryz.ntmps135
     go_wp2
     go_ret3
     exact ⟨rfl, rfl⟩

theorem lead_at (s : ByteArray) (i : Nat) (hi : i < s.size) : ∀ b : Nat, (s[i]'hi).toNat = b →
 (b < 128 → Lib.validD (s.data.toList.drop i) = Lib.validD (s.data.toList.drop (i + 1))) ∧
 (mN b = -1 → Lib.validD (s.data.toList.drop i) = false) ∧
 (0 < mN b → (s.size : Int) ≤ i + mN b → Lib.validD (s.data.toList.drop i) = false) ∧
 (∀ k : Nat, 1 ≤ k → (k : Int) ≤ mN b → ∀ hk : i + k < s.size, i + mN b < s.size → ¬ inR b k (s[i + k]'hk).toNat → Lib.validD (s.data.toList.drop i) = false) ∧
 (0 < mN b → i + mN b < s.size → (∀ k : Nat, 1 ≤ k → (k : Int) ≤ mN b → ∀ hk : i + k < s.size, inR b k (s[i + k]'hk).toNat) → Lib.validD (s.data.toList.drop i) = Lib.validD (s.data.toList.drop (i + 1 + (mN b).toNat))) := by
 intro b hb
 have hsz := bsize_eq s
 have hget : ∀ k, ∀ hk : i + k < s.size, ((s.data.toList.drop i).getD k 0).toNat = (s[i + k]'hk).toNat := by
  intro k hk
  rw [List.getD_eq_getElem?_getD, List.getElem?_drop, List.getElem?_eq_getElem (by omega), Option.getD_some]
  rfl
 have hne : s.data.toList.drop i ≠ [] := by
  intro h
  have := congrArg List.length h
  rw [List.length_drop, zK] at this
  omega
 have h0 : ((s.data.toList.drop i).getD 0 0).toNat = b := by rw [hget 0 (by omega)]; exact hb
 have hlen : (s.data.toList.drop i).length = s.size - i := by rw [List.length_drop]; omega
 by_cases hlt : b < 128
 · have hn : mN b = 0 := by unfold mN; rw [if_pos hlt]
   refine ⟨fun _ => ?_, fun h => by omega, fun h => by omega, fun k h1 h2 => by omega, fun h => by omega⟩
   have := Lib.validD_ascii 1 (s.data.toList.drop i) (fun c hc => by
    obtain ⟨x, r, hx⟩ : ∃ x r, s.data.toList.drop i = x :: r := by
     cases hd : s.data.toList.drop i with
     | nil => exact absurd hd hne
     | cons x r => exact ⟨x, r, rfl⟩
    rw [hx] at hc h0
    simp at hc h0
    rw [hc]
    omega)
   rw [this, List.drop_drop]
 · have L := lead_law (s.data.toList.drop i) hne (by rw [h0]; omega)
   rw [h0, hlen] at L
   obtain ⟨L1, L2, L3, L4⟩ := L
   refine ⟨fun h => absurd h hlt, L1, fun h1 h2 => L2 h1 (by omega), fun k h1 h2 hk h3 h4 => L3 k h1 h2 (by omega) (by rw [hget k hk]; exact h4), fun h1 h2 h3 => ?_⟩
   have := L4 h1 (by omega) (fun k k1 k2 => by rw [hget k (by omega)]; exact h3 k k1 k2 (by omega))
   rw [this, List.drop_drop]
   congr 2
   omega

def Rng (b j : Nat) (lo hi : Int) : Prop := (j = 1 ∧ lo = mLo b ∧ hi = mHi b) ∨ (1 < j ∧ lo = 128 ∧ hi = 191)
theorem Rng.bd {b j : Nat} {lo hi : Int} (h : Rng b j lo hi) : 0 ≤ lo ∧ lo ≤ 255 ∧ 0 ≤ hi ∧ hi ≤ 255 := by
 rcases h with ⟨_, rfl, rfl⟩ | ⟨_, rfl, rfl⟩
 · rcases mcls b with h | h | h | h | h | h | h | h | h <;> omega
 · omega
theorem Rng.iff {b j x : Nat} {lo hi : Int} (h : Rng b j lo hi) : inR b j x ↔ lo ≤ x ∧ (x : Int) ≤ hi := by
 unfold inR
 rcases h with ⟨rfl, rfl, rfl⟩ | ⟨hj, rfl, rfl⟩
 · rw [if_pos rfl]
 · rw [if_neg (by omega)]
   omega

theorem utf8_any (s : ByteArray) (w : World) (hs : s.size ≤ 4611686018427387904) :
 Calls Tryz.prog 115 #[.string s] w fun e w' => e = .returned (.bool (Lib.validD s.data.toList)) ∧ w = w' := by
 obtain ⟨V, hV⟩ : ∃ V, Hid (V = Lib.validD s.data.toList) := ⟨_, rfl⟩
 rw [← hV.out]
 go_enter Tryz.func115, Tryz.ntmps115
 go_wp2
 go_loop [3] (fun i => ∃ q : Nat, q ≤ s.size ∧ i = .int .i64 q ∧ Hid (Lib.validD (s.data.toList.drop q) = V)) (fun i => s.size - (intOf i).toNat)
 case atStart => exact ⟨0, Nat.zero_le _, rfl, by unfold Hid; rw [List.drop_zero]; exact hV.out.symm⟩
 case round =>
  obtain ⟨q, hq, rfl, hvd⟩ := hrel
  by_cases hlt : q < s.size
  · obtain ⟨b, hb⟩ : ∃ b, b = (s[q]'hlt).toNat := ⟨_, rfl⟩
    have hb256 : b < 256 := by rw [hb]; exact UInt8.toNat_lt _
    have LAW := Hi (lead_at s q hlt b hb.symm)
    have HB := Hi hb.symm
    have hm := mcls b
    have HM := Hi (more_any b hb256 w)
    clear hb
    by_cases h1 : b < 128
    · have hn : mN b = 0 := by omega
      have HM' := HM.out
      rw [hn] at HM'
      have HMM := Hi HM'
      have HL := Hi (LAW.out.1 h1)
      clear hn HM' hm h1
      go_wp2_with (go_at_call 135; rw [HB.out]; refine (HMM.out).mono ?_; rintro e w2 ⟨rfl, rfl⟩)
      go_loop [7] (fun k => k = .int .i64 1) (fun _ => 0)
      case atStart => rfl
      case round =>
       obtain rfl := hrel
       go_wp2
       go_round
       case rel => exact ⟨q + 1, by omega, by go_num, HL.out.symm.trans hvd.out⟩
       case measure => simp [intOf]; omega
    · by_cases h2 : mN b = -1
      · have hVf : V = false := by rw [← hvd.out]; exact LAW.out.2.1 h2
        have HM' := HM.out
        rw [h2] at HM'
        have HMM := Hi HM'
        subst hVf
        clear h2 HM' hm h1
        go_wp2_with (go_at_call 135; rw [HB.out]; refine (HMM.out).mono ?_; rintro e w2 ⟨rfl, rfl⟩)
        go_ret
        exact ⟨rfl, rfl⟩
      · obtain ⟨n, hn, hn1, hn3⟩ : ∃ n : Nat, mN b = n ∧ 1 ≤ n ∧ n ≤ 3 := ⟨(mN b).toNat, by omega, by omega, by omega⟩
        have HM' := HM.out
        rw [hn] at HM'
        have HMM := Hi HM'
        obtain ⟨lo0, hlo⟩ : ∃ lo0, lo0 = mLo b := ⟨_, rfl⟩
        obtain ⟨hi0, hhi⟩ : ∃ hi0, hi0 = mHi b := ⟨_, rfl⟩
        rw [← hlo, ← hhi] at HMM
        have HR1 : Hid (Rng b 1 lo0 hi0) := .inl ⟨rfl, hlo, hhi⟩
        have HN := Hi hn
        clear hn HM' hm h1 h2 HM hlo hhi
        by_cases hsz : s.size ≤ q + n
        · have hVf : V = false := by rw [← hvd.out]; exact LAW.out.2.2.1 (by rw [HN.out]; omega) (by rw [HN.out]; omega)
          subst hVf
          have hg : ¬ ((n : Int) < 0) := by omega
          have hg1 : (s.size : Int) ≤ q + n := by omega
          have hg2 : (0 : Int) < n := by omega
          go_wp2_with (go_at_call 135; rw [HB.out]; refine (HMM.out).mono ?_; rintro e w2 ⟨rfl, rfl⟩)
          go_ret
          exact ⟨rfl, rfl⟩
        · have hg : ¬ ((n : Int) < 0) := by omega
          have hg1 : ¬ ((s.size : Int) ≤ q + n) := by omega
          have hg2 : (0 : Int) < n := by omega
          go_wp2_with (go_at_call 135; rw [HB.out]; refine (HMM.out).mono ?_; rintro e w2 ⟨rfl, rfl⟩)
          go_loop [5, 6, 7] (fun lo hi k => ∃ (j : Nat) (l0 h0 : Int), 1 ≤ j ∧ j ≤ n + 1 ∧ k = .int .i64 j ∧ lo = .int .u8 l0 ∧ hi = .int .u8 h0 ∧ Hid (Rng b j l0 h0) ∧ Hid (∀ x : Nat, 1 ≤ x → x < j → ∀ hx : q + x < s.size, inR b x (s[q + x]'hx).toNat)) (fun _ _ k => n + 1 - (intOf k).toNat)
          case atStart => exact ⟨1, _, _, Nat.le_refl _, by omega, rfl, rfl, rfl, HR1.out, fun x h1 h2 => by omega⟩
          case round =>
           obtain ⟨j, l0, h0, hj1, hj2, rfl, rfl, rfl, HR, HA⟩ := hrel
           have hbd := HR.out.bd
           by_cases hjn : j ≤ n
           · have hx : q + j < s.size := by omega
             obtain ⟨y, hy⟩ : ∃ y, y = (s[q + j]'hx).toNat := ⟨_, rfl⟩
             have hy256 : y < 256 := by rw [hy]; exact UInt8.toNat_lt _
             have HY := Hi hy.symm
             have s1 : (0 : Int) ≤ (q : Int) + j := by omega
             have s2 : (q : Int) + j < s.size := by omega
             have s3 : ((q : Int) + j).toNat = q + j := by omega
             have t1 : (s[q + j]'hx).toNat < 256 := UInt8.toNat_lt _
             clear hy
             by_cases c1 : (y : Int) < l0
             · have hVf : V = false := by
                rw [← hvd.out]
                refine LAW.out.2.2.2.1 j hj1 (by rw [HN.out]; omega) hx (by rw [HN.out]; omega) (fun h => ?_)
                have := HR.out.iff.1 h
                rw [HY.out] at this
                omega
               subst hVf
               have t2 : ((s[q + j]'hx).toNat : Int) < l0 := by rw [HY.out]; exact c1
               go_wp2
               go_ret
               exact ⟨rfl, rfl⟩
             · have t2 : ¬ ((s[q + j]'hx).toNat : Int) < l0 := by rw [HY.out]; exact c1
               by_cases c2 : h0 < (y : Int)
               · have hVf : V = false := by
                  rw [← hvd.out]
                  refine LAW.out.2.2.2.1 j hj1 (by rw [HN.out]; omega) hx (by rw [HN.out]; omega) (fun h => ?_)
                  have := HR.out.iff.1 h
                  rw [HY.out] at this
                  omega
                 subst hVf
                 have t3 : h0 < ((s[q + j]'hx).toNat : Int) := by rw [HY.out]; exact c2
                 go_wp2
                 go_ret
                 exact ⟨rfl, rfl⟩
               · have t3 : ¬ h0 < ((s[q + j]'hx).toNat : Int) := by rw [HY.out]; exact c2
                 have HA2 : Hid (∀ x : Nat, 1 ≤ x → x < j + 1 → ∀ hx : q + x < s.size, inR b x (s[q + x]'hx).toNat) := by
                  intro x h1 h2 hx'
                  rcases Nat.lt_or_ge x j with h3 | h3
                  · exact HA.out x h1 h3 hx'
                  · obtain rfl : x = j := by omega
                    refine HR.out.iff.2 ?_
                    omega
                 go_wp2
                 go_round
                 case rel => exact ⟨j + 1, 128, 191, by omega, by omega, by go_num, rfl, rfl, .inr ⟨by omega, rfl, rfl⟩, HA2.out⟩
                 case measure => simp [intOf]; omega
           · obtain rfl : j = n + 1 := by omega
             have HL : Hid (Lib.validD (s.data.toList.drop q) = Lib.validD (s.data.toList.drop (q + 1 + n))) := by
              have h := LAW.out.2.2.2.2 (by rw [HN.out]; omega) (by rw [HN.out]; omega) (fun x h1 h2 hx => HA.out x h1 (by rw [HN.out] at h2; omega) hx)
              rw [HN.out, Int.toNat_natCast] at h
              exact h
             clear hbd
             go_wp2
             go_round
             case rel => exact ⟨q + 1 + n, by omega, by go_num, HL.out.symm.trans hvd.out⟩
             case measure => simp [intOf]; omega
  · have hV1 : V = true := by
     rw [← hvd.out, List.drop_of_length_le (by rw [← bsize_eq]; omega)]
     decide +kernel
    subst hV1
    go_wp2
    go_ret
    exact ⟨rfl, rfl⟩

def hasN (t : Int) (c : UInt8) : Bool := decide (c ∈ fieldsN t)
def okP (x : ByteArray × ByteArray) : Bool := validS x.1 && validS x.2
def okK (h : Bool) (l : List ByteArray) : Bool := (h || ((l.length : Int) == 0)) && l.all validS
def cleanA (f : OpF) (b : Bool) : Bool := ((b && ((hasN f.t 108) || ((f.tl : Int) == 0))) && ((hasN f.t 122) || ((f.zx : Int) == 0)))
def cleanC (f : OpF) (b : Bool) : Bool := ((((b && ((hasN f.t 112) || (f.p.toList == (⟨#[]⟩ : ByteArray).toList))) && ((hasN f.t 100) || (((f.l.length : Int) : Int) == 0))) && ((hasN f.t 97) || (((f.L.length : Int) : Int) == 0))) && ((hasN f.t 102) || ((f.fl : Int) == 0)))
def cleanD (f : OpF) (b : Bool) : Bool := (((b && ((hasN f.t 118) || ((f.ve : Int) == 0))) && ((hasN f.t 119) || (!f.wa))) && ((hasN f.t 99) || (((f.ct : Int) == 0) && ((f.by_ : Int) == 0))))
def cleanE (f : OpF) (n : Nat) (b : Bool) : Bool := (((b && ((hasN f.t 116) || ((f.to : Int) == 0))) && ((hasN f.t 105) || (((f.I.length : Int) : Int) == 0))) && ((hasN f.t 115) || (((n : Int) : Int) == 0)))
def cleanT (f : OpF) : Bool := ((validS f.p && f.L.all fun x => okP x.2) && f.I.all okP) && f.lists.all (okK (hasN f.t 107))
def cleanB (f : OpF) (n : Nat) : Bool := cleanE f n (cleanD f (cleanC f (cleanA f (cleanT f))))

theorem has_letter (t : Int) (c : UInt8) (z : Int) (hz : z = (c.toNat : Int)) (s3 : ByteArray) (hs : s3 = ⟨(fieldsN t).toArray⟩) (W : World) : Calls Tryz.prog 116 #[.string s3, .int .u8 z] W fun e w' => e = .returned (.bool (hasN t c)) ∧ w' = W := by
 subst hz hs
 have hl : (fieldsN t).length ≤ 1000 := by
  unfold fieldsN
  rcases hf : fieldsL.find? (fun x => x.1 == t) with _ | x
  · rw [hf]; exact Nat.zero_le _
  · have h1 := List.mem_of_find?_eq_some hf
    have h2 : ∀ x ∈ fieldsL, x.2.length ≤ 1000 := by decide
    rw [hf]
    exact h2 x h1
 exact refHas_any (fieldsN t) c W hl
theorem utf8_same (s : ByteArray) (hs : s.size ≤ reachBytes) (W : World) : Calls Tryz.prog 115 #[.string s] W fun e w' => e = .returned (.bool (validS s)) ∧ w' = W :=
 (utf8_any s W (by unfold reachBytes at hs; omega)).mono fun e w' h => ⟨h.1, h.2.symm⟩
theorem acl_cellsB {w : World} {n : Nat} {A : Option Addr} {L : List AclT} (h : Reads w w.heap.size 3 A n (aclCells L)) (hn : L.length = n) {j : Nat} (hj : j < L.length) : ∃ ad, A = some ad ∧ ∀ W, Below w.heap.size w W → W.cell? (ad.add (j * 3 + 1)) = some (.string L[j].2.1) ∧ W.cell? (ad.add (j * 3 + 2)) = some (.string L[j].2.2) := by
 obtain ⟨ad, hA, _⟩ := acl_cellsO h hn hj
 refine ⟨ad, hA, fun W hW => ?_⟩
 obtain ⟨ad', hA', h1⟩ := acl_cellsO (h.below hW) hn hj
 rw [hA] at hA'
 injection hA' with e
 subst e
 exact h1
theorem id_cellsB {w : World} {n : Nat} {A : Option Addr} {L : List (ByteArray × ByteArray)} (h : Reads w w.heap.size 2 A n (idCells L)) (hn : L.length = n) {j : Nat} (hj : j < L.length) : ∃ ad, A = some ad ∧ ∀ W, Below w.heap.size w W → W.cell? (ad.add (j * 2)) = some (.string L[j].1) ∧ W.cell? (ad.add (j * 2 + 1)) = some (.string L[j].2) := by
 obtain ⟨ad, hA, _⟩ := id_cellsO h hn hj
 refine ⟨ad, hA, fun W hW => ?_⟩
 obtain ⟨ad', hA', h1⟩ := id_cellsO (h.below hW) hn hj
 rw [hA] at hA'
 injection hA' with e
 subst e
 exact h1
theorem str_cellB {w : World} {n : Nat} {A : Option Addr} {L : List ByteArray} (h : Reads w w.heap.size 1 A n (strCells L)) (hn : L.length = n) {j : Nat} (hj : j < L.length) : ∃ ad, A = some ad ∧ ∀ W, Below w.heap.size w W → W.cell? (ad.add j) = some (.string L[j]) := by
 obtain ⟨ad, hA, _⟩ := str_cellO h hn hj
 refine ⟨ad, hA, fun W hW => ?_⟩
 obtain ⟨ad', hA', h1⟩ := str_cellO (h.below hW) hn hj
 rw [hA] at hA'
 injection hA' with e
 subst e
 exact h1
theorem all_dropB {α : Type} {L : List α} {p : α → Bool} {k : Nat} (hk : k < L.length) (b : Bool) : (b && (L.drop k).all p) = ((b && p L[k]) && (L.drop (k + 1)).all p) := by
 rw [List.drop_eq_getElem_cons hk, List.all_cons, Bool.and_assoc]
theorem refClean_any {lo : Option Nat} (f : OpF) (d a k0 k1 k2 k3 k4 i s : Sl) (w : World) (h : FAt w lo f d a k0 k1 k2 k3 k4 i) (ok : f.Ok) (hsn : s.n ≤ 4611686018427387904) (cs : Array Value) (hcs : cs = (f.row d a k0 k1 k2 k3 k4 i s).toArray) :
 Calls Tryz.prog 74 #[.agg cs] w fun e w' => e = .returned (.bool (cleanB f s.n)) ∧ Below w.heap.size w w' := by
 have HCS : Hid (cs = (f.rowL d a [k0, k1, k2, k3, k4] i s).toArray) := hcs
 subst hcs
 obtain ⟨w1, hw1⟩ := xa w (f.row d a k0 k1 k2 k3 k4 i s).toArray 29
 have hb1 := newB hw1
 have hn1 := newK hw1
 have HB1 := Hi hb1
 have HN1 := Hi hn1
 have c0 : w1.cell? ⟨w.heap.size, 0, none⟩ = some (.int .i32 f.t) := yC hn1 0 rfl
 have c1 : w1.cell? ⟨w.heap.size, 1, none⟩ = some (.string f.p) := yC hn1 1 rfl
 have c3 : w1.cell? ⟨w.heap.size, 3, none⟩ = some (.slice a.A a.n a.c) := yC hn1 3 rfl
 have HH := Hi (h.later hb1)
 have HDL : Hid (f.l.length = d.n) := HH.out.d.len
 have HAL : Hid (f.L.length = a.n) := HH.out.a.len
 have HIL : Hid (f.I.length = i.n) := HH.out.i.len
 have hba := HH.out.a.bd (by decide)
 have hbi := HH.out.i.bd (by decide)
 have HOK := Hi ok
 have HKS : Hid (∀ j (hj : j < 5), SlAt w1 lo 9 1 16 ([k0, k1, k2, k3, k4][j]'hj) (f.lists[j]'hj).length (strCells (f.lists[j]'hj))) := fun j hj => by
  rcases (by omega : j = 0 ∨ j = 1 ∨ j = 2 ∨ j = 3 ∨ j = 4) with rfl | rfl | rfl | rfl | rfl
  · exact HH.out.k0
  · exact HH.out.k1
  · exact HH.out.k2
  · exact HH.out.k3
  · exact HH.out.k4
 have HFI := Hi (fun W => fields_any f.t W)
 obtain ⟨s3, hs3⟩ : ∃ s3 : ByteArray, s3 = ⟨(fieldsN f.t).toArray⟩ := ⟨_, rfl⟩
 rw [← hs3] at HFI
 obtain ⟨h107, e107⟩ : ∃ b, b = hasN f.t 107 := ⟨_, rfl⟩
 have HH107 : Hid (∀ W, Calls Tryz.prog 116 #[.string s3, .int .u8 107] W fun e w' => e = .returned (.bool h107) ∧ w' = W) := fun W => by rw [e107]; exact has_letter f.t 107 107 rfl s3 hs3 W
 have HE107 := Hi e107
 clear e107
 obtain ⟨h108, e108⟩ : ∃ b, b = hasN f.t 108 := ⟨_, rfl⟩
 have HH108 : Hid (∀ W, Calls Tryz.prog 116 #[.string s3, .int .u8 108] W fun e w' => e = .returned (.bool h108) ∧ w' = W) := fun W => by rw [e108]; exact has_letter f.t 108 108 rfl s3 hs3 W
 have HE108 := Hi e108
 clear e108
 obtain ⟨h122, e122⟩ : ∃ b, b = hasN f.t 122 := ⟨_, rfl⟩
 have HH122 : Hid (∀ W, Calls Tryz.prog 116 #[.string s3, .int .u8 122] W fun e w' => e = .returned (.bool h122) ∧ w' = W) := fun W => by rw [e122]; exact has_letter f.t 122 122 rfl s3 hs3 W
 have HE122 := Hi e122
 clear e122
 obtain ⟨h112, e112⟩ : ∃ b, b = hasN f.t 112 := ⟨_, rfl⟩
 have HH112 : Hid (∀ W, Calls Tryz.prog 116 #[.string s3, .int .u8 112] W fun e w' => e = .returned (.bool h112) ∧ w' = W) := fun W => by rw [e112]; exact has_letter f.t 112 112 rfl s3 hs3 W
 have HE112 := Hi e112
 clear e112
 obtain ⟨h100, e100⟩ : ∃ b, b = hasN f.t 100 := ⟨_, rfl⟩
 have HH100 : Hid (∀ W, Calls Tryz.prog 116 #[.string s3, .int .u8 100] W fun e w' => e = .returned (.bool h100) ∧ w' = W) := fun W => by rw [e100]; exact has_letter f.t 100 100 rfl s3 hs3 W
 have HE100 := Hi e100
 clear e100
 obtain ⟨h97, e97⟩ : ∃ b, b = hasN f.t 97 := ⟨_, rfl⟩
 have HH97 : Hid (∀ W, Calls Tryz.prog 116 #[.string s3, .int .u8 97] W fun e w' => e = .returned (.bool h97) ∧ w' = W) := fun W => by rw [e97]; exact has_letter f.t 97 97 rfl s3 hs3 W
 have HE97 := Hi e97
 clear e97
 obtain ⟨h102, e102⟩ : ∃ b, b = hasN f.t 102 := ⟨_, rfl⟩
 have HH102 : Hid (∀ W, Calls Tryz.prog 116 #[.string s3, .int .u8 102] W fun e w' => e = .returned (.bool h102) ∧ w' = W) := fun W => by rw [e102]; exact has_letter f.t 102 102 rfl s3 hs3 W
 have HE102 := Hi e102
 clear e102
 obtain ⟨h118, e118⟩ : ∃ b, b = hasN f.t 118 := ⟨_, rfl⟩
 have HH118 : Hid (∀ W, Calls Tryz.prog 116 #[.string s3, .int .u8 118] W fun e w' => e = .returned (.bool h118) ∧ w' = W) := fun W => by rw [e118]; exact has_letter f.t 118 118 rfl s3 hs3 W
 have HE118 := Hi e118
 clear e118
 obtain ⟨h119, e119⟩ : ∃ b, b = hasN f.t 119 := ⟨_, rfl⟩
 have HH119 : Hid (∀ W, Calls Tryz.prog 116 #[.string s3, .int .u8 119] W fun e w' => e = .returned (.bool h119) ∧ w' = W) := fun W => by rw [e119]; exact has_letter f.t 119 119 rfl s3 hs3 W
 have HE119 := Hi e119
 clear e119
 obtain ⟨h99, e99⟩ : ∃ b, b = hasN f.t 99 := ⟨_, rfl⟩
 have HH99 : Hid (∀ W, Calls Tryz.prog 116 #[.string s3, .int .u8 99] W fun e w' => e = .returned (.bool h99) ∧ w' = W) := fun W => by rw [e99]; exact has_letter f.t 99 99 rfl s3 hs3 W
 have HE99 := Hi e99
 clear e99
 obtain ⟨h116, e116⟩ : ∃ b, b = hasN f.t 116 := ⟨_, rfl⟩
 have HH116 : Hid (∀ W, Calls Tryz.prog 116 #[.string s3, .int .u8 116] W fun e w' => e = .returned (.bool h116) ∧ w' = W) := fun W => by rw [e116]; exact has_letter f.t 116 116 rfl s3 hs3 W
 have HE116 := Hi e116
 clear e116
 obtain ⟨h105, e105⟩ : ∃ b, b = hasN f.t 105 := ⟨_, rfl⟩
 have HH105 : Hid (∀ W, Calls Tryz.prog 116 #[.string s3, .int .u8 105] W fun e w' => e = .returned (.bool h105) ∧ w' = W) := fun W => by rw [e105]; exact has_letter f.t 105 105 rfl s3 hs3 W
 have HE105 := Hi e105
 clear e105
 obtain ⟨h115, e115⟩ : ∃ b, b = hasN f.t 115 := ⟨_, rfl⟩
 have HH115 : Hid (∀ W, Calls Tryz.prog 116 #[.string s3, .int .u8 115] W fun e w' => e = .returned (.bool h115) ∧ w' = W) := fun W => by rw [e115]; exact has_letter f.t 115 115 rfl s3 hs3 W
 have HE115 := Hi e115
 clear e115
 have HVP := Hi (fun W => utf8_same f.p ok.p W)
 obtain ⟨vp, hvp⟩ : ∃ b, b = validS f.p := ⟨_, rfl⟩
 rw [← hvp] at HVP
 obtain ⟨R, hR⟩ : ∃ R, R = cleanB f s.n := ⟨_, rfl⟩
 rw [← hR]
 have HRR := Hi hR
 have HVPE := Hi hvp
 clear h ok hb1 hn1 hs3 hvp hR
 go_enter Tryz.func74, Tryz.ntmps74
 go_wp2_with (first
  | (go_at_call 54
     refine (HFI.out _).mono ?_
     rintro e w2 ⟨rfl, he⟩
     obtain rfl := he.symm)
  | (go_at_call 115
     refine (HVP.out _).mono ?_
     rintro e w3 ⟨rfl, he⟩
     obtain rfl := he.symm))
 clear c0 c1 c3
 obtain ⟨RA, hRA⟩ : ∃ R, R = (vp && f.L.all fun x => okP x.2) := ⟨_, rfl⟩
 have HRA := Hi hRA
 clear hRA
 go_loopw [4, 5] (fun v4 v5 wr => ∃ (b : Bool) (k : Nat), k ≤ a.n ∧ v4 = .bool b ∧ v5 = .int .i64 (k : Int) ∧ Hid (RA = (b && (f.L.drop k).all fun x => okP x.2)) ∧ Hid (Below w1.heap.size w1 wr)) (fun _ v5 _ => a.n - (intOf v5).toNat)
 case atStart => exact ⟨vp, 0, by omega, rfl, rfl, HRA.out, Below.refl _ _⟩
 case round =>
  obtain ⟨b, k, hk, rfl, rfl, HK, HBr⟩ := hrel
  have HNr := Hi (HN1.out.below HBr.out HN1.out.lt)
  have c3 : wr.cell? ⟨w.heap.size, 3, none⟩ = some (.slice a.A a.n a.c) := yC (HN1.out.below HBr.out HN1.out.lt) 3 rfl
  by_cases hka : k < a.n
  · have hkl : k < f.L.length := by rw [HAL.out]; exact hka
    obtain ⟨ad, hA, hcc⟩ := acl_cellsB HH.out.a.reads HAL.out hkl
    obtain ⟨x, hx⟩ : ∃ x, x = (f.L[k]).2.1 := ⟨_, rfl⟩
    obtain ⟨y, hy⟩ : ∃ y, y = (f.L[k]).2.2 := ⟨_, rfl⟩
    rw [← hx, ← hy] at hcc
    have hxr := (HOK.out.acl _ (List.getElem_mem hkl)).2
    rw [← hx, ← hy] at hxr
    obtain ⟨vx, hvx⟩ : ∃ b, b = validS x := ⟨_, rfl⟩
    obtain ⟨vy, hvy⟩ : ∃ b, b = validS y := ⟨_, rfl⟩
    have HVX : Hid (∀ W, Calls Tryz.prog 115 #[.string x] W fun e w' => e = .returned (.bool vx) ∧ w' = W) := fun W => by rw [hvx]; exact utf8_same x hxr.1 W
    have HVY : Hid (∀ W, Calls Tryz.prog 115 #[.string y] W fun e w' => e = .returned (.bool vy) ∧ w' = W) := fun W => by rw [hvy]; exact utf8_same y hxr.2 W
    have HK2 : Hid (RA = (((b && vx) && vy) && (f.L.drop (k + 1)).all fun x => okP x.2)) := by
     unfold Hid
     rw [HK.out, all_dropB hkl, okP, ← hx, ← hy, ← hvx, ← hvy]
     simp only [Bool.and_assoc]
    have CA : Hid (wr.cell? ⟨w.heap.size, 3, none⟩ = some (.slice (some ad) a.n a.c)) := by unfold Hid; rw [← hA]; exact yC HNr.out 3 rfl
    have CX : Hid (wr.cell? (ad.add (k * 3 + 1)) = some (.string x)) := (hcc wr HBr.out).1
    have CY : Hid (wr.cell? (ad.add (k * 3 + 2)) = some (.string y)) := (hcc wr HBr.out).2
    clear hx hy hcc hA hxr hvx hvy HK
    go_upto_region 6 with (fail)
    refine wp_region_lit ?_
    refine wpL_mv rfl rfl (ev rfl) ?_
    simp only [yD, zA, zB]
    refine wpL_mv rfl rfl (ev rfl) ?_
    simp only [yD, zA, zB]
    refine wpL_g (wa rfl rfl rfl) (fun hc => r_field 29 _ 3 rfl (ev rfl) zU29 rfl (n := 0) isz_23 rfl) ?_
    simp only [yD, zA, zB]
    refine wpL_g (wa rfl rfl rfl) (fun hc => r_load 23 _ rfl (evg rfl hc) CA.out zU23 rfl) ?_
    simp only [yD, zA, zB]
    refine wpL_mvg (wa rfl rfl rfl) rfl (fun hc => (ev rfl)) ?_
    simp only [yD, zA, zB]
    refine wpL_g (wa rfl rfl rfl) (fun hc => r_index 23 _ _ rfl (evg rfl hc) (evg rfl hc) hka zU23 isz_104 rfl) ?_
    simp only [yD, zA, zB]
    refine wpL_g (wa rfl rfl rfl) (fun hc => r_field 104 _ 1 rfl (evg rfl hc) zU104 rfl (n := 1) isz_102 (Addr.add_add _ _ _)) ?_
    simp only [yD, zA, zB]
    refine wpL_g (wa rfl rfl rfl) (fun hc => r_field 102 _ 0 rfl (evg rfl hc) zU102 rfl (n := 0) isz_9 rfl) ?_
    simp only [yD, zA, zB]
    refine wpL_g (wa rfl rfl rfl) (fun hc => r_load 9 _ rfl (evg rfl hc) CX.out zU9 rfl) ?_
    simp only [yD, zA, zB]
    refine wpL_c (wa rfl rfl rfl) 115 _ _ rfl #[.string x] (fun hc => mapA1 (evg rfl hc)) Tryz.func115 (by kernel_rfl) (by kernel_rfl) (fun hc => HVX.out _) ?_
    simp only [yD, zA, zB]
    refine wpL_u rfl (r_and _ _ _ rfl (ev rfl) (fun hb => evg rfl (by first | (simp [hb]; done) | simpa using hb)) rfl) ?_
    simp only [yD, zA, zB]
    refine wpL_mv rfl rfl (ev rfl) ?_
    simp only [yD, zA, zB]
    refine wpL_g (wa rfl rfl rfl) (fun hc => r_field 29 _ 3 rfl (ev rfl) zU29 rfl (n := 0) isz_23 rfl) ?_
    simp only [yD, zA, zB]
    refine wpL_g (wa rfl rfl rfl) (fun hc => r_load 23 _ rfl (evg rfl hc) CA.out zU23 rfl) ?_
    simp only [yD, zA, zB]
    refine wpL_mvg (wa rfl rfl rfl) rfl (fun hc => (ev rfl)) ?_
    simp only [yD, zA, zB]
    refine wpL_g (wa rfl rfl rfl) (fun hc => r_index 23 _ _ rfl (evg rfl hc) (evg rfl hc) hka zU23 isz_104 rfl) ?_
    simp only [yD, zA, zB]
    refine wpL_g (wa rfl rfl rfl) (fun hc => r_field 104 _ 1 rfl (evg rfl hc) zU104 rfl (n := 1) isz_102 (Addr.add_add _ _ _)) ?_
    simp only [yD, zA, zB]
    refine wpL_g (wa rfl rfl rfl) (fun hc => r_field 102 _ 1 rfl (evg rfl hc) zU102 rfl (n := 0) isz_9 (Addr.add_add _ _ _)) ?_
    simp only [yD, zA, zB]
    refine wpL_g (wa rfl rfl rfl) (fun hc => r_load 9 _ rfl (evg rfl hc) CY.out zU9 rfl) ?_
    simp only [yD, zA, zB]
    refine wpL_c (wa rfl rfl rfl) 115 _ _ rfl #[.string y] (fun hc => mapA1 (evg rfl hc)) Tryz.func115 (by kernel_rfl) (by kernel_rfl) (fun hc => HVY.out _) ?_
    simp only [yD, zA, zB]
    refine wpL_u rfl (r_and _ _ _ rfl (ev rfl) (fun hb => evg rfl (by first | (simp [hb]; done) | simpa using hb)) rfl) ?_
    simp only [yD, zA, zB]
    refine wpL_as rfl rfl (ev rfl) ?_
    simp only [yD, zA, zB]
    iterate 15 (generalize gv _ _ = zz)
    obtain ⟨b', hb'⟩ : ∃ b', b' = ((b && vx) && vy) := ⟨_, rfl⟩
    rw [← hb'] at HK2 ⊢
    clear hb'
    go_wp2
    go_roundw
    case rel => exact ⟨b', k + 1, by omega, rfl, by go_num, HK2.out, HBr.out⟩
    case measure => simp [intOf]; omega
  · have HRB : Hid (RA = b) := by
     have h := HK.out
     rwa [List.drop_eq_nil_of_le (by rw [HAL.out]; omega), List.all_nil, Bool.and_true] at h
    obtain ⟨RI, hRI⟩ : ∃ R, R = (RA && f.I.all okP) := ⟨_, rfl⟩
    have HRI := Hi hRI
    obtain ⟨u1, rfl⟩ : ∃ v, v = wr := ⟨_, rfl⟩
    have HU1 := Hi HBr.out
    clear hRI HK HBr
    go_wp2
    clear c3
    go_loopw [4, 6] (fun v4 v6 wr => ∃ (b : Bool) (k : Nat), k ≤ i.n ∧ v4 = .bool b ∧ v6 = .int .i64 (k : Int) ∧ Hid (RI = (b && (f.I.drop k).all okP)) ∧ Hid (Below w1.heap.size w1 wr)) (fun _ v6 _ => i.n - (intOf v6).toNat)
    case atStart => exact ⟨b, 0, by omega, rfl, rfl, (by unfold Hid; rw [HRI.out, HRB.out]; rfl), HU1.out⟩
    case round =>
     clear HU1 HNr
     obtain ⟨b, k, hk, rfl, rfl, HK, HBr⟩ := hrel
     have HNr := Hi (HN1.out.below HBr.out HN1.out.lt)
     have c17 : wr.cell? ⟨w.heap.size, 17, none⟩ = some (.slice i.A i.n i.c) := yC (HN1.out.below HBr.out HN1.out.lt) 17 rfl
     by_cases hka : k < i.n
     · have hkl : k < f.I.length := by rw [HIL.out]; exact hka
       obtain ⟨ad, hA, hcc⟩ := id_cellsB HH.out.i.reads HIL.out hkl
       obtain ⟨x, hx⟩ : ∃ x, x = (f.I[k]).1 := ⟨_, rfl⟩
       obtain ⟨y, hy⟩ : ∃ y, y = (f.I[k]).2 := ⟨_, rfl⟩
       rw [← hx, ← hy] at hcc
       have hxr := HOK.out.ids _ (List.getElem_mem hkl)
       rw [← hx, ← hy] at hxr
       obtain ⟨vx, hvx⟩ : ∃ b, b = validS x := ⟨_, rfl⟩
       obtain ⟨vy, hvy⟩ : ∃ b, b = validS y := ⟨_, rfl⟩
       have HVX : Hid (∀ W, Calls Tryz.prog 115 #[.string x] W fun e w' => e = .returned (.bool vx) ∧ w' = W) := fun W => by rw [hvx]; exact utf8_same x hxr.1 W
       have HVY : Hid (∀ W, Calls Tryz.prog 115 #[.string y] W fun e w' => e = .returned (.bool vy) ∧ w' = W) := fun W => by rw [hvy]; exact utf8_same y hxr.2 W
       have HK2 : Hid (RI = (((b && vx) && vy) && (f.I.drop (k + 1)).all okP)) := by
        unfold Hid
        rw [HK.out, all_dropB hkl, okP, ← hx, ← hy, ← hvx, ← hvy]
        simp only [Bool.and_assoc]
       have CA : Hid (wr.cell? ⟨w.heap.size, 17, none⟩ = some (.slice (some ad) i.n i.c)) := by unfold Hid; rw [← hA]; exact yC HNr.out 17 rfl
       have CX : Hid (wr.cell? (ad.add (k * 2)) = some (.string x)) := (hcc wr HBr.out).1
       have CY : Hid (wr.cell? (ad.add (k * 2 + 1)) = some (.string y)) := (hcc wr HBr.out).2
       clear hx hy hcc hA hxr hvx hvy HK
       go_upto_region 10 with (fail)
       refine wp_region_lit ?_
       refine wpL_mv rfl rfl (ev rfl) ?_
       simp only [yD, zA, zB]
       refine wpL_mv rfl rfl (ev rfl) ?_
       simp only [yD, zA, zB]
       refine wpL_g (wa rfl rfl rfl) (fun hc => r_field 29 _ 13 rfl (ev rfl) zU29 rfl (n := 0) isz_26 rfl) ?_
       simp only [yD, zA, zB]
       refine wpL_g (wa rfl rfl rfl) (fun hc => r_load 26 _ rfl (evg rfl hc) CA.out zU26 rfl) ?_
       simp only [yD, zA, zB]
       refine wpL_mvg (wa rfl rfl rfl) rfl (fun hc => (ev rfl)) ?_
       simp only [yD, zA, zB]
       refine wpL_g (wa rfl rfl rfl) (fun hc => r_index 26 _ _ rfl (evg rfl hc) (evg rfl hc) hka zU26 isz_102 rfl) ?_
       simp only [yD, zA, zB]
       refine wpL_g (wa rfl rfl rfl) (fun hc => r_field 102 _ 0 rfl (evg rfl hc) zU102 rfl (n := 0) isz_9 rfl) ?_
       simp only [yD, zA, zB]
       refine wpL_g (wa rfl rfl rfl) (fun hc => r_load 9 _ rfl (evg rfl hc) CX.out zU9 rfl) ?_
       simp only [yD, zA, zB]
       refine wpL_c (wa rfl rfl rfl) 115 _ _ rfl #[.string x] (fun hc => mapA1 (evg rfl hc)) Tryz.func115 (by kernel_rfl) (by kernel_rfl) (fun hc => HVX.out _) ?_
       simp only [yD, zA, zB]
       refine wpL_u rfl (r_and _ _ _ rfl (ev rfl) (fun hb => evg rfl (by first | (simp [hb]; done) | simpa using hb)) rfl) ?_
       simp only [yD, zA, zB]
       refine wpL_mv rfl rfl (ev rfl) ?_
       simp only [yD, zA, zB]
       refine wpL_g (wa rfl rfl rfl) (fun hc => r_field 29 _ 13 rfl (ev rfl) zU29 rfl (n := 0) isz_26 rfl) ?_
       simp only [yD, zA, zB]
       refine wpL_g (wa rfl rfl rfl) (fun hc => r_load 26 _ rfl (evg rfl hc) CA.out zU26 rfl) ?_
       simp only [yD, zA, zB]
       refine wpL_mvg (wa rfl rfl rfl) rfl (fun hc => (ev rfl)) ?_
       simp only [yD, zA, zB]
       refine wpL_g (wa rfl rfl rfl) (fun hc => r_index 26 _ _ rfl (evg rfl hc) (evg rfl hc) hka zU26 isz_102 rfl) ?_
       simp only [yD, zA, zB]
       refine wpL_g (wa rfl rfl rfl) (fun hc => r_field 102 _ 1 rfl (evg rfl hc) zU102 rfl (n := 0) isz_9 (Addr.add_add _ _ _)) ?_
       simp only [yD, zA, zB]
       refine wpL_g (wa rfl rfl rfl) (fun hc => r_load 9 _ rfl (evg rfl hc) CY.out zU9 rfl) ?_
       simp only [yD, zA, zB]
       refine wpL_c (wa rfl rfl rfl) 115 _ _ rfl #[.string y] (fun hc => mapA1 (evg rfl hc)) Tryz.func115 (by kernel_rfl) (by kernel_rfl) (fun hc => HVY.out _) ?_
       simp only [yD, zA, zB]
       refine wpL_u rfl (r_and _ _ _ rfl (ev rfl) (fun hb => evg rfl (by first | (simp [hb]; done) | simpa using hb)) rfl) ?_
       simp only [yD, zA, zB]
       refine wpL_as rfl rfl (ev rfl) ?_
       simp only [yD, zA, zB]
       iterate 13 (generalize gv _ _ = zz)
       obtain ⟨b', hb'⟩ : ∃ b', b' = ((b && vx) && vy) := ⟨_, rfl⟩
       rw [← hb'] at HK2 ⊢
       clear hb'
       go_wp2
       go_roundw
       case rel => exact ⟨b', k + 1, by omega, rfl, by go_num, HK2.out, HBr.out⟩
       case measure => simp [intOf]; omega
     · have HRB2 : Hid (RI = b) := by
        have h := HK.out
        rwa [List.drop_eq_nil_of_le (by rw [HIL.out]; omega), List.all_nil, Bool.and_true] at h
       obtain ⟨RL, hRL⟩ : ∃ R, R = (RI && f.lists.all (okK h107)) := ⟨_, rfl⟩
       have HRL := Hi hRL
       obtain ⟨u2, rfl⟩ : ∃ v, v = wr := ⟨_, rfl⟩
       have HU2 := Hi HBr.out
       clear hRL HK HBr
       go_wp2
       clear c17
       go_loopw [4, 7] (fun v4 v7 wr => ∃ (b : Bool) (j : Nat), j ≤ 5 ∧ v4 = .bool b ∧ v7 = .int .i64 (j : Int) ∧ Hid (RL = (b && (f.lists.drop j).all (okK h107))) ∧ Hid (Below w1.heap.size w1 wr)) (fun _ v7 _ => 5 - (intOf v7).toNat)
       case atStart => exact ⟨b, 0, by omega, rfl, rfl, (by unfold Hid; rw [HRL.out, HRB2.out]; rfl), HU2.out⟩
       case round =>
        clear HU2 HNr
        obtain ⟨b, j, hj, rfl, rfl, HK, HBr⟩ := hrel
        have HNr := Hi (HN1.out.below HBr.out HN1.out.lt)
        by_cases hlt : j < 5
        · have hsk := HKS.out j hlt
          have hck0 : wr.cell? ⟨w.heap.size, 11 + j, none⟩ = some (([k0, k1, k2, k3, k4][j]'hlt).v) := yC HNr.out (11 + j) (by rw [HCS.out]; exact rowL_get rfl hlt)
          obtain ⟨L, hL⟩ : ∃ L, L = f.lists[j]'hlt := ⟨_, rfl⟩
          have hmem : ∀ x ∈ L, x.size ≤ reachBytes := fun x hx => texts_size HOK.out x (mem_texts hlt (by rw [← hL]; exact hx))
          have hKj := HK.out
          rw [all_dropB (show j < f.lists.length from hlt), show f.lists[j] = f.lists[j]'hlt from rfl, ← hL] at hKj
          obtain ⟨kj, hkj⟩ : ∃ k, k = ([k0, k1, k2, k3, k4][j]'hlt) := ⟨_, rfl⟩
          rw [← hkj] at hsk hck0
          rw [← hL] at hsk
          obtain ⟨kA, kn, kc⟩ := kj
          have HLN : Hid (L.length = kn) := hsk.len
          have hbd := hsk.bd (by decide)
          dsimp only at hbd
          have HSK : Hid (Reads w1 w1.heap.size 1 kA kn (strCells L)) := hsk.reads
          have HMEM := Hi hmem
          have HCK : Hid (wr.cell? ⟨w.heap.size, 11 + j, none⟩ = some (.slice kA kn kc)) := hck0
          have CJ : Hid (wr.cell? ((⟨w.heap.size, 11, none⟩ : Addr).add (j * 1)) = some (.slice kA kn kc)) := by unfold Hid; rw [Nat.mul_one, zN]; exact hck0
          obtain ⟨RJ, hRJ⟩ : ∃ R, R = ((b && (h107 || (((kn : Int) : Int) == 0))) && L.all validS) := ⟨_, rfl⟩
          have HRJ := Hi hRJ
          have HKN : Hid (RL = (RJ && (f.lists.drop (j + 1)).all (okK h107))) := by
           unfold Hid
           rw [hKj, okK, HLN.out, hRJ]
           simp only [Bool.and_assoc]
          clear hsk hck0 hL hmem hKj hkj hRJ HK
          go_upto_region 14 with (fail)
          refine wp_region_lit ?_
          refine wpL_mv rfl rfl (ev rfl) ?_
          simp only [yD, zA, zB]
          refine wpL_mv rfl rfl (ev rfl) ?_
          simp only [yD, zA, zB]
          refine wpL_mvg (wa rfl rfl rfl) rfl (fun hc => (ev rfl)) ?_
          simp only [yD, zA, zB]
          refine wpL_c (wa rfl rfl rfl) 116 _ _ rfl #[.string s3, .int .u8 107] (fun hc => mapA2 (evg rfl hc) rfl) Tryz.func116 (by kernel_rfl) (by kernel_rfl) (fun hc => HH107.out _) ?_
          simp only [yD, zA, zB]
          refine wpL_mvg (wa rfl rfl rfl) rfl (fun hc => (evg rfl hc)) ?_
          simp only [yD, zA, zB]
          refine wpL_mvg (wg rfl rfl rfl) rfl (fun hc => (ev rfl)) ?_
          simp only [yD, zA, zB]
          refine wpL_g (wg rfl rfl rfl) (fun hc => r_field 29 _ 11 rfl (ev rfl) zU29 rfl (n := 4) isz_25 rfl) ?_
          simp only [yD, zA, zB]
          refine wpL_g (wg rfl rfl rfl) (fun hc => r_indexA 25 _ _ rfl (evg rfl hc) (evg rfl hc) hlt zU25 isz_24 rfl) ?_
          simp only [yD, zA, zB]
          refine wpL_g (wg rfl rfl rfl) (fun hc => r_load 24 _ rfl (evg rfl hc) CJ.out zU24 rfl) ?_
          simp only [yD, zA, zB]
          refine wpL_g (wg rfl rfl rfl) (fun hc => r_len #[] #[] _ 24 rfl (evg rfl hc) zU24) ?_
          simp only [yD, zA, zB]
          refine wpL_g (wg rfl rfl rfl) (fun hc => r_ieq 3 _ _ _ rfl (evg rfl hc) rfl) ?_
          simp only [yD, zA, zB]
          refine wpL_g (wa rfl rfl rfl) (fun hc => r_or _ _ _ rfl (evg rfl hc) rfl (fun hb => evg rfl (by first | (simp [hb, hc]; done) | (simp at hc ⊢; exact ⟨hc, by simpa using hb⟩)))) ?_
          simp only [yD, zA, zB]
          refine wpL_u rfl (r_and _ _ _ rfl (ev rfl) (fun hb => evg rfl (by first | (simp [hb]; done) | simpa using hb)) rfl) ?_
          simp only [yD, zA, zB]
          refine wpL_as rfl rfl (ev rfl) ?_
          simp only [yD, zA, zB]
          iterate 9 (generalize gv _ _ = zz)
          obtain ⟨b', hb'⟩ : ∃ b', b' = (b && (h107 || (((kn : Int) : Int) == 0))) := ⟨_, rfl⟩
          rw [← hb'] at HRJ ⊢
          clear hb' CJ
          obtain ⟨u3, rfl⟩ : ∃ v, v = wr := ⟨_, rfl⟩
          simp only [show decide ((j : Int) < 5) = true from decide_eq_true (by omega)]
          go_wp2
          go_loopw [4, 8] (fun v4 v8 wr => ∃ (b : Bool) (m : Nat), m ≤ kn ∧ v4 = .bool b ∧ v8 = .int .i64 (m : Int) ∧ Hid (RJ = (b && (L.drop m).all validS)) ∧ u3 = wr) (fun _ v8 _ => kn - (intOf v8).toNat)
          case atStart => exact ⟨b', 0, by omega, rfl, rfl, HRJ.out, rfl⟩
          case round =>
           obtain ⟨b, m, hm, rfl, rfl, HK, rfl⟩ := hrel
           by_cases hmk : m < kn
           · have hml : m < L.length := by rw [HLN.out]; exact hmk
             obtain ⟨ad, hA, hcc⟩ := str_cellB HSK.out HLN.out hml
             have hxr := HMEM.out _ (List.getElem_mem hml)
             obtain ⟨x, hx⟩ : ∃ x, x = L[m] := ⟨_, rfl⟩
             rw [← hx] at hcc hxr
             obtain ⟨vx, hvx⟩ : ∃ b, b = validS x := ⟨_, rfl⟩
             have HVX : Hid (∀ W, Calls Tryz.prog 115 #[.string x] W fun e w' => e = .returned (.bool vx) ∧ w' = W) := fun W => by rw [hvx]; exact utf8_same x hxr W
             have HK2 : Hid (RJ = ((b && vx) && (L.drop (m + 1)).all validS)) := by
              unfold Hid
              rw [HK.out, all_dropB hml, ← hx, ← hvx]
             subst hA
             have CJ : Hid (u3.cell? ((⟨w.heap.size, 11, none⟩ : Addr).add (j * 1)) = some (.slice (some ad) kn kc)) := by unfold Hid; rw [Nat.mul_one, zN]; exact HCK.out
             have CX : Hid (u3.cell? (ad.add (m * 1)) = some (.string x)) := by unfold Hid; rw [Nat.mul_one]; exact hcc u3 HBr.out
             clear hx hcc hxr hvx HK
             go_wp2_with (with_reducible refine wpAt 90 ?_; refine wpList_load1 rfl 24 (.tmp 89) rfl ⟨w.heap.size, 11 + j, none⟩ rfl HCK.out zU24 rfl ?_; refine Hid.out ?_)
             refine Hi ?_
             go_upto_region 18 with (fail)
             refine wp_region_lit ?_
             refine wpL_mv rfl rfl (ev rfl) ?_
             simp only [yD, zA, zB]
             refine wpL_mv rfl rfl (ev rfl) ?_
             simp only [yD, zA, zB]
             refine wpL_mvg (wa rfl rfl rfl) rfl (fun hc => (ev rfl)) ?_
             simp only [yD, zA, zB]
             refine wpL_g (wa rfl rfl rfl) (fun hc => r_field 29 _ 11 rfl (ev rfl) zU29 rfl (n := 4) isz_25 rfl) ?_
             simp only [yD, zA, zB]
             refine wpL_g (wa rfl rfl rfl) (fun hc => r_indexA 25 _ _ rfl (evg rfl hc) (evg rfl hc) hlt zU25 isz_24 rfl) ?_
             simp only [yD, zA, zB]
             refine wpL_g (wa rfl rfl rfl) (fun hc => r_load 24 _ rfl (evg rfl hc) CJ.out zU24 rfl) ?_
             simp only [yD, zA, zB]
             refine wpL_mvg (wa rfl rfl rfl) rfl (fun hc => (ev rfl)) ?_
             simp only [yD, zA, zB]
             refine wpL_g (wa rfl rfl rfl) (fun hc => r_index 24 _ _ rfl (evg rfl hc) (evg rfl hc) hmk zU24 isz_9 rfl) ?_
             simp only [yD, zA, zB]
             refine wpL_g (wa rfl rfl rfl) (fun hc => r_load 9 _ rfl (evg rfl hc) CX.out zU9 rfl) ?_
             simp only [yD, zA, zB]
             refine wpL_c (wa rfl rfl rfl) 115 _ _ rfl #[.string x] (fun hc => mapA1 (evg rfl hc)) Tryz.func115 (by kernel_rfl) (by kernel_rfl) (fun hc => HVX.out _) ?_
             simp only [yD, zA, zB]
             refine wpL_u rfl (r_and _ _ _ rfl (ev rfl) (fun hb => evg rfl (by first | (simp [hb]; done) | simpa using hb)) rfl) ?_
             simp only [yD, zA, zB]
             refine wpL_as rfl rfl (ev rfl) ?_
             simp only [yD, zA, zB]
             iterate 8 (generalize gv _ _ = zz)
             obtain ⟨b', hb'⟩ : ∃ b', b' = (b && vx) := ⟨_, rfl⟩
             rw [← hb'] at HK2 ⊢
             clear hb'
             go_wp2
             go_roundw
             case rel => exact ⟨b', m + 1, by omega, rfl, by go_num, HK2.out, trivial⟩
             case measure => simp [intOf]; omega
           · have HRB3 : Hid (RJ = b) := by
              have h := HK.out
              rwa [List.drop_eq_nil_of_le (by rw [HLN.out]; omega), List.all_nil, Bool.and_true] at h
             rw [HRB3.out] at HKN
             clear HK
             go_wp2_with (with_reducible refine wpAt 90 ?_; refine wpList_load1 rfl 24 (.tmp 89) rfl ⟨w.heap.size, 11 + j, none⟩ rfl HCK.out zU24 rfl ?_)
             go_roundw
             case rel => exact ⟨b, j + 1, by omega, rfl, by go_num, HKN.out, HBr.out⟩
             case measure => simp [intOf]; omega
        · have HRB3 : Hid (RL = b) := by
           have h := HK.out
           rwa [List.drop_eq_nil_of_le (show f.lists.length ≤ j from by have : f.lists.length = 5 := rfl; omega), List.all_nil, Bool.and_true] at h
          obtain rfl : j = 5 := by omega
          rw [show ((5 : Nat) : Int) = 5 from rfl]
          have HT : Hid (cleanT f = b) := by
           unfold Hid cleanT
           rw [← HE107.out, ← HVPE.out, ← HRB3.out, HRL.out, HRI.out, HRA.out]
          clear HK
          go_upto_region 19 with (fail)
          refine wp_region_lit ?_
          refine wpL_mv rfl rfl (ev rfl) ?_
          simp only [yD, zA, zB]
          refine wpL_mv rfl rfl (ev rfl) ?_
          simp only [yD, zA, zB]
          refine wpL_mvg (wa rfl rfl rfl) rfl (fun hc => (ev rfl)) ?_
          simp only [yD, zA, zB]
          refine wpL_c (wa rfl rfl rfl) 116 _ _ rfl #[.string s3, .int .u8 108] (fun hc => mapA2 (evg rfl hc) rfl) Tryz.func116 (by kernel_rfl) (by kernel_rfl) (fun hc => HH108.out _) ?_
          simp only [yD, zA, zB]
          refine wpL_mvg (wa rfl rfl rfl) rfl (fun hc => (evg rfl hc)) ?_
          simp only [yD, zA, zB]
          refine wpL_g (wg rfl rfl rfl) (fun hc => r_field 29 _ 9 rfl (ev rfl) zU29 rfl (n := 0) isz_2 rfl) ?_
          simp only [yD, zA, zB]
          refine wpL_g (wg rfl rfl rfl) (fun hc => r_load 2 _ rfl (evg rfl hc) (yC HNr.out 9 rfl) zU2 rfl) ?_
          simp only [yD, zA, zB]
          refine wpL_g (wg rfl rfl rfl) (fun hc => r_ieq 2 _ _ _ rfl (evg rfl hc) rfl) ?_
          simp only [yD, zA, zB]
          refine wpL_g (wa rfl rfl rfl) (fun hc => r_or _ _ _ rfl (evg rfl hc) rfl (fun hb => evg rfl (by first | (simp [hb, hc]; done) | (simp at hc ⊢; exact ⟨hc, by simpa using hb⟩)))) ?_
          simp only [yD, zA, zB]
          refine wpL_u rfl (r_and _ _ _ rfl (ev rfl) (fun hb => evg rfl (by first | (simp [hb]; done) | simpa using hb)) rfl) ?_
          simp only [yD, zA, zB]
          refine wpL_mv rfl rfl (ev rfl) ?_
          simp only [yD, zA, zB]
          refine wpL_mvg (wa rfl rfl rfl) rfl (fun hc => (ev rfl)) ?_
          simp only [yD, zA, zB]
          refine wpL_c (wa rfl rfl rfl) 116 _ _ rfl #[.string s3, .int .u8 122] (fun hc => mapA2 (evg rfl hc) rfl) Tryz.func116 (by kernel_rfl) (by kernel_rfl) (fun hc => HH122.out _) ?_
          simp only [yD, zA, zB]
          refine wpL_mvg (wa rfl rfl rfl) rfl (fun hc => (evg rfl hc)) ?_
          simp only [yD, zA, zB]
          refine wpL_g (wg rfl rfl rfl) (fun hc => r_field 29 _ 10 rfl (ev rfl) zU29 rfl (n := 0) isz_2 rfl) ?_
          simp only [yD, zA, zB]
          refine wpL_g (wg rfl rfl rfl) (fun hc => r_load 2 _ rfl (evg rfl hc) (yC HNr.out 10 rfl) zU2 rfl) ?_
          simp only [yD, zA, zB]
          refine wpL_g (wg rfl rfl rfl) (fun hc => r_ieq 2 _ _ _ rfl (evg rfl hc) rfl) ?_
          simp only [yD, zA, zB]
          refine wpL_g (wa rfl rfl rfl) (fun hc => r_or _ _ _ rfl (evg rfl hc) rfl (fun hb => evg rfl (by first | (simp [hb, hc]; done) | (simp at hc ⊢; exact ⟨hc, by simpa using hb⟩)))) ?_
          simp only [yD, zA, zB]
          refine wpL_u rfl (r_and _ _ _ rfl (ev rfl) (fun hb => evg rfl (by first | (simp [hb]; done) | simpa using hb)) rfl) ?_
          simp only [yD, zA, zB]
          refine wpL_as rfl rfl (ev rfl) ?_
          simp only [yD, zA, zB]
          iterate 12 (generalize gv _ _ = zz)
          obtain ⟨bA, hq⟩ : ∃ q, q = ((b && (h108 || ((f.tl : Int) == 0))) && (h122 || ((f.zx : Int) == 0))) := ⟨_, rfl⟩
          rw [← hq]
          have HXA : Hid (cleanA f b = bA) := by
           unfold Hid cleanA
           rw [hq, ← HE108.out, ← HE122.out]
          clear hq
          go_upto_region 20 with (fail)
          refine wp_region_lit ?_
          refine wpL_mv rfl rfl (ev rfl) ?_
          simp only [yD, zA, zB]
          refine wpL_mv rfl rfl (ev rfl) ?_
          simp only [yD, zA, zB]
          refine wpL_mvg (wa rfl rfl rfl) rfl (fun hc => (ev rfl)) ?_
          simp only [yD, zA, zB]
          refine wpL_c (wa rfl rfl rfl) 116 _ _ rfl #[.string s3, .int .u8 112] (fun hc => mapA2 (evg rfl hc) rfl) Tryz.func116 (by kernel_rfl) (by kernel_rfl) (fun hc => HH112.out _) ?_
          simp only [yD, zA, zB]
          refine wpL_mvg (wa rfl rfl rfl) rfl (fun hc => (evg rfl hc)) ?_
          simp only [yD, zA, zB]
          refine wpL_g (wg rfl rfl rfl) (fun hc => r_field 29 _ 1 rfl (ev rfl) zU29 rfl (n := 0) isz_9 rfl) ?_
          simp only [yD, zA, zB]
          refine wpL_g (wg rfl rfl rfl) (fun hc => r_load 9 _ rfl (evg rfl hc) (yC HNr.out 1 rfl) zU9 rfl) ?_
          simp only [yD, zA, zB]
          refine wpL_g (wg rfl rfl rfl) (fun hc => r_seq 9 _ _ _ rfl (evg rfl hc) rfl) ?_
          simp only [yD, zA, zB]
          refine wpL_g (wa rfl rfl rfl) (fun hc => r_or _ _ _ rfl (evg rfl hc) rfl (fun hb => evg rfl (by first | (simp [hb, hc]; done) | (simp at hc ⊢; exact ⟨hc, by simpa using hb⟩)))) ?_
          simp only [yD, zA, zB]
          refine wpL_u rfl (r_and _ _ _ rfl (ev rfl) (fun hb => evg rfl (by first | (simp [hb]; done) | simpa using hb)) rfl) ?_
          simp only [yD, zA, zB]
          refine wpL_mv rfl rfl (ev rfl) ?_
          simp only [yD, zA, zB]
          refine wpL_mvg (wa rfl rfl rfl) rfl (fun hc => (ev rfl)) ?_
          simp only [yD, zA, zB]
          refine wpL_c (wa rfl rfl rfl) 116 _ _ rfl #[.string s3, .int .u8 100] (fun hc => mapA2 (evg rfl hc) rfl) Tryz.func116 (by kernel_rfl) (by kernel_rfl) (fun hc => HH100.out _) ?_
          simp only [yD, zA, zB]
          refine wpL_mvg (wa rfl rfl rfl) rfl (fun hc => (evg rfl hc)) ?_
          simp only [yD, zA, zB]
          refine wpL_g (wg rfl rfl rfl) (fun hc => r_field 29 _ 2 rfl (ev rfl) zU29 rfl (n := 0) isz_22 rfl) ?_
          simp only [yD, zA, zB]
          refine wpL_g (wg rfl rfl rfl) (fun hc => r_load 22 _ rfl (evg rfl hc) (yC HNr.out 2 rfl) zU22 rfl) ?_
          simp only [yD, zA, zB]
          refine wpL_g (wg rfl rfl rfl) (fun hc => r_len #[] #[] _ 22 rfl (evg rfl hc) zU22) ?_
          simp only [yD, zA, zB]
          refine wpL_g (wg rfl rfl rfl) (fun hc => r_ieq 3 _ _ _ rfl (evg rfl hc) rfl) ?_
          simp only [yD, zA, zB]
          refine wpL_g (wa rfl rfl rfl) (fun hc => r_or _ _ _ rfl (evg rfl hc) rfl (fun hb => evg rfl (by first | (simp [hb, hc]; done) | (simp at hc ⊢; exact ⟨hc, by simpa using hb⟩)))) ?_
          simp only [yD, zA, zB]
          refine wpL_u rfl (r_and _ _ _ rfl (ev rfl) (fun hb => evg rfl (by first | (simp [hb]; done) | simpa using hb)) rfl) ?_
          simp only [yD, zA, zB]
          refine wpL_mv rfl rfl (ev rfl) ?_
          simp only [yD, zA, zB]
          refine wpL_mvg (wa rfl rfl rfl) rfl (fun hc => (ev rfl)) ?_
          simp only [yD, zA, zB]
          refine wpL_c (wa rfl rfl rfl) 116 _ _ rfl #[.string s3, .int .u8 97] (fun hc => mapA2 (evg rfl hc) rfl) Tryz.func116 (by kernel_rfl) (by kernel_rfl) (fun hc => HH97.out _) ?_
          simp only [yD, zA, zB]
          refine wpL_mvg (wa rfl rfl rfl) rfl (fun hc => (evg rfl hc)) ?_
          simp only [yD, zA, zB]
          refine wpL_g (wg rfl rfl rfl) (fun hc => r_field 29 _ 3 rfl (ev rfl) zU29 rfl (n := 0) isz_23 rfl) ?_
          simp only [yD, zA, zB]
          refine wpL_g (wg rfl rfl rfl) (fun hc => r_load 23 _ rfl (evg rfl hc) (yC HNr.out 3 rfl) zU23 rfl) ?_
          simp only [yD, zA, zB]
          refine wpL_g (wg rfl rfl rfl) (fun hc => r_len #[] #[] _ 23 rfl (evg rfl hc) zU23) ?_
          simp only [yD, zA, zB]
          refine wpL_g (wg rfl rfl rfl) (fun hc => r_ieq 3 _ _ _ rfl (evg rfl hc) rfl) ?_
          simp only [yD, zA, zB]
          refine wpL_g (wa rfl rfl rfl) (fun hc => r_or _ _ _ rfl (evg rfl hc) rfl (fun hb => evg rfl (by first | (simp [hb, hc]; done) | (simp at hc ⊢; exact ⟨hc, by simpa using hb⟩)))) ?_
          simp only [yD, zA, zB]
          refine wpL_u rfl (r_and _ _ _ rfl (ev rfl) (fun hb => evg rfl (by first | (simp [hb]; done) | simpa using hb)) rfl) ?_
          simp only [yD, zA, zB]
          refine wpL_mv rfl rfl (ev rfl) ?_
          simp only [yD, zA, zB]
          refine wpL_mvg (wa rfl rfl rfl) rfl (fun hc => (ev rfl)) ?_
          simp only [yD, zA, zB]
          refine wpL_c (wa rfl rfl rfl) 116 _ _ rfl #[.string s3, .int .u8 102] (fun hc => mapA2 (evg rfl hc) rfl) Tryz.func116 (by kernel_rfl) (by kernel_rfl) (fun hc => HH102.out _) ?_
          simp only [yD, zA, zB]
          refine wpL_mvg (wa rfl rfl rfl) rfl (fun hc => (evg rfl hc)) ?_
          simp only [yD, zA, zB]
          refine wpL_g (wg rfl rfl rfl) (fun hc => r_field 29 _ 4 rfl (ev rfl) zU29 rfl (n := 0) isz_21 rfl) ?_
          simp only [yD, zA, zB]
          refine wpL_g (wg rfl rfl rfl) (fun hc => r_load 21 _ rfl (evg rfl hc) (yC HNr.out 4 rfl) zU21 rfl) ?_
          simp only [yD, zA, zB]
          refine wpL_g (wg rfl rfl rfl) (fun hc => r_ieq 21 _ _ _ rfl (evg rfl hc) rfl) ?_
          simp only [yD, zA, zB]
          refine wpL_g (wa rfl rfl rfl) (fun hc => r_or _ _ _ rfl (evg rfl hc) rfl (fun hb => evg rfl (by first | (simp [hb, hc]; done) | (simp at hc ⊢; exact ⟨hc, by simpa using hb⟩)))) ?_
          simp only [yD, zA, zB]
          refine wpL_u rfl (r_and _ _ _ rfl (ev rfl) (fun hb => evg rfl (by first | (simp [hb]; done) | simpa using hb)) rfl) ?_
          simp only [yD, zA, zB]
          refine wpL_as rfl rfl (ev rfl) ?_
          simp only [yD, zA, zB]
          iterate 26 (generalize gv _ _ = zz)
          obtain ⟨bC, hq⟩ : ∃ q, q = ((((bA && (h112 || (f.p.toList == (⟨#[]⟩ : ByteArray).toList))) && (h100 || (((d.n : Int) : Int) == 0))) && (h97 || (((a.n : Int) : Int) == 0))) && (h102 || ((f.fl : Int) == 0))) := ⟨_, rfl⟩
          rw [← hq]
          have HXC : Hid (cleanC f bA = bC) := by
           unfold Hid cleanC
           rw [hq, ← HE112.out, ← HE100.out, ← HE97.out, ← HE102.out, HDL.out, HAL.out]
          clear hq
          go_upto_region 21 with (fail)
          refine wp_region_lit ?_
          refine wpL_mv rfl rfl (ev rfl) ?_
          simp only [yD, zA, zB]
          refine wpL_mv rfl rfl (ev rfl) ?_
          simp only [yD, zA, zB]
          refine wpL_mvg (wa rfl rfl rfl) rfl (fun hc => (ev rfl)) ?_
          simp only [yD, zA, zB]
          refine wpL_c (wa rfl rfl rfl) 116 _ _ rfl #[.string s3, .int .u8 118] (fun hc => mapA2 (evg rfl hc) rfl) Tryz.func116 (by kernel_rfl) (by kernel_rfl) (fun hc => HH118.out _) ?_
          simp only [yD, zA, zB]
          refine wpL_mvg (wa rfl rfl rfl) rfl (fun hc => (evg rfl hc)) ?_
          simp only [yD, zA, zB]
          refine wpL_g (wg rfl rfl rfl) (fun hc => r_field 29 _ 5 rfl (ev rfl) zU29 rfl (n := 0) isz_21 rfl) ?_
          simp only [yD, zA, zB]
          refine wpL_g (wg rfl rfl rfl) (fun hc => r_load 21 _ rfl (evg rfl hc) (yC HNr.out 5 rfl) zU21 rfl) ?_
          simp only [yD, zA, zB]
          refine wpL_g (wg rfl rfl rfl) (fun hc => r_ieq 21 _ _ _ rfl (evg rfl hc) rfl) ?_
          simp only [yD, zA, zB]
          refine wpL_g (wa rfl rfl rfl) (fun hc => r_or _ _ _ rfl (evg rfl hc) rfl (fun hb => evg rfl (by first | (simp [hb, hc]; done) | (simp at hc ⊢; exact ⟨hc, by simpa using hb⟩)))) ?_
          simp only [yD, zA, zB]
          refine wpL_u rfl (r_and _ _ _ rfl (ev rfl) (fun hb => evg rfl (by first | (simp [hb]; done) | simpa using hb)) rfl) ?_
          simp only [yD, zA, zB]
          refine wpL_mv rfl rfl (ev rfl) ?_
          simp only [yD, zA, zB]
          refine wpL_mvg (wa rfl rfl rfl) rfl (fun hc => (ev rfl)) ?_
          simp only [yD, zA, zB]
          refine wpL_c (wa rfl rfl rfl) 116 _ _ rfl #[.string s3, .int .u8 119] (fun hc => mapA2 (evg rfl hc) rfl) Tryz.func116 (by kernel_rfl) (by kernel_rfl) (fun hc => HH119.out _) ?_
          simp only [yD, zA, zB]
          refine wpL_mvg (wa rfl rfl rfl) rfl (fun hc => (evg rfl hc)) ?_
          simp only [yD, zA, zB]
          refine wpL_g (wg rfl rfl rfl) (fun hc => r_field 29 _ 6 rfl (ev rfl) zU29 rfl (n := 0) isz_4 rfl) ?_
          simp only [yD, zA, zB]
          refine wpL_g (wg rfl rfl rfl) (fun hc => r_load 4 _ rfl (evg rfl hc) (yC HNr.out 6 rfl) zU4 rfl) ?_
          simp only [yD, zA, zB]
          refine wpL_g (wg rfl rfl rfl) (fun hc => r_not _ _ rfl (evg rfl hc)) ?_
          simp only [yD, zA, zB]
          refine wpL_g (wa rfl rfl rfl) (fun hc => r_or _ _ _ rfl (evg rfl hc) rfl (fun hb => evg rfl (by first | (simp [hb, hc]; done) | (simp at hc ⊢; exact ⟨hc, by simpa using hb⟩)))) ?_
          simp only [yD, zA, zB]
          refine wpL_u rfl (r_and _ _ _ rfl (ev rfl) (fun hb => evg rfl (by first | (simp [hb]; done) | simpa using hb)) rfl) ?_
          simp only [yD, zA, zB]
          refine wpL_mv rfl rfl (ev rfl) ?_
          simp only [yD, zA, zB]
          refine wpL_mvg (wa rfl rfl rfl) rfl (fun hc => (ev rfl)) ?_
          simp only [yD, zA, zB]
          refine wpL_c (wa rfl rfl rfl) 116 _ _ rfl #[.string s3, .int .u8 99] (fun hc => mapA2 (evg rfl hc) rfl) Tryz.func116 (by kernel_rfl) (by kernel_rfl) (fun hc => HH99.out _) ?_
          simp only [yD, zA, zB]
          refine wpL_mvg (wa rfl rfl rfl) rfl (fun hc => (evg rfl hc)) ?_
          simp only [yD, zA, zB]
          refine wpL_g (wg rfl rfl rfl) (fun hc => r_field 29 _ 7 rfl (ev rfl) zU29 rfl (n := 0) isz_2 rfl) ?_
          simp only [yD, zA, zB]
          refine wpL_g (wg rfl rfl rfl) (fun hc => r_load 2 _ rfl (evg rfl hc) (yC HNr.out 7 rfl) zU2 rfl) ?_
          simp only [yD, zA, zB]
          refine wpL_g (wg rfl rfl rfl) (fun hc => r_ieq 2 _ _ _ rfl (evg rfl hc) rfl) ?_
          simp only [yD, zA, zB]
          refine wpL_mvg (wg rfl rfl rfl) rfl (fun hc => (evg rfl hc)) ?_
          simp only [yD, zA, zB]
          refine wpL_g (wg rfl rfl rfl) (fun hc => r_field 29 _ 8 rfl (ev rfl) zU29 rfl (n := 0) isz_2 rfl) ?_
          simp only [yD, zA, zB]
          refine wpL_g (wg rfl rfl rfl) (fun hc => r_load 2 _ rfl (evg rfl hc) (yC HNr.out 8 rfl) zU2 rfl) ?_
          simp only [yD, zA, zB]
          refine wpL_g (wg rfl rfl rfl) (fun hc => r_ieq 2 _ _ _ rfl (evg rfl hc) rfl) ?_
          simp only [yD, zA, zB]
          refine wpL_g (wg rfl rfl rfl) (fun hc => r_and _ _ _ rfl (evg rfl hc) (fun hb => evg rfl (by first | (simp [hb, hc]; done) | (simp at hc ⊢; exact ⟨hc, by simpa using hb⟩))) rfl) ?_
          simp only [yD, zA, zB]
          refine wpL_g (wa rfl rfl rfl) (fun hc => r_or _ _ _ rfl (evg rfl hc) rfl (fun hb => evg rfl (by first | (simp [hb, hc]; done) | (simp at hc ⊢; exact ⟨hc, by simpa using hb⟩)))) ?_
          simp only [yD, zA, zB]
          refine wpL_u rfl (r_and _ _ _ rfl (ev rfl) (fun hb => evg rfl (by first | (simp [hb]; done) | simpa using hb)) rfl) ?_
          simp only [yD, zA, zB]
          refine wpL_as rfl rfl (ev rfl) ?_
          simp only [yD, zA, zB]
          iterate 22 (generalize gv _ _ = zz)
          obtain ⟨bD, hq⟩ : ∃ q, q = (((bC && (h118 || ((f.ve : Int) == 0))) && (h119 || (!f.wa))) && (h99 || (((f.ct : Int) == 0) && ((f.by_ : Int) == 0)))) := ⟨_, rfl⟩
          rw [← hq]
          have HXD : Hid (cleanD f bC = bD) := by
           unfold Hid cleanD
           rw [hq, ← HE118.out, ← HE119.out, ← HE99.out]
          clear hq
          go_upto_region 22 with (fail)
          refine wp_region_lit ?_
          refine wpL_mv rfl rfl (ev rfl) ?_
          simp only [yD, zA, zB]
          refine wpL_mv rfl rfl (ev rfl) ?_
          simp only [yD, zA, zB]
          refine wpL_mvg (wa rfl rfl rfl) rfl (fun hc => (ev rfl)) ?_
          simp only [yD, zA, zB]
          refine wpL_c (wa rfl rfl rfl) 116 _ _ rfl #[.string s3, .int .u8 116] (fun hc => mapA2 (evg rfl hc) rfl) Tryz.func116 (by kernel_rfl) (by kernel_rfl) (fun hc => HH116.out _) ?_
          simp only [yD, zA, zB]
          refine wpL_mvg (wa rfl rfl rfl) rfl (fun hc => (evg rfl hc)) ?_
          simp only [yD, zA, zB]
          refine wpL_g (wg rfl rfl rfl) (fun hc => r_field 29 _ 12 rfl (ev rfl) zU29 rfl (n := 0) isz_21 rfl) ?_
          simp only [yD, zA, zB]
          refine wpL_g (wg rfl rfl rfl) (fun hc => r_load 21 _ rfl (evg rfl hc) (yC HNr.out 16 rfl) zU21 rfl) ?_
          simp only [yD, zA, zB]
          refine wpL_g (wg rfl rfl rfl) (fun hc => r_ieq 21 _ _ _ rfl (evg rfl hc) rfl) ?_
          simp only [yD, zA, zB]
          refine wpL_g (wa rfl rfl rfl) (fun hc => r_or _ _ _ rfl (evg rfl hc) rfl (fun hb => evg rfl (by first | (simp [hb, hc]; done) | (simp at hc ⊢; exact ⟨hc, by simpa using hb⟩)))) ?_
          simp only [yD, zA, zB]
          refine wpL_u rfl (r_and _ _ _ rfl (ev rfl) (fun hb => evg rfl (by first | (simp [hb]; done) | simpa using hb)) rfl) ?_
          simp only [yD, zA, zB]
          refine wpL_mv rfl rfl (ev rfl) ?_
          simp only [yD, zA, zB]
          refine wpL_mvg (wa rfl rfl rfl) rfl (fun hc => (ev rfl)) ?_
          simp only [yD, zA, zB]
          refine wpL_c (wa rfl rfl rfl) 116 _ _ rfl #[.string s3, .int .u8 105] (fun hc => mapA2 (evg rfl hc) rfl) Tryz.func116 (by kernel_rfl) (by kernel_rfl) (fun hc => HH105.out _) ?_
          simp only [yD, zA, zB]
          refine wpL_mvg (wa rfl rfl rfl) rfl (fun hc => (evg rfl hc)) ?_
          simp only [yD, zA, zB]
          refine wpL_g (wg rfl rfl rfl) (fun hc => r_field 29 _ 13 rfl (ev rfl) zU29 rfl (n := 0) isz_26 rfl) ?_
          simp only [yD, zA, zB]
          refine wpL_g (wg rfl rfl rfl) (fun hc => r_load 26 _ rfl (evg rfl hc) (yC HNr.out 17 rfl) zU26 rfl) ?_
          simp only [yD, zA, zB]
          refine wpL_g (wg rfl rfl rfl) (fun hc => r_len #[] #[] _ 26 rfl (evg rfl hc) zU26) ?_
          simp only [yD, zA, zB]
          refine wpL_g (wg rfl rfl rfl) (fun hc => r_ieq 3 _ _ _ rfl (evg rfl hc) rfl) ?_
          simp only [yD, zA, zB]
          refine wpL_g (wa rfl rfl rfl) (fun hc => r_or _ _ _ rfl (evg rfl hc) rfl (fun hb => evg rfl (by first | (simp [hb, hc]; done) | (simp at hc ⊢; exact ⟨hc, by simpa using hb⟩)))) ?_
          simp only [yD, zA, zB]
          refine wpL_u rfl (r_and _ _ _ rfl (ev rfl) (fun hb => evg rfl (by first | (simp [hb]; done) | simpa using hb)) rfl) ?_
          simp only [yD, zA, zB]
          refine wpL_mv rfl rfl (ev rfl) ?_
          simp only [yD, zA, zB]
          refine wpL_mvg (wa rfl rfl rfl) rfl (fun hc => (ev rfl)) ?_
          simp only [yD, zA, zB]
          refine wpL_c (wa rfl rfl rfl) 116 _ _ rfl #[.string s3, .int .u8 115] (fun hc => mapA2 (evg rfl hc) rfl) Tryz.func116 (by kernel_rfl) (by kernel_rfl) (fun hc => HH115.out _) ?_
          simp only [yD, zA, zB]
          refine wpL_mvg (wa rfl rfl rfl) rfl (fun hc => (evg rfl hc)) ?_
          simp only [yD, zA, zB]
          refine wpL_g (wg rfl rfl rfl) (fun hc => r_field 29 _ 14 rfl (ev rfl) zU29 rfl (n := 0) isz_27 rfl) ?_
          simp only [yD, zA, zB]
          refine wpL_g (wg rfl rfl rfl) (fun hc => r_load 27 _ rfl (evg rfl hc) (yC HNr.out 18 rfl) zU27 rfl) ?_
          simp only [yD, zA, zB]
          refine wpL_g (wg rfl rfl rfl) (fun hc => r_len #[] #[] _ 27 rfl (evg rfl hc) zU27) ?_
          simp only [yD, zA, zB]
          refine wpL_g (wg rfl rfl rfl) (fun hc => r_ieq 3 _ _ _ rfl (evg rfl hc) rfl) ?_
          simp only [yD, zA, zB]
          refine wpL_g (wa rfl rfl rfl) (fun hc => r_or _ _ _ rfl (evg rfl hc) rfl (fun hb => evg rfl (by first | (simp [hb, hc]; done) | (simp at hc ⊢; exact ⟨hc, by simpa using hb⟩)))) ?_
          simp only [yD, zA, zB]
          refine wpL_u rfl (r_and _ _ _ rfl (ev rfl) (fun hb => evg rfl (by first | (simp [hb]; done) | simpa using hb)) rfl) ?_
          simp only [yD, zA, zB]
          refine wpL_as rfl rfl (ev rfl) ?_
          simp only [yD, zA, zB]
          iterate 20 (generalize gv _ _ = zz)
          obtain ⟨bE, hq⟩ : ∃ q, q = (((bD && (h116 || ((f.to : Int) == 0))) && (h105 || (((i.n : Int) : Int) == 0))) && (h115 || (((s.n : Int) : Int) == 0))) := ⟨_, rfl⟩
          rw [← hq]
          have HXE : Hid (cleanE f s.n bD = bE) := by
           unfold Hid cleanE
           rw [hq, ← HE116.out, ← HE105.out, ← HE115.out, HIL.out]
          clear hq
          go_wp2
          go_ret
          exact ⟨by rw [HRR.out, cleanB, HT.out, HXA.out, HXC.out, HXD.out, HXE.out]; rfl, HB1.out.trans (HBr.out.mono HB1.out.size)⟩

theorem letters {t : Int} (ht : t ∈ ownTypes) : hasN t 112 = decide (t ∈ tP) ∧ hasN t 100 = decide (t ∈ tD) ∧ hasN t 97 = decide (t ∈ tA) ∧ hasN t 102 = decide (t ∈ tF) ∧ hasN t 118 = decide (t ∈ tV) ∧ hasN t 119 = decide (t ∈ tW) ∧ hasN t 99 = decide (t ∈ tC) ∧ hasN t 108 = decide (t ∈ tL) ∧ hasN t 122 = decide (t ∈ tZ) ∧ hasN t 107 = decide (t ∈ tZ) ∧ hasN t 116 = decide (t ∈ tT) ∧ hasN t 105 = decide (t ∈ tT) ∧ hasN t 115 = decide (t ∈ tS) := by
 revert t
 decide +kernel
theorem k_int {p : Prop} [Decidable p] (x : Int) : (x == if p then x else 0) = (decide p || x == 0) := by by_cases h : p <;> simp [h]
theorem k_bool {p : Prop} [Decidable p] (x : Bool) : (x == if p then x else false) = (decide p || !x) := by by_cases h : p <;> simp [h]
theorem k_list {α : Type} [DecidableEq α] {p : Prop} [Decidable p] (l : List α) : decide (l = if p then l else []) = (decide p || ((l.length : Int) == 0)) := by
 by_cases h : p <;> simp [h]
 cases l <;> simp <;> omega
theorem k_str {p : Prop} [Decidable p] (s : ByteArray) : (s.toList == (if p then s else ⟨#[]⟩).toList) = (decide p || (s.toList == (⟨#[]⟩ : ByteArray).toList)) := by by_cases h : p <;> simp [h]
theorem k_len {p : Prop} [Decidable p] (n : Nat) : ((n : Int) != ((if p then n else 0 : Nat) : Int)) = !(decide p || ((n : Int) == 0)) := by
 by_cases h : p <;> simp [h]
 rw [Bool.eq_iff_iff]; simp
theorem k_lists {p : Prop} [Decidable p] (a b c d e : List ByteArray) : decide ([a, b, c, d, e] = [if p then a else [], if p then b else [], if p then c else [], if p then d else [], if p then e else []]) = ((((decide p || ((a.length : Int) == 0)) && (decide p || ((b.length : Int) == 0))) && ((decide p || ((c.length : Int) == 0)) && (decide p || ((d.length : Int) == 0)))) && (decide p || ((e.length : Int) == 0))) := by
 rw [← k_list, ← k_list, ← k_list, ← k_list, ← k_list]
 simp only [List.cons.injEq, and_true, Bool.decide_and, Bool.and_assoc]
theorem odd_ids (L : List (ByteArray × ByteArray)) : (!L.any oddI) = L.all okP := by
 induction L with
 | nil => rfl
 | cons x r ih =>
   rw [List.any_cons, List.all_cons, Bool.not_or, ih]
   unfold oddI okP
   cases validS x.1 <;> cases validS x.2 <;> rfl
theorem odd_texts (L : List ByteArray) : (!L.any oddP) = L.all validS := by
 induction L with
 | nil => rfl
 | cons x r ih =>
   rw [List.any_cons, List.all_cons, Bool.not_or, ih]
   unfold oddP
   cases validS x <;> rfl
theorem and_or2 (h a b : Bool) : (h || (a && b)) = ((h || a) && (h || b)) := by cases h <;> simp
theorem not5 (A B C D E : Bool) : (!((((A || B) || C) || !D) || !E)) = ((((!A && !B) && !C) && D) && E) := by cases A <;> cases B <;> cases C <;> cases D <;> cases E <;> rfl
theorem clean_odd (f : OpF) (n : Nat) (ht : f.t ∈ ownTypes) : cleanB f n = !oddB f n := by
 obtain ⟨e1, e2, e3, e4, e5, e6, e7, e8, e9, e10, e11, e12, e13⟩ := letters ht
 unfold cleanB cleanE cleanD cleanC cleanA cleanT oddB plainB keptF OpF.lists OpF.texts OpF.ids
 try unfold Oq4P1
 simp only [k_int, k_bool, k_str, k_list, k_len, k_lists]
 rw [not5, Bool.not_not, odd_ids, odd_texts]
 simp only [List.all_cons, List.all_nil, okK, e1, e2, e3, e4, e5, e6, e7, e8, e9, e10, e11, e12, e13, and_or2, List.all_append, List.all_map, beq_self_eq_true, Bool.true_and, Bool.and_true]
 rw [show (okP ∘ fun x : AclT => x.2) = fun x => okP x.2 from rfl]
 ac_rfl

theorem refOwn_any {w0 : World} {lo : Option Nat} {x : OpC} {xs : List Value} (h : At w0 lo x xs) : ∀ (w : World), Below w0.heap.size w0 w →
 Calls Tryz.prog 34 #[.agg xs.toArray] w fun e w' => e = .returned (.int .i64 x.allE) ∧ Below w.heap.size w w' := by
 induction h with
 | mk f d a k0 k1 k2 k3 k4 i s Q ok hd ha hk0 hk1 hk2 hk3 hk4 hi hs hQ ih =>
   intro w hb0
   have hlen : s.n ≤ 4611686018427387904 := hs.bd (by decide)
   obtain ⟨cs, hcs⟩ : ∃ cs : Array Value, cs = (f.row d a k0 k1 k2 k3 k4 i s).toArray := ⟨_, rfl⟩
   have HSZ : Hid (∀ W, Below w0.heap.size w0 W → Calls Tryz.prog 73 #[.agg cs] W fun e w' => e = .returned (.int .i64 (if bigB f s.n then 3 else 0)) ∧ Below W.heap.size W w') := fun W hW =>
    refSize_any f d a k0 k1 k2 k3 k4 i s W ((⟨hd, ha, hk0, hk1, hk2, hk3, hk4, hi⟩ : FAt w0 lo f d a k0 k1 k2 k3 k4 i).later hW) hlen cs hcs
   have HCLN : Hid (∀ W, Below w0.heap.size w0 W → Calls Tryz.prog 74 #[.agg cs] W fun e w' => e = .returned (.bool (cleanB f s.n)) ∧ Below W.heap.size W w') := fun W hW =>
    refClean_any f d a k0 k1 k2 k3 k4 i s W ((⟨hd, ha, hk0, hk1, hk2, hk3, hk4, hi⟩ : FAt w0 lo f d a k0 k1 k2 k3 k4 i).later hW) ok hlen cs hcs
   have HKI := Hi (fun W => refKind_any f.t W)
   rw [← hcs]
   obtain ⟨w1, hw1⟩ := xa w cs 29
   have HB1 := Hi (newB hw1)
   have HN1 := Hi (newK hw1)
   have HC0 : Hid (cs[0]? = some (.int .i32 f.t)) := by unfold Hid; rw [hcs]; rfl
   have HC18 : Hid (cs[18]? = some (.slice s.A s.n s.c)) := by unfold Hid; rw [hcs]; rfl
   have HI19 : Hid ((Tryz.prog.info? 29).map (·.size) = some cs.size) := by unfold Hid; rw [hcs]; exact isz_29
   have HR : Hid (Reads w w0.heap.size 19 s.A s.n (Q.flatMap Prod.snd)) := hs.reads.below hb0
   have HQA : Hid (∀ q ∈ Q, At w0 lo q.1 q.2) := hQ
   have HSL : Hid (Q.length = s.n) := hs.len
   have HIH := Hi ih
   have HB0 := Hi hb0
   have HBO := hidT HB0 (newB hw1)
   obtain ⟨S, hS⟩ : ∃ S, S = Q.map Prod.fst := ⟨_, rfl⟩
   have HSQ := Hi hS
   rw [← hS]
   have c0 := yC HN1.out 0 HC0.out
   have hkt : kindN f.t ≠ 0 → cleanB f s.n = !oddB f s.n := fun h => clean_odd f s.n (kind_types h)
   rw [OpC.allE, show S.length = s.n by rw [hS, List.length_map, hs.len], ownE]
   clear hcs ih hs hd ha hk0 hk1 hk2 hk3 hk4 hi hQ ok hb0 hS
   obtain ⟨A, N, c⟩ := s
   dsimp only at HR HSL hlen HC18 HSZ HCLN hkt
   dsimp only
   by_cases hk : kindN f.t = 0
   · rw [if_pos hk, if_pos (by decide : (110 : Int) ≠ 0)]
     rw [hk] at HKI
     clear hk hkt
     go_enter Tryz.func34, Tryz.ntmps34
     go_wp2_with (go_at_call 12; refine (HKI.out _).mono ?_; rintro e w2 ⟨rfl, he⟩; obtain rfl := he.symm)
     go_ret
     exact ⟨rfl, HB1.out⟩
   rw [if_neg hk]
   have HCO := Hi (hkt hk)
   generalize kindN f.t = kk at HKI hk
   have hkb : (kk == 0) = false := by simpa using hk
   clear hk hkt
   generalize bigB f N = bg at HSZ ⊢
   cases bg
   rotate_left
   · rw [if_pos rfl, if_pos (by decide : (3 : Int) ≠ 0)]
     rw [if_pos rfl] at HSZ
     go_enter Tryz.func34, Tryz.ntmps34
     go_wp2_with (first
      | (go_at_call 12; refine (HKI.out _).mono ?_; rintro e w2 ⟨rfl, he⟩; obtain rfl := he.symm)
      | (refine wpList_load_row rfl 29 (.tmp 1) rfl w.heap.size rfl 29 _ _ _ HN1.out zU29 rfl HI19.out ?_)
      | (go_at_call 73
         refine (HSZ.out _ HBO.out).mono ?_
         rintro e w3 ⟨rfl, hb⟩
         have HB3 := hidT HB1 hb
         have HN3 := Hi (HN1.out.below hb HN1.out.lt)
         have HBO3 := hidT HBO hb
         clear hb))
     go_ret
     exact ⟨rfl, HB3.out⟩
   rw [if_neg (by decide : ¬ (false : Bool) = true)]
   rw [if_neg (by decide : ¬ (false : Bool) = true)] at HSZ
   rw [HCO.out] at HCLN
   generalize oddB f N = od at HCLN ⊢
   cases od
   rotate_left
   · rw [if_pos rfl, if_pos (by decide : (1 : Int) ≠ 0)]
     go_enter Tryz.func34, Tryz.ntmps34
     go_wp2_with (first
      | (go_at_call 12; refine (HKI.out _).mono ?_; rintro e w2 ⟨rfl, he⟩; obtain rfl := he.symm)
      | (refine wpList_load_row rfl 29 (.tmp 1) rfl w.heap.size rfl 29 _ _ _ HN1.out zU29 rfl HI19.out ?_)
      | (go_at_call 73
         refine (HSZ.out _ HBO.out).mono ?_
         rintro e w3 ⟨rfl, hb⟩
         have HB3 := hidT HB1 hb
         have HN3 := Hi (HN1.out.below hb HN1.out.lt)
         have HBO3 := hidT HBO hb
         have HB13 := Hi hb
         clear hb)
      | (refine wpList_load_row rfl 29 (.tmp 1) rfl w.heap.size rfl 29 _ _ _ HN3.out zU29 rfl HI19.out ?_)
      | (go_at_call 74
         refine (HCLN.out _ HBO3.out).mono ?_
         rintro e w4 ⟨rfl, hb⟩
         have HB4 := hidT HB3 hb
         have HW14 : Hid (Below w1.heap.size w1 w4) := (HB13.out.trans (hb.mono HB13.out.size))
         clear hb))
     go_ret
     exact ⟨rfl, HB4.out⟩
   rw [if_neg (by decide : ¬ (false : Bool) = true), if_neg (by decide : ¬ (0 : Int) ≠ 0)]
   go_enter Tryz.func34, Tryz.ntmps34
   go_wp2_with (first
    | (go_at_call 12; refine (HKI.out _).mono ?_; rintro e w2 ⟨rfl, he⟩; obtain rfl := he.symm)
    | (refine wpList_load_row rfl 29 (.tmp 1) rfl w.heap.size rfl 29 _ _ _ HN1.out zU29 rfl HI19.out ?_)
    | (go_at_call 73
       refine (HSZ.out _ HBO.out).mono ?_
       rintro e w3 ⟨rfl, hb⟩
       have HB3 := hidT HB1 hb
       have HN3 := Hi (HN1.out.below hb HN1.out.lt)
       have HBO3 := hidT HBO hb
       have HB13 := Hi hb
       clear hb)
    | (refine wpList_load_row rfl 29 (.tmp 1) rfl w.heap.size rfl 29 _ _ _ HN3.out zU29 rfl HI19.out ?_)
    | (go_at_call 74
       refine (HCLN.out _ HBO3.out).mono ?_
       rintro e w4 ⟨rfl, hb⟩
       have HB4 := hidT HB3 hb
       have HW14 : Hid (Below w1.heap.size w1 w4) := (HB13.out.trans (hb.mono HB13.out.size))
       clear hb))
   clear c0
   have HB14 := Hi HW14.out
   clear HW14 HB13
   go_loopw [4] (fun vi wr => ∃ (k : Nat), k ≤ N ∧ vi = .int .i64 (k : Int) ∧ Hid (allL f.t S = allL f.t (S.drop k)) ∧ Hid (Below w1.heap.size w1 wr)) (fun vi _ => N - (intOf vi).toNat)
   case atStart => exact ⟨0, by omega, by go_num, (by unfold Hid; simp), HB14.out⟩
   case round =>
    clear HB14 HB3 HN3 HBO3 HB4
    obtain ⟨k, hk, rfl, HK, HW⟩ := hrel
    have c18r := yC (HN1.out.below HW.out HN1.out.lt) 18 HC18.out
    by_cases hkn : k < N
    · have hkQ : k < Q.length := by rw [HSL.out]; exact hkn
      have hbw : Below w.heap.size w wr := HB1.out.trans (HW.out.mono HB1.out.size)
      obtain ⟨ad, hA, hrow⟩ := rowAt (HR.out.below (hbw.mono HB0.out.size)) HQA.out hkQ HSL.out
      subst hA
      have hdrop : S.drop k = (Q[k]).1 :: S.drop (k + 1) := by
       rw [HSQ.out, List.drop_eq_getElem_cons (by simpa using hkQ)]
       simp
      have hih := HIH.out (Q[k]) (List.getElem_mem _)
      have hx0 := (HQA.out (Q[k]) (List.getElem_mem _)).c0
      have hrows : ∀ W, Below wr.heap.size wr W → RowAt W ad k (Q[k]).2 := fun W hW => by
       obtain ⟨ad', hA', hrow'⟩ := rowAt ((HR.out.below (hbw.mono HB0.out.size)).below (hW.mono (Nat.le_trans HB0.out.size hbw.size))) HQA.out hkQ HSL.out
       injection hA' with e
       subst e
       exact hrow'
      obtain ⟨⟨x, xc⟩, hx⟩ : ∃ x, x = Q[k] := ⟨_, rfl⟩
      rw [← hx] at hrow hrows hdrop hih hx0
      dsimp only at hrow hrows hdrop hih hx0
      have hk' := HK.out
      rw [hdrop, allL] at hk'
      have hih2 : ∀ W, Below wr.heap.size wr W → Calls Tryz.prog 34 #[.agg xc.toArray] W fun e w' => e = .returned (.int .i64 x.allE) ∧ Below W.heap.size W w' := fun W hW =>
       hih W ((HB0.out.trans (hbw.mono HB0.out.size)).trans (hW.mono (Nat.le_trans HB0.out.size hbw.size)))
      have HROW := Hi hrow
      have HROWS := Hi hrows
      have HIK := Hi hih2
      obtain ⟨xt, hxt⟩ : ∃ t, t = x.f.t := ⟨_, rfl⟩
      have HX0 : Hid (∀ W, Below wr.heap.size wr W → W.cell? (ad.add (k * 19)) = some (.int .i32 xt)) := fun W hW => (HROWS.out W hW).cells 0 _ (by rw [hxt]; exact hx0)
      have HM : Hid (∀ W, Calls Tryz.prog 75 #[.int .i32 f.t, .int .i32 xt] W fun e w' => e = .returned (.bool (mayN xt f.t)) ∧ Below W.heap.size W w') := fun W => (refInner_any _ _ W).mono fun e w' h => ⟨h.1, by rw [h.2]; exact Below.refl _ _⟩
      rw [← hxt] at hk'
      generalize mayN xt f.t = mb at HM hk'
      generalize x.allE = xe at HIK hk'
      clear hx hrow hrows hdrop hbw hkQ hih hih2 hx0 hxt
      go_wp2
      obtain ⟨x25, H25⟩ := xv (.pointer (some ⟨w.heap.size, 0, none⟩))
      obtain ⟨x26, H26⟩ := xv (.int .i32 f.t)
      obtain ⟨x27, H27⟩ := xv (.pointer (some ⟨w.heap.size, 18, none⟩))
      obtain ⟨x28, H28⟩ := xv (.slice (some ad) N c)
      obtain ⟨x29, H29⟩ := xv (.int .i64 (k : Int))
      obtain ⟨x30, H30⟩ := xv (.pointer (some (ad.add (k * 19))))
      obtain ⟨x31, H31⟩ := xv (.pointer (some (ad.add (k * 19))))
      obtain ⟨x32, H32⟩ := xv (.int .i32 xt)
      obtain ⟨x33, H33⟩ := xv (.bool mb)
      refine wp_region_ord (w0 := wr) (.inl x25 ::
       .inl x26 ::
       .inl x27 ::
       .inl x28 ::
       .inl x29 ::
       .inl x30 ::
       .inl x31 ::
       .inl x32 ::
       .inl x33 ::
       .inl (.bool (!mb)) :: []) rfl (by kernel_rfl) (by kernel_rfl) (by kernel_rfl) (by kernel_rfl) (nomono rfl) ⟨fun ac W hb o q K hK => op_u (u := .pointer (some ⟨w.heap.size, 0, none⟩)) rfl (r_field 29 _ 0 rfl (yA (hO o 1)) zU29 rfl (n := 0) isz_21 rfl) (kH hK H25),
       fun ac W hb o q K hK => op_u (u := .int .i32 f.t) rfl (r_load 21 _ rfl (yA (dE q 0 25 H25)) (yC (HN1.out.below (HW.out.trans (hb.mono HW.out.size)) HN1.out.lt) 0 HC0.out) zU21 rfl) (kH hK H26),
       fun ac W hb o q K hK => op_u (u := .pointer (some ⟨w.heap.size, 18, none⟩)) rfl (r_field 29 _ 14 rfl (yA (hO o 1)) zU29 rfl (n := 0) isz_27 rfl) (kH hK H27),
       fun ac W hb o q K hK => op_u (u := .slice (some ad) N c) rfl (r_load 27 _ rfl (yA (dE q 2 27 H27)) (yC (HN1.out.below (HW.out.trans (hb.mono HW.out.size)) HN1.out.lt) 18 HC18.out) zU27 rfl) (kH hK H28),
       fun ac W hb o q K hK => op_u (u := .int .i64 (k : Int)) rfl (r_move _ rfl (yA (hO o 4))) (kH hK H29),
       fun ac W hb o q K hK => op_u (u := .pointer (some (ad.add (k * 19)))) rfl (r_index 27 _ _ rfl (yA (dE q 3 28 H28)) (yA (dE q 4 29 H29)) hkn zU27 isz_29 rfl) (kH hK H30),
       fun ac W hb o q K hK => op_u (u := .pointer (some (ad.add (k * 19)))) rfl (r_field 29 _ 0 rfl (yA (dE q 5 30 H30)) zU29 rfl (n := 0) isz_21 rfl) (kH hK H31),
       fun ac W hb o q K hK => op_u (u := .int .i32 xt) rfl (r_load 21 _ rfl (yA (dE q 6 31 H31)) (HX0.out W hb) zU21 rfl) (kH hK H32),
       fun ac W hb o q K hK => op_call (u := .bool mb) (c := true) (want_free rfl) 75 _ _ rfl (#[.int .i32 f.t, .int .i32 xt]) (fun hc => by simp [(yA (dE q 1 26 H26)), (yA (dE q 7 32 H32))]) Tryz.func75 (by kernel_rfl) (by kernel_rfl) (fun hc => HM.out W) (fun w' hbl => hK _ _ H33.out.symm hbl),
       fun ac W hb o q K hK => op_u (u := .bool (!mb)) rfl (r_not _ _ rfl (yA (dE q 8 33 H33))) (kR hK), trivial⟩ ?_
      intro w3 hb3
      simp only [Fin, Act.put, zD, zA, zB]
      clear H25 H26 H27 H28 H29 H30 H31 H32 H33
      have HB23 := Hi hb3
      clear hb3
      cases mb
      · have HK2 : Hid (allL f.t S = 110) := hk'
        clear hk'
        go_wp2
        go_ret
        rw [HK2.out]
        exact ⟨rfl, (HB1.out.trans (HW.out.mono HB1.out.size)).trans (HB23.out.mono (Nat.le_trans HB1.out.size HW.out.size))⟩
      · rw [if_neg (by decide)] at hk'
        have HR3 := Hi (HROWS.out _ HB23.out)
        have c18s := yC ((HN1.out.below HW.out HN1.out.lt).below HB23.out (Nat.lt_of_lt_of_le HN1.out.lt HW.out.size)) 18 HC18.out
        by_cases hxe : xe = 0
        · rw [if_neg (by simpa using hxe)] at hk'
          have HK2 := Hi hk'
          subst hxe
          clear hk' HK
          go_wp2_with (first
           | (refine wpList_load_at (by rfl) 29 (.tmp 38) rfl (ad.add (k * 19)) rfl xc _ HR3.out.cells zU29 rfl HR3.out.info ?_)
           | (go_at_call 34
              refine (HIK.out _ HB23.out).mono ?_
              rintro e w5 ⟨rfl, hb⟩
              have HW3 : Hid (Below w1.heap.size w1 w5) := (HW.out.trans (HB23.out.mono HW.out.size)).trans (hb.mono (Nat.le_trans HW.out.size HB23.out.size))
              clear hb))
          go_roundw
          case rel => exact ⟨k + 1, by omega, by go_num, HK2.out, HW3.out⟩
          case measure => simp [intOf]; omega
        · rw [if_pos hxe] at hk'
          have HK2 := Hi hk'
          have hxb : (xe != 0) = true := by simpa using hxe
          clear hk' HK hxe
          go_wp2_with (first
           | (refine wpList_load_at (by rfl) 29 (.tmp 38) rfl (ad.add (k * 19)) rfl xc _ HR3.out.cells zU29 rfl HR3.out.info ?_)
           | (go_at_call 34
              refine (HIK.out _ HB23.out).mono ?_
              rintro e w5 ⟨rfl, hb⟩
              have HW3 : Hid (Below w1.heap.size w1 w5) := (HW.out.trans (HB23.out.mono HW.out.size)).trans (hb.mono (Nat.le_trans HW.out.size HB23.out.size))
              clear hb))
          go_ret
          rw [HK2.out]
          exact ⟨rfl, HB1.out.trans (HW3.out.mono HB1.out.size)⟩
    · have hkk : k = N := by omega
      subst hkk
      have HK2 : Hid (allL f.t S = 0) := by
       have h := HK.out
       rwa [List.drop_eq_nil_of_le (by rw [HSQ.out, List.length_map, HSL.out]; exact Nat.le_refl _), allL] at h
      have HBW : Hid (Below w.heap.size w wr) := HB1.out.trans (HW.out.mono HB1.out.size)
      clear HK
      go_wp2
      go_ret
      rw [HK2.out]
      exact ⟨rfl, HBW.out⟩
end Go.Proofs.YtpjjnmdfgcfnmaaGreatDoor
