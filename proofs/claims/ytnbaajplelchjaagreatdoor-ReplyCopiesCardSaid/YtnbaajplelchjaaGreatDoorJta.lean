/- Is a text UTF-8, by the document's table of bytes. -/
import Derived.Test.YtnbaajplelchjaaGreatDoorJu
set_option linter.unusedVariables false
set_option linter.unusedSimpArgs false
namespace Go.Proofs.YtnbaajplelchjaaGreatDoor
open Go.RowKit

def mN (b : Nat) : Int := if b < 128 then 0 else if 194 ≤ b ∧ b ≤ 223 then 1 else if b = 224 then 2 else if b = 237 then 2 else if 225 ≤ b ∧ b ≤ 239 then 2 else if b = 240 then 3 else if b = 244 then 3 else if 241 ≤ b ∧ b ≤ 243 then 3 else -1
def mLo (b : Nat) : Int := if b < 128 then 0 else if 194 ≤ b ∧ b ≤ 223 then 128 else if b = 224 then 160 else if b = 237 then 128 else if 225 ≤ b ∧ b ≤ 239 then 128 else if b = 240 then 144 else if b = 244 then 128 else if 241 ≤ b ∧ b ≤ 243 then 128 else 0
def mHi (b : Nat) : Int := if b < 128 then 0 else if 194 ≤ b ∧ b ≤ 223 then 191 else if b = 224 then 191 else if b = 237 then 159 else if 225 ≤ b ∧ b ≤ 239 then 191 else if b = 240 then 191 else if b = 244 then 143 else if 241 ≤ b ∧ b ≤ 243 then 191 else 0

theorem mcls (b : Nat) : (b < 128 ∧ mN b = 0 ∧ mLo b = 0 ∧ mHi b = 0) ∨ (194 ≤ b ∧ b ≤ 223 ∧ mN b = 1 ∧ mLo b = 128 ∧ mHi b = 191) ∨ (b = 224 ∧ mN b = 2 ∧ mLo b = 160 ∧ mHi b = 191) ∨ (b = 237 ∧ mN b = 2 ∧ mLo b = 128 ∧ mHi b = 159) ∨ ((225 ≤ b ∧ b ≤ 236 ∨ 238 ≤ b ∧ b ≤ 239) ∧ mN b = 2 ∧ mLo b = 128 ∧ mHi b = 191) ∨ (b = 240 ∧ mN b = 3 ∧ mLo b = 144 ∧ mHi b = 191) ∨ (b = 244 ∧ mN b = 3 ∧ mLo b = 128 ∧ mHi b = 143) ∨ (241 ≤ b ∧ b ≤ 243 ∧ mN b = 3 ∧ mLo b = 128 ∧ mHi b = 191) ∨ ((128 ≤ b ∧ b < 194 ∨ 244 < b) ∧ mN b = -1 ∧ mLo b = 0 ∧ mHi b = 0) := by
  by_cases c0 : b < 128
  · exact .inl ⟨c0, by unfold mN; rw [if_pos c0], by unfold mLo; rw [if_pos c0], by unfold mHi; rw [if_pos c0]⟩
  ·
    by_cases c1 : 194 ≤ b ∧ b ≤ 223
    · exact .inr (.inl ⟨c1.1, c1.2, by unfold mN; rw [if_neg c0, if_pos c1], by unfold mLo; rw [if_neg c0, if_pos c1], by unfold mHi; rw [if_neg c0, if_pos c1]⟩)
    ·
      by_cases c2 : b = 224
      · exact .inr (.inr (.inl ⟨c2, by unfold mN; rw [if_neg c0, if_neg c1, if_pos c2], by unfold mLo; rw [if_neg c0, if_neg c1, if_pos c2], by unfold mHi; rw [if_neg c0, if_neg c1, if_pos c2]⟩))
      ·
        by_cases c3 : b = 237
        · exact .inr (.inr (.inr (.inl ⟨c3, by unfold mN; rw [if_neg c0, if_neg c1, if_neg c2, if_pos c3], by unfold mLo; rw [if_neg c0, if_neg c1, if_neg c2, if_pos c3], by unfold mHi; rw [if_neg c0, if_neg c1, if_neg c2, if_pos c3]⟩)))
        ·
          by_cases c4 : 225 ≤ b ∧ b ≤ 239
          · exact .inr (.inr (.inr (.inr (.inl ⟨by omega, by unfold mN; rw [if_neg c0, if_neg c1, if_neg c2, if_neg c3, if_pos c4], by unfold mLo; rw [if_neg c0, if_neg c1, if_neg c2, if_neg c3, if_pos c4], by unfold mHi; rw [if_neg c0, if_neg c1, if_neg c2, if_neg c3, if_pos c4]⟩))))
          ·
            by_cases c5 : b = 240
            · exact .inr (.inr (.inr (.inr (.inr (.inl ⟨c5, by unfold mN; rw [if_neg c0, if_neg c1, if_neg c2, if_neg c3, if_neg c4, if_pos c5], by unfold mLo; rw [if_neg c0, if_neg c1, if_neg c2, if_neg c3, if_neg c4, if_pos c5], by unfold mHi; rw [if_neg c0, if_neg c1, if_neg c2, if_neg c3, if_neg c4, if_pos c5]⟩)))))
            ·
              by_cases c6 : b = 244
              · exact .inr (.inr (.inr (.inr (.inr (.inr (.inl ⟨c6, by unfold mN; rw [if_neg c0, if_neg c1, if_neg c2, if_neg c3, if_neg c4, if_neg c5, if_pos c6], by unfold mLo; rw [if_neg c0, if_neg c1, if_neg c2, if_neg c3, if_neg c4, if_neg c5, if_pos c6], by unfold mHi; rw [if_neg c0, if_neg c1, if_neg c2, if_neg c3, if_neg c4, if_neg c5, if_pos c6]⟩))))))
              ·
                by_cases c7 : 241 ≤ b ∧ b ≤ 243
                · exact .inr (.inr (.inr (.inr (.inr (.inr (.inr (.inl ⟨c7.1, c7.2, by unfold mN; rw [if_neg c0, if_neg c1, if_neg c2, if_neg c3, if_neg c4, if_neg c5, if_neg c6, if_pos c7], by unfold mLo; rw [if_neg c0, if_neg c1, if_neg c2, if_neg c3, if_neg c4, if_neg c5, if_neg c6, if_pos c7], by unfold mHi; rw [if_neg c0, if_neg c1, if_neg c2, if_neg c3, if_neg c4, if_neg c5, if_neg c6, if_pos c7]⟩)))))))
                ·
                  exact .inr (.inr (.inr (.inr (.inr (.inr (.inr (.inr (⟨by omega, by unfold mN; rw [if_neg c0, if_neg c1, if_neg c2, if_neg c3, if_neg c4, if_neg c5, if_neg c6, if_neg c7], by unfold mLo; rw [if_neg c0, if_neg c1, if_neg c2, if_neg c3, if_neg c4, if_neg c5, if_neg c6, if_neg c7], by unfold mHi; rw [if_neg c0, if_neg c1, if_neg c2, if_neg c3, if_neg c4, if_neg c5, if_neg c6, if_neg c7]⟩))))))))

/-- the range of the k-th byte behind a lead byte b -/
def inR (b k x : Nat) : Prop := if k = 1 then mLo b ≤ x ∧ (x : Int) ≤ mHi b else 128 ≤ x ∧ x ≤ 191

set_option maxHeartbeats 1000000 in
theorem lead_law (l : List UInt8) (hne : l ≠ []) (h0 : 128 ≤ (l.getD 0 0).toNat) :
    (mN (l.getD 0 0).toNat = -1 → Lib.validD l = false) ∧
    (0 < mN (l.getD 0 0).toNat → (l.length : Int) ≤ mN (l.getD 0 0).toNat → Lib.validD l = false) ∧
    (∀ k : Nat, 1 ≤ k → (k : Int) ≤ mN (l.getD 0 0).toNat → mN (l.getD 0 0).toNat < l.length → ¬ inR (l.getD 0 0).toNat k (l.getD k 0).toNat → Lib.validD l = false) ∧
    (0 < mN (l.getD 0 0).toNat → mN (l.getD 0 0).toNat < l.length → (∀ k : Nat, 1 ≤ k → (k : Int) ≤ mN (l.getD 0 0).toNat → inR (l.getD 0 0).toNat k (l.getD k 0).toNat) → Lib.validD l = Lib.validD (l.drop ((mN (l.getD 0 0).toNat).toNat + 1))) := by
  have hv := Lib.validD_lead l hne h0
  have hb := (l.getD 0 0).toNat_lt
  have hk : ∀ k : Nat, 1 ≤ k → (k : Int) ≤ mN (l.getD 0 0).toNat → k = 1 ∨ k = 2 ∨ k = 3 := fun k h1 h2 => by
    rcases mcls (l.getD 0 0).toNat with h | h | h | h | h | h | h | h | h <;> omega
  generalize (l.getD 0 0).toNat = b0 at *
  generalize e1 : (l.getD 1 0).toNat = b1 at *
  generalize e2 : (l.getD 2 0).toNat = b2 at *
  generalize e3 : (l.getD 3 0).toNat = b3 at *
  have main : ∀ (f : Nat), Lib.firstT b0 = f → ∀ (n : Nat), mN b0 = n → 1 ≤ n → n ≤ 3 → f % 8 = n + 1 → mLo b0 = Lib.accLo (f / 16) → mHi b0 = Lib.accHi (f / 16) →
      (mN b0 = -1 → Lib.validD l = false) ∧
      (0 < mN b0 → (l.length : Int) ≤ mN b0 → Lib.validD l = false) ∧
      (∀ k : Nat, 1 ≤ k → (k : Int) ≤ mN b0 → mN b0 < l.length → ¬ inR b0 k (l.getD k 0).toNat → Lib.validD l = false) ∧
      (0 < mN b0 → mN b0 < l.length → (∀ k : Nat, 1 ≤ k → (k : Int) ≤ mN b0 → inR b0 k (l.getD k 0).toNat) → Lib.validD l = Lib.validD (l.drop ((mN b0).toNat + 1))) := by
    intro f hf n hn hn1 hn3 hsz hlo hhi
    rw [hf, hsz, ← Int.toNat_natCast (Lib.accLo (f / 16)), ← hlo, ← Int.toNat_natCast (Lib.accHi (f / 16)), ← hhi] at hv
    have hlo0 : 0 ≤ mLo b0 := by omega
    have hhi0 : 0 ≤ mHi b0 := by omega
    have bad : (l.length ≤ n ∨ b1 < (mLo b0).toNat ∨ (mHi b0).toNat < b1 ∨ 2 ≤ n ∧ (b2 < 128 ∨ 191 < b2) ∨ 3 ≤ n ∧ (b3 < 128 ∨ 191 < b3)) → Lib.validD l = false := by
      intro h
      rw [hv]
      have : Lib.checkN l.length b1 b2 b3 (n + 1) (mLo b0).toNat (mHi b0).toNat = none := by
        unfold Lib.checkN
        have hn' : n = 1 ∨ n = 2 ∨ n = 3 := by omega
        rcases hn' with rfl | rfl | rfl
        · rw [if_pos rfl, if_pos (by omega)]
        · rw [if_neg (by omega), if_pos rfl, if_pos (by omega)]
        · rw [if_neg (by omega), if_neg (by omega), if_pos rfl, if_pos (by omega)]
      rw [this]
    have good : ¬ (l.length ≤ n ∨ b1 < (mLo b0).toNat ∨ (mHi b0).toNat < b1 ∨ 2 ≤ n ∧ (b2 < 128 ∨ 191 < b2) ∨ 3 ≤ n ∧ (b3 < 128 ∨ 191 < b3)) → Lib.validD l = Lib.validD (l.drop (n + 1)) := by
      intro h
      rw [hv]
      have : Lib.checkN l.length b1 b2 b3 (n + 1) (mLo b0).toNat (mHi b0).toNat = some (n + 1) := by
        unfold Lib.checkN
        have hn' : n = 1 ∨ n = 2 ∨ n = 3 := by omega
        rcases hn' with rfl | rfl | rfl
        · rw [if_pos rfl, if_neg (by omega)]
        · rw [if_neg (by omega), if_pos rfl, if_neg (by omega)]
        · rw [if_neg (by omega), if_neg (by omega), if_pos rfl, if_neg (by omega)]
      rw [this]
    refine ⟨fun h => by omega, fun _ h => bad (.inl (by omega)), fun k h1 h2 h3 h4 => ?_, fun _ h2 h3 => ?_⟩
    · have hk' := hk k h1 h2
      rcases hk' with rfl | rfl | rfl
      · rw [e1] at h4
        simp only [inR, if_true] at h4
        exact bad (by omega)
      · rw [e2] at h4
        unfold inR at h4
        rw [if_neg (by omega)] at h4
        exact bad (by omega)
      · rw [e3] at h4
        unfold inR at h4
        rw [if_neg (by omega)] at h4
        exact bad (by omega)
    · rw [good, hn, Int.toNat_natCast]
      have g1 := h3 1 (by omega) (by omega)
      rw [e1] at g1
      simp only [inR, if_true] at g1
      have g2 : 2 ≤ n → 128 ≤ b2 ∧ b2 ≤ 191 := fun h => by
        have := h3 2 (by omega) (by omega)
        rw [e2] at this
        unfold inR at this
        rw [if_neg (by omega)] at this
        exact this
      have g3 : 3 ≤ n → 128 ≤ b3 ∧ b3 ≤ 191 := fun h => by
        have := h3 3 (by omega) (by omega)
        rw [e3] at this
        unfold inR at this
        rw [if_neg (by omega)] at this
        exact this
      omega
  rcases mcls b0 with h | ⟨h1, h2, h3, h4, h5⟩ | ⟨h1, h3, h4, h5⟩ | ⟨h1, h3, h4, h5⟩ | ⟨h1, h3, h4, h5⟩ | ⟨h1, h3, h4, h5⟩ | ⟨h1, h3, h4, h5⟩ | ⟨h1, h2, h3, h4, h5⟩ | ⟨h1, h3, h4, h5⟩
  · omega
  · exact main 2 (by unfold Lib.firstT; rw [if_neg (by omega), if_neg (by omega), if_pos (by omega)]) 1 h3 (by omega) (by omega) rfl h4 h5
  · exact main 19 (by unfold Lib.firstT; rw [if_neg (by omega), if_neg (by omega), if_neg (by omega), if_pos (by omega)]) 2 h3 (by omega) (by omega) rfl h4 h5
  · exact main 35 (by unfold Lib.firstT; rw [if_neg (by omega), if_neg (by omega), if_neg (by omega), if_neg (by omega), if_neg (by omega), if_pos (by omega)]) 2 h3 (by omega) (by omega) rfl h4 h5
  · have hf : Lib.firstT b0 = 3 := by
      rcases h1 with h1 | h1
      · unfold Lib.firstT; rw [if_neg (by omega), if_neg (by omega), if_neg (by omega), if_neg (by omega), if_pos (by omega)]
      · unfold Lib.firstT; rw [if_neg (by omega), if_neg (by omega), if_neg (by omega), if_neg (by omega), if_neg (by omega), if_neg (by omega), if_pos (by omega)]
    exact main 3 hf 2 h3 (by omega) (by omega) rfl h4 h5
  · exact main 52 (by unfold Lib.firstT; rw [if_neg (by omega), if_neg (by omega), if_neg (by omega), if_neg (by omega), if_neg (by omega), if_neg (by omega), if_neg (by omega), if_pos (by omega)]) 3 h3 (by omega) (by omega) rfl h4 h5
  · exact main 68 (by unfold Lib.firstT; rw [if_neg (by omega), if_neg (by omega), if_neg (by omega), if_neg (by omega), if_neg (by omega), if_neg (by omega), if_neg (by omega), if_neg (by omega), if_neg (by omega), if_pos (by omega)]) 3 h3 (by omega) (by omega) rfl h4 h5
  · exact main 4 (by unfold Lib.firstT; rw [if_neg (by omega), if_neg (by omega), if_neg (by omega), if_neg (by omega), if_neg (by omega), if_neg (by omega), if_neg (by omega), if_neg (by omega), if_pos (by omega)]) 3 h3 (by omega) (by omega) rfl h4 h5
  · have hf : Lib.firstT b0 = 241 := by
      rcases h1 with h1 | h1
      · unfold Lib.firstT; rw [if_neg (by omega), if_pos (by omega)]
      · unfold Lib.firstT; rw [if_neg (by omega), if_neg (by omega), if_neg (by omega), if_neg (by omega), if_neg (by omega), if_neg (by omega), if_neg (by omega), if_neg (by omega), if_neg (by omega), if_neg (by omega)]
    rw [hf] at hv
    have hfalse : Lib.validD l = false := by
      rw [hv]
      rfl
    exact ⟨fun _ => hfalse, fun _ _ => hfalse, fun _ _ _ _ _ => hfalse, fun h => by omega⟩

set_option maxRecDepth 100000 in
set_option maxHeartbeats 1000000 in
theorem more_any (b : Nat) (hb : b < 256) (w : World) :
    Calls Tryz.prog 119 #[.int .u8 b] w fun e w' => e = .returned (.tuple #[.int .i64 (mN b), .int .u8 (mLo b), .int .u8 (mHi b)]) ∧ w = w' := by
  rcases mcls b with ⟨h1, h3, h4, h5⟩ | ⟨h1, h2, h3, h4, h5⟩ | ⟨h1, h3, h4, h5⟩ | ⟨h1, h3, h4, h5⟩ | ⟨h1, h3, h4, h5⟩ | ⟨h1, h3, h4, h5⟩ | ⟨h1, h3, h4, h5⟩ | ⟨h1, h2, h3, h4, h5⟩ | ⟨h1, h3, h4, h5⟩
  all_goals rw [h3, h4, h5]; clear h3 h4 h5
  · have i1 : (b : Int) < 128 := by omega
    go_enter Tryz.func119, Tryz.ntmps119
    go_wp2
    go_ret3
    exact ⟨rfl, rfl⟩
  · have i1 : ¬ (b : Int) < 128 := by omega
    have i2 : (194 : Int) ≤ b := by omega
    have i3 : (b : Int) ≤ 223 := by omega
    go_enter Tryz.func119, Tryz.ntmps119
    go_wp2
    go_ret3
    exact ⟨rfl, rfl⟩
  · subst h1
    go_enter Tryz.func119, Tryz.ntmps119
    go_wp2
    go_ret3
    exact ⟨rfl, rfl⟩
  · subst h1
    go_enter Tryz.func119, Tryz.ntmps119
    go_wp2
    go_ret3
    exact ⟨rfl, rfl⟩
  · have i1 : ¬ (b : Int) < 128 := by omega
    have i2 : (194 : Int) ≤ b := by omega
    have i3 : ¬ (b : Int) ≤ 223 := by omega
    have i4 : ((b : Int) == 224) = false := by simp; omega
    have i5 : ((b : Int) == 237) = false := by simp; omega
    have i6 : (225 : Int) ≤ b := by omega
    have i7 : (b : Int) ≤ 239 := by omega
    clear h1
    go_enter Tryz.func119, Tryz.ntmps119
    go_wp2
    go_ret3
    exact ⟨rfl, rfl⟩
  · subst h1
    go_enter Tryz.func119, Tryz.ntmps119
    go_wp2
    go_ret3
    exact ⟨rfl, rfl⟩
  · subst h1
    go_enter Tryz.func119, Tryz.ntmps119
    go_wp2
    go_ret3
    exact ⟨rfl, rfl⟩
  · have i1 : ¬ (b : Int) < 128 := by omega
    have i2 : (194 : Int) ≤ b := by omega
    have i3 : ¬ (b : Int) ≤ 223 := by omega
    have i4 : ((b : Int) == 224) = false := by simp; omega
    have i5 : ((b : Int) == 237) = false := by simp; omega
    have i6 : (225 : Int) ≤ b := by omega
    have i7 : ¬ (b : Int) ≤ 239 := by omega
    have i8 : ((b : Int) == 240) = false := by simp; omega
    have i9 : ((b : Int) == 244) = false := by simp; omega
    have i10 : (241 : Int) ≤ b := by omega
    have i11 : (b : Int) ≤ 243 := by omega
    clear h1 h2
    go_enter Tryz.func119, Tryz.ntmps119
    go_wp2
    go_ret3
    exact ⟨rfl, rfl⟩
  · rcases h1 with ⟨h1, h2⟩ | h1
    · have i1 : ¬ (b : Int) < 128 := by omega
      have i2 : ¬ (194 : Int) ≤ b := by omega
      have i4 : ((b : Int) == 224) = false := by simp; omega
      have i5 : ((b : Int) == 237) = false := by simp; omega
      have i6 : ¬ (225 : Int) ≤ b := by omega
      have i8 : ((b : Int) == 240) = false := by simp; omega
      have i9 : ((b : Int) == 244) = false := by simp; omega
      have i10 : ¬ (241 : Int) ≤ b := by omega
      clear h1 h2
      go_enter Tryz.func119, Tryz.ntmps119
      go_wp2
      go_ret3
      exact ⟨rfl, rfl⟩
    · have i1 : ¬ (b : Int) < 128 := by omega
      have i2 : (194 : Int) ≤ b := by omega
      have i3 : ¬ (b : Int) ≤ 223 := by omega
      have i4 : ((b : Int) == 224) = false := by simp; omega
      have i5 : ((b : Int) == 237) = false := by simp; omega
      have i6 : (225 : Int) ≤ b := by omega
      have i7 : ¬ (b : Int) ≤ 239 := by omega
      have i8 : ((b : Int) == 240) = false := by simp; omega
      have i9 : ((b : Int) == 244) = false := by simp; omega
      have i10 : (241 : Int) ≤ b := by omega
      have i11 : ¬ (b : Int) ≤ 243 := by omega
      clear h1
      go_enter Tryz.func119, Tryz.ntmps119
      go_wp2
      go_ret3
      exact ⟨rfl, rfl⟩

/-- the law at a place of a text -/
theorem lead_at (s : ByteArray) (i : Nat) (hi : i < s.size) : ∀ b : Nat, (s[i]'hi).toNat = b →
    (b < 128 → Lib.validD (s.data.toList.drop i) = Lib.validD (s.data.toList.drop (i + 1))) ∧
    (mN b = -1 → Lib.validD (s.data.toList.drop i) = false) ∧
    (0 < mN b → (s.size : Int) ≤ i + mN b → Lib.validD (s.data.toList.drop i) = false) ∧
    (∀ k : Nat, 1 ≤ k → (k : Int) ≤ mN b → ∀ hk : i + k < s.size, i + mN b < s.size → ¬ inR b k (s[i + k]'hk).toNat → Lib.validD (s.data.toList.drop i) = false) ∧
    (0 < mN b → i + mN b < s.size → (∀ k : Nat, 1 ≤ k → (k : Int) ≤ mN b → ∀ hk : i + k < s.size, inR b k (s[i + k]'hk).toNat) → Lib.validD (s.data.toList.drop i) = Lib.validD (s.data.toList.drop (i + 1 + (mN b).toNat))) := by
  intro b hb
  have hsz := bsize_eq s
  have hget : ∀ k, ∀ hk : i + k < s.size, ((s.data.toList.drop i).getD k 0).toNat = (s[i + k]'hk).toNat := by
    intro k hk
    rw [List.getD_eq_getElem?_getD, List.getElem?_drop, List.getElem?_eq_getElem (by omega), Option.getD_some]
    rfl
  have hne : s.data.toList.drop i ≠ [] := by
    intro h
    have := congrArg List.length h
    rw [List.length_drop, List.length_nil] at this
    omega
  have h0 : ((s.data.toList.drop i).getD 0 0).toNat = b := by rw [hget 0 (by omega)]; exact hb
  have hlen : (s.data.toList.drop i).length = s.size - i := by rw [List.length_drop]; omega
  by_cases hlt : b < 128
  · have hn : mN b = 0 := by unfold mN; rw [if_pos hlt]
    refine ⟨fun _ => ?_, fun h => by omega, fun h => by omega, fun k h1 h2 => by omega, fun h => by omega⟩
    have := Lib.validD_ascii 1 (s.data.toList.drop i) (fun c hc => by
      obtain ⟨x, r, hx⟩ : ∃ x r, s.data.toList.drop i = x :: r := by
        cases hd : s.data.toList.drop i with
        | nil => exact absurd hd hne
        | cons x r => exact ⟨x, r, rfl⟩
      rw [hx] at hc h0
      simp at hc h0
      rw [hc]
      omega)
    rw [this, List.drop_drop]
  · have L := lead_law (s.data.toList.drop i) hne (by rw [h0]; omega)
    rw [h0, hlen] at L
    obtain ⟨L1, L2, L3, L4⟩ := L
    refine ⟨fun h => absurd h hlt, L1, fun h1 h2 => L2 h1 (by omega), fun k h1 h2 hk h3 h4 => L3 k h1 h2 (by omega) (by rw [hget k hk]; exact h4), fun h1 h2 h3 => ?_⟩
    have := L4 h1 (by omega) (fun k k1 k2 => by rw [hget k (by omega)]; exact h3 k k1 k2 (by omega))
    rw [this, List.drop_drop]
    congr 2
    omega
end Go.Proofs.YtnbaajplelchjaaGreatDoor
/- Is a text UTF-8, by the document: the walk. -/
namespace Go.Proofs.YtnbaajplelchjaaGreatDoor
open Go.RowKit

/-- the range of the bytes at hand -/
def Rng (b j : Nat) (lo hi : Int) : Prop := (j = 1 ∧ lo = mLo b ∧ hi = mHi b) ∨ (1 < j ∧ lo = 128 ∧ hi = 191)
theorem Rng.bd {b j : Nat} {lo hi : Int} (h : Rng b j lo hi) : 0 ≤ lo ∧ lo ≤ 255 ∧ 0 ≤ hi ∧ hi ≤ 255 := by
  rcases h with ⟨_, rfl, rfl⟩ | ⟨_, rfl, rfl⟩
  · rcases mcls b with h | h | h | h | h | h | h | h | h <;> omega
  · omega
theorem Rng.iff {b j x : Nat} {lo hi : Int} (h : Rng b j lo hi) : inR b j x ↔ lo ≤ x ∧ (x : Int) ≤ hi := by
  unfold inR
  rcases h with ⟨rfl, rfl, rfl⟩ | ⟨hj, rfl, rfl⟩
  · rw [if_pos rfl]
  · rw [if_neg (by omega)]
    omega

set_option maxRecDepth 100000 in
set_option maxHeartbeats 2000000 in
theorem utf8_any (s : ByteArray) (w : World) (hs : s.size ≤ 4611686018427387904) :
    Calls Tryz.prog 62 #[.string s] w fun e w' => e = .returned (.bool (Lib.validD s.data.toList)) ∧ w = w' := by
  obtain ⟨V, hV⟩ : ∃ V, Hid (V = Lib.validD s.data.toList) := ⟨_, rfl⟩
  rw [← hV.out]
  go_enter Tryz.func62, Tryz.ntmps62
  go_wp2
  go_loop [3] (fun i => ∃ q : Nat, q ≤ s.size ∧ i = .int .i64 q ∧ Hid (Lib.validD (s.data.toList.drop q) = V)) (fun i => s.size - (intOf i).toNat)
  case atStart => exact ⟨0, Nat.zero_le _, rfl, by unfold Hid; rw [List.drop_zero]; exact hV.out.symm⟩
  case round =>
    obtain ⟨q, hq, rfl, hvd⟩ := hrel
    by_cases hlt : q < s.size
    · obtain ⟨b, hb⟩ : ∃ b, b = (s[q]'hlt).toNat := ⟨_, rfl⟩
      have hb256 : b < 256 := by rw [hb]; exact UInt8.toNat_lt _
      have LAW := Lib.hid (lead_at s q hlt b hb.symm)
      have HB := Lib.hid hb.symm
      have hm := mcls b
      have HM := Lib.hid (more_any b hb256 w)
      clear hb
      by_cases h1 : b < 128
      · have hn : mN b = 0 := by omega
        have HM' := HM.out
        rw [hn] at HM'
        have HMM := Lib.hid HM'
        have HL := Lib.hid (LAW.out.1 h1)
        clear hn HM' hm h1
        go_wp2_with (go_at_call 119; rw [HB.out]; refine (HMM.out).mono ?_; rintro e w2 ⟨rfl, rfl⟩)
        go_loop [7] (fun k => k = .int .i64 1) (fun _ => 0)
        case atStart => rfl
        case round =>
          obtain rfl := hrel
          go_wp2
          go_round
          case rel => exact ⟨q + 1, by omega, by go_num, HL.out.symm.trans hvd.out⟩
          case measure => simp [intOf]; omega
      · by_cases h2 : mN b = -1
        · have hVf : V = false := by rw [← hvd.out]; exact LAW.out.2.1 h2
          have HM' := HM.out
          rw [h2] at HM'
          have HMM := Lib.hid HM'
          subst hVf
          clear h2 HM' hm h1
          go_wp2_with (go_at_call 119; rw [HB.out]; refine (HMM.out).mono ?_; rintro e w2 ⟨rfl, rfl⟩)
          go_ret
          exact ⟨rfl, rfl⟩
        · obtain ⟨n, hn, hn1, hn3⟩ : ∃ n : Nat, mN b = n ∧ 1 ≤ n ∧ n ≤ 3 := ⟨(mN b).toNat, by omega, by omega, by omega⟩
          have HM' := HM.out
          rw [hn] at HM'
          have HMM := Lib.hid HM'
          obtain ⟨lo0, hlo⟩ : ∃ lo0, lo0 = mLo b := ⟨_, rfl⟩
          obtain ⟨hi0, hhi⟩ : ∃ hi0, hi0 = mHi b := ⟨_, rfl⟩
          rw [← hlo, ← hhi] at HMM
          have HR1 : Hid (Rng b 1 lo0 hi0) := .inl ⟨rfl, hlo, hhi⟩
          have HN := Lib.hid hn
          clear hn HM' hm h1 h2 HM hlo hhi
          by_cases hsz : s.size ≤ q + n
          · have hVf : V = false := by rw [← hvd.out]; exact LAW.out.2.2.1 (by rw [HN.out]; omega) (by rw [HN.out]; omega)
            subst hVf
            have hg : ¬ ((n : Int) < 0) := by omega
            have hg1 : (s.size : Int) ≤ q + n := by omega
            have hg2 : (0 : Int) < n := by omega
            go_wp2_with (go_at_call 119; rw [HB.out]; refine (HMM.out).mono ?_; rintro e w2 ⟨rfl, rfl⟩)
            go_ret
            exact ⟨rfl, rfl⟩
          · have hg : ¬ ((n : Int) < 0) := by omega
            have hg1 : ¬ ((s.size : Int) ≤ q + n) := by omega
            have hg2 : (0 : Int) < n := by omega
            go_wp2_with (go_at_call 119; rw [HB.out]; refine (HMM.out).mono ?_; rintro e w2 ⟨rfl, rfl⟩)
            go_loop [5, 6, 7] (fun lo hi k => ∃ (j : Nat) (l0 h0 : Int), 1 ≤ j ∧ j ≤ n + 1 ∧ k = .int .i64 j ∧ lo = .int .u8 l0 ∧ hi = .int .u8 h0 ∧ Hid (Rng b j l0 h0) ∧ Hid (∀ x : Nat, 1 ≤ x → x < j → ∀ hx : q + x < s.size, inR b x (s[q + x]'hx).toNat)) (fun _ _ k => n + 1 - (intOf k).toNat)
            case atStart => exact ⟨1, _, _, Nat.le_refl _, by omega, rfl, rfl, rfl, HR1.out, fun x h1 h2 => by omega⟩
            case round =>
              obtain ⟨j, l0, h0, hj1, hj2, rfl, rfl, rfl, HR, HA⟩ := hrel
              have hbd := HR.out.bd
              by_cases hjn : j ≤ n
              · have hx : q + j < s.size := by omega
                obtain ⟨y, hy⟩ : ∃ y, y = (s[q + j]'hx).toNat := ⟨_, rfl⟩
                have hy256 : y < 256 := by rw [hy]; exact UInt8.toNat_lt _
                have HY := Lib.hid hy.symm
                have s1 : (0 : Int) ≤ (q : Int) + j := by omega
                have s2 : (q : Int) + j < s.size := by omega
                have s3 : ((q : Int) + j).toNat = q + j := by omega
                have t1 : (s[q + j]'hx).toNat < 256 := UInt8.toNat_lt _
                clear hy
                by_cases c1 : (y : Int) < l0
                · have hVf : V = false := by
                    rw [← hvd.out]
                    refine LAW.out.2.2.2.1 j hj1 (by rw [HN.out]; omega) hx (by rw [HN.out]; omega) (fun h => ?_)
                    have := HR.out.iff.1 h
                    rw [HY.out] at this
                    omega
                  subst hVf
                  have t2 : ((s[q + j]'hx).toNat : Int) < l0 := by rw [HY.out]; exact c1
                  go_wp2
                  go_ret
                  exact ⟨rfl, rfl⟩
                · have t2 : ¬ ((s[q + j]'hx).toNat : Int) < l0 := by rw [HY.out]; exact c1
                  by_cases c2 : h0 < (y : Int)
                  · have hVf : V = false := by
                      rw [← hvd.out]
                      refine LAW.out.2.2.2.1 j hj1 (by rw [HN.out]; omega) hx (by rw [HN.out]; omega) (fun h => ?_)
                      have := HR.out.iff.1 h
                      rw [HY.out] at this
                      omega
                    subst hVf
                    have t3 : h0 < ((s[q + j]'hx).toNat : Int) := by rw [HY.out]; exact c2
                    go_wp2
                    go_ret
                    exact ⟨rfl, rfl⟩
                  · have t3 : ¬ h0 < ((s[q + j]'hx).toNat : Int) := by rw [HY.out]; exact c2
                    have HA2 : Hid (∀ x : Nat, 1 ≤ x → x < j + 1 → ∀ hx : q + x < s.size, inR b x (s[q + x]'hx).toNat) := by
                      intro x h1 h2 hx'
                      rcases Nat.lt_or_ge x j with h3 | h3
                      · exact HA.out x h1 h3 hx'
                      · obtain rfl : x = j := by omega
                        refine HR.out.iff.2 ?_
                        omega
                    go_wp2
                    go_round
                    case rel => exact ⟨j + 1, 128, 191, by omega, by omega, by go_num, rfl, rfl, .inr ⟨by omega, rfl, rfl⟩, HA2.out⟩
                    case measure => simp [intOf]; omega
              · obtain rfl : j = n + 1 := by omega
                have HL : Hid (Lib.validD (s.data.toList.drop q) = Lib.validD (s.data.toList.drop (q + 1 + n))) := by
                  have h := LAW.out.2.2.2.2 (by rw [HN.out]; omega) (by rw [HN.out]; omega) (fun x h1 h2 hx => HA.out x h1 (by rw [HN.out] at h2; omega) hx)
                  rw [HN.out, Int.toNat_natCast] at h
                  exact h
                clear hbd
                go_wp2
                go_round
                case rel => exact ⟨q + 1 + n, by omega, by go_num, HL.out.symm.trans hvd.out⟩
                case measure => simp [intOf]; omega
    · have hV1 : V = true := by
        rw [← hvd.out, List.drop_of_length_le (by rw [← bsize_eq]; omega)]
        decide +kernel
      subst hV1
      go_wp2
      go_ret
      exact ⟨rfl, rfl⟩
end Go.Proofs.YtnbaajplelchjaaGreatDoor
