/- Is a text UTF-8, by the document: the walk. -/
import Derived.Test.YtbegingiedbldaaDoorJd3
namespace Go.Proofs.YtbegingiedbldaaDoor
open Go.RowKit

/-- the range of the bytes at hand -/
def Rng (b j : Nat) (lo hi : Int) : Prop := (j = 1 ∧ lo = mLo b ∧ hi = mHi b) ∨ (1 < j ∧ lo = 128 ∧ hi = 191)
theorem Rng.bd {b j : Nat} {lo hi : Int} (h : Rng b j lo hi) : 0 ≤ lo ∧ lo ≤ 255 ∧ 0 ≤ hi ∧ hi ≤ 255 := by
  rcases h with ⟨_, rfl, rfl⟩ | ⟨_, rfl, rfl⟩
  · rcases mcls b with h | h | h | h | h | h | h | h | h <;> omega
  · omega
theorem Rng.iff {b j x : Nat} {lo hi : Int} (h : Rng b j lo hi) : inR b j x ↔ lo ≤ x ∧ (x : Int) ≤ hi := by
  unfold inR
  rcases h with ⟨rfl, rfl, rfl⟩ | ⟨hj, rfl, rfl⟩
  · rw [if_pos rfl]
  · rw [if_neg (by omega)]
    omega

set_option maxRecDepth 100000 in
set_option maxHeartbeats 2000000 in
theorem utf8_any (s : ByteArray) (w : World) (hs : s.size ≤ 4611686018427387904) :
    Calls Tryd.prog 76 #[.string s] w fun e w' => e = .returned (.bool (Lib.validD s.data.toList)) ∧ w = w' := by
  obtain ⟨V, hV⟩ : ∃ V, Hid (V = Lib.validD s.data.toList) := ⟨_, rfl⟩
  rw [← hV.out]
  go_enter Tryd.func76, Tryd.ntmps76
  go_wp2
  go_loop [3] (fun i => ∃ q : Nat, q ≤ s.size ∧ i = .int .i64 q ∧ Hid (Lib.validD (s.data.toList.drop q) = V)) (fun i => s.size - (intOf i).toNat)
  case atStart => exact ⟨0, Nat.zero_le _, rfl, by unfold Hid; rw [List.drop_zero]; exact hV.out.symm⟩
  case round =>
    obtain ⟨q, hq, rfl, hvd⟩ := hrel
    by_cases hlt : q < s.size
    · obtain ⟨b, hb⟩ : ∃ b, b = (s[q]'hlt).toNat := ⟨_, rfl⟩
      have hb256 : b < 256 := by rw [hb]; exact UInt8.toNat_lt _
      have LAW := Lib.hid (lead_at s q hlt b hb.symm)
      have HB := Lib.hid hb.symm
      have hm := mcls b
      have HM := Lib.hid (more_any b hb256 w)
      clear hb
      by_cases h1 : b < 128
      · have hn : mN b = 0 := by omega
        have HM' := HM.out
        rw [hn] at HM'
        have HMM := Lib.hid HM'
        have HL := Lib.hid (LAW.out.1 h1)
        clear hn HM' hm h1
        go_wp2_with (go_at_call 77; rw [HB.out]; refine (HMM.out).mono ?_; rintro e w2 ⟨rfl, rfl⟩)
        go_loop [7] (fun k => k = .int .i64 1) (fun _ => 0)
        case atStart => rfl
        case round =>
          obtain rfl := hrel
          go_wp2
          go_round
          case rel => exact ⟨q + 1, by omega, by go_num, HL.out.symm.trans hvd.out⟩
          case measure => simp [intOf]; omega
      · by_cases h2 : mN b = -1
        · have hVf : V = false := by rw [← hvd.out]; exact LAW.out.2.1 h2
          have HM' := HM.out
          rw [h2] at HM'
          have HMM := Lib.hid HM'
          subst hVf
          clear h2 HM' hm h1
          go_wp2_with (go_at_call 77; rw [HB.out]; refine (HMM.out).mono ?_; rintro e w2 ⟨rfl, rfl⟩)
          go_ret
          exact ⟨rfl, rfl⟩
        · obtain ⟨n, hn, hn1, hn3⟩ : ∃ n : Nat, mN b = n ∧ 1 ≤ n ∧ n ≤ 3 := ⟨(mN b).toNat, by omega, by omega, by omega⟩
          have HM' := HM.out
          rw [hn] at HM'
          have HMM := Lib.hid HM'
          obtain ⟨lo0, hlo⟩ : ∃ lo0, lo0 = mLo b := ⟨_, rfl⟩
          obtain ⟨hi0, hhi⟩ : ∃ hi0, hi0 = mHi b := ⟨_, rfl⟩
          rw [← hlo, ← hhi] at HMM
          have HR1 : Hid (Rng b 1 lo0 hi0) := .inl ⟨rfl, hlo, hhi⟩
          have HN := Lib.hid hn
          clear hn HM' hm h1 h2 HM hlo hhi
          by_cases hsz : s.size ≤ q + n
          · have hVf : V = false := by rw [← hvd.out]; exact LAW.out.2.2.1 (by rw [HN.out]; omega) (by rw [HN.out]; omega)
            subst hVf
            have hg : ¬ ((n : Int) < 0) := by omega
            have hg1 : (s.size : Int) ≤ q + n := by omega
            have hg2 : (0 : Int) < n := by omega
            go_wp2_with (go_at_call 77; rw [HB.out]; refine (HMM.out).mono ?_; rintro e w2 ⟨rfl, rfl⟩)
            go_ret
            exact ⟨rfl, rfl⟩
          · have hg : ¬ ((n : Int) < 0) := by omega
            have hg1 : ¬ ((s.size : Int) ≤ q + n) := by omega
            have hg2 : (0 : Int) < n := by omega
            go_wp2_with (go_at_call 77; rw [HB.out]; refine (HMM.out).mono ?_; rintro e w2 ⟨rfl, rfl⟩)
            go_loop [5, 6, 7] (fun lo hi k => ∃ (j : Nat) (l0 h0 : Int), 1 ≤ j ∧ j ≤ n + 1 ∧ k = .int .i64 j ∧ lo = .int .u8 l0 ∧ hi = .int .u8 h0 ∧ Hid (Rng b j l0 h0) ∧ Hid (∀ x : Nat, 1 ≤ x → x < j → ∀ hx : q + x < s.size, inR b x (s[q + x]'hx).toNat)) (fun _ _ k => n + 1 - (intOf k).toNat)
            case atStart => exact ⟨1, _, _, Nat.le_refl _, by omega, rfl, rfl, rfl, HR1.out, fun x h1 h2 => by omega⟩
            case round =>
              obtain ⟨j, l0, h0, hj1, hj2, rfl, rfl, rfl, HR, HA⟩ := hrel
              have hbd := HR.out.bd
              by_cases hjn : j ≤ n
              · have hx : q + j < s.size := by omega
                obtain ⟨y, hy⟩ : ∃ y, y = (s[q + j]'hx).toNat := ⟨_, rfl⟩
                have hy256 : y < 256 := by rw [hy]; exact UInt8.toNat_lt _
                have HY := Lib.hid hy.symm
                have s1 : (0 : Int) ≤ (q : Int) + j := by omega
                have s2 : (q : Int) + j < s.size := by omega
                have s3 : ((q : Int) + j).toNat = q + j := by omega
                have t1 : (s[q + j]'hx).toNat < 256 := UInt8.toNat_lt _
                clear hy
                by_cases c1 : (y : Int) < l0
                · have hVf : V = false := by
                    rw [← hvd.out]
                    refine LAW.out.2.2.2.1 j hj1 (by rw [HN.out]; omega) hx (by rw [HN.out]; omega) (fun h => ?_)
                    have := HR.out.iff.1 h
                    rw [HY.out] at this
                    omega
                  subst hVf
                  have t2 : ((s[q + j]'hx).toNat : Int) < l0 := by rw [HY.out]; exact c1
                  go_wp2
                  go_ret
                  exact ⟨rfl, rfl⟩
                · have t2 : ¬ ((s[q + j]'hx).toNat : Int) < l0 := by rw [HY.out]; exact c1
                  by_cases c2 : h0 < (y : Int)
                  · have hVf : V = false := by
                      rw [← hvd.out]
                      refine LAW.out.2.2.2.1 j hj1 (by rw [HN.out]; omega) hx (by rw [HN.out]; omega) (fun h => ?_)
                      have := HR.out.iff.1 h
                      rw [HY.out] at this
                      omega
                    subst hVf
                    have t3 : h0 < ((s[q + j]'hx).toNat : Int) := by rw [HY.out]; exact c2
                    go_wp2
                    go_ret
                    exact ⟨rfl, rfl⟩
                  · have t3 : ¬ h0 < ((s[q + j]'hx).toNat : Int) := by rw [HY.out]; exact c2
                    have HA2 : Hid (∀ x : Nat, 1 ≤ x → x < j + 1 → ∀ hx : q + x < s.size, inR b x (s[q + x]'hx).toNat) := by
                      intro x h1 h2 hx'
                      rcases Nat.lt_or_ge x j with h3 | h3
                      · exact HA.out x h1 h3 hx'
                      · obtain rfl : x = j := by omega
                        refine HR.out.iff.2 ?_
                        omega
                    go_wp2
                    go_round
                    case rel => exact ⟨j + 1, 128, 191, by omega, by omega, by go_num, rfl, rfl, .inr ⟨by omega, rfl, rfl⟩, HA2.out⟩
                    case measure => simp [intOf]; omega
              · obtain rfl : j = n + 1 := by omega
                have HL : Hid (Lib.validD (s.data.toList.drop q) = Lib.validD (s.data.toList.drop (q + 1 + n))) := by
                  have h := LAW.out.2.2.2.2 (by rw [HN.out]; omega) (by rw [HN.out]; omega) (fun x h1 h2 hx => HA.out x h1 (by rw [HN.out] at h2; omega) hx)
                  rw [HN.out, Int.toNat_natCast] at h
                  exact h
                clear hbd
                go_wp2
                go_round
                case rel => exact ⟨q + 1 + n, by omega, by go_num, HL.out.symm.trans hvd.out⟩
                case measure => simp [intOf]; omega
    · have hV1 : V = true := by
        rw [← hvd.out, List.drop_of_length_le (by rw [← bsize_eq]; omega)]
        decide +kernel
      subst hV1
      go_wp2
      go_ret
      exact ⟨rfl, rfl⟩
end Go.Proofs.YtbegingiedbldaaDoor
