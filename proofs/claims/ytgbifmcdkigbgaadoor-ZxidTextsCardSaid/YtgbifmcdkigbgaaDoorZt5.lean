/- Texts read: the document's Parse. -/
import Derived.Test.YtgbifmcdkigbgaaDoorZt4
import Derived.Test.YtgbifmcdkigbgaaDoorBase
set_option linter.unusedVariables false
set_option linter.unusedSimpArgs false
namespace Go.Proofs.YtgbifmcdkigbgaaDoor
open Go.RowKit

theorem byteN (s : ByteArray) (k : Nat) (h : k < s.size) : (s[k]'h) = (s.data.toList[k]'(by rw [← Lib.size_eq]; exact h)) := rfl
theorem or16 (x d : Int) (h1 : 0 ≤ x) (h2 : x < 1152921504606846976) (h3 : 0 ≤ d) (h4 : d < 16) : bits .or .u64 (x * 16) d = x * 16 + d :=
  bits_join .u64 64 (by decide) (fun n a b => by rw [IntKind.wrap_u64]; omega) 4 _ _ (by omega) (by omega) (by omega) h3 (by omega) (by omega)
set_option maxRecDepth 100000 in
set_option maxHeartbeats 4000000 in
theorem rparse_any (s : ByteArray) (hs : s.size ≤ 281474976710656) (w : World) (hE : EnvN w.heap.size w) :
    Calls Tryd.prog 5 #[.string s] w fun e w' => e = .returned (.tuple #[.int .i64 (parseZ s.data.toList).1, .int .i64 (parseZ s.data.toList).2]) ∧ Below w.heap.size w w' := by
  have HSL : Hid (s.size = s.data.toList.length) := Lib.size_eq s
  have HE := Lib.hid hE
  clear hE
  by_cases h1 : s.size < 3
  · rw [parseZ_len (.inl (by have := HSL.out; omega))]
    go_enter Tryd.func5, Tryd.ntmps5
    go_wp2
    go_ret2
    exact ⟨rfl, Below.refl _ _⟩
  by_cases h2 : 18 < s.size
  · rw [parseZ_len (.inr (by have := HSL.out; omega))]
    go_enter Tryd.func5, Tryd.ntmps5
    go_wp2
    go_ret2
    exact ⟨rfl, Below.refl _ _⟩
  have hpre : (s.extract 0 2).toList = s.data.toList.take 2 := by
    rw [Lib.toList_data]
    simp
  by_cases h3 : s.data.toList.take 2 = [48, 120]
  rotate_left
  · rw [parseZ_head h3]
    have hb : ((s.extract 0 2).toList == [48, 120]) = false := by rw [hpre]; simpa using h3
    clear h3 hpre
    go_enter Tryd.func5, Tryd.ntmps5
    go_wp2
    go_ret2
    exact ⟨rfl, Below.refl _ _⟩
  have HB : Hid (((s.extract 0 2).toList == [48, 120]) = true) := by unfold Hid; rw [hpre, h3]; rfl
  obtain ⟨bs, hbs⟩ : ∃ bs : List UInt8, bs = s.data.toList := ⟨_, rfl⟩
  have hlen : bs.length = s.size := by rw [hbs]; exact HSL.out.symm
  have hl : bs = 48 :: 120 :: bs.drop 2 := by
    conv => lhs; rw [← List.take_append_drop 2 bs]
    rw [hbs, h3]
    rfl
  obtain ⟨pz, hpz⟩ : ∃ z, z = parseZ bs := ⟨_, rfl⟩
  have HPZ := Lib.hid (hpz.trans (parseZ_rx hl))
  have HIX : Hid (∀ W (k : Nat) (hk : k < bs.length), (Instr.index 9 (.string s) (.int .i64 (k : Int))).run Tryd.prog W = .ok (.int .u8 ((bs[k]).toNat : Int)) W) := fun W k hk => by
    subst hbs
    have hks : k < s.size := by rw [HSL.out]; exact hk
    rw [run_index_string W _ s .i64 k Tryd.underlying9, dif_pos ⟨by omega, by omega⟩]
    rfl
  have HBS := Lib.hid hbs
  have HLEN := Lib.hid hlen
  rw [← hbs, ← hpz]
  clear h3 hpre hl hbs hlen hpz
  go_enter Tryd.func5, Tryd.ntmps5
  go_wp2
  · exfalso
    rename_i h
    have hb := HB.out
    rcases h with (h | h) | h
    · omega
    · omega
    · rw [hb] at h
      cases h
  have hbq := HB.out
  simp only [hbq, Bool.not_true, Bool.or_false]
  clear hbq
  go_loopw [4, 5] (fun vx vi wr => ∃ (k x : Nat) (a : Int), 2 ≤ k ∧ k ≤ s.size ∧ vx = .int .u64 a ∧ vi = .int .i64 (k : Int) ∧ Hid (a = (x : Int) ∧ rx16 0 (bs.drop 2) = rx16 x (bs.drop k) ∧ x < 16 ^ (k - 2)) ∧ wr = w) (fun _ vi _ => s.size - (intOf vi).toNat)
  case atStart => exact ⟨2, 0, 0, by omega, by omega, rfl, rfl, ⟨rfl, rfl, by decide⟩, rfl⟩
  case round =>
    obtain ⟨k, x, a, hk2, hk, rfl, rfl, HX, rfl⟩ := hrel
    have HA := Lib.hid HX.out.1
    have HX := Lib.hid HX.out.2
    have a0 : 0 ≤ a := by rw [HA.out]; omega
    by_cases hkn : k < s.size
    · have hkb : k < bs.length := by rw [HLEN.out]; exact hkn
      have hix := fun W => HIX.out W k hkb
      have hdrop : bs.drop k = bs[k] :: bs.drop (k + 1) := List.drop_eq_getElem_cons hkb
      have hx60 : x < 1152921504606846976 := by
        refine Nat.lt_of_lt_of_le HX.out.2 (Nat.le_trans (Nat.pow_le_pow_right (by decide) (show k - 2 ≤ 15 by omega)) (by decide))
      have a60 : a < 1152921504606846976 := by rw [HA.out]; omega
      clear hx60
      have hpow : 16 ^ (k + 1 - 2) = 16 ^ (k - 2) * 16 := by rw [show k + 1 - 2 = (k - 2) + 1 by omega, Nat.pow_succ]
      generalize bs[k] = c at hix hdrop
      have HDR := Lib.hid hdrop
      have HPW := Lib.hid hpow
      clear hdrop hpow hkb
      by_cases hd : 48 ≤ c.toNat ∧ c.toNat ≤ 57
      · obtain ⟨hd0, hd1⟩ := hd
        have hD : refD c = some (c.toNat - 48) := by unfold refD; rw [if_pos ⟨hd0, hd1⟩]
        have hor : bits .or .u64 (a * 16) ((c.toNat : Int) - 48) = a * 16 + ((c.toNat : Int) - 48) := by rw [or16 _ _ (by omega) (by omega) (by omega) (by omega)]
        have HX2 : Hid (a * 16 + ((c.toNat : Int) - 48) = ((x * 16 + (c.toNat - 48) : Nat) : Int) ∧ rx16 0 (bs.drop 2) = rx16 (x * 16 + (c.toNat - 48)) (bs.drop (k + 1)) ∧ x * 16 + (c.toNat - 48) < 16 ^ (k + 1 - 2)) := by
          refine ⟨by rw [HA.out]; omega, ?_, ?_⟩
          · rw [HX.out.1, HDR.out, rx16, hD]
          · rw [HPW.out]
            have := HX.out.2
            generalize 16 ^ (k - 2) = pw at this ⊢
            omega
        clear hD HX HDR HPW HA
        go_wp2
        go_roundw
        case rel => exact ⟨k + 1, x * 16 + (c.toNat - 48), a * 16 + ((c.toNat : Int) - 48), by omega, by omega, by go_num, by go_num, HX2, by first | trivial | rfl⟩
        case measure => simp [intOf]; omega
      · by_cases hl : 97 ≤ c.toNat ∧ c.toNat ≤ 102
        · obtain ⟨hl0, hl1⟩ := hl
          have hD : refD c = some (c.toNat - 87) := by unfold refD; rw [if_neg hd, if_pos ⟨hl0, hl1⟩]
          have hor : bits .or .u64 (a * 16) ((c.toNat : Int) - 97 + 10) = a * 16 + ((c.toNat : Int) - 97 + 10) := by rw [or16 _ _ (by omega) (by omega) (by omega) (by omega)]
          have HX2 : Hid (a * 16 + ((c.toNat : Int) - 97 + 10) = ((x * 16 + (c.toNat - 87) : Nat) : Int) ∧ rx16 0 (bs.drop 2) = rx16 (x * 16 + (c.toNat - 87)) (bs.drop (k + 1)) ∧ x * 16 + (c.toNat - 87) < 16 ^ (k + 1 - 2)) := by
            refine ⟨by rw [HA.out]; omega, ?_, ?_⟩
            · rw [HX.out.1, HDR.out, rx16, hD]
            · rw [HPW.out]
              have := HX.out.2
              generalize 16 ^ (k - 2) = pw at this ⊢
              omega
          clear hD HX HDR HPW HA
          go_wp2
          go_roundw
          case rel => exact ⟨k + 1, x * 16 + (c.toNat - 87), a * 16 + ((c.toNat : Int) - 97 + 10), by omega, by omega, by go_num, by go_num, HX2, by first | trivial | rfl⟩
          case measure => simp [intOf]; omega
        · have hD : refD c = none := by unfold refD; rw [if_neg hd, if_neg hl]
          have hpz : Hid (pz = (0, 200)) := by
            unfold Hid
            rw [HPZ.out, HX.out.1, HDR.out, rx16, hD]
          clear hD HX HDR HPW HPZ
          go_wp2
          all_goals go_ret2
          all_goals (rw [hpz.out]; exact ⟨rfl, Below.refl _ _⟩)
    · have hkk : k = s.size := by omega
      subst hkk
      have hx64 : x < 18446744073709551616 := by
        have e : (16 : Nat) ^ 16 = 18446744073709551616 := by decide
        rw [← e]
        exact Nat.lt_of_lt_of_le HX.out.2 (Nat.pow_le_pow_right (by decide) (by omega))
      have hr : rx16 0 (bs.drop 2) = some x := by
        rw [HX.out.1, List.drop_eq_nil_of_le (by rw [HLEN.out]; exact Nat.le_refl _)]
        rfl
      have hpz0 := HPZ.out
      rw [hr] at hpz0
      dsimp only at hpz0
      clear hr HX HPZ
      have ha1 : a < 18446744073709551616 := by rw [HA.out]; omega
      clear hx64
      by_cases hx : x ≤ 9223372036854775807
      · have ha2 : a ≤ 9223372036854775807 := by rw [HA.out]; omega
        have hw : wrap64 a = a := by unfold wrap64; omega
        obtain ⟨tx, htx⟩ : ∃ y : ByteArray, y = ⟨(zText x).toArray⟩ := ⟨_, rfl⟩
        have HT : Hid (Calls Tryd.prog 7 #[.int .i64 a] wr fun e w' => e = .returned (.string tx) ∧ Below wr.heap.size wr w') := by
          have h := rtext_anyZ (x : Int) wr HE.out
          rw [u64M_nat x hx, ← htx] at h
          rw [HA.out]
          exact h
        have hq : (tx.toList == s.toList) = decide (zText x = bs) := by
          rw [Lib.toList_data, Lib.toList_data, htx, HBS.out, Bool.eq_iff_iff, beq_iff_eq, decide_eq_true_eq]
        by_cases hc : zText x = bs
        · rw [if_pos ⟨hx, hc⟩, ← HA.out] at hpz0
          clear hx
          have hpz := Lib.hid hpz0
          rw [decide_eq_true hc] at hq
          clear hpz0 hc htx
          go_wp2_with (go_at_call 7; refine HT.out.mono ?_; rintro e w3 ⟨rfl, hb⟩; have HB3 := Lib.hid hb; clear hb)
          go_ret2
          rw [hpz.out]
          exact ⟨rfl, HB3.out⟩
        · rw [if_neg (fun h => hc h.2)] at hpz0
          clear hx
          have hpz := Lib.hid hpz0
          rw [decide_eq_false hc] at hq
          clear hpz0 hc htx
          go_wp2_with (go_at_call 7; refine HT.out.mono ?_; rintro e w3 ⟨rfl, hb⟩; have HB3 := Lib.hid hb; clear hb)
          go_ret2
          rw [hpz.out]
          exact ⟨rfl, HB3.out⟩
      · rw [if_neg (fun h => hx h.1)] at hpz0
        have ha2 : 9223372036854775807 < a := by rw [HA.out]; omega
        clear hx
        have hpz := Lib.hid hpz0
        clear hpz0
        go_wp2
        go_ret2
        rw [hpz.out]
        exact ⟨rfl, Below.refl _ _⟩
end Go.Proofs.YtgbifmcdkigbgaaDoor
