/- internal/strconv.ParseUint at base 16, 63 bits: the walk (after the shelf's walk at base 10). -/
import Derived.Test.YtgbifmcdkigbgaaDoorZt0
import Derived.Lib.Strings
import Derived.Lib.Walk
import Derived.Lib.AtoiAllMem
import Derived.Lib.Hide
import Derived.Laws.Strings3
import Derived.Laws.Closers25
import Derived.Laws.Closers25b
import Derived.WalkKit
set_option linter.unusedVariables false
set_option linter.unusedSimpArgs false
namespace Go.Proofs.YtgbifmcdkigbgaaDoor
open Go.RowKit

/-- a byte in lower case -/
def lowB (c : UInt8) : Int := bits .or .u8 (c.toNat : Int) 32
/-- a digit at base 16 -/
def hexV (c : UInt8) : Option Nat := if 48 ≤ c.toNat ∧ c.toNat ≤ 57 then some (c.toNat - 48) else if 97 ≤ lowB c ∧ lowB c ≤ 102 then some ((lowB c).toNat - 87) else none
/-- a text's number at base 16, of 63 bits at the most -/
def hx16 : Nat → List UInt8 → Option Nat
  | acc, [] => some acc
  | acc, c :: r => match hexV c with
    | some d => if acc < 1152921504606846976 ∧ acc * 16 + d ≤ 9223372036854775807 then hx16 (acc * 16 + d) r else none
    | none => none
/-- how a reading ends: a number; or an error -/
def PEnd (o : Option Nat) (e : Ending) : Prop := match o with
  | some n => e = .returned (.tuple #[.int .u64 n, .nilIface])
  | none => ∃ (v k : Int), (k = 1 ∨ k = 2) ∧ e = .returned (.tuple #[.int .u64 v, .iface 50 (.int .i64 k)])
theorem lower_any (c : UInt8) (w : World) : Calls Tryd.prog 25 #[.int .u8 (c.toNat : Int)] w fun e w' => e = .returned (.int .u8 (lowB c)) ∧ w' = w := by
  go_enter Tryd.func25, Tryd.ntmps25
  go_wp2
  go_ret
  exact ⟨rfl, rfl⟩

theorem low95 : lowB 95 = 127 := by decide +kernel
set_option maxRecDepth 100000 in
set_option maxHeartbeats 16000000 in
theorem parse16 (t : ByteArray) (hne : t.size ≠ 0) (hmax : t.size ≤ 9223372036854775806) (w : World) :
    Calls Tryd.prog 18 #[.string t, .int .i64 16, .int .i64 63] w fun e w' => PEnd (hx16 0 t.data.toList) e ∧ w' = Lib.bytesWorld w 5 t := by
  have hcv := Lib.run_convert_string_bytes (P := Tryd.prog) w 9 52 5 t (u := .string) Tryd.underlying9 Tryd.underlying52 Tryd.underlying5
  have hB : ∀ j, j < t.size → (Lib.bytesWorld w 5 t).cell? ⟨w.heap.size, j, none⟩ = some (.int .u8 (t.data.toList.getD j 0).toNat) := fun j hj => Lib.bytesWorld_cell w 5 t j hj
  have hemp : t.toList.isEmpty = false := by
    rw [← decide_eq_emptyBytes]
    exact decide_eq_false (fun h => hne (by rw [h]; rfl))
  obtain ⟨W1, hW1⟩ : ∃ W1, W1 = Lib.bytesWorld w 5 t := ⟨_, rfl⟩
  rw [← hW1] at hcv hB ⊢
  clear hW1
  obtain ⟨bs, hL⟩ : ∃ bs, bs = t.data.toList := ⟨_, rfl⟩
  have hLn : bs.length = t.size := by rw [hL, Lib.size_eq]
  rw [← hL] at hB ⊢
  clear hL
  go_enter Tryd.func18, Tryd.ntmps18
  go_wp2
  go_loop [12, 13, 101] (fun vu vn vi => ∃ (k acc : Nat) (a : Int), vu = .bool false ∧ vn = .int .u64 a ∧ vi = .int .i64 k ∧ k ≤ t.size ∧ Hid (a = (acc : Int) ∧ acc ≤ 9223372036854775807 ∧ hx16 0 bs = hx16 acc (bs.drop k)))
    (fun _ _ vi => t.size - (intOf vi).toNat)
  case atStart => exact ⟨0, 0, 0, rfl, rfl, rfl, by omega, rfl, by omega, rfl⟩
  case round =>
    obtain ⟨k, acc, a, rfl, rfl, rfl, hk, hh⟩ := hrel
    obtain ⟨ha, hacc, hdec⟩ := hh.out
    clear hh
    have a0 : 0 ≤ a := by omega
    have a1 : a ≤ 9223372036854775807 := by omega
    by_cases hkn : k < t.size
    · have hc := hB k hkn
      have hdrop : bs.drop k = bs[k]'(by omega) :: bs.drop (k + 1) := List.drop_eq_getElem_cons (by omega)
      have hget : bs.getD k 0 = bs[k]'(by omega) := by simp [List.getD, List.getElem?_eq_getElem (show k < bs.length by omega)]
      rw [hdrop] at hdec
      rw [hget] at hc
      generalize bs[k]'(by omega) = c at hc hdec
      have hc256 : c.toNat < 256 := c.toNat_lt
      clear hB hdrop hget
      by_cases hdig : 48 ≤ c.toNat ∧ c.toNat ≤ 57
      · obtain ⟨hd0, hd1⟩ := hdig
        have hV : hexV c = some (c.toNat - 48) := by unfold hexV; rw [if_pos ⟨hd0, hd1⟩]
        by_cases hcut : 1152921504606846976 ≤ acc
        · have hF : hx16 acc (c :: bs.drop (k + 1)) = none := by simp only [hx16, hV]; rw [if_neg (by omega)]
          rw [hF] at hdec
          have icut : 1152921504606846976 ≤ a := by omega
          clear hcut hacc hF ha hV
          go_wp2
          all_goals go_ret2
          all_goals first | exact ⟨⟨_, 1, .inl rfl, rfl⟩, rfl⟩ | (rw [hdec]; exact ⟨⟨_, 1, .inl rfl, rfl⟩, rfl⟩)
        · by_cases hov : 9223372036854775807 < acc * 16 + (c.toNat - 48)
          · have hF : hx16 acc (c :: bs.drop (k + 1)) = none := by simp only [hx16, hV]; rw [if_neg (by omega)]
            rw [hF] at hdec
            have icut : a < 1152921504606846976 := by omega
            have iov : 9223372036854775807 < a * 16 + ((c.toNat : Int) - 48) := by omega
            clear hcut hacc hF hov ha hV
            go_wp2
            all_goals go_ret2
            all_goals first | exact ⟨⟨_, 1, .inl rfl, rfl⟩, rfl⟩ | (rw [hdec]; exact ⟨⟨_, 1, .inl rfl, rfl⟩, rfl⟩)
          · have hF : hx16 acc (c :: bs.drop (k + 1)) = hx16 (acc * 16 + (c.toNat - 48)) (bs.drop (k + 1)) := by simp only [hx16, hV]; rw [if_pos (by omega)]
            have HN : Hid (a * 16 + ((c.toNat : Int) - 48) = ((acc * 16 + (c.toNat - 48) : Nat) : Int) ∧ acc * 16 + (c.toNat - 48) ≤ 9223372036854775807 ∧ hx16 0 bs = hx16 (acc * 16 + (c.toNat - 48)) (bs.drop (k + 1))) := Lib.hid ⟨by omega, by omega, hdec.trans hF⟩
            have icut : a < 1152921504606846976 := by omega
            have iov : a * 16 + ((c.toNat : Int) - 48) ≤ 9223372036854775807 := by omega
            clear hcut hacc hF hov hdec ha hV
            go_wp2
            all_goals refine ⟨⟨k + 1, acc * 16 + (c.toNat - 48), a * 16 + ((c.toNat : Int) - 48), rfl, (by first | rfl | (congr 1; omega)), (by first | rfl | (congr 1; omega)), by omega, HN⟩, by simp [intOf]; omega⟩
      · have hv0 := bits_lo_u8 .or (c.toNat : Int) 32
        have hv1 := bits_hi_u8 .or (c.toNat : Int) 32
        obtain ⟨v, hlv⟩ : ∃ v, lowB c = v := ⟨_, rfl⟩
        have hv0' : 0 ≤ v := by rw [← hlv]; exact hv0
        have hv1' : v ≤ 255 := by rw [← hlv]; unfold lowB; omega
        clear hv0 hv1
        by_cases hlet : 97 ≤ v ∧ v ≤ 102
        · obtain ⟨hl0, hl1⟩ := hlet
          have h95 : ¬ (c.toNat : Int) = 95 := fun h => by
            have hc95 : c = 95 := UInt8.toNat_inj.1 (by simpa using (by omega : c.toNat = 95))
            rw [hc95, low95] at hlv
            omega
          have hV : hexV c = some (v.toNat - 87) := by unfold hexV; rw [if_neg hdig, hlv, if_pos ⟨hl0, hl1⟩]
          by_cases hcut : 1152921504606846976 ≤ acc
          · have hF : hx16 acc (c :: bs.drop (k + 1)) = none := by simp only [hx16, hV]; rw [if_neg (by omega)]
            rw [hF] at hdec
            have icut : 1152921504606846976 ≤ a := by omega
            clear hcut hacc hF ha hV
            go_wp2_with (go_at_call 25; refine (lower_any c _).mono ?_; rintro e w' ⟨rfl, rfl⟩; rw [hlv])
            all_goals go_ret2
            all_goals first | exact ⟨⟨_, 1, .inl rfl, rfl⟩, rfl⟩ | (rw [hdec]; exact ⟨⟨_, 1, .inl rfl, rfl⟩, rfl⟩)
          · by_cases hov : 9223372036854775807 < acc * 16 + (v.toNat - 87)
            · have hF : hx16 acc (c :: bs.drop (k + 1)) = none := by simp only [hx16, hV]; rw [if_neg (by omega)]
              rw [hF] at hdec
              have icut : a < 1152921504606846976 := by omega
              have iov : 9223372036854775807 < a * 16 + (v - 97 + 10) := by omega
              clear hcut hacc hF hov ha hV
              go_wp2_with (go_at_call 25; refine (lower_any c _).mono ?_; rintro e w' ⟨rfl, rfl⟩; rw [hlv])
              all_goals go_ret2
              all_goals first | exact ⟨⟨_, 1, .inl rfl, rfl⟩, rfl⟩ | (rw [hdec]; exact ⟨⟨_, 1, .inl rfl, rfl⟩, rfl⟩)
            · have hF : hx16 acc (c :: bs.drop (k + 1)) = hx16 (acc * 16 + (v.toNat - 87)) (bs.drop (k + 1)) := by simp only [hx16, hV]; rw [if_pos (by omega)]
              have HN : Hid (a * 16 + (v - 97 + 10) = ((acc * 16 + (v.toNat - 87) : Nat) : Int) ∧ acc * 16 + (v.toNat - 87) ≤ 9223372036854775807 ∧ hx16 0 bs = hx16 (acc * 16 + (v.toNat - 87)) (bs.drop (k + 1))) := Lib.hid ⟨by omega, by omega, hdec.trans hF⟩
              have icut : a < 1152921504606846976 := by omega
              have iov : a * 16 + (v - 97 + 10) ≤ 9223372036854775807 := by omega
              clear hcut hacc hF hov hdec ha hV
              go_wp2_with (go_at_call 25; refine (lower_any c _).mono ?_; rintro e w' ⟨rfl, rfl⟩; rw [hlv])
              all_goals refine ⟨⟨k + 1, acc * 16 + (v.toNat - 87), a * 16 + (v - 97 + 10), rfl, (by first | rfl | (congr 1; omega)), (by first | rfl | (congr 1; omega)), by omega, HN⟩, by simp [intOf]; omega⟩
        · have hF : hx16 acc (c :: bs.drop (k + 1)) = none := by simp only [hx16]; rw [show hexV c = none by unfold hexV; rw [if_neg hdig, hlv, if_neg hlet]]
          rw [hF] at hdec
          clear hacc hF ha
          by_cases h95 : (c.toNat : Int) = 95
          · have hL95 := fun W => lower_any 95 W
            rw [low95] at hL95
            have HL95 : Hid (∀ W, Calls Tryd.prog 25 #[.int .u8 95] W fun e w' => e = .returned (.int .u8 127) ∧ w' = W) := hL95
            rw [h95] at hc
            clear hlv hv0' hv1' hlet hdig hc256 h95 hL95
            go_wp2_with (go_at_call 25; refine (HL95.out _).mono ?_; rintro e w' ⟨rfl, rfl⟩)
            all_goals go_ret2
            all_goals first | exact ⟨⟨_, 2, .inr rfl, rfl⟩, rfl⟩ | (rw [hdec]; exact ⟨⟨_, 2, .inr rfl, rfl⟩, rfl⟩)
          · go_wp2_with (go_at_call 25; refine (lower_any c _).mono ?_; rintro e w' ⟨rfl, rfl⟩; rw [hlv])
            all_goals go_ret2
            all_goals first | exact ⟨⟨_, 2, .inr rfl, rfl⟩, rfl⟩ | (rw [hdec]; exact ⟨⟨_, 2, .inr rfl, rfl⟩, rfl⟩)
    · -- the bytes are at an end
      have hkk : k = t.size := by omega
      subst hkk
      have hF : hx16 acc (bs.drop t.size) = some acc := by rw [List.drop_eq_nil_of_le (by omega)]; rfl
      rw [hF] at hdec
      subst ha
      clear hacc hF a0 a1
      go_wp2
      all_goals go_ret2
      all_goals first | exact ⟨rfl, rfl⟩ | (rw [hdec]; exact ⟨rfl, rfl⟩)
end Go.Proofs.YtgbifmcdkigbgaaDoor
