/- Texts read: the program's Parse. -/
import Derived.Test.YtgbifmcdkigbgaaDoorZt3
set_option linter.unusedVariables false
set_option linter.unusedSimpArgs false
namespace Go.Proofs.YtgbifmcdkigbgaaDoor
open Go.RowKit

theorem trim_0x (l : List UInt8) : ∀ r, l = 48 :: 120 :: r → Lib.trimPrefix l [48, 120] = r := fun r h => by
  rw [h]
  rfl
theorem u64M_nat (n : Nat) (h : n ≤ 9223372036854775807) : u64M (n : Int) = n := by unfold u64M; rw [IntKind.wrap_u64]; omega
theorem bs_inj {x s : ByteArray} : x = s ↔ x.data.toList = s.data.toList := by
  constructor
  · intro h; rw [h]
  · intro h; cases x; cases s; simpa using h
/-- what the program's Parse hands back -/
theorem parseZ_pu (s : ByteArray) : parseZ s.data.toList = match pu16 (Lib.trimPrefix s.data.toList [48, 120]) with
    | some n => if zText n = s.data.toList then ((n : Int), 0) else (0, 200)
    | none => (0, 200) := by
  have h := parseZ_hx (trim_0x s.data.toList)
  unfold pu16
  by_cases ht : Lib.trimPrefix s.data.toList [48, 120] = []
  · rw [if_pos ht]
    rw [ht] at h
    rw [h]
    show (if zText 0 = s.data.toList then _ else _) = _
    rw [if_neg]
    intro e
    rw [← e] at ht
    rw [trim_0x (zText 0) (hexS 0) rfl] at ht
    have := hexS_pos 0
    rw [ht] at this
    simp at this
  · rw [if_neg ht]
    exact h
theorem pu16_le {l : List UInt8} {n : Nat} (h : pu16 l = some n) : n ≤ 9223372036854775807 := by
  unfold pu16 at h
  split at h
  · cases h
  · exact hx16_le l 0 n (by omega) h

set_option maxRecDepth 100000 in
set_option maxHeartbeats 1000000 in
theorem parse_any (s : ByteArray) (hs : s.size ≤ 281474976710656) (w : World) (hE : EnvZ w) :
    Calls Tryd.prog 4 #[.string s] w fun e w' => e = .returned (.tuple #[.int .i64 (parseZ s.data.toList).1, .int .i64 (parseZ s.data.toList).2]) ∧ Below w.heap.size w w' := by
  obtain ⟨tp, htp⟩ : ∃ x : List UInt8, x = Lib.trimPrefix s.data.toList [48, 120] := ⟨_, rfl⟩
  have HT : Hid (∀ W, Calls Tryd.prog 11 #[.string s, .string ⟨#[48, 120]⟩] W fun e w' => e = .returned (.string ⟨tp.toArray⟩) ∧ w' = W) := fun W => by rw [htp]; exact Tryd.strings_TrimPrefix s ⟨#[48, 120]⟩ W
  have hz : (⟨tp.toArray⟩ : ByteArray).size ≤ 281474976710656 := by
    have h1 : tp.length ≤ s.data.toList.length := by
      rw [htp]
      unfold Lib.trimPrefix
      split
      · rw [List.length_drop]; omega
      · exact Nat.le_refl _
    have h2 := Lib.size_eq s
    rw [Lib.size_eq]
    show tp.length ≤ _
    omega
  have HU := puint16 ⟨tp.toArray⟩ hz w hE
  have hpz := parseZ_pu s
  rw [← htp] at hpz
  have hl : (⟨tp.toArray⟩ : ByteArray).data.toList = tp := rfl
  rw [hl] at HU
  generalize parseZ s.data.toList = pz at hpz
  rcases hp : pu16 tp with _ | n
  · rw [hp] at HU hpz
    dsimp only at hpz
    subst hpz
    have HU2 : Hid (Calls Tryd.prog 10 #[.string ⟨tp.toArray⟩, .int .i64 16, .int .i64 63] w fun e w' => UEnd none e ∧ Below w.heap.size w w') := HU
    clear HU hp hz htp hl hE
    go_enter Tryd.func4, Tryd.ntmps4
    go_wp2_with (first
      | (go_at_call 11
         refine (HT.out _).mono ?_
         rintro e w1 ⟨rfl, rfl⟩)
      | (go_at_call 10
         refine HU2.out.mono ?_
         clear HU2
         rintro e w2 ⟨⟨v, te, pe, rfl⟩, hb⟩
         have HB := Lib.hid hb
         clear hb))
    go_ret2
    exact ⟨rfl, HB.out⟩
  · have hn := pu16_le hp
    rw [hp] at HU hpz
    dsimp only at hpz
    have HU2 : Hid (Calls Tryd.prog 10 #[.string ⟨tp.toArray⟩, .int .i64 16, .int .i64 63] w fun e w' => UEnd (some n) e ∧ Below w.heap.size w w') := HU
    have hw : wrap64 (n : Int) = n := by unfold wrap64; omega
    obtain ⟨tx, htx⟩ : ∃ x : ByteArray, x = ⟨(zText n).toArray⟩ := ⟨_, rfl⟩
    have HX : Hid (∀ W, Below w.heap.size w W → Calls Tryd.prog 6 #[.int .i64 (n : Int)] W fun e w' => e = .returned (.string tx) ∧ Below W.heap.size W w') := fun W hb => by
      have h := text_anyZ (n : Int) W ((hE.below hb).en)
      rw [u64M_nat n hn, ← htx] at h
      exact h
    have hq : (tx.toList == s.toList) = decide (zText n = s.data.toList) := by
      rw [Lib.toList_data, Lib.toList_data, htx, Bool.eq_iff_iff, beq_iff_eq, decide_eq_true_eq]
    by_cases hc : zText n = s.data.toList
    · rw [if_pos hc] at hpz
      subst hpz
      rw [decide_eq_true hc] at hq
      clear HU hp hz htp hl hE hc htx
      go_enter Tryd.func4, Tryd.ntmps4
      go_wp2_with (first
        | (go_at_call 11
           refine (HT.out _).mono ?_
           rintro e w1 ⟨rfl, rfl⟩)
        | (go_at_call 10
           refine HU2.out.mono ?_
           clear HU2
           rintro e w2 ⟨rfl, hb⟩
           have HB := Lib.hid hb
           clear hb)
        | (go_at_call 6
           refine (HX.out _ HB.out).mono ?_
           clear HX
           rintro e w3 ⟨rfl, hb⟩
           have HB3 := Lib.hid (HB.out.trans (hb.mono HB.out.size))
           clear hb))
      go_ret2
      exact ⟨rfl, HB3.out⟩
    · rw [if_neg hc] at hpz
      subst hpz
      rw [decide_eq_false hc] at hq
      clear HU hp hz htp hl hE hc htx
      go_enter Tryd.func4, Tryd.ntmps4
      go_wp2_with (first
        | (go_at_call 11
           refine (HT.out _).mono ?_
           rintro e w1 ⟨rfl, rfl⟩)
        | (go_at_call 10
           refine HU2.out.mono ?_
           clear HU2
           rintro e w2 ⟨rfl, hb⟩
           have HB := Lib.hid hb
           clear hb)
        | (go_at_call 6
           refine (HX.out _ HB.out).mono ?_
           clear HX
           rintro e w3 ⟨rfl, hb⟩
           have HB3 := Lib.hid (HB.out.trans (hb.mono HB.out.size))
           clear hb))
      go_ret2
      exact ⟨rfl, HB3.out⟩
end Go.Proofs.YtgbifmcdkigbgaaDoor
