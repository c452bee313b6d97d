/- Lists compared: the walks. (printed by gen_p2.py) -/
import Derived.Test.YtpjjnmdfgcfnmaaGreatDoorOqa
import Derived.Test.YtpjjnmdfgcfnmaaGreatDoorOqb
import Derived.Lib.SlicesS
import Derived.Lib.Strings
import Derived.Deep.QuietTactic
import Derived.BigQuiet
set_option linter.unusedVariables false
set_option linter.unusedSimpArgs false
namespace Go.Proofs.YtpjjnmdfgcfnmaaGreatDoor
open Go.RowKit

theorem toL_iff (x y : ByteArray) : x.toList = y.toList ↔ x = y := by
  rw [← Lib.bytes_beq_iff]; simp
theorem take_snoc_eq {α : Type} {L M : List α} {k : Nat} (h : L.take k = M.take k) (hl : k < L.length) (hm : k < M.length) (he : L[k] = M[k]) : L.take (k + 1) = M.take (k + 1) := by
  rw [List.take_succ_eq_append_getElem hl, List.take_succ_eq_append_getElem hm, h, he]
theorem list_ne_at {α : Type} {L M : List α} {k : Nat} (hl : k < L.length) (hm : k < M.length) (he : L[k] ≠ M[k]) : L ≠ M := fun e => by
  subst e; exact he rfl


theorem idCells_length (L : List (ByteArray × ByteArray)) : (idCells L).length = L.length * 2 := by
  unfold idCells
  induction L with
  | nil => rfl
  | cons a L ih => rw [List.flatMap_cons, List.length_append, ih]; simp only [List.length_cons, List.length_nil]; omega
theorem idCells_get (L : List (ByteArray × ByteArray)) (k : Nat) (h : k < L.length) : (idCells L)[k * 2]? = some (.string L[k].1) ∧ (idCells L)[k * 2 + 1]? = some (.string L[k].2) := by
  induction L generalizing k with
  | nil => simp at h
  | cons a L ih =>
    have e : idCells (a :: L) = .string a.1 :: .string a.2 :: idCells L := by simp [idCells]
    rw [e]
    cases k with
    | zero => simp
    | succ k =>
      have h' : k < L.length := by simpa using h
      have := ih k h'
      have e1 : (k + 1) * 2 = k * 2 + 1 + 1 := by omega
      rw [e1]
      simpa using this
theorem strCells_length (L : List ByteArray) : (strCells L).length = L.length * 1 := by
  unfold strCells
  induction L with
  | nil => rfl
  | cons a L ih => rw [List.flatMap_cons, List.length_append, ih]; simp only [List.length_cons, List.length_nil]; omega
theorem strCells_get (L : List ByteArray) (k : Nat) (h : k < L.length) : (strCells L)[k * 1]? = some (.string L[k]) := by
  induction L generalizing k with
  | nil => simp at h
  | cons a L ih =>
    have e : strCells (a :: L) = .string a :: strCells L := by simp [strCells]
    rw [e]
    cases k with
    | zero => simp
    | succ k =>
      have h' : k < L.length := by simpa using h
      have := ih k h'
      have e1 : (k + 1) * 1 = k * 1 + 1 := by omega
      rw [e1]
      simpa using this
set_option maxRecDepth 100000 in
set_option maxHeartbeats 2000000 in
theorem acls05_any (A C : Option Addr) (n m c d : Nat) (L M : List AclT) (B : Nat) (w : World) (hn : n ≤ 9223372036854775807) (hm : m ≤ 9223372036854775807) (hBw : B ≤ w.heap.size) (ha : Reads w B 3 A n (aclCells L)) (hc : Reads w B 3 C m (aclCells M)) :
    Calls Tryz.prog 35 #[.slice A n c, .slice C m d] w fun e w' => e = .returned (.bool (decide (L = M))) ∧ Below w.heap.size w w' := by
  have hl : L.length = n := by have := ha.1; rw [aclCells_length] at this; omega
  have hm' : M.length = m := by have := hc.1; rw [aclCells_length] at this; omega
  by_cases hlm : (n : Int) = m
  rotate_left
  · have hne : L ≠ M := fun e => hlm (by rw [← hl, ← hm', e])
    have HNE := Lib.hid hne
    clear hne ha hc hl hm'
    go_enter Tryz.func35, Tryz.ntmps35
    go_wp2
    go_ret
    exact ⟨by simp [HNE.out], Below.refl _ _⟩
  obtain rfl : n = m := by omega
  have HL := Lib.hid hl
  have HM := Lib.hid hm'
  have HA := Lib.hid ha
  have HC := Lib.hid hc
  clear hl hm' ha hc hlm
  go_enter Tryz.func35, Tryz.ntmps35
  go_wp2
  go_loopw [5] (fun k' wr => ∃ k : Nat, k ≤ n ∧ k' = .int .i64 k ∧ Hid (L.take k = M.take k) ∧ Below w.heap.size w wr) (fun k' _ => n - (intOf k').toNat)
  case atStart => exact ⟨0, Nat.zero_le _, rfl, by unfold Hid; simp, Below.refl _ _⟩
  case round =>
    obtain ⟨k, hk, rfl, HT, hB⟩ := hrel
    have HB := Lib.hid hB
    by_cases hlt : k < n
    · obtain ⟨b, off, rfl, _, hx⟩ := (HA.out.below (hB.mono hBw)).plain (by omega) (by omega)
      obtain ⟨b', off', rfl, _, hy⟩ := (HC.out.below (hB.mono hBw)).plain (by omega) (by omega)
      have hkl : k < L.length := by rw [HL.out]; exact hlt
      have hkm : k < M.length := by rw [HM.out]; exact hlt
      obtain ⟨g0, g1, g2⟩ := aclCells_get L k hkl
      obtain ⟨g3, g4, g5⟩ := aclCells_get M k hkm
      have x0 := hx _ _ g0
      have x1 := hx _ _ g1
      have x2 := hx _ _ g2
      have y0 := hy _ _ g3
      have y1 := hy _ _ g4
      have y2 := hy _ _ g5
      simp only [← Nat.add_assoc] at x1 x2 y1 y2
      have hst := take_snoc_eq HT.out hkl hkm
      have hno : L[k] ≠ M[k] → L ≠ M := list_ne_at hkl hkm
      obtain ⟨qa, hqa⟩ : ∃ a, a = L[k] := ⟨_, rfl⟩
      obtain ⟨ra, hra⟩ : ∃ a, a = M[k] := ⟨_, rfl⟩
      rw [← hqa] at x0 x1 x2 hst hno
      rw [← hra] at y0 y1 y2 hst hno
      obtain ⟨q0, q1, q2⟩ := qa
      obtain ⟨r0, r1, r2⟩ := ra
      dsimp only at x0 x1 x2 y0 y1 y2
      clear hx hy g0 g1 g2 g3 g4 g5 hqa hra hkl hkm hB HT
      by_cases e0 : q0 = r0
      · by_cases e1 : q1 = r1
        · by_cases e2 : q2 = r2
          · subst e0 e1 e2
            have HST := Lib.hid (hst rfl)
            clear hst hno
            go_wp2
            go_quiet (fail)
            go_wp2
            skip
            go_roundw
            case rel => exact ⟨k + 1, by omega, by go_num, HST.out, below_drewN' HB.out _⟩
            case measure => simp [intOf]; omega
          · have HNO := Lib.hid (hno (fun e => e2 (by injection e with _ e; injection e)))
            have e2' : ¬ q2.toList = r2.toList := fun e => e2 ((toL_iff _ _).1 e)
            subst e0 e1
            clear hst hno
            go_wp2
            go_quiet (fail)
            go_wp2
            skip
            go_ret
            exact ⟨by simp [HNO.out], below_drewN' HB.out _⟩
        · have HNO := Lib.hid (hno (fun e => e1 (by injection e with _ e; injection e)))
          have e1' : ¬ q1.toList = r1.toList := fun e => e1 ((toL_iff _ _).1 e)
          subst e0
          clear hst hno
          go_wp2
          go_quiet (fail)
          go_wp2
          skip
          go_ret
          exact ⟨by simp [HNO.out], below_drewN' HB.out _⟩
      · have HNO := Lib.hid (hno (fun e => e0 (by injection e)))
        clear hst hno
        go_wp2
        go_quiet (fail)
        go_wp2
        skip
        go_ret
        exact ⟨by simp [HNO.out], below_drewN' HB.out _⟩
    · have e : L = M := by have := HT.out; rwa [List.take_of_length_le (by rw [HL.out]; omega), List.take_of_length_le (by rw [HM.out]; omega)] at this
      have HE := Lib.hid e
      clear e HT hB
      go_wp2
      go_ret
      exact ⟨by simp [HE.out], HB.out⟩

set_option maxRecDepth 100000 in
set_option maxHeartbeats 2000000 in
theorem ids11_any (A C : Option Addr) (n m c d : Nat) (L M : List (ByteArray × ByteArray)) (B : Nat) (w : World) (hn : n ≤ 9223372036854775807) (hm : m ≤ 9223372036854775807) (hBw : B ≤ w.heap.size) (ha : Reads w B 2 A n (idCells L)) (hc : Reads w B 2 C m (idCells M)) :
    Calls Tryz.prog 37 #[.slice A n c, .slice C m d] w fun e w' => e = .returned (.bool (decide (L = M))) ∧ Below w.heap.size w w' := by
  have hl : L.length = n := by have := ha.1; rw [idCells_length] at this; omega
  have hm' : M.length = m := by have := hc.1; rw [idCells_length] at this; omega
  by_cases hlm : (n : Int) = m
  rotate_left
  · have hne : L ≠ M := fun e => hlm (by rw [← hl, ← hm', e])
    have HNE := Lib.hid hne
    clear hne ha hc hl hm'
    go_enter Tryz.func37, Tryz.ntmps37
    go_wp2
    go_ret
    exact ⟨by simp [HNE.out], Below.refl _ _⟩
  obtain rfl : n = m := by omega
  have HL := Lib.hid hl
  have HM := Lib.hid hm'
  have HA := Lib.hid ha
  have HC := Lib.hid hc
  clear hl hm' ha hc hlm
  go_enter Tryz.func37, Tryz.ntmps37
  go_wp2
  go_loopw [5] (fun k' wr => ∃ k : Nat, k ≤ n ∧ k' = .int .i64 k ∧ Hid (L.take k = M.take k) ∧ Below w.heap.size w wr) (fun k' _ => n - (intOf k').toNat)
  case atStart => exact ⟨0, Nat.zero_le _, rfl, by unfold Hid; simp, Below.refl _ _⟩
  case round =>
    obtain ⟨k, hk, rfl, HT, hB⟩ := hrel
    have HB := Lib.hid hB
    by_cases hlt : k < n
    · obtain ⟨b, off, rfl, _, hx⟩ := (HA.out.below (hB.mono hBw)).plain (by omega) (by omega)
      obtain ⟨b', off', rfl, _, hy⟩ := (HC.out.below (hB.mono hBw)).plain (by omega) (by omega)
      have hkl : k < L.length := by rw [HL.out]; exact hlt
      have hkm : k < M.length := by rw [HM.out]; exact hlt
      obtain ⟨g0, g1⟩ := idCells_get L k hkl
      obtain ⟨g2, g3⟩ := idCells_get M k hkm
      have x0 := hx _ _ g0
      have x1 := hx _ _ g1
      have y0 := hy _ _ g2
      have y1 := hy _ _ g3
      simp only [← Nat.add_assoc] at x1 y1
      have hst := take_snoc_eq HT.out hkl hkm
      have hno : L[k] ≠ M[k] → L ≠ M := list_ne_at hkl hkm
      obtain ⟨qa, hqa⟩ : ∃ a, a = L[k] := ⟨_, rfl⟩
      obtain ⟨ra, hra⟩ : ∃ a, a = M[k] := ⟨_, rfl⟩
      rw [← hqa] at x0 x1 hst hno
      rw [← hra] at y0 y1 hst hno
      obtain ⟨q0, q1⟩ := qa
      obtain ⟨r0, r1⟩ := ra
      dsimp only at x0 x1 y0 y1
      clear hx hy g0 g1 g2 g3 hqa hra hkl hkm hB HT
      by_cases e0 : q0 = r0
      · by_cases e1 : q1 = r1
        · subst e0 e1
          have HST := Lib.hid (hst rfl)
          clear hst hno
          go_wp2
          go_quiet (fail)
          go_wp2
          skip
          go_roundw
          case rel => exact ⟨k + 1, by omega, by go_num, HST.out, below_drewN' HB.out _⟩
          case measure => simp [intOf]; omega
        · have HNO := Lib.hid (hno (fun e => e1 (by injection e)))
          have e1' : ¬ q1.toList = r1.toList := fun e => e1 ((toL_iff _ _).1 e)
          subst e0
          clear hst hno
          go_wp2
          go_quiet (fail)
          go_wp2
          skip
          go_ret
          exact ⟨by simp [HNO.out], below_drewN' HB.out _⟩
      · have HNO := Lib.hid (hno (fun e => e0 (by injection e)))
        have e0' : ¬ q0.toList = r0.toList := fun e => e0 ((toL_iff _ _).1 e)
        clear hst hno
        go_wp2
        go_quiet (fail)
        go_wp2
        skip
        go_ret
        exact ⟨by simp [HNO.out], below_drewN' HB.out _⟩
    · have e : L = M := by have := HT.out; rwa [List.take_of_length_le (by rw [HL.out]; omega), List.take_of_length_le (by rw [HM.out]; omega)] at this
      have HE := Lib.hid e
      clear e HT hB
      go_wp2
      go_ret
      exact ⟨by simp [HE.out], HB.out⟩

set_option maxRecDepth 100000 in
set_option maxHeartbeats 2000000 in
theorem texts11_any (A C : Option Addr) (n m c d : Nat) (L M : List ByteArray) (B : Nat) (w : World) (hn : n ≤ 9223372036854775807) (hm : m ≤ 9223372036854775807) (hBw : B ≤ w.heap.size) (ha : Reads w B 1 A n (strCells L)) (hc : Reads w B 1 C m (strCells M)) :
    Calls Tryz.prog 36 #[.slice A n c, .slice C m d] w fun e w' => e = .returned (.bool (decide (L = M))) ∧ Below w.heap.size w w' := by
  have hl : L.length = n := by have := ha.1; rw [strCells_length] at this; omega
  have hm' : M.length = m := by have := hc.1; rw [strCells_length] at this; omega
  by_cases hlm : (n : Int) = m
  rotate_left
  · have hne : L ≠ M := fun e => hlm (by rw [← hl, ← hm', e])
    have HNE := Lib.hid hne
    clear hne ha hc hl hm'
    go_enter Tryz.func36, Tryz.ntmps36
    go_wp2
    go_ret
    exact ⟨by simp [HNE.out], Below.refl _ _⟩
  obtain rfl : n = m := by omega
  have HL := Lib.hid hl
  have HM := Lib.hid hm'
  have HA := Lib.hid ha
  have HC := Lib.hid hc
  clear hl hm' ha hc hlm
  go_enter Tryz.func36, Tryz.ntmps36
  go_wp2
  go_loopw [5] (fun k' wr => ∃ k : Nat, k ≤ n ∧ k' = .int .i64 k ∧ Hid (L.take k = M.take k) ∧ Below w.heap.size w wr) (fun k' _ => n - (intOf k').toNat)
  case atStart => exact ⟨0, Nat.zero_le _, rfl, by unfold Hid; simp, Below.refl _ _⟩
  case round =>
    obtain ⟨k, hk, rfl, HT, hB⟩ := hrel
    have HB := Lib.hid hB
    by_cases hlt : k < n
    · obtain ⟨b, off, rfl, _, hx⟩ := (HA.out.below (hB.mono hBw)).plain (by omega) (by omega)
      obtain ⟨b', off', rfl, _, hy⟩ := (HC.out.below (hB.mono hBw)).plain (by omega) (by omega)
      have hkl : k < L.length := by rw [HL.out]; exact hlt
      have hkm : k < M.length := by rw [HM.out]; exact hlt
      have g0 := strCells_get L k hkl
      have g1 := strCells_get M k hkm
      have x0 := hx _ _ g0
      have y0 := hy _ _ g1
      simp only [Nat.mul_one] at x0 y0
      have hst := take_snoc_eq HT.out hkl hkm
      have hno : L[k] ≠ M[k] → L ≠ M := list_ne_at hkl hkm
      obtain ⟨qa, hqa⟩ : ∃ a, a = L[k] := ⟨_, rfl⟩
      obtain ⟨ra, hra⟩ : ∃ a, a = M[k] := ⟨_, rfl⟩
      rw [← hqa] at x0 hst hno
      rw [← hra] at y0 hst hno
      clear hx hy g0 g1 hqa hra hkl hkm hB HT
      by_cases e0 : qa = ra
      · subst e0
        have HST := Lib.hid (hst rfl)
        clear hst hno
        go_wp2
        go_quiet (fail)
        go_wp2
        skip
        go_roundw
        case rel => exact ⟨k + 1, by omega, by go_num, HST.out, below_drewN' HB.out _⟩
        case measure => simp [intOf]; omega
      · have HNO := Lib.hid (hno e0)
        have e0' : (qa.toList == ra.toList) = false := by simpa using fun e => e0 ((toL_iff _ _).1 e)
        clear hst hno
        go_wp2
        go_quiet (fail)
        go_wp2
        skip
        go_ret
        exact ⟨by simp [HNO.out], below_drewN' HB.out _⟩
    · have e : L = M := by have := HT.out; rwa [List.take_of_length_le (by rw [HL.out]; omega), List.take_of_length_le (by rw [HM.out]; omega)] at this
      have HE := Lib.hid e
      clear e HT hB
      go_wp2
      go_ret
      exact ⟨by simp [HE.out], HB.out⟩

set_option maxRecDepth 100000 in
set_option maxHeartbeats 2000000 in
theorem aclsEq_any (A C : Option Addr) (n m c d : Nat) (L M : List AclT) (B : Nat) (w : World) (hn : n ≤ 9223372036854775807) (hm : m ≤ 9223372036854775807) (hBw : B ≤ w.heap.size) (ha : Reads w B 3 A n (aclCells L)) (hc : Reads w B 3 C m (aclCells M)) :
    Calls Tryz.prog 100 #[.slice A n c, .slice C m d] w fun e w' => e = .returned (.bool (decide (L = M))) ∧ Below w.heap.size w w' := by
  have hl : L.length = n := by have := ha.1; rw [aclCells_length] at this; omega
  have hm' : M.length = m := by have := hc.1; rw [aclCells_length] at this; omega
  by_cases hlm : (n : Int) = m
  rotate_left
  · have hne : L ≠ M := fun e => hlm (by rw [← hl, ← hm', e])
    have HNE := Lib.hid hne
    clear hne ha hc hl hm'
    go_enter Tryz.func100, Tryz.ntmps100
    go_wp2
    go_ret
    exact ⟨by simp [HNE.out], Below.refl _ _⟩
  obtain rfl : n = m := by omega
  have HL := Lib.hid hl
  have HM := Lib.hid hm'
  have HA := Lib.hid ha
  have HC := Lib.hid hc
  clear hl hm' ha hc hlm
  go_enter Tryz.func100, Tryz.ntmps100
  go_wp2
  go_loopw [13] (fun k' wr => ∃ k : Nat, k ≤ n ∧ k' = .int .i64 k ∧ Hid (L.take k = M.take k) ∧ Below w.heap.size w wr) (fun k' _ => n - (intOf k').toNat)
  case atStart => exact ⟨0, Nat.zero_le _, rfl, by unfold Hid; simp, Below.refl _ _⟩
  case round =>
    obtain ⟨k, hk, rfl, HT, hB⟩ := hrel
    have HB := Lib.hid hB
    by_cases hlt : k < n
    · obtain ⟨b, off, rfl, _, hx⟩ := (HA.out.below (hB.mono hBw)).plain (by omega) (by omega)
      obtain ⟨b', off', rfl, _, hy⟩ := (HC.out.below (hB.mono hBw)).plain (by omega) (by omega)
      have hkl : k < L.length := by rw [HL.out]; exact hlt
      have hkm : k < M.length := by rw [HM.out]; exact hlt
      obtain ⟨g0, g1, g2⟩ := aclCells_get L k hkl
      obtain ⟨g3, g4, g5⟩ := aclCells_get M k hkm
      have x0 := hx _ _ g0
      have x1 := hx _ _ g1
      have x2 := hx _ _ g2
      have y0 := hy _ _ g3
      have y1 := hy _ _ g4
      have y2 := hy _ _ g5
      simp only [← Nat.add_assoc] at x1 x2 y1 y2
      have hst := take_snoc_eq HT.out hkl hkm
      have hno : L[k] ≠ M[k] → L ≠ M := list_ne_at hkl hkm
      obtain ⟨qa, hqa⟩ : ∃ a, a = L[k] := ⟨_, rfl⟩
      obtain ⟨ra, hra⟩ : ∃ a, a = M[k] := ⟨_, rfl⟩
      rw [← hqa] at x0 x1 x2 hst hno
      rw [← hra] at y0 y1 y2 hst hno
      obtain ⟨q0, q1, q2⟩ := qa
      obtain ⟨r0, r1, r2⟩ := ra
      dsimp only at x0 x1 x2 y0 y1 y2
      clear hx hy g0 g1 g2 g3 g4 g5 hqa hra hkl hkm hB HT
      by_cases e0 : q0 = r0
      · by_cases e1 : q1 = r1
        · by_cases e2 : q2 = r2
          · subst e0 e1 e2
            have HST := Lib.hid (hst rfl)
            clear hst hno
            go_wp2
            go_quiet (fail)
            go_wp2
            skip
            go_roundw
            case rel => exact ⟨k + 1, by omega, by go_num, HST.out, below_drewN' HB.out _⟩
            case measure => simp [intOf]; omega
          · have HNO := Lib.hid (hno (fun e => e2 (by injection e with _ e; injection e)))
            have e2' : ¬ q2.toList = r2.toList := fun e => e2 ((toL_iff _ _).1 e)
            subst e0 e1
            clear hst hno
            go_wp2
            go_quiet (fail)
            go_wp2
            skip
            go_ret
            exact ⟨by simp [HNO.out], below_drewN' HB.out _⟩
        · have HNO := Lib.hid (hno (fun e => e1 (by injection e with _ e; injection e)))
          have e1' : ¬ q1.toList = r1.toList := fun e => e1 ((toL_iff _ _).1 e)
          subst e0
          clear hst hno
          go_wp2
          go_quiet (fail)
          go_wp2
          skip
          go_ret
          exact ⟨by simp [HNO.out], below_drewN' HB.out _⟩
      · have HNO := Lib.hid (hno (fun e => e0 (by injection e)))
        clear hst hno
        go_wp2
        go_quiet (fail)
        go_wp2
        skip
        go_ret
        exact ⟨by simp [HNO.out], below_drewN' HB.out _⟩
    · have e : L = M := by have := HT.out; rwa [List.take_of_length_le (by rw [HL.out]; omega), List.take_of_length_le (by rw [HM.out]; omega)] at this
      have HE := Lib.hid e
      clear e HT hB
      go_wp2
      go_ret
      exact ⟨by simp [HE.out], HB.out⟩

set_option maxRecDepth 100000 in
set_option maxHeartbeats 2000000 in
theorem idsEq_any (A C : Option Addr) (n m c d : Nat) (L M : List (ByteArray × ByteArray)) (B : Nat) (w : World) (hn : n ≤ 9223372036854775807) (hm : m ≤ 9223372036854775807) (hBw : B ≤ w.heap.size) (ha : Reads w B 2 A n (idCells L)) (hc : Reads w B 2 C m (idCells M)) :
    Calls Tryz.prog 101 #[.slice A n c, .slice C m d] w fun e w' => e = .returned (.bool (decide (L = M))) ∧ Below w.heap.size w w' := by
  have hl : L.length = n := by have := ha.1; rw [idCells_length] at this; omega
  have hm' : M.length = m := by have := hc.1; rw [idCells_length] at this; omega
  by_cases hlm : (n : Int) = m
  rotate_left
  · have hne : L ≠ M := fun e => hlm (by rw [← hl, ← hm', e])
    have HNE := Lib.hid hne
    clear hne ha hc hl hm'
    go_enter Tryz.func101, Tryz.ntmps101
    go_wp2
    go_ret
    exact ⟨by simp [HNE.out], Below.refl _ _⟩
  obtain rfl : n = m := by omega
  have HL := Lib.hid hl
  have HM := Lib.hid hm'
  have HA := Lib.hid ha
  have HC := Lib.hid hc
  clear hl hm' ha hc hlm
  go_enter Tryz.func101, Tryz.ntmps101
  go_wp2
  go_loopw [13] (fun k' wr => ∃ k : Nat, k ≤ n ∧ k' = .int .i64 k ∧ Hid (L.take k = M.take k) ∧ Below w.heap.size w wr) (fun k' _ => n - (intOf k').toNat)
  case atStart => exact ⟨0, Nat.zero_le _, rfl, by unfold Hid; simp, Below.refl _ _⟩
  case round =>
    obtain ⟨k, hk, rfl, HT, hB⟩ := hrel
    have HB := Lib.hid hB
    by_cases hlt : k < n
    · obtain ⟨b, off, rfl, _, hx⟩ := (HA.out.below (hB.mono hBw)).plain (by omega) (by omega)
      obtain ⟨b', off', rfl, _, hy⟩ := (HC.out.below (hB.mono hBw)).plain (by omega) (by omega)
      have hkl : k < L.length := by rw [HL.out]; exact hlt
      have hkm : k < M.length := by rw [HM.out]; exact hlt
      obtain ⟨g0, g1⟩ := idCells_get L k hkl
      obtain ⟨g2, g3⟩ := idCells_get M k hkm
      have x0 := hx _ _ g0
      have x1 := hx _ _ g1
      have y0 := hy _ _ g2
      have y1 := hy _ _ g3
      simp only [← Nat.add_assoc] at x1 y1
      have hst := take_snoc_eq HT.out hkl hkm
      have hno : L[k] ≠ M[k] → L ≠ M := list_ne_at hkl hkm
      obtain ⟨qa, hqa⟩ : ∃ a, a = L[k] := ⟨_, rfl⟩
      obtain ⟨ra, hra⟩ : ∃ a, a = M[k] := ⟨_, rfl⟩
      rw [← hqa] at x0 x1 hst hno
      rw [← hra] at y0 y1 hst hno
      obtain ⟨q0, q1⟩ := qa
      obtain ⟨r0, r1⟩ := ra
      dsimp only at x0 x1 y0 y1
      clear hx hy g0 g1 g2 g3 hqa hra hkl hkm hB HT
      by_cases e0 : q0 = r0
      · by_cases e1 : q1 = r1
        · subst e0 e1
          have HST := Lib.hid (hst rfl)
          clear hst hno
          go_wp2
          go_quiet (fail)
          go_wp2
          skip
          go_roundw
          case rel => exact ⟨k + 1, by omega, by go_num, HST.out, below_drewN' HB.out _⟩
          case measure => simp [intOf]; omega
        · have HNO := Lib.hid (hno (fun e => e1 (by injection e)))
          have e1' : ¬ q1.toList = r1.toList := fun e => e1 ((toL_iff _ _).1 e)
          subst e0
          clear hst hno
          go_wp2
          go_quiet (fail)
          go_wp2
          skip
          go_ret
          exact ⟨by simp [HNO.out], below_drewN' HB.out _⟩
      · have HNO := Lib.hid (hno (fun e => e0 (by injection e)))
        have e0' : ¬ q0.toList = r0.toList := fun e => e0 ((toL_iff _ _).1 e)
        clear hst hno
        go_wp2
        go_quiet (fail)
        go_wp2
        skip
        go_ret
        exact ⟨by simp [HNO.out], below_drewN' HB.out _⟩
    · have e : L = M := by have := HT.out; rwa [List.take_of_length_le (by rw [HL.out]; omega), List.take_of_length_le (by rw [HM.out]; omega)] at this
      have HE := Lib.hid e
      clear e HT hB
      go_wp2
      go_ret
      exact ⟨by simp [HE.out], HB.out⟩

set_option maxRecDepth 100000 in
set_option maxHeartbeats 2000000 in
theorem strsEq_any (A C : Option Addr) (n m c d : Nat) (L M : List ByteArray) (B : Nat) (w : World) (hn : n ≤ 9223372036854775807) (hm : m ≤ 9223372036854775807) (hBw : B ≤ w.heap.size) (ha : Reads w B 1 A n (strCells L)) (hc : Reads w B 1 C m (strCells M)) :
    Calls Tryz.prog 103 #[.slice A n c, .slice C m d] w fun e w' => e = .returned (.bool (decide (L = M))) ∧ Below w.heap.size w w' := by
  have hl : L.length = n := by have := ha.1; rw [strCells_length] at this; omega
  have hm' : M.length = m := by have := hc.1; rw [strCells_length] at this; omega
  by_cases hlm : (n : Int) = m
  rotate_left
  · have hne : L ≠ M := fun e => hlm (by rw [← hl, ← hm', e])
    have HNE := Lib.hid hne
    clear hne ha hc hl hm'
    go_enter Tryz.func103, Tryz.ntmps103
    go_wp2
    go_ret
    exact ⟨by simp [HNE.out], Below.refl _ _⟩
  obtain rfl : n = m := by omega
  have HL := Lib.hid hl
  have HM := Lib.hid hm'
  have HA := Lib.hid ha
  have HC := Lib.hid hc
  clear hl hm' ha hc hlm
  go_enter Tryz.func103, Tryz.ntmps103
  go_wp2
  go_loopw [13] (fun k' wr => ∃ k : Nat, k ≤ n ∧ k' = .int .i64 k ∧ Hid (L.take k = M.take k) ∧ Below w.heap.size w wr) (fun k' _ => n - (intOf k').toNat)
  case atStart => exact ⟨0, Nat.zero_le _, rfl, by unfold Hid; simp, Below.refl _ _⟩
  case round =>
    obtain ⟨k, hk, rfl, HT, hB⟩ := hrel
    have HB := Lib.hid hB
    by_cases hlt : k < n
    · obtain ⟨b, off, rfl, _, hx⟩ := (HA.out.below (hB.mono hBw)).plain (by omega) (by omega)
      obtain ⟨b', off', rfl, _, hy⟩ := (HC.out.below (hB.mono hBw)).plain (by omega) (by omega)
      have hkl : k < L.length := by rw [HL.out]; exact hlt
      have hkm : k < M.length := by rw [HM.out]; exact hlt
      have g0 := strCells_get L k hkl
      have g1 := strCells_get M k hkm
      have x0 := hx _ _ g0
      have y0 := hy _ _ g1
      simp only [Nat.mul_one] at x0 y0
      have hst := take_snoc_eq HT.out hkl hkm
      have hno : L[k] ≠ M[k] → L ≠ M := list_ne_at hkl hkm
      obtain ⟨qa, hqa⟩ : ∃ a, a = L[k] := ⟨_, rfl⟩
      obtain ⟨ra, hra⟩ : ∃ a, a = M[k] := ⟨_, rfl⟩
      rw [← hqa] at x0 hst hno
      rw [← hra] at y0 hst hno
      clear hx hy g0 g1 hqa hra hkl hkm hB HT
      by_cases e0 : qa = ra
      · subst e0
        have HST := Lib.hid (hst rfl)
        clear hst hno
        go_wp2
        go_quiet (fail)
        go_wp2
        skip
        go_roundw
        case rel => exact ⟨k + 1, by omega, by go_num, HST.out, below_drewN' HB.out _⟩
        case measure => simp [intOf]; omega
      · have HNO := Lib.hid (hno e0)
        have e0' : (qa.toList == ra.toList) = false := by simpa using fun e => e0 ((toL_iff _ _).1 e)
        clear hst hno
        go_wp2
        go_quiet (fail)
        go_wp2
        skip
        go_ret
        exact ⟨by simp [HNO.out], below_drewN' HB.out _⟩
    · have e : L = M := by have := HT.out; rwa [List.take_of_length_le (by rw [HL.out]; omega), List.take_of_length_le (by rw [HM.out]; omega)] at this
      have HE := Lib.hid e
      clear e HT hB
      go_wp2
      go_ret
      exact ⟨by simp [HE.out], HB.out⟩

set_option maxRecDepth 100000 in
theorem bytesEqual_any (A C : Option Addr) (n m c d : Nat) (l k : List UInt8) (B : Nat) (w : World) (hBw : B ≤ w.heap.size) (ha : Reads w B 1 A n (bcells l)) (hc : Reads w B 1 C m (bcells k)) :
    Calls Tryz.prog 99 #[.slice A n c, .slice C m d] w fun e w' => e = .returned (.bool (decide (l = k))) ∧ Below w.heap.size w w' := by
  have h1 := run_string_of_bytes Tryz.underlying22 Tryz.underlying5 (c := c) ha 9 Tryz.underlying9
  have h2 := run_string_of_bytes Tryz.underlying22 Tryz.underlying5 (c := d) hc 9 Tryz.underlying9
  have he : (⟨l.toArray⟩ : ByteArray).toList == (⟨k.toArray⟩ : ByteArray).toList ↔ l = k := by
    rw [Lib.toList_data, Lib.toList_data]
    simp
  have HE : Hid (((⟨l.toArray⟩ : ByteArray).toList == (⟨k.toArray⟩ : ByteArray).toList) = decide (l = k)) := by
    unfold Hid
    rw [Bool.eq_iff_iff, he]
    simp
  generalize (⟨l.toArray⟩ : ByteArray) = x at h1 HE
  generalize (⟨k.toArray⟩ : ByteArray) = y at h2 HE
  rw [← HE.out]
  clear ha hc he HE
  go_enter Tryz.func99, Tryz.ntmps99
  go_wp2
  go_ret
  exact ⟨rfl, Below.refl _ _⟩
end Go.Proofs.YtpjjnmdfgcfnmaaGreatDoor
/- Lists of texts compared, five at a time: slices.EqualFunc with slices.Equal. -/
namespace Go.Proofs.YtpjjnmdfgcfnmaaGreatDoor
open Go.RowKit

/-- a function's value is entered -/
theorem enter_fn {P : Program} {f : FuncId} {fn : Func} (hf : P.funcs[f]? = some fn) (hn : (fn.name == "runtime.NumGoroutine") = false) (hb : fn.body.isNone = false) : ∀ (args : Array Value) (W : World), (callFunc f args).run P W = .ok (.enter f args) W := fun _ _ => by
  have hn' : ¬ fn.name = "runtime.NumGoroutine" := by simpa using hn
  have hb' : ¬ fn.body = none := fun h => by rw [h] at hb; cases hb
  simp [callFunc, hf, hn', hb']
/-- lists of texts, their headers one behind the other in memory -/
structure ListsAt (w : World) (B g off n : Nat) (X : List (Sl × List ByteArray)) : Prop where
  len : X.length = n
  cell : ∀ j (h : j < X.length), w.cell? ⟨g, off + j, none⟩ = some (X[j]).1.v
  reads : ∀ j (h : j < X.length), Reads w B 1 (X[j]).1.A (X[j]).1.n (strCells (X[j]).2)
  bd : ∀ j (h : j < X.length), (X[j]).1.n ≤ 4611686018427387904
theorem ListsAt.below {w w' : World} {B g off n : Nat} {X : List (Sl × List ByteArray)} (h : ListsAt w B g off n X) (hb : Below w.heap.size w w') (hB : B ≤ w.heap.size) (hg : g < w.heap.size) : ListsAt w' B g off n X :=
  ⟨h.len, fun j hj => (hb.cell (p := ⟨g, off + j, none⟩) hg).trans (h.cell j hj), fun j hj => (h.reads j hj).below (hb.mono hB), h.bd⟩
set_option maxRecDepth 100000 in
set_option maxHeartbeats 4000000 in
theorem listsEq_any (g g' off off' n c d B : Nat) (X Y : List (Sl × List ByteArray)) (w : World) (hn : n ≤ 4611686018427387904) (hBw : B ≤ w.heap.size) (hg : g < w.heap.size) (hg' : g' < w.heap.size) (hX : ListsAt w B g off n X) (hY : ListsAt w B g' off' n Y) :
    Calls Tryz.prog 102 #[.slice (some ⟨g, off, none⟩) n c, .slice (some ⟨g', off', none⟩) n d, .func (.func 103) #[] #[]] w fun e w' => e = .returned (.bool (decide (X.map Prod.snd = Y.map Prod.snd))) ∧ Below w.heap.size w w' := by
  have HENT := Lib.hid (enter_fn Tryz.func103 (by as_aux_lemma => kernel_rfl) (by as_aux_lemma => kernel_rfl))
  have HX := Lib.hid hX
  have HY := Lib.hid hY
  clear hX hY
  go_enter Tryz.func102, Tryz.ntmps102
  go_wp2
  go_loopw [17] (fun k' wr => ∃ k : Nat, k ≤ n ∧ k' = .int .i64 k ∧ Hid ((X.map Prod.snd).take k = (Y.map Prod.snd).take k) ∧ Below w.heap.size w wr) (fun k' _ => n - (intOf k').toNat)
  case atStart => exact ⟨0, Nat.zero_le _, rfl, by unfold Hid; simp, Below.refl _ _⟩
  case round =>
    obtain ⟨k, hk, rfl, HT, hB⟩ := hrel
    have HB := Lib.hid hB
    by_cases hlt : k < n
    · have hk1 : k < X.length := by rw [HX.out.len]; exact hlt
      have hk2 : k < Y.length := by rw [HY.out.len]; exact hlt
      have x1 := (HX.out.below hB hBw hg).cell k hk1
      have y1 := (HY.out.below hB hBw hg').cell k hk2
      have hx := (HX.out.below hB hBw hg).reads k hk1
      have hy := (HY.out.below hB hBw hg').reads k hk2
      have bx := HX.out.bd k hk1
      have by' := HY.out.bd k hk2
      have hst := fun e => take_snoc_eq (L := X.map Prod.snd) (M := Y.map Prod.snd) HT.out (by simpa using hk1) (by simpa using hk2) (by simpa using e)
      have hno := fun e => list_ne_at (L := X.map Prod.snd) (M := Y.map Prod.snd) (k := k) (by simpa using hk1) (by simpa using hk2) (by simpa using e)
      obtain ⟨⟨⟨A1, n1, c1⟩, L1⟩, e1⟩ : ∃ q, q = X[k] := ⟨_, rfl⟩
      obtain ⟨⟨⟨A2, n2, c2⟩, L2⟩, e2⟩ : ∃ q, q = Y[k] := ⟨_, rfl⟩
      rw [← e1] at x1 hx bx hst hno
      rw [← e2] at y1 hy by' hst hno
      unfold Sl.v at x1 y1
      dsimp only at x1 y1 hx hy bx by' hst hno
      have HC : Hid (∀ W, Below wr.heap.size wr W → Calls Tryz.prog 103 #[.slice A1 n1 c1, .slice A2 n2 c2] W fun e w' => e = .returned (.bool (decide (L1 = L2))) ∧ Below W.heap.size W w') := fun W hW =>
        strsEq_any A1 A2 n1 n2 c1 c2 L1 L2 B W (by omega) (by omega) (Nat.le_trans hBw (Nat.le_trans hB.size hW.size)) (hx.below (hW.mono (Nat.le_trans hBw hB.size))) (hy.below (hW.mono (Nat.le_trans hBw hB.size)))
      clear e1 e2 hx hy hk1 hk2 HT
      by_cases hL : L1 = L2
      · have HST := Lib.hid (hst hL)
        rw [decide_eq_true hL] at HC
        have hent := HENT.out
        clear hst hno hL hB
        go_wp2_with (refine (HC.out _ (by first | exact Below.refl _ _ | exact (Below.refl _ _).drew)).mono ?_; rintro e w2 ⟨rfl, hb⟩; have HB2 := Lib.hid (HB.out.trans (hb.mono HB.out.size)); clear hb)
        go_roundw
        case rel => exact ⟨k + 1, by omega, by go_num, HST.out, HB2.out⟩
        case measure => simp [intOf]; omega
      · have HNO := Lib.hid (hno hL)
        rw [decide_eq_false hL] at HC
        have hent := HENT.out
        clear hst hno hL hB
        go_wp2_with (refine (HC.out _ (by first | exact Below.refl _ _ | exact (Below.refl _ _).drew)).mono ?_; rintro e w2 ⟨rfl, hb⟩; have HB2 := Lib.hid (HB.out.trans (hb.mono HB.out.size)); clear hb)
        go_ret
        exact ⟨by simp [HNO.out], HB2.out⟩
    · have e : X.map Prod.snd = Y.map Prod.snd := by
        have h := HT.out
        rwa [List.take_of_length_le (by rw [List.length_map, HX.out.len]; omega), List.take_of_length_le (by rw [List.length_map, HY.out.len]; omega)] at h
      have HE := Lib.hid e
      clear e HT hB
      go_wp2
      go_ret
      exact ⟨by simp [HE.out], HB.out⟩
end Go.Proofs.YtpjjnmdfgcfnmaaGreatDoor
