/- Lists compared: the walks. (printed by gen_s2.py) -/
import Derived.Test.YtnbaajplelchjaaGreatDoorRs1
import Derived.Test.YtnbaajplelchjaaGreatDoorSuw
import Derived.Lib.SlicesS
import Derived.Deep.QuietTactic
import Derived.BigQuiet
set_option linter.unusedVariables false
set_option linter.unusedSimpArgs false
namespace Go.Proofs.YtnbaajplelchjaaGreatDoor
open Go.RowKit

theorem toL_iff (x y : ByteArray) : x.toList = y.toList ↔ x = y := by
  rw [← Lib.bytes_beq_iff]; simp
theorem take_snoc_eq {α : Type} {L M : List α} {k : Nat} (h : L.take k = M.take k) (hl : k < L.length) (hm : k < M.length) (he : L[k] = M[k]) : L.take (k + 1) = M.take (k + 1) := by
  rw [List.take_succ_eq_append_getElem hl, List.take_succ_eq_append_getElem hm, h, he]
theorem list_ne_at {α : Type} {L M : List α} {k : Nat} (hl : k < L.length) (hm : k < M.length) (he : L[k] ≠ M[k]) : L ≠ M := fun e => by
  subst e; exact he rfl


theorem idCells_length (L : List (ByteArray × ByteArray)) : (idCells L).length = L.length * 2 := by
  unfold idCells
  induction L with
  | nil => rfl
  | cons a L ih => rw [List.flatMap_cons, List.length_append, ih]; simp only [List.length_cons, List.length_nil]; omega
theorem idCells_get (L : List (ByteArray × ByteArray)) (k : Nat) (h : k < L.length) : (idCells L)[k * 2]? = some (.string L[k].1) ∧ (idCells L)[k * 2 + 1]? = some (.string L[k].2) := by
  induction L generalizing k with
  | nil => simp at h
  | cons a L ih =>
    have e : idCells (a :: L) = .string a.1 :: .string a.2 :: idCells L := by simp [idCells]
    rw [e]
    cases k with
    | zero => simp
    | succ k =>
      have h' : k < L.length := by simpa using h
      have := ih k h'
      have e1 : (k + 1) * 2 = k * 2 + 1 + 1 := by omega
      rw [e1]
      simpa using this
theorem strCells_length (L : List ByteArray) : (strCells L).length = L.length * 1 := by
  unfold strCells
  induction L with
  | nil => rfl
  | cons a L ih => rw [List.flatMap_cons, List.length_append, ih]; simp only [List.length_cons, List.length_nil]; omega
theorem strCells_get (L : List ByteArray) (k : Nat) (h : k < L.length) : (strCells L)[k * 1]? = some (.string L[k]) := by
  induction L generalizing k with
  | nil => simp at h
  | cons a L ih =>
    have e : strCells (a :: L) = .string a :: strCells L := by simp [strCells]
    rw [e]
    cases k with
    | zero => simp
    | succ k =>
      have h' : k < L.length := by simpa using h
      have := ih k h'
      have e1 : (k + 1) * 1 = k * 1 + 1 := by omega
      rw [e1]
      simpa using this
theorem bcells_get1 (L : List UInt8) (k : Nat) (h : k < L.length) : (bcells L)[k * 1]? = some (.int .u8 (L[k].toNat : Int)) := by
  rw [Nat.mul_one, bcells_get, List.getElem?_eq_getElem h]
  rfl
theorem u8_ne {a b : UInt8} (h : a ≠ b) : ¬ (a.toNat : Int) = b.toNat := fun e => h (UInt8.toNat_inj.1 (by omega))

set_option maxRecDepth 100000 in
set_option maxHeartbeats 2000000 in
theorem acls06_any (A C : Option Addr) (n m c d : Nat) (L M : List AclT) (B : Nat) (w : World) (hn : n ≤ 9223372036854775807) (hm : m ≤ 9223372036854775807) (hBw : B ≤ w.heap.size) (ha : Reads w B 3 A n (aclCells L)) (hc : Reads w B 3 C m (aclCells M)) :
    Calls Tryz.prog 97 #[.slice A n c, .slice C m d] w fun e w' => e = .returned (.bool (decide (L = M))) ∧ Below w.heap.size w w' := by
  have hl : L.length = n := by have := ha.1; rw [aclCells_length] at this; omega
  have hm' : M.length = m := by have := hc.1; rw [aclCells_length] at this; omega
  by_cases hlm : (n : Int) = m
  rotate_left
  · have hne : L ≠ M := fun e => hlm (by rw [← hl, ← hm', e])
    have HNE := Lib.hid hne
    clear hne ha hc hl hm'
    go_enter Tryz.func97, Tryz.ntmps97
    go_wp2
    go_ret
    exact ⟨by simp [HNE.out], Below.refl _ _⟩
  obtain rfl : n = m := by omega
  have HL := Lib.hid hl
  have HM := Lib.hid hm'
  have HA := Lib.hid ha
  have HC := Lib.hid hc
  clear hl hm' ha hc hlm
  go_enter Tryz.func97, Tryz.ntmps97
  go_wp2
  go_loopw [5] (fun k' wr => ∃ k : Nat, k ≤ n ∧ k' = .int .i64 k ∧ Hid (L.take k = M.take k) ∧ Below w.heap.size w wr) (fun k' _ => n - (intOf k').toNat)
  case atStart => exact ⟨0, Nat.zero_le _, rfl, by unfold Hid; simp, Below.refl _ _⟩
  case round =>
    obtain ⟨k, hk, rfl, HT, hB⟩ := hrel
    have HB := Lib.hid hB
    by_cases hlt : k < n
    · obtain ⟨b, off, rfl, _, hx⟩ := (HA.out.below (hB.mono hBw)).plain (by omega) (by omega)
      obtain ⟨b', off', rfl, _, hy⟩ := (HC.out.below (hB.mono hBw)).plain (by omega) (by omega)
      have hkl : k < L.length := by rw [HL.out]; exact hlt
      have hkm : k < M.length := by rw [HM.out]; exact hlt
      obtain ⟨g0, g1, g2⟩ := aclCells_get L k hkl
      obtain ⟨g3, g4, g5⟩ := aclCells_get M k hkm
      have x0 := hx _ _ g0
      have x1 := hx _ _ g1
      have x2 := hx _ _ g2
      have y0 := hy _ _ g3
      have y1 := hy _ _ g4
      have y2 := hy _ _ g5
      simp only [← Nat.add_assoc] at x1 x2 y1 y2
      have hst := take_snoc_eq HT.out hkl hkm
      have hno : L[k] ≠ M[k] → L ≠ M := list_ne_at hkl hkm
      obtain ⟨qa, hqa⟩ : ∃ a, a = L[k] := ⟨_, rfl⟩
      obtain ⟨ra, hra⟩ : ∃ a, a = M[k] := ⟨_, rfl⟩
      rw [← hqa] at x0 x1 x2 hst hno
      rw [← hra] at y0 y1 y2 hst hno
      obtain ⟨q0, q1, q2⟩ := qa
      obtain ⟨r0, r1, r2⟩ := ra
      dsimp only at x0 x1 x2 y0 y1 y2
      clear hx hy g0 g1 g2 g3 g4 g5 hqa hra hkl hkm hB HT
      by_cases e0 : q0 = r0
      · by_cases e1 : q1 = r1
        · by_cases e2 : q2 = r2
          · subst e0 e1 e2
            have HST := Lib.hid (hst rfl)
            clear hst hno
            go_wp2
            go_quiet (fail)
            go_wp2
            go_ways
            go_roundw
            case rel => exact ⟨k + 1, by omega, by go_num, HST.out, below_drewN' HB.out _⟩
            case measure => simp [intOf]; omega
          · have HNO := Lib.hid (hno (fun e => e2 (by injection e with _ e; injection e)))
            have e2' : ¬ q2.toList = r2.toList := fun e => e2 ((toL_iff _ _).1 e)
            subst e0 e1
            clear hst hno
            go_wp2
            go_quiet (fail)
            go_wp2
            go_ways
            go_ret
            exact ⟨by simp [HNO.out], below_drewN' HB.out _⟩
        · have HNO := Lib.hid (hno (fun e => e1 (by injection e with _ e; injection e)))
          have e1' : ¬ q1.toList = r1.toList := fun e => e1 ((toL_iff _ _).1 e)
          subst e0
          clear hst hno
          go_wp2
          go_quiet (fail)
          go_wp2
          go_ways
          go_ret
          exact ⟨by simp [HNO.out], below_drewN' HB.out _⟩
      · have HNO := Lib.hid (hno (fun e => e0 (by injection e)))
        clear hst hno
        go_wp2
        go_quiet (fail)
        go_wp2
        go_ways
        go_ret
        exact ⟨by simp [HNO.out], below_drewN' HB.out _⟩
    · have e : L = M := by have := HT.out; rwa [List.take_of_length_le (by rw [HL.out]; omega), List.take_of_length_le (by rw [HM.out]; omega)] at this
      have HE := Lib.hid e
      clear e HT hB
      go_wp2
      go_ret
      exact ⟨by simp [HE.out], HB.out⟩

set_option maxRecDepth 100000 in
set_option maxHeartbeats 2000000 in
theorem aclsEq_any (A C : Option Addr) (n m c d : Nat) (L M : List AclT) (B : Nat) (w : World) (hn : n ≤ 9223372036854775807) (hm : m ≤ 9223372036854775807) (hBw : B ≤ w.heap.size) (ha : Reads w B 3 A n (aclCells L)) (hc : Reads w B 3 C m (aclCells M)) :
    Calls Tryz.prog 128 #[.slice A n c, .slice C m d] w fun e w' => e = .returned (.bool (decide (L = M))) ∧ Below w.heap.size w w' := by
  have hl : L.length = n := by have := ha.1; rw [aclCells_length] at this; omega
  have hm' : M.length = m := by have := hc.1; rw [aclCells_length] at this; omega
  by_cases hlm : (n : Int) = m
  rotate_left
  · have hne : L ≠ M := fun e => hlm (by rw [← hl, ← hm', e])
    have HNE := Lib.hid hne
    clear hne ha hc hl hm'
    go_enter Tryz.func128, Tryz.ntmps128
    go_wp2
    go_ret
    exact ⟨by simp [HNE.out], Below.refl _ _⟩
  obtain rfl : n = m := by omega
  have HL := Lib.hid hl
  have HM := Lib.hid hm'
  have HA := Lib.hid ha
  have HC := Lib.hid hc
  clear hl hm' ha hc hlm
  go_enter Tryz.func128, Tryz.ntmps128
  go_wp2
  go_loopw [13] (fun k' wr => ∃ k : Nat, k ≤ n ∧ k' = .int .i64 k ∧ Hid (L.take k = M.take k) ∧ Below w.heap.size w wr) (fun k' _ => n - (intOf k').toNat)
  case atStart => exact ⟨0, Nat.zero_le _, rfl, by unfold Hid; simp, Below.refl _ _⟩
  case round =>
    obtain ⟨k, hk, rfl, HT, hB⟩ := hrel
    have HB := Lib.hid hB
    by_cases hlt : k < n
    · obtain ⟨b, off, rfl, _, hx⟩ := (HA.out.below (hB.mono hBw)).plain (by omega) (by omega)
      obtain ⟨b', off', rfl, _, hy⟩ := (HC.out.below (hB.mono hBw)).plain (by omega) (by omega)
      have hkl : k < L.length := by rw [HL.out]; exact hlt
      have hkm : k < M.length := by rw [HM.out]; exact hlt
      obtain ⟨g0, g1, g2⟩ := aclCells_get L k hkl
      obtain ⟨g3, g4, g5⟩ := aclCells_get M k hkm
      have x0 := hx _ _ g0
      have x1 := hx _ _ g1
      have x2 := hx _ _ g2
      have y0 := hy _ _ g3
      have y1 := hy _ _ g4
      have y2 := hy _ _ g5
      simp only [← Nat.add_assoc] at x1 x2 y1 y2
      have hst := take_snoc_eq HT.out hkl hkm
      have hno : L[k] ≠ M[k] → L ≠ M := list_ne_at hkl hkm
      obtain ⟨qa, hqa⟩ : ∃ a, a = L[k] := ⟨_, rfl⟩
      obtain ⟨ra, hra⟩ : ∃ a, a = M[k] := ⟨_, rfl⟩
      rw [← hqa] at x0 x1 x2 hst hno
      rw [← hra] at y0 y1 y2 hst hno
      obtain ⟨q0, q1, q2⟩ := qa
      obtain ⟨r0, r1, r2⟩ := ra
      dsimp only at x0 x1 x2 y0 y1 y2
      clear hx hy g0 g1 g2 g3 g4 g5 hqa hra hkl hkm hB HT
      by_cases e0 : q0 = r0
      · by_cases e1 : q1 = r1
        · by_cases e2 : q2 = r2
          · subst e0 e1 e2
            have HST := Lib.hid (hst rfl)
            clear hst hno
            go_wp2
            go_quiet (fail)
            go_wp2
            go_ways
            go_roundw
            case rel => exact ⟨k + 1, by omega, by go_num, HST.out, below_drewN' HB.out _⟩
            case measure => simp [intOf]; omega
          · have HNO := Lib.hid (hno (fun e => e2 (by injection e with _ e; injection e)))
            have e2' : ¬ q2.toList = r2.toList := fun e => e2 ((toL_iff _ _).1 e)
            subst e0 e1
            clear hst hno
            go_wp2
            go_quiet (fail)
            go_wp2
            go_ways
            go_ret
            exact ⟨by simp [HNO.out], below_drewN' HB.out _⟩
        · have HNO := Lib.hid (hno (fun e => e1 (by injection e with _ e; injection e)))
          have e1' : ¬ q1.toList = r1.toList := fun e => e1 ((toL_iff _ _).1 e)
          subst e0
          clear hst hno
          go_wp2
          go_quiet (fail)
          go_wp2
          go_ways
          go_ret
          exact ⟨by simp [HNO.out], below_drewN' HB.out _⟩
      · have HNO := Lib.hid (hno (fun e => e0 (by injection e)))
        clear hst hno
        go_wp2
        go_quiet (fail)
        go_wp2
        go_ways
        go_ret
        exact ⟨by simp [HNO.out], below_drewN' HB.out _⟩
    · have e : L = M := by have := HT.out; rwa [List.take_of_length_le (by rw [HL.out]; omega), List.take_of_length_le (by rw [HM.out]; omega)] at this
      have HE := Lib.hid e
      clear e HT hB
      go_wp2
      go_ret
      exact ⟨by simp [HE.out], HB.out⟩

set_option maxRecDepth 100000 in
set_option maxHeartbeats 2000000 in
theorem idsEq_any (A C : Option Addr) (n m c d : Nat) (L M : List (ByteArray × ByteArray)) (B : Nat) (w : World) (hn : n ≤ 9223372036854775807) (hm : m ≤ 9223372036854775807) (hBw : B ≤ w.heap.size) (ha : Reads w B 2 A n (idCells L)) (hc : Reads w B 2 C m (idCells M)) :
    Calls Tryz.prog 131 #[.slice A n c, .slice C m d] w fun e w' => e = .returned (.bool (decide (L = M))) ∧ Below w.heap.size w w' := by
  have hl : L.length = n := by have := ha.1; rw [idCells_length] at this; omega
  have hm' : M.length = m := by have := hc.1; rw [idCells_length] at this; omega
  by_cases hlm : (n : Int) = m
  rotate_left
  · have hne : L ≠ M := fun e => hlm (by rw [← hl, ← hm', e])
    have HNE := Lib.hid hne
    clear hne ha hc hl hm'
    go_enter Tryz.func131, Tryz.ntmps131
    go_wp2
    go_ret
    exact ⟨by simp [HNE.out], Below.refl _ _⟩
  obtain rfl : n = m := by omega
  have HL := Lib.hid hl
  have HM := Lib.hid hm'
  have HA := Lib.hid ha
  have HC := Lib.hid hc
  clear hl hm' ha hc hlm
  go_enter Tryz.func131, Tryz.ntmps131
  go_wp2
  go_loopw [13] (fun k' wr => ∃ k : Nat, k ≤ n ∧ k' = .int .i64 k ∧ Hid (L.take k = M.take k) ∧ Below w.heap.size w wr) (fun k' _ => n - (intOf k').toNat)
  case atStart => exact ⟨0, Nat.zero_le _, rfl, by unfold Hid; simp, Below.refl _ _⟩
  case round =>
    obtain ⟨k, hk, rfl, HT, hB⟩ := hrel
    have HB := Lib.hid hB
    by_cases hlt : k < n
    · obtain ⟨b, off, rfl, _, hx⟩ := (HA.out.below (hB.mono hBw)).plain (by omega) (by omega)
      obtain ⟨b', off', rfl, _, hy⟩ := (HC.out.below (hB.mono hBw)).plain (by omega) (by omega)
      have hkl : k < L.length := by rw [HL.out]; exact hlt
      have hkm : k < M.length := by rw [HM.out]; exact hlt
      obtain ⟨g0, g1⟩ := idCells_get L k hkl
      obtain ⟨g2, g3⟩ := idCells_get M k hkm
      have x0 := hx _ _ g0
      have x1 := hx _ _ g1
      have y0 := hy _ _ g2
      have y1 := hy _ _ g3
      simp only [← Nat.add_assoc] at x1 y1
      have hst := take_snoc_eq HT.out hkl hkm
      have hno : L[k] ≠ M[k] → L ≠ M := list_ne_at hkl hkm
      obtain ⟨qa, hqa⟩ : ∃ a, a = L[k] := ⟨_, rfl⟩
      obtain ⟨ra, hra⟩ : ∃ a, a = M[k] := ⟨_, rfl⟩
      rw [← hqa] at x0 x1 hst hno
      rw [← hra] at y0 y1 hst hno
      obtain ⟨q0, q1⟩ := qa
      obtain ⟨r0, r1⟩ := ra
      dsimp only at x0 x1 y0 y1
      clear hx hy g0 g1 g2 g3 hqa hra hkl hkm hB HT
      by_cases e0 : q0 = r0
      · by_cases e1 : q1 = r1
        · subst e0 e1
          have HST := Lib.hid (hst rfl)
          clear hst hno
          go_wp2
          go_quiet (fail)
          go_wp2
          go_ways
          go_roundw
          case rel => exact ⟨k + 1, by omega, by go_num, HST.out, below_drewN' HB.out _⟩
          case measure => simp [intOf]; omega
        · have HNO := Lib.hid (hno (fun e => e1 (by injection e)))
          have e1' : ¬ q1.toList = r1.toList := fun e => e1 ((toL_iff _ _).1 e)
          subst e0
          clear hst hno
          go_wp2
          go_quiet (fail)
          go_wp2
          go_ways
          go_ret
          exact ⟨by simp [HNO.out], below_drewN' HB.out _⟩
      · have HNO := Lib.hid (hno (fun e => e0 (by injection e)))
        have e0' : ¬ q0.toList = r0.toList := fun e => e0 ((toL_iff _ _).1 e)
        clear hst hno
        go_wp2
        go_quiet (fail)
        go_wp2
        go_ways
        go_ret
        exact ⟨by simp [HNO.out], below_drewN' HB.out _⟩
    · have e : L = M := by have := HT.out; rwa [List.take_of_length_le (by rw [HL.out]; omega), List.take_of_length_le (by rw [HM.out]; omega)] at this
      have HE := Lib.hid e
      clear e HT hB
      go_wp2
      go_ret
      exact ⟨by simp [HE.out], HB.out⟩

set_option maxRecDepth 100000 in
set_option maxHeartbeats 2000000 in
theorem strsEq_any (A C : Option Addr) (n m c d : Nat) (L M : List ByteArray) (B : Nat) (w : World) (hn : n ≤ 9223372036854775807) (hm : m ≤ 9223372036854775807) (hBw : B ≤ w.heap.size) (ha : Reads w B 1 A n (strCells L)) (hc : Reads w B 1 C m (strCells M)) :
    Calls Tryz.prog 129 #[.slice A n c, .slice C m d] w fun e w' => e = .returned (.bool (decide (L = M))) ∧ Below w.heap.size w w' := by
  have hl : L.length = n := by have := ha.1; rw [strCells_length] at this; omega
  have hm' : M.length = m := by have := hc.1; rw [strCells_length] at this; omega
  by_cases hlm : (n : Int) = m
  rotate_left
  · have hne : L ≠ M := fun e => hlm (by rw [← hl, ← hm', e])
    have HNE := Lib.hid hne
    clear hne ha hc hl hm'
    go_enter Tryz.func129, Tryz.ntmps129
    go_wp2
    go_ret
    exact ⟨by simp [HNE.out], Below.refl _ _⟩
  obtain rfl : n = m := by omega
  have HL := Lib.hid hl
  have HM := Lib.hid hm'
  have HA := Lib.hid ha
  have HC := Lib.hid hc
  clear hl hm' ha hc hlm
  go_enter Tryz.func129, Tryz.ntmps129
  go_wp2
  go_loopw [13] (fun k' wr => ∃ k : Nat, k ≤ n ∧ k' = .int .i64 k ∧ Hid (L.take k = M.take k) ∧ Below w.heap.size w wr) (fun k' _ => n - (intOf k').toNat)
  case atStart => exact ⟨0, Nat.zero_le _, rfl, by unfold Hid; simp, Below.refl _ _⟩
  case round =>
    obtain ⟨k, hk, rfl, HT, hB⟩ := hrel
    have HB := Lib.hid hB
    by_cases hlt : k < n
    · obtain ⟨b, off, rfl, _, hx⟩ := (HA.out.below (hB.mono hBw)).plain (by omega) (by omega)
      obtain ⟨b', off', rfl, _, hy⟩ := (HC.out.below (hB.mono hBw)).plain (by omega) (by omega)
      have hkl : k < L.length := by rw [HL.out]; exact hlt
      have hkm : k < M.length := by rw [HM.out]; exact hlt
      have g0 := strCells_get L k hkl
      have g1 := strCells_get M k hkm
      have x0 := hx _ _ g0
      have y0 := hy _ _ g1
      simp only [Nat.mul_one] at x0 y0
      have hst := take_snoc_eq HT.out hkl hkm
      have hno : L[k] ≠ M[k] → L ≠ M := list_ne_at hkl hkm
      obtain ⟨qa, hqa⟩ : ∃ a, a = L[k] := ⟨_, rfl⟩
      obtain ⟨ra, hra⟩ : ∃ a, a = M[k] := ⟨_, rfl⟩
      rw [← hqa] at x0 hst hno
      rw [← hra] at y0 hst hno
      clear hx hy g0 g1 hqa hra hkl hkm hB HT
      by_cases e0 : qa = ra
      · subst e0
        have HST := Lib.hid (hst rfl)
        clear hst hno
        go_wp2
        go_quiet (fail)
        go_wp2
        go_ways
        go_roundw
        case rel => exact ⟨k + 1, by omega, by go_num, HST.out, below_drewN' HB.out _⟩
        case measure => simp [intOf]; omega
      · have HNO := Lib.hid (hno e0)
        have e0' : (qa.toList == ra.toList) = false := by simpa using fun e => e0 ((toL_iff _ _).1 e)
        clear hst hno
        go_wp2
        go_quiet (fail)
        go_wp2
        go_ways
        go_ret
        exact ⟨by simp [HNO.out], below_drewN' HB.out _⟩
    · have e : L = M := by have := HT.out; rwa [List.take_of_length_le (by rw [HL.out]; omega), List.take_of_length_le (by rw [HM.out]; omega)] at this
      have HE := Lib.hid e
      clear e HT hB
      go_wp2
      go_ret
      exact ⟨by simp [HE.out], HB.out⟩

set_option maxRecDepth 100000 in
set_option maxHeartbeats 2000000 in
theorem bytesEq_any (A C : Option Addr) (n m c d : Nat) (L M : List UInt8) (B : Nat) (w : World) (hn : n ≤ 9223372036854775807) (hm : m ≤ 9223372036854775807) (hBw : B ≤ w.heap.size) (ha : Reads w B 1 A n (bcells L)) (hc : Reads w B 1 C m (bcells M)) :
    Calls Tryz.prog 127 #[.slice A n c, .slice C m d] w fun e w' => e = .returned (.bool (decide (L = M))) ∧ Below w.heap.size w w' := by
  have hl : L.length = n := by have := ha.1; rw [bcells_length] at this; omega
  have hm' : M.length = m := by have := hc.1; rw [bcells_length] at this; omega
  by_cases hlm : (n : Int) = m
  rotate_left
  · have hne : L ≠ M := fun e => hlm (by rw [← hl, ← hm', e])
    have HNE := Lib.hid hne
    clear hne ha hc hl hm'
    go_enter Tryz.func127, Tryz.ntmps127
    go_wp2
    go_ret
    exact ⟨by simp [HNE.out], Below.refl _ _⟩
  obtain rfl : n = m := by omega
  have HL := Lib.hid hl
  have HM := Lib.hid hm'
  have HA := Lib.hid ha
  have HC := Lib.hid hc
  clear hl hm' ha hc hlm
  go_enter Tryz.func127, Tryz.ntmps127
  go_wp2
  go_loopw [13] (fun k' wr => ∃ k : Nat, k ≤ n ∧ k' = .int .i64 k ∧ Hid (L.take k = M.take k) ∧ Below w.heap.size w wr) (fun k' _ => n - (intOf k').toNat)
  case atStart => exact ⟨0, Nat.zero_le _, rfl, by unfold Hid; simp, Below.refl _ _⟩
  case round =>
    obtain ⟨k, hk, rfl, HT, hB⟩ := hrel
    have HB := Lib.hid hB
    by_cases hlt : k < n
    · obtain ⟨b, off, rfl, _, hx⟩ := (HA.out.below (hB.mono hBw)).plain (by omega) (by omega)
      obtain ⟨b', off', rfl, _, hy⟩ := (HC.out.below (hB.mono hBw)).plain (by omega) (by omega)
      have hkl : k < L.length := by rw [HL.out]; exact hlt
      have hkm : k < M.length := by rw [HM.out]; exact hlt
      have g0 := bcells_get1 L k hkl
      have g1 := bcells_get1 M k hkm
      have x0 := hx _ _ g0
      have y0 := hy _ _ g1
      simp only [Nat.mul_one] at x0 y0
      have hst := take_snoc_eq HT.out hkl hkm
      have hno : L[k] ≠ M[k] → L ≠ M := list_ne_at hkl hkm
      obtain ⟨qa, hqa⟩ : ∃ a, a = L[k] := ⟨_, rfl⟩
      obtain ⟨ra, hra⟩ : ∃ a, a = M[k] := ⟨_, rfl⟩
      rw [← hqa] at x0 hst hno
      rw [← hra] at y0 hst hno
      clear hx hy g0 g1 hqa hra hkl hkm hB HT
      by_cases e0 : qa = ra
      · subst e0
        have HST := Lib.hid (hst rfl)
        clear hst hno
        go_wp2
        go_quiet (fail)
        go_wp2
        go_ways
        go_roundw
        case rel => exact ⟨k + 1, by omega, by go_num, HST.out, below_drewN' HB.out _⟩
        case measure => simp [intOf]; omega
      · have HNO := Lib.hid (hno e0)
        have e0' := u8_ne e0
        clear hst hno
        go_wp2
        go_quiet (fail)
        go_wp2
        go_ways
        go_ret
        exact ⟨by simp [HNO.out], below_drewN' HB.out _⟩
    · have e : L = M := by have := HT.out; rwa [List.take_of_length_le (by rw [HL.out]; omega), List.take_of_length_le (by rw [HM.out]; omega)] at this
      have HE := Lib.hid e
      clear e HT hB
      go_wp2
      go_ret
      exact ⟨by simp [HE.out], HB.out⟩

set_option maxRecDepth 100000 in
set_option maxHeartbeats 4000000 in
theorem sess08_any (id id' to to' : Int) (A C : Option Addr) (n m c d : Nat) (L M : List (ByteArray × ByteArray)) (B : Nat) (w : World) (hn : n ≤ 9223372036854775807) (hm : m ≤ 9223372036854775807) (hBw : B ≤ w.heap.size) (ha : Reads w B 2 A n (idCells L)) (hc : Reads w B 2 C m (idCells M)) :
    Calls Tryz.prog 98 #[.agg #[.int .i64 id, .int .i32 to, .slice A n c], .agg #[.int .i64 id', .int .i32 to', .slice C m d]] w fun e w' => e = .returned (.bool (decide (id = id' ∧ to = to' ∧ L = M))) ∧ Below w.heap.size w w' := by
  have hl : L.length = n := by have := ha.1; rw [idCells_length] at this; omega
  have hm' : M.length = m := by have := hc.1; rw [idCells_length] at this; omega
  obtain ⟨w1, hw1⟩ : ∃ w1, (w.alloc (.cells #[.int .i64 id, .int .i32 to, .slice A n c] 30)).alloc (.cells #[.int .i64 id', .int .i32 to', .slice C m d] 30) = w1 := ⟨_, rfl⟩
  have hb1 : Below w.heap.size w w1 := by rw [← hw1]; exact ((Below.refl _ _).alloc (Nat.le_refl _) _).alloc (by simp) _
  have hS : Blk w1 w.heap.size 30 #[.int .i64 id, .int .i32 to, .slice A n c] := by rw [← hw1]; exact (Blk.new _ _ _).alloc _
  have hT : Blk w1 (w.heap.size + 1) 30 #[.int .i64 id', .int .i32 to', .slice C m d] := by rw [← hw1]; exact Blk.new' (by simp)
  have hz1 : w1.heap.size = w.heap.size + 2 := by rw [← hw1]; simp
  have s0 : w1.cell? ⟨w.heap.size, 0, none⟩ = some (.int .i64 id) := lit_cell hS 0 rfl
  have s1 : w1.cell? ⟨w.heap.size, 1, none⟩ = some (.int .i32 to) := lit_cell hS 1 rfl
  have s2 : w1.cell? ⟨w.heap.size, 2, none⟩ = some (.slice A n c) := lit_cell hS 2 rfl
  have t0 : w1.cell? ⟨w.heap.size + 1, 0, none⟩ = some (.int .i64 id') := lit_cell hT 0 rfl
  have t1 : w1.cell? ⟨w.heap.size + 1, 1, none⟩ = some (.int .i32 to') := lit_cell hT 1 rfl
  have t2 : w1.cell? ⟨w.heap.size + 1, 2, none⟩ = some (.slice C m d) := lit_cell hT 2 rfl
  have HB1 := Lib.hid hb1
  have HS := Lib.hid hS
  have HTT := Lib.hid hT
  clear hb1 hS hT
  by_cases e0 : id = id'
  rotate_left
  · have hb : (id != id') = true := by simp [e0]
    have HNE := Lib.hid e0
    clear e0 ha hc
    go_enter Tryz.func98, Tryz.ntmps98
    go_wp2
    go_ret
    exact ⟨by simp [HNE.out], HB1.out⟩
  by_cases e1 : to = to'
  rotate_left
  · have hb : (to != to') = true := by simp [e1]
    have HNE := Lib.hid e1
    subst e0
    clear e1 ha hc
    go_enter Tryz.func98, Tryz.ntmps98
    go_wp2
    go_ret
    exact ⟨by simp [HNE.out], HB1.out⟩
  subst e0 e1
  by_cases hlm : (n : Int) = m
  rotate_left
  · have hne : L ≠ M := fun e => hlm (by rw [← hl, ← hm', e])
    have hb : ((n : Int) != m) = true := by simp only [bne_iff_ne, ne_eq]; exact hlm
    have HNE := Lib.hid hne
    clear hne ha hc hl hm' hlm
    go_enter Tryz.func98, Tryz.ntmps98
    go_wp2
    go_ret
    exact ⟨by simp [HNE.out], HB1.out⟩
  obtain rfl : n = m := by omega
  have HL := Lib.hid hl
  have HM := Lib.hid hm'
  have HA := Lib.hid ha
  have HC := Lib.hid hc
  clear hl hm' ha hc hlm
  go_enter Tryz.func98, Tryz.ntmps98
  go_wp2
  clear s0 s1 s2 t0 t1 t2
  go_loopw [5] (fun k' wr => ∃ k : Nat, k ≤ n ∧ k' = .int .i64 k ∧ Hid (L.take k = M.take k) ∧ Below w.heap.size w wr ∧ Below w1.heap.size w1 wr) (fun k' _ => n - (intOf k').toNat)
  case atStart => exact ⟨0, Nat.zero_le _, rfl, by unfold Hid; simp, HB1.out, Below.refl _ _⟩
  case round =>
    obtain ⟨k, hk, rfl, HT, hB, hB1⟩ := hrel
    have HB := Lib.hid hB
    have HBr := Lib.hid hB1
    have c2 : wr.cell? ⟨w.heap.size, 2, none⟩ = some (.slice A n c) := lit_cell (HS.out.below hB1 (by omega)) 2 rfl
    have c3 : wr.cell? ⟨w.heap.size + 1, 2, none⟩ = some (.slice C n d) := lit_cell (HTT.out.below hB1 (by omega)) 2 rfl
    clear hB1
    by_cases hlt : k < n
    · obtain ⟨b, off, rfl, _, hx⟩ := (HA.out.below (hB.mono hBw)).plain (by omega) (by omega)
      obtain ⟨b', off', rfl, _, hy⟩ := (HC.out.below (hB.mono hBw)).plain (by omega) (by omega)
      have hkl : k < L.length := by rw [HL.out]; exact hlt
      have hkm : k < M.length := by rw [HM.out]; exact hlt
      obtain ⟨g0, g1⟩ := idCells_get L k hkl
      obtain ⟨g2, g3⟩ := idCells_get M k hkm
      have x0 := hx _ _ g0
      have x1 := hx _ _ g1
      have y0 := hy _ _ g2
      have y1 := hy _ _ g3
      simp only [← Nat.add_assoc] at x1 y1
      have hst := take_snoc_eq HT.out hkl hkm
      have hno : L[k] ≠ M[k] → L ≠ M := list_ne_at hkl hkm
      obtain ⟨qa, hqa⟩ : ∃ a, a = L[k] := ⟨_, rfl⟩
      obtain ⟨ra, hra⟩ : ∃ a, a = M[k] := ⟨_, rfl⟩
      rw [← hqa] at x0 x1 hst hno
      rw [← hra] at y0 y1 hst hno
      obtain ⟨q0, q1⟩ := qa
      obtain ⟨r0, r1⟩ := ra
      dsimp only at x0 x1 y0 y1
      clear hx hy g0 g1 g2 g3 hqa hra hkl hkm hB HT
      by_cases e0 : q0 = r0
      · by_cases e1 : q1 = r1
        · subst e0 e1
          have HST := Lib.hid (hst rfl)
          clear hst hno
          go_wp2
          go_quiet (fail)
          go_wp2
          go_ways
          go_roundw
          case rel => exact ⟨k + 1, by omega, by go_num, HST.out, below_drewN' HB.out _, below_drewN' HBr.out _⟩
          case measure => simp [intOf]; omega
        · have HNO := Lib.hid (hno (fun e => e1 (by injection e)))
          have e1' : ¬ q1.toList = r1.toList := fun e => e1 ((toL_iff _ _).1 e)
          subst e0
          clear hst hno
          go_wp2
          go_quiet (fail)
          go_wp2
          go_ways
          go_ret
          exact ⟨by simp [HNO.out], below_drewN' HB.out _⟩
      · have HNO := Lib.hid (hno (fun e => e0 (by injection e)))
        have e0' : ¬ q0.toList = r0.toList := fun e => e0 ((toL_iff _ _).1 e)
        clear hst hno
        go_wp2
        go_quiet (fail)
        go_wp2
        go_ways
        go_ret
        exact ⟨by simp [HNO.out], below_drewN' HB.out _⟩
    · have e : L = M := by have := HT.out; rwa [List.take_of_length_le (by rw [HL.out]; omega), List.take_of_length_le (by rw [HM.out]; omega)] at this
      have HE := Lib.hid e
      clear e HT hB
      go_wp2
      go_ret
      exact ⟨by simp [HE.out], HB.out⟩
end Go.Proofs.YtnbaajplelchjaaGreatDoor
