/- Part 2 of a proof: lemmas and walks. -/
import Derived.Test.YtpjjnmdfgcfnmaaDoorK0
import Derived.Test.YtpjjnmdfgcfnmaaDoorK1
import Derived.Lib.SlicesS
import Derived.Lib.Strings
import Derived.Deep.QuietTactic
import Derived.BigQuiet
set_option linter.unusedVariables false
set_option linter.unusedSimpArgs false
set_option maxRecDepth 100000
set_option maxHeartbeats 4000000
namespace Go.Proofs.YtpjjnmdfgcfnmaaDoor
open Go.RowKit

theorem toL_iff (x y : ByteArray) : x.toList = y.toList ↔ x = y := by
 rw [← Lib.bytes_beq_iff]; simp
theorem take_snoc_eq {α : Type} {L M : List α} {k : Nat} (h : L.take k = M.take k) (hl : k < L.length) (hm : k < M.length) (he : L[k] = M[k]) : L.take (k + 1) = M.take (k + 1) := by
 rw [List.take_succ_eq_append_getElem hl, List.take_succ_eq_append_getElem hm, h, he]
theorem list_ne_at {α : Type} {L M : List α} {k : Nat} (hl : k < L.length) (hm : k < M.length) (he : L[k] ≠ M[k]) : L ≠ M := fun e => by
 subst e; exact he rfl


theorem idCells_length (L : List (ByteArray × ByteArray)) : (idCells L).length = L.length * 2 := by
 unfold idCells
 induction L with
 | nil => rfl
 | cons a L ih => rw [List.flatMap_cons, zG, ih]; simp only [zM, zK]; omega
theorem idCells_get (L : List (ByteArray × ByteArray)) (k : Nat) (h : k < L.length) : (idCells L)[k * 2]? = some (.string L[k].1) ∧ (idCells L)[k * 2 + 1]? = some (.string L[k].2) := by
 induction L generalizing k with
 | nil => simp at h
 | cons a L ih =>
   have e : idCells (a :: L) = .string a.1 :: .string a.2 :: idCells L := by simp [idCells]
   rw [e]
   cases k with
   | zero => simp
   | succ k =>
     have h' : k < L.length := by simpa using h
     have := ih k h'
     have e1 : (k + 1) * 2 = k * 2 + 1 + 1 := by omega
     rw [e1]
     simpa using this
theorem strCells_length (L : List ByteArray) : (strCells L).length = L.length * 1 := by
 unfold strCells
 induction L with
 | nil => rfl
 | cons a L ih => rw [List.flatMap_cons, zG, ih]; simp only [zM, zK]; omega
theorem strCells_get (L : List ByteArray) (k : Nat) (h : k < L.length) : (strCells L)[k * 1]? = some (.string L[k]) := by
 induction L generalizing k with
 | nil => simp at h
 | cons a L ih =>
   have e : strCells (a :: L) = .string a :: strCells L := by simp [strCells]
   rw [e]
   cases k with
   | zero => simp
   | succ k =>
     have h' : k < L.length := by simpa using h
     have := ih k h'
     have e1 : (k + 1) * 1 = k * 1 + 1 := by omega
     rw [e1]
     simpa using this
theorem acls05_any (A C : Option Addr) (n m c d : Nat) (L M : List AclT) (B : Nat) (w : World) (hn : n ≤ 9223372036854775807) (hm : m ≤ 9223372036854775807) (hBw : B ≤ w.heap.size) (ha : Reads w B 3 A n (aclCells L)) (hc : Reads w B 3 C m (aclCells M)) :
 Calls Tryd.prog 31 #[.slice A n c, .slice C m d] w fun e w' => e = .returned (.bool (decide (L = M))) ∧ Below w.heap.size w w' := by
 have hl : L.length = n := by have := ha.1; rw [aclCells_length] at this; omega
 have hm' : M.length = m := by have := hc.1; rw [aclCells_length] at this; omega
 by_cases hlm : (n : Int) = m
 rotate_left
 · have hne : L ≠ M := fun e => hlm (by rw [← hl, ← hm', e])
   have HNE := Hi hne
   clear hne ha hc hl hm'
   go_enter Tryd.func31, Tryd.ntmps31
   go_wp2
   go_ret
   exact ⟨by simp [HNE.out], Below.refl _ _⟩
 obtain rfl : n = m := by omega
 have HL := Hi hl
 have HM := Hi hm'
 have HA := Hi ha
 have HC := Hi hc
 clear hl hm' ha hc hlm
 go_enter Tryd.func31, Tryd.ntmps31
 go_wp2
 go_loopw [5] (fun k' wr => ∃ k : Nat, k ≤ n ∧ k' = .int .i64 k ∧ Hid (L.take k = M.take k) ∧ Below w.heap.size w wr) (fun k' _ => n - (intOf k').toNat)
 case atStart => exact ⟨0, Nat.zero_le _, rfl, by unfold Hid; simp, Below.refl _ _⟩
 case round =>
  obtain ⟨k, hk, rfl, HT, hB⟩ := hrel
  have HB := Hi hB
  by_cases hlt : k < n
  · obtain ⟨b, off, rfl, _, hx⟩ := (HA.out.below (hB.mono hBw)).plain (by omega) (by omega)
    obtain ⟨b', off', rfl, _, hy⟩ := (HC.out.below (hB.mono hBw)).plain (by omega) (by omega)
    have hkl : k < L.length := by rw [HL.out]; exact hlt
    have hkm : k < M.length := by rw [HM.out]; exact hlt
    obtain ⟨g0, g1, g2⟩ := aclCells_get L k hkl
    obtain ⟨g3, g4, g5⟩ := aclCells_get M k hkm
    have x0 := hx _ _ g0
    have x1 := hx _ _ g1
    have x2 := hx _ _ g2
    have y0 := hy _ _ g3
    have y1 := hy _ _ g4
    have y2 := hy _ _ g5
    simp only [← Nat.add_assoc] at x1 x2 y1 y2
    have hst := take_snoc_eq HT.out hkl hkm
    have hno : L[k] ≠ M[k] → L ≠ M := list_ne_at hkl hkm
    obtain ⟨qa, hqa⟩ : ∃ a, a = L[k] := ⟨_, rfl⟩
    obtain ⟨ra, hra⟩ : ∃ a, a = M[k] := ⟨_, rfl⟩
    rw [← hqa] at x0 x1 x2 hst hno
    rw [← hra] at y0 y1 y2 hst hno
    obtain ⟨q0, q1, q2⟩ := qa
    obtain ⟨r0, r1, r2⟩ := ra
    dsimp only at x0 x1 x2 y0 y1 y2
    clear hx hy g0 g1 g2 g3 g4 g5 hqa hra hkl hkm hB HT
    by_cases e0 : q0 = r0
    · by_cases e1 : q1 = r1
      · by_cases e2 : q2 = r2
        · subst e0 e1 e2
          have HST := Hi (hst rfl)
          clear hst hno
          go_wp2
          go_quiet (fail)
          go_wp2
          skip
          go_roundw
          case rel => exact ⟨k + 1, by omega, by go_num, HST.out, below_drewN' HB.out _⟩
          case measure => simp [intOf]; omega
        · have HNO := Hi (hno (fun e => e2 (by injection e with _ e; injection e)))
          have e2' : ¬ q2.toList = r2.toList := fun e => e2 ((toL_iff _ _).1 e)
          subst e0 e1
          clear hst hno
          go_wp2
          go_quiet (fail)
          go_wp2
          skip
          go_ret
          exact ⟨by simp [HNO.out], below_drewN' HB.out _⟩
      · have HNO := Hi (hno (fun e => e1 (by injection e with _ e; injection e)))
        have e1' : ¬ q1.toList = r1.toList := fun e => e1 ((toL_iff _ _).1 e)
        subst e0
        clear hst hno
        go_wp2
        go_quiet (fail)
        go_wp2
        skip
        go_ret
        exact ⟨by simp [HNO.out], below_drewN' HB.out _⟩
    · have HNO := Hi (hno (fun e => e0 (by injection e)))
      clear hst hno
      go_wp2
      go_quiet (fail)
      go_wp2
      skip
      go_ret
      exact ⟨by simp [HNO.out], below_drewN' HB.out _⟩
  · have e : L = M := by have := HT.out; rwa [List.take_of_length_le (by rw [HL.out]; omega), List.take_of_length_le (by rw [HM.out]; omega)] at this
    have HE := Hi e
    clear e HT hB
    go_wp2
    go_ret
    exact ⟨by simp [HE.out], HB.out⟩

theorem ids11_any (A C : Option Addr) (n m c d : Nat) (L M : List (ByteArray × ByteArray)) (B : Nat) (w : World) (hn : n ≤ 9223372036854775807) (hm : m ≤ 9223372036854775807) (hBw : B ≤ w.heap.size) (ha : Reads w B 2 A n (idCells L)) (hc : Reads w B 2 C m (idCells M)) :
 Calls Tryd.prog 33 #[.slice A n c, .slice C m d] w fun e w' => e = .returned (.bool (decide (L = M))) ∧ Below w.heap.size w w' := by
 have hl : L.length = n := by have := ha.1; rw [idCells_length] at this; omega
 have hm' : M.length = m := by have := hc.1; rw [idCells_length] at this; omega
 by_cases hlm : (n : Int) = m
 rotate_left
 · have hne : L ≠ M := fun e => hlm (by rw [← hl, ← hm', e])
   have HNE := Hi hne
   clear hne ha hc hl hm'
   go_enter Tryd.func33, Tryd.ntmps33
   go_wp2
   go_ret
   exact ⟨by simp [HNE.out], Below.refl _ _⟩
 obtain rfl : n = m := by omega
 have HL := Hi hl
 have HM := Hi hm'
 have HA := Hi ha
 have HC := Hi hc
 clear hl hm' ha hc hlm
 go_enter Tryd.func33, Tryd.ntmps33
 go_wp2
 go_loopw [5] (fun k' wr => ∃ k : Nat, k ≤ n ∧ k' = .int .i64 k ∧ Hid (L.take k = M.take k) ∧ Below w.heap.size w wr) (fun k' _ => n - (intOf k').toNat)
 case atStart => exact ⟨0, Nat.zero_le _, rfl, by unfold Hid; simp, Below.refl _ _⟩
 case round =>
  obtain ⟨k, hk, rfl, HT, hB⟩ := hrel
  have HB := Hi hB
  by_cases hlt : k < n
  · obtain ⟨b, off, rfl, _, hx⟩ := (HA.out.below (hB.mono hBw)).plain (by omega) (by omega)
    obtain ⟨b', off', rfl, _, hy⟩ := (HC.out.below (hB.mono hBw)).plain (by omega) (by omega)
    have hkl : k < L.length := by rw [HL.out]; exact hlt
    have hkm : k < M.length := by rw [HM.out]; exact hlt
    obtain ⟨g0, g1⟩ := idCells_get L k hkl
    obtain ⟨g2, g3⟩ := idCells_get M k hkm
    have x0 := hx _ _ g0
    have x1 := hx _ _ g1
    have y0 := hy _ _ g2
    have y1 := hy _ _ g3
    simp only [← Nat.add_assoc] at x1 y1
    have hst := take_snoc_eq HT.out hkl hkm
    have hno : L[k] ≠ M[k] → L ≠ M := list_ne_at hkl hkm
    obtain ⟨qa, hqa⟩ : ∃ a, a = L[k] := ⟨_, rfl⟩
    obtain ⟨ra, hra⟩ : ∃ a, a = M[k] := ⟨_, rfl⟩
    rw [← hqa] at x0 x1 hst hno
    rw [← hra] at y0 y1 hst hno
    obtain ⟨q0, q1⟩ := qa
    obtain ⟨r0, r1⟩ := ra
    dsimp only at x0 x1 y0 y1
    clear hx hy g0 g1 g2 g3 hqa hra hkl hkm hB HT
    by_cases e0 : q0 = r0
    · by_cases e1 : q1 = r1
      · subst e0 e1
        have HST := Hi (hst rfl)
        clear hst hno
        go_wp2
        go_quiet (fail)
        go_wp2
        skip
        go_roundw
        case rel => exact ⟨k + 1, by omega, by go_num, HST.out, below_drewN' HB.out _⟩
        case measure => simp [intOf]; omega
      · have HNO := Hi (hno (fun e => e1 (by injection e)))
        have e1' : ¬ q1.toList = r1.toList := fun e => e1 ((toL_iff _ _).1 e)
        subst e0
        clear hst hno
        go_wp2
        go_quiet (fail)
        go_wp2
        skip
        go_ret
        exact ⟨by simp [HNO.out], below_drewN' HB.out _⟩
    · have HNO := Hi (hno (fun e => e0 (by injection e)))
      have e0' : ¬ q0.toList = r0.toList := fun e => e0 ((toL_iff _ _).1 e)
      clear hst hno
      go_wp2
      go_quiet (fail)
      go_wp2
      skip
      go_ret
      exact ⟨by simp [HNO.out], below_drewN' HB.out _⟩
  · have e : L = M := by have := HT.out; rwa [List.take_of_length_le (by rw [HL.out]; omega), List.take_of_length_le (by rw [HM.out]; omega)] at this
    have HE := Hi e
    clear e HT hB
    go_wp2
    go_ret
    exact ⟨by simp [HE.out], HB.out⟩

theorem texts11_any (A C : Option Addr) (n m c d : Nat) (L M : List ByteArray) (B : Nat) (w : World) (hn : n ≤ 9223372036854775807) (hm : m ≤ 9223372036854775807) (hBw : B ≤ w.heap.size) (ha : Reads w B 1 A n (strCells L)) (hc : Reads w B 1 C m (strCells M)) :
 Calls Tryd.prog 32 #[.slice A n c, .slice C m d] w fun e w' => e = .returned (.bool (decide (L = M))) ∧ Below w.heap.size w w' := by
 have hl : L.length = n := by have := ha.1; rw [strCells_length] at this; omega
 have hm' : M.length = m := by have := hc.1; rw [strCells_length] at this; omega
 by_cases hlm : (n : Int) = m
 rotate_left
 · have hne : L ≠ M := fun e => hlm (by rw [← hl, ← hm', e])
   have HNE := Hi hne
   clear hne ha hc hl hm'
   go_enter Tryd.func32, Tryd.ntmps32
   go_wp2
   go_ret
   exact ⟨by simp [HNE.out], Below.refl _ _⟩
 obtain rfl : n = m := by omega
 have HL := Hi hl
 have HM := Hi hm'
 have HA := Hi ha
 have HC := Hi hc
 clear hl hm' ha hc hlm
 go_enter Tryd.func32, Tryd.ntmps32
 go_wp2
 go_loopw [5] (fun k' wr => ∃ k : Nat, k ≤ n ∧ k' = .int .i64 k ∧ Hid (L.take k = M.take k) ∧ Below w.heap.size w wr) (fun k' _ => n - (intOf k').toNat)
 case atStart => exact ⟨0, Nat.zero_le _, rfl, by unfold Hid; simp, Below.refl _ _⟩
 case round =>
  obtain ⟨k, hk, rfl, HT, hB⟩ := hrel
  have HB := Hi hB
  by_cases hlt : k < n
  · obtain ⟨b, off, rfl, _, hx⟩ := (HA.out.below (hB.mono hBw)).plain (by omega) (by omega)
    obtain ⟨b', off', rfl, _, hy⟩ := (HC.out.below (hB.mono hBw)).plain (by omega) (by omega)
    have hkl : k < L.length := by rw [HL.out]; exact hlt
    have hkm : k < M.length := by rw [HM.out]; exact hlt
    have g0 := strCells_get L k hkl
    have g1 := strCells_get M k hkm
    have x0 := hx _ _ g0
    have y0 := hy _ _ g1
    simp only [Nat.mul_one] at x0 y0
    have hst := take_snoc_eq HT.out hkl hkm
    have hno : L[k] ≠ M[k] → L ≠ M := list_ne_at hkl hkm
    obtain ⟨qa, hqa⟩ : ∃ a, a = L[k] := ⟨_, rfl⟩
    obtain ⟨ra, hra⟩ : ∃ a, a = M[k] := ⟨_, rfl⟩
    rw [← hqa] at x0 hst hno
    rw [← hra] at y0 hst hno
    clear hx hy g0 g1 hqa hra hkl hkm hB HT
    by_cases e0 : qa = ra
    · subst e0
      have HST := Hi (hst rfl)
      clear hst hno
      go_wp2
      go_quiet (fail)
      go_wp2
      skip
      go_roundw
      case rel => exact ⟨k + 1, by omega, by go_num, HST.out, below_drewN' HB.out _⟩
      case measure => simp [intOf]; omega
    · have HNO := Hi (hno e0)
      have e0' : (qa.toList == ra.toList) = false := by simpa using fun e => e0 ((toL_iff _ _).1 e)
      clear hst hno
      go_wp2
      go_quiet (fail)
      go_wp2
      skip
      go_ret
      exact ⟨by simp [HNO.out], below_drewN' HB.out _⟩
  · have e : L = M := by have := HT.out; rwa [List.take_of_length_le (by rw [HL.out]; omega), List.take_of_length_le (by rw [HM.out]; omega)] at this
    have HE := Hi e
    clear e HT hB
    go_wp2
    go_ret
    exact ⟨by simp [HE.out], HB.out⟩

theorem aclsEq_any (A C : Option Addr) (n m c d : Nat) (L M : List AclT) (B : Nat) (w : World) (hn : n ≤ 9223372036854775807) (hm : m ≤ 9223372036854775807) (hBw : B ≤ w.heap.size) (ha : Reads w B 3 A n (aclCells L)) (hc : Reads w B 3 C m (aclCells M)) :
 Calls Tryd.prog 60 #[.slice A n c, .slice C m d] w fun e w' => e = .returned (.bool (decide (L = M))) ∧ Below w.heap.size w w' := by
 have hl : L.length = n := by have := ha.1; rw [aclCells_length] at this; omega
 have hm' : M.length = m := by have := hc.1; rw [aclCells_length] at this; omega
 by_cases hlm : (n : Int) = m
 rotate_left
 · have hne : L ≠ M := fun e => hlm (by rw [← hl, ← hm', e])
   have HNE := Hi hne
   clear hne ha hc hl hm'
   go_enter Tryd.func60, Tryd.ntmps60
   go_wp2
   go_ret
   exact ⟨by simp [HNE.out], Below.refl _ _⟩
 obtain rfl : n = m := by omega
 have HL := Hi hl
 have HM := Hi hm'
 have HA := Hi ha
 have HC := Hi hc
 clear hl hm' ha hc hlm
 go_enter Tryd.func60, Tryd.ntmps60
 go_wp2
 go_loopw [13] (fun k' wr => ∃ k : Nat, k ≤ n ∧ k' = .int .i64 k ∧ Hid (L.take k = M.take k) ∧ Below w.heap.size w wr) (fun k' _ => n - (intOf k').toNat)
 case atStart => exact ⟨0, Nat.zero_le _, rfl, by unfold Hid; simp, Below.refl _ _⟩
 case round =>
  obtain ⟨k, hk, rfl, HT, hB⟩ := hrel
  have HB := Hi hB
  by_cases hlt : k < n
  · obtain ⟨b, off, rfl, _, hx⟩ := (HA.out.below (hB.mono hBw)).plain (by omega) (by omega)
    obtain ⟨b', off', rfl, _, hy⟩ := (HC.out.below (hB.mono hBw)).plain (by omega) (by omega)
    have hkl : k < L.length := by rw [HL.out]; exact hlt
    have hkm : k < M.length := by rw [HM.out]; exact hlt
    obtain ⟨g0, g1, g2⟩ := aclCells_get L k hkl
    obtain ⟨g3, g4, g5⟩ := aclCells_get M k hkm
    have x0 := hx _ _ g0
    have x1 := hx _ _ g1
    have x2 := hx _ _ g2
    have y0 := hy _ _ g3
    have y1 := hy _ _ g4
    have y2 := hy _ _ g5
    simp only [← Nat.add_assoc] at x1 x2 y1 y2
    have hst := take_snoc_eq HT.out hkl hkm
    have hno : L[k] ≠ M[k] → L ≠ M := list_ne_at hkl hkm
    obtain ⟨qa, hqa⟩ : ∃ a, a = L[k] := ⟨_, rfl⟩
    obtain ⟨ra, hra⟩ : ∃ a, a = M[k] := ⟨_, rfl⟩
    rw [← hqa] at x0 x1 x2 hst hno
    rw [← hra] at y0 y1 y2 hst hno
    obtain ⟨q0, q1, q2⟩ := qa
    obtain ⟨r0, r1, r2⟩ := ra
    dsimp only at x0 x1 x2 y0 y1 y2
    clear hx hy g0 g1 g2 g3 g4 g5 hqa hra hkl hkm hB HT
    by_cases e0 : q0 = r0
    · by_cases e1 : q1 = r1
      · by_cases e2 : q2 = r2
        · subst e0 e1 e2
          have HST := Hi (hst rfl)
          clear hst hno
          go_wp2
          go_quiet (fail)
          go_wp2
          skip
          go_roundw
          case rel => exact ⟨k + 1, by omega, by go_num, HST.out, below_drewN' HB.out _⟩
          case measure => simp [intOf]; omega
        · have HNO := Hi (hno (fun e => e2 (by injection e with _ e; injection e)))
          have e2' : ¬ q2.toList = r2.toList := fun e => e2 ((toL_iff _ _).1 e)
          subst e0 e1
          clear hst hno
          go_wp2
          go_quiet (fail)
          go_wp2
          skip
          go_ret
          exact ⟨by simp [HNO.out], below_drewN' HB.out _⟩
      · have HNO := Hi (hno (fun e => e1 (by injection e with _ e; injection e)))
        have e1' : ¬ q1.toList = r1.toList := fun e => e1 ((toL_iff _ _).1 e)
        subst e0
        clear hst hno
        go_wp2
        go_quiet (fail)
        go_wp2
        skip
        go_ret
        exact ⟨by simp [HNO.out], below_drewN' HB.out _⟩
    · have HNO := Hi (hno (fun e => e0 (by injection e)))
      clear hst hno
      go_wp2
      go_quiet (fail)
      go_wp2
      skip
      go_ret
      exact ⟨by simp [HNO.out], below_drewN' HB.out _⟩
  · have e : L = M := by have := HT.out; rwa [List.take_of_length_le (by rw [HL.out]; omega), List.take_of_length_le (by rw [HM.out]; omega)] at this
    have HE := Hi e
    clear e HT hB
    go_wp2
    go_ret
    exact ⟨by simp [HE.out], HB.out⟩

theorem idsEq_any (A C : Option Addr) (n m c d : Nat) (L M : List (ByteArray × ByteArray)) (B : Nat) (w : World) (hn : n ≤ 9223372036854775807) (hm : m ≤ 9223372036854775807) (hBw : B ≤ w.heap.size) (ha : Reads w B 2 A n (idCells L)) (hc : Reads w B 2 C m (idCells M)) :
 Calls Tryd.prog 61 #[.slice A n c, .slice C m d] w fun e w' => e = .returned (.bool (decide (L = M))) ∧ Below w.heap.size w w' := by
 have hl : L.length = n := by have := ha.1; rw [idCells_length] at this; omega
 have hm' : M.length = m := by have := hc.1; rw [idCells_length] at this; omega
 by_cases hlm : (n : Int) = m
 rotate_left
 · have hne : L ≠ M := fun e => hlm (by rw [← hl, ← hm', e])
   have HNE := Hi hne
   clear hne ha hc hl hm'
   go_enter Tryd.func61, Tryd.ntmps61
   go_wp2
   go_ret
   exact ⟨by simp [HNE.out], Below.refl _ _⟩
 obtain rfl : n = m := by omega
 have HL := Hi hl
 have HM := Hi hm'
 have HA := Hi ha
 have HC := Hi hc
 clear hl hm' ha hc hlm
 go_enter Tryd.func61, Tryd.ntmps61
 go_wp2
 go_loopw [13] (fun k' wr => ∃ k : Nat, k ≤ n ∧ k' = .int .i64 k ∧ Hid (L.take k = M.take k) ∧ Below w.heap.size w wr) (fun k' _ => n - (intOf k').toNat)
 case atStart => exact ⟨0, Nat.zero_le _, rfl, by unfold Hid; simp, Below.refl _ _⟩
 case round =>
  obtain ⟨k, hk, rfl, HT, hB⟩ := hrel
  have HB := Hi hB
  by_cases hlt : k < n
  · obtain ⟨b, off, rfl, _, hx⟩ := (HA.out.below (hB.mono hBw)).plain (by omega) (by omega)
    obtain ⟨b', off', rfl, _, hy⟩ := (HC.out.below (hB.mono hBw)).plain (by omega) (by omega)
    have hkl : k < L.length := by rw [HL.out]; exact hlt
    have hkm : k < M.length := by rw [HM.out]; exact hlt
    obtain ⟨g0, g1⟩ := idCells_get L k hkl
    obtain ⟨g2, g3⟩ := idCells_get M k hkm
    have x0 := hx _ _ g0
    have x1 := hx _ _ g1
    have y0 := hy _ _ g2
    have y1 := hy _ _ g3
    simp only [← Nat.add_assoc] at x1 y1
    have hst := take_snoc_eq HT.out hkl hkm
    have hno : L[k] ≠ M[k] → L ≠ M := list_ne_at hkl hkm
    obtain ⟨qa, hqa⟩ : ∃ a, a = L[k] := ⟨_, rfl⟩
    obtain ⟨ra, hra⟩ : ∃ a, a = M[k] := ⟨_, rfl⟩
    rw [← hqa] at x0 x1 hst hno
    rw [← hra] at y0 y1 hst hno
    obtain ⟨q0, q1⟩ := qa
    obtain ⟨r0, r1⟩ := ra
    dsimp only at x0 x1 y0 y1
    clear hx hy g0 g1 g2 g3 hqa hra hkl hkm hB HT
    by_cases e0 : q0 = r0
    · by_cases e1 : q1 = r1
      · subst e0 e1
        have HST := Hi (hst rfl)
        clear hst hno
        go_wp2
        go_quiet (fail)
        go_wp2
        skip
        go_roundw
        case rel => exact ⟨k + 1, by omega, by go_num, HST.out, below_drewN' HB.out _⟩
        case measure => simp [intOf]; omega
      · have HNO := Hi (hno (fun e => e1 (by injection e)))
        have e1' : ¬ q1.toList = r1.toList := fun e => e1 ((toL_iff _ _).1 e)
        subst e0
        clear hst hno
        go_wp2
        go_quiet (fail)
        go_wp2
        skip
        go_ret
        exact ⟨by simp [HNO.out], below_drewN' HB.out _⟩
    · have HNO := Hi (hno (fun e => e0 (by injection e)))
      have e0' : ¬ q0.toList = r0.toList := fun e => e0 ((toL_iff _ _).1 e)
      clear hst hno
      go_wp2
      go_quiet (fail)
      go_wp2
      skip
      go_ret
      exact ⟨by simp [HNO.out], below_drewN' HB.out _⟩
  · have e : L = M := by have := HT.out; rwa [List.take_of_length_le (by rw [HL.out]; omega), List.take_of_length_le (by rw [HM.out]; omega)] at this
    have HE := Hi e
    clear e HT hB
    go_wp2
    go_ret
    exact ⟨by simp [HE.out], HB.out⟩

theorem strsEq_any (A C : Option Addr) (n m c d : Nat) (L M : List ByteArray) (B : Nat) (w : World) (hn : n ≤ 9223372036854775807) (hm : m ≤ 9223372036854775807) (hBw : B ≤ w.heap.size) (ha : Reads w B 1 A n (strCells L)) (hc : Reads w B 1 C m (strCells M)) :
 Calls Tryd.prog 63 #[.slice A n c, .slice C m d] w fun e w' => e = .returned (.bool (decide (L = M))) ∧ Below w.heap.size w w' := by
 have hl : L.length = n := by have := ha.1; rw [strCells_length] at this; omega
 have hm' : M.length = m := by have := hc.1; rw [strCells_length] at this; omega
 by_cases hlm : (n : Int) = m
 rotate_left
 · have hne : L ≠ M := fun e => hlm (by rw [← hl, ← hm', e])
   have HNE := Hi hne
   clear hne ha hc hl hm'
   go_enter Tryd.func63, Tryd.ntmps63
   go_wp2
   go_ret
   exact ⟨by simp [HNE.out], Below.refl _ _⟩
 obtain rfl : n = m := by omega
 have HL := Hi hl
 have HM := Hi hm'
 have HA := Hi ha
 have HC := Hi hc
 clear hl hm' ha hc hlm
 go_enter Tryd.func63, Tryd.ntmps63
 go_wp2
 go_loopw [13] (fun k' wr => ∃ k : Nat, k ≤ n ∧ k' = .int .i64 k ∧ Hid (L.take k = M.take k) ∧ Below w.heap.size w wr) (fun k' _ => n - (intOf k').toNat)
 case atStart => exact ⟨0, Nat.zero_le _, rfl, by unfold Hid; simp, Below.refl _ _⟩
 case round =>
  obtain ⟨k, hk, rfl, HT, hB⟩ := hrel
  have HB := Hi hB
  by_cases hlt : k < n
  · obtain ⟨b, off, rfl, _, hx⟩ := (HA.out.below (hB.mono hBw)).plain (by omega) (by omega)
    obtain ⟨b', off', rfl, _, hy⟩ := (HC.out.below (hB.mono hBw)).plain (by omega) (by omega)
    have hkl : k < L.length := by rw [HL.out]; exact hlt
    have hkm : k < M.length := by rw [HM.out]; exact hlt
    have g0 := strCells_get L k hkl
    have g1 := strCells_get M k hkm
    have x0 := hx _ _ g0
    have y0 := hy _ _ g1
    simp only [Nat.mul_one] at x0 y0
    have hst := take_snoc_eq HT.out hkl hkm
    have hno : L[k] ≠ M[k] → L ≠ M := list_ne_at hkl hkm
    obtain ⟨qa, hqa⟩ : ∃ a, a = L[k] := ⟨_, rfl⟩
    obtain ⟨ra, hra⟩ : ∃ a, a = M[k] := ⟨_, rfl⟩
    rw [← hqa] at x0 hst hno
    rw [← hra] at y0 hst hno
    clear hx hy g0 g1 hqa hra hkl hkm hB HT
    by_cases e0 : qa = ra
    · subst e0
      have HST := Hi (hst rfl)
      clear hst hno
      go_wp2
      go_quiet (fail)
      go_wp2
      skip
      go_roundw
      case rel => exact ⟨k + 1, by omega, by go_num, HST.out, below_drewN' HB.out _⟩
      case measure => simp [intOf]; omega
    · have HNO := Hi (hno e0)
      have e0' : (qa.toList == ra.toList) = false := by simpa using fun e => e0 ((toL_iff _ _).1 e)
      clear hst hno
      go_wp2
      go_quiet (fail)
      go_wp2
      skip
      go_ret
      exact ⟨by simp [HNO.out], below_drewN' HB.out _⟩
  · have e : L = M := by have := HT.out; rwa [List.take_of_length_le (by rw [HL.out]; omega), List.take_of_length_le (by rw [HM.out]; omega)] at this
    have HE := Hi e
    clear e HT hB
    go_wp2
    go_ret
    exact ⟨by simp [HE.out], HB.out⟩

theorem bytesEqual_any (A C : Option Addr) (n m c d : Nat) (l k : List UInt8) (B : Nat) (w : World) (hBw : B ≤ w.heap.size) (ha : Reads w B 1 A n (bcells l)) (hc : Reads w B 1 C m (bcells k)) :
 Calls Tryd.prog 59 #[.slice A n c, .slice C m d] w fun e w' => e = .returned (.bool (decide (l = k))) ∧ Below w.heap.size w w' := by
 have h1 := run_string_of_bytes zU22 zU5 (c := c) ha 9 zU9
 have h2 := run_string_of_bytes zU22 zU5 (c := d) hc 9 zU9
 have he : (⟨l.toArray⟩ : ByteArray).toList == (⟨k.toArray⟩ : ByteArray).toList ↔ l = k := by
  rw [Lib.toList_data, Lib.toList_data]
  simp
 have HE : Hid (((⟨l.toArray⟩ : ByteArray).toList == (⟨k.toArray⟩ : ByteArray).toList) = decide (l = k)) := by
  unfold Hid
  rw [Bool.eq_iff_iff, he]
  simp
 generalize (⟨l.toArray⟩ : ByteArray) = x at h1 HE
 generalize (⟨k.toArray⟩ : ByteArray) = y at h2 HE
 rw [← HE.out]
 clear ha hc he HE
 go_enter Tryd.func59, Tryd.ntmps59
 go_wp2
 go_ret
 exact ⟨rfl, Below.refl _ _⟩

theorem enter_fn {P : Program} {f : FuncId} {fn : Func} (hf : P.funcs[f]? = some fn) (hn : (fn.name == "runtime.NumGoroutine") = false) (hb : fn.body.isNone = false) : ∀ (args : Array Value) (W : World), (callFunc f args).run P W = .ok (.enter f args) W := fun _ _ => by
 have hn' : ¬ fn.name = "runtime.NumGoroutine" := by simpa using hn
 have hb' : ¬ fn.body = none := fun h => by rw [h] at hb; cases hb
 simp [callFunc, hf, hn', hb']
structure ListsAt (w : World) (B g off n : Nat) (X : List (Sl × List ByteArray)) : Prop where
 len : X.length = n
 cell : ∀ j (h : j < X.length), w.cell? ⟨g, off + j, none⟩ = some (X[j]).1.v
 reads : ∀ j (h : j < X.length), Reads w B 1 (X[j]).1.A (X[j]).1.n (strCells (X[j]).2)
 bd : ∀ j (h : j < X.length), (X[j]).1.n ≤ 4611686018427387904
theorem ListsAt.below {w w' : World} {B g off n : Nat} {X : List (Sl × List ByteArray)} (h : ListsAt w B g off n X) (hb : Below w.heap.size w w') (hB : B ≤ w.heap.size) (hg : g < w.heap.size) : ListsAt w' B g off n X :=
 ⟨h.len, fun j hj => (hb.cell (p := ⟨g, off + j, none⟩) hg).trans (h.cell j hj), fun j hj => (h.reads j hj).below (hb.mono hB), h.bd⟩
theorem listsEq_any (g g' off off' n c d B : Nat) (X Y : List (Sl × List ByteArray)) (w : World) (hn : n ≤ 4611686018427387904) (hBw : B ≤ w.heap.size) (hg : g < w.heap.size) (hg' : g' < w.heap.size) (hX : ListsAt w B g off n X) (hY : ListsAt w B g' off' n Y) :
 Calls Tryd.prog 62 #[.slice (some ⟨g, off, none⟩) n c, .slice (some ⟨g', off', none⟩) n d, .func (.func 63) #[] #[]] w fun e w' => e = .returned (.bool (decide (X.map Prod.snd = Y.map Prod.snd))) ∧ Below w.heap.size w w' := by
 have HENT := Hi (enter_fn Tryd.func63 (by kernel_rfl) (by kernel_rfl))
 have HX := Hi hX
 have HY := Hi hY
 clear hX hY
 go_enter Tryd.func62, Tryd.ntmps62
 go_wp2
 go_loopw [17] (fun k' wr => ∃ k : Nat, k ≤ n ∧ k' = .int .i64 k ∧ Hid ((X.map Prod.snd).take k = (Y.map Prod.snd).take k) ∧ Below w.heap.size w wr) (fun k' _ => n - (intOf k').toNat)
 case atStart => exact ⟨0, Nat.zero_le _, rfl, by unfold Hid; simp, Below.refl _ _⟩
 case round =>
  obtain ⟨k, hk, rfl, HT, hB⟩ := hrel
  have HB := Hi hB
  by_cases hlt : k < n
  · have hk1 : k < X.length := by rw [HX.out.len]; exact hlt
    have hk2 : k < Y.length := by rw [HY.out.len]; exact hlt
    have x1 := (HX.out.below hB hBw hg).cell k hk1
    have y1 := (HY.out.below hB hBw hg').cell k hk2
    have hx := (HX.out.below hB hBw hg).reads k hk1
    have hy := (HY.out.below hB hBw hg').reads k hk2
    have bx := HX.out.bd k hk1
    have by' := HY.out.bd k hk2
    have hst := fun e => take_snoc_eq (L := X.map Prod.snd) (M := Y.map Prod.snd) HT.out (by simpa using hk1) (by simpa using hk2) (by simpa using e)
    have hno := fun e => list_ne_at (L := X.map Prod.snd) (M := Y.map Prod.snd) (k := k) (by simpa using hk1) (by simpa using hk2) (by simpa using e)
    obtain ⟨⟨⟨A1, n1, c1⟩, L1⟩, e1⟩ : ∃ q, q = X[k] := ⟨_, rfl⟩
    obtain ⟨⟨⟨A2, n2, c2⟩, L2⟩, e2⟩ : ∃ q, q = Y[k] := ⟨_, rfl⟩
    rw [← e1] at x1 hx bx hst hno
    rw [← e2] at y1 hy by' hst hno
    unfold Sl.v at x1 y1
    dsimp only at x1 y1 hx hy bx by' hst hno
    have HC : Hid (∀ W, Below wr.heap.size wr W → Calls Tryd.prog 63 #[.slice A1 n1 c1, .slice A2 n2 c2] W fun e w' => e = .returned (.bool (decide (L1 = L2))) ∧ Below W.heap.size W w') := fun W hW =>
     strsEq_any A1 A2 n1 n2 c1 c2 L1 L2 B W (by omega) (by omega) (Nat.le_trans hBw (Nat.le_trans hB.size hW.size)) (hx.below (hW.mono (Nat.le_trans hBw hB.size))) (hy.below (hW.mono (Nat.le_trans hBw hB.size)))
    clear e1 e2 hx hy hk1 hk2 HT
    by_cases hL : L1 = L2
    · have HST := Hi (hst hL)
      rw [decide_eq_true hL] at HC
      have hent := HENT.out
      clear hst hno hL hB
      go_wp2_with (refine (HC.out _ (by first | exact Below.refl _ _ | exact zT.drew)).mono ?_; rintro e w2 ⟨rfl, hb⟩; have HB2 := Hi (HB.out.trans (hb.mono HB.out.size)); clear hb)
      go_roundw
      case rel => exact ⟨k + 1, by omega, by go_num, HST.out, HB2.out⟩
      case measure => simp [intOf]; omega
    · have HNO := Hi (hno hL)
      rw [decide_eq_false hL] at HC
      have hent := HENT.out
      clear hst hno hL hB
      go_wp2_with (refine (HC.out _ (by first | exact Below.refl _ _ | exact zT.drew)).mono ?_; rintro e w2 ⟨rfl, hb⟩; have HB2 := Hi (HB.out.trans (hb.mono HB.out.size)); clear hb)
      go_ret
      exact ⟨by simp [HNO.out], HB2.out⟩
  · have e : X.map Prod.snd = Y.map Prod.snd := by
     have h := HT.out
     rwa [List.take_of_length_le (by rw [List.length_map, HX.out.len]; omega), List.take_of_length_le (by rw [List.length_map, HY.out.len]; omega)] at h
    have HE := Hi e
    clear e HT hB
    go_wp2
    go_ret
    exact ⟨by simp [HE.out], HB.out⟩

abbrev Oq4P1 (f : OpF) (g : OpF) : Bool := ((f.t : Int) == g.t) && (f.p.toList == g.p.toList)
abbrev Oq4P2 (f : OpF) (g : OpF) (ed : Bool) (ea : Bool) : Bool := ((Oq4P1 f g) && ed) && ea
abbrev Oq4P3 (f : OpF) (g : OpF) (ed : Bool) : Bool := ((Oq4P1 f g) && ed) == true
abbrev Oq4P4 (f : OpF) (g : OpF) (ed : Bool) (ea : Bool) : Bool := (Oq4P2 f g ed ea) == true
abbrev Oq4P5 (f : OpF) (g : OpF) (ed : Bool) (ea : Bool) : Bool := (Oq4P2 f g ed ea) && ((f.fl : Int) == g.fl)
abbrev Oq4P6 (f : OpF) (g : OpF) (ed : Bool) (ea : Bool) : Bool := (Oq4P5 f g ed ea) == true
abbrev Oq4P7 (f : OpF) (g : OpF) (ed : Bool) (ea : Bool) : Bool := (Oq4P5 f g ed ea) && ((f.ve : Int) == g.ve)
abbrev Oq4P8 (f : OpF) (g : OpF) (ed : Bool) (ea : Bool) : Bool := (Oq4P7 f g ed ea) == true
abbrev Oq4P9 (f : OpF) (g : OpF) (ed : Bool) (ea : Bool) : Bool := (Oq4P7 f g ed ea) && (f.wa == g.wa)
abbrev Oq4P10 (f : OpF) (g : OpF) (ed : Bool) (ea : Bool) : Bool := (Oq4P9 f g ed ea) == true
abbrev Oq4P11 (f : OpF) (g : OpF) (ed : Bool) (ea : Bool) : Bool := (Oq4P9 f g ed ea) && ((f.ct : Int) == g.ct)
abbrev Oq4P12 (f : OpF) (g : OpF) (ed : Bool) (ea : Bool) : Bool := (Oq4P11 f g ed ea) == true
abbrev Oq4P13 (f : OpF) (g : OpF) (ed : Bool) (ea : Bool) : Bool := (Oq4P11 f g ed ea) && ((f.by_ : Int) == g.by_)
abbrev Oq4P14 (f : OpF) (g : OpF) (ed : Bool) (ea : Bool) : Bool := (Oq4P13 f g ed ea) == true
abbrev Oq4P15 (f : OpF) (g : OpF) (ed : Bool) (ea : Bool) : Bool := (Oq4P13 f g ed ea) && ((f.to : Int) == g.to)
abbrev Oq4P16 (f : OpF) (g : OpF) (ed : Bool) (ea : Bool) : Bool := (Oq4P15 f g ed ea) == true
abbrev Oq4P17 (f : OpF) (g : OpF) (ed : Bool) (ea : Bool) (ei : Bool) : Bool := ((Oq4P15 f g ed ea) && ei) == true
abbrev Oq4P18 (f : OpF) (g : OpF) (ed : Bool) (ea : Bool) (ei : Bool) : Bool := ((Oq4P15 f g ed ea) && ei) && ((f.tl : Int) == g.tl)
abbrev Oq4P19 (f : OpF) (g : OpF) (ed : Bool) (ea : Bool) (ei : Bool) : Bool := (Oq4P18 f g ed ea ei) == true
abbrev Oq4P20 (f : OpF) (g : OpF) (ed : Bool) (ea : Bool) (ei : Bool) : Bool := (Oq4P18 f g ed ea ei) && ((f.zx : Int) == g.zx)
abbrev Oq4P21 (f : OpF) (g : OpF) (ed : Bool) (ea : Bool) (ei : Bool) : Bool := (Oq4P20 f g ed ea ei) == true

structure FAt (w : World) (lo : Option Nat) (f : OpF) (d a k0 k1 k2 k3 k4 i : Sl) : Prop where
 d : SlAt w lo 5 1 1 d f.l.length (bcells f.l)
 a : SlAt w lo 74 3 40 a f.L.length (aclCells f.L)
 k0 : SlAt w lo 9 1 16 k0 f.K0.length (strCells f.K0)
 k1 : SlAt w lo 9 1 16 k1 f.K1.length (strCells f.K1)
 k2 : SlAt w lo 9 1 16 k2 f.K2.length (strCells f.K2)
 k3 : SlAt w lo 9 1 16 k3 f.K3.length (strCells f.K3)
 k4 : SlAt w lo 9 1 16 k4 f.K4.length (strCells f.K4)
 i : SlAt w lo 72 2 32 i f.I.length (idCells f.I)
theorem FAt.later {w w' : World} {lo : Option Nat} {f : OpF} {d a k0 k1 k2 k3 k4 i : Sl} (h : FAt w lo f d a k0 k1 k2 k3 k4 i) (hb : Below w.heap.size w w') : FAt w' lo f d a k0 k1 k2 k3 k4 i :=
 ⟨h.d.later hb, h.a.later hb, h.k0.later hb, h.k1.later hb, h.k2.later hb, h.k3.later hb, h.k4.later hb, h.i.later hb⟩
def OpF.lists (f : OpF) : List (List ByteArray) := [f.K0, f.K1, f.K2, f.K3, f.K4]
theorem SlAt.bd {w : World} {lo : Option Nat} {e : TypeId} {size bytes len : Nat} {s : Sl} {xs : List Value} (h : SlAt w lo e size bytes s len xs) (hb : 0 < bytes) : s.n ≤ 4611686018427387904 := by
 have h1 := h.reach
 have h2 : s.n * 1 ≤ s.n * bytes := Nat.mul_le_mul_left _ hb
 unfold reachBytes at h1
 omega
theorem listsAt {w : World} {lo : Option Nat} {f : OpF} {d a k0 k1 k2 k3 k4 i s : Sl} {w1 : World} (h : FAt w lo f d a k0 k1 k2 k3 k4 i) (hb : Below w.heap.size w w1) {g : Nat} (hg : Blk w1 g 29 (f.row d a k0 k1 k2 k3 k4 i s).toArray) :
 ListsAt w1 w.heap.size g 11 5 [(k0, f.K0), (k1, f.K1), (k2, f.K2), (k3, f.K3), (k4, f.K4)] := by
 refine ⟨rfl, fun j hj => ?_, fun j hj => ?_, fun j hj => ?_⟩
 all_goals
  have hj' : j < 5 := hj
 · rw [hg.cell (11 + j)]
   rcases (by omega : j = 0 ∨ j = 1 ∨ j = 2 ∨ j = 3 ∨ j = 4) with rfl | rfl | rfl | rfl | rfl <;> rfl
 · rcases (by omega : j = 0 ∨ j = 1 ∨ j = 2 ∨ j = 3 ∨ j = 4) with rfl | rfl | rfl | rfl | rfl
   · exact h.k0.reads.below hb
   · exact h.k1.reads.below hb
   · exact h.k2.reads.below hb
   · exact h.k3.reads.below hb
   · exact h.k4.reads.below hb
 · rcases (by omega : j = 0 ∨ j = 1 ∨ j = 2 ∨ j = 3 ∨ j = 4) with rfl | rfl | rfl | rfl | rfl
   · exact h.k0.bd (by decide)
   · exact h.k1.bd (by decide)
   · exact h.k2.bd (by decide)
   · exact h.k3.bd (by decide)
   · exact h.k4.bd (by decide)

theorem isz_21 : (Tryd.prog.info? 21).map (·.size) = some 1 := by kernel_rfl
theorem isz_9 : (Tryd.prog.info? 9).map (·.size) = some 1 := by kernel_rfl
theorem isz_22 : (Tryd.prog.info? 22).map (·.size) = some 1 := by kernel_rfl
theorem isz_23 : (Tryd.prog.info? 23).map (·.size) = some 1 := by kernel_rfl
theorem isz_4 : (Tryd.prog.info? 4).map (·.size) = some 1 := by kernel_rfl
theorem isz_2 : (Tryd.prog.info? 2).map (·.size) = some 1 := by kernel_rfl
theorem isz_25 : (Tryd.prog.info? 25).map (·.size) = some 5 := by kernel_rfl
theorem isz_26 : (Tryd.prog.info? 26).map (·.size) = some 1 := by kernel_rfl
theorem isz_27 : (Tryd.prog.info? 27).map (·.size) = some 1 := by kernel_rfl
theorem isz_24 : (Tryd.prog.info? 24).map (·.size) = some 1 := by kernel_rfl
theorem isz_29 : (Tryd.prog.info? 29).map (·.size) = some 19 := by kernel_rfl
theorem isz_74 : (Tryd.prog.info? 74).map (·.size) = some 3 := by kernel_rfl
theorem isz_72 : (Tryd.prog.info? 72).map (·.size) = some 2 := by kernel_rfl
theorem isz_5 : (Tryd.prog.info? 5).map (·.size) = some 1 := by kernel_rfl
def plainB (f g : OpF) : Bool := (((((((((((((Oq4P1 f g) && decide (f.l = g.l)) && decide (f.L = g.L)) && ((f.fl : Int) == g.fl)) && ((f.ve : Int) == g.ve)) && (f.wa == g.wa)) && ((f.ct : Int) == g.ct)) && ((f.by_ : Int) == g.by_)) && ((f.to : Int) == g.to)) && decide (f.I = g.I)) && ((f.tl : Int) == g.tl)) && ((f.zx : Int) == g.zx)) && decide (f.lists = g.lists))
theorem plain_any {lo lo' : Option Nat} (f g : OpF) (d a k0 k1 k2 k3 k4 i s d' a' k0' k1' k2' k3' k4' i' s' : Sl) (w : World) (h : FAt w lo f d a k0 k1 k2 k3 k4 i) (h' : FAt w lo' g d' a' k0' k1' k2' k3' k4' i') (cs ds : Array Value) (hcs : cs = (f.row d a k0 k1 k2 k3 k4 i s).toArray) (hds : ds = (g.row d' a' k0' k1' k2' k3' k4' i' s').toArray) :
 Calls Tryd.prog 40 #[.agg cs, .agg ds] w fun e w' => e = .returned (.bool (plainB f g)) ∧ Below w.heap.size w w' := by
 obtain ⟨w1, hw1⟩ : ∃ w1, (w.alloc (.cells cs 29)).alloc (.cells ds 29) = w1 := ⟨_, rfl⟩
 have hb1 : Below w.heap.size w w1 := by rw [← hw1]; exact (zT.alloc zR _).alloc (by simp) _
 have hS : Blk w1 w.heap.size 29 (f.row d a k0 k1 k2 k3 k4 i s).toArray := by rw [← hcs, ← hw1]; exact (Blk.new _ _ _).alloc _
 have hT : Blk w1 (w.heap.size + 1) 29 (g.row d' a' k0' k1' k2' k3' k4' i' s').toArray := by rw [← hds, ← hw1]; exact Blk.new' (by simp)
 have CD : Hid (∀ W, Below w.heap.size w W → Calls Tryd.prog 59 #[.slice d.A d.n d.c, .slice d'.A d'.n d'.c] W fun e w' => e = .returned (.bool (decide (f.l = g.l))) ∧ Below W.heap.size W w') := fun W hW => bytesEqual_any _ _ _ _ _ _ _ _ w.heap.size W hW.size (h.d.reads.below hW) (h'.d.reads.below hW)
 have CA : Hid (∀ W, Below w.heap.size w W → Calls Tryd.prog 60 #[.slice a.A a.n a.c, .slice a'.A a'.n a'.c] W fun e w' => e = .returned (.bool (decide (f.L = g.L))) ∧ Below W.heap.size W w') := fun W hW => aclsEq_any _ _ _ _ _ _ _ _ w.heap.size W (Nat.le_trans (h.a.bd (by decide)) (by decide)) (Nat.le_trans (h'.a.bd (by decide)) (by decide)) hW.size (h.a.reads.below hW) (h'.a.reads.below hW)
 have CI : Hid (∀ W, Below w.heap.size w W → Calls Tryd.prog 61 #[.slice i.A i.n i.c, .slice i'.A i'.n i'.c] W fun e w' => e = .returned (.bool (decide (f.I = g.I))) ∧ Below W.heap.size W w') := fun W hW => idsEq_any _ _ _ _ _ _ _ _ w.heap.size W (Nat.le_trans (h.i.bd (by decide)) (by decide)) (Nat.le_trans (h'.i.bd (by decide)) (by decide)) hW.size (h.i.reads.below hW) (h'.i.reads.below hW)
 have CL : Hid (∀ W, Below w1.heap.size w1 W → Calls Tryd.prog 62 #[.slice (some ⟨w.heap.size, 11, none⟩) 5 5, .slice (some ⟨w.heap.size + 1, 11, none⟩) 5 5, .func (.func 63) #[] #[]] W fun e w' => e = .returned (.bool (decide (f.lists = g.lists))) ∧ Below W.heap.size W w') := fun W hW =>
  listsEq_any _ _ _ _ _ _ _ w.heap.size _ _ W (by decide) (Nat.le_trans hb1.size hW.size) (Nat.lt_of_lt_of_le hS.lt hW.size) (Nat.lt_of_lt_of_le hT.lt hW.size) ((listsAt h hb1 hS).below hW hb1.size hS.lt) ((listsAt h' hb1 hT).below hW hb1.size hT.lt)
 unfold plainB
 generalize decide (f.l = g.l) = ed at CD ⊢
 generalize decide (f.L = g.L) = ea at CA ⊢
 generalize decide (f.I = g.I) = ei at CI ⊢
 generalize decide (f.lists = g.lists) = el at CL ⊢
 have HS := Hi hS
 have HT := Hi hT
 have HB1 := Hi hb1
 clear hb1 hS hT h h' hcs hds
 go_enter Tryd.func40, Tryd.ntmps40
 iterate 16 go_step
 simp only [List.append_eq, List.cons_append, List.nil_append]
 refine wp_region_steps (w0 := w1) (.inl (.pointer (some ⟨w.heap.size, 0, none⟩)) ::
  .inl (.int .i32 f.t) ::
  .inl (.pointer (some ⟨(w.heap.size + 1), 0, none⟩)) ::
  .inl (.int .i32 g.t) ::
  .inl (.bool ((f.t : Int) == g.t)) ::
  .inl (.bool ((f.t : Int) == g.t)) ::
  .inl (bif (((f.t : Int) == g.t) == true) then .pointer (some ⟨w.heap.size, 1, none⟩) else undef) ::
  .inl (bif (((f.t : Int) == g.t) == true) then .string f.p else undef) ::
  .inl (bif (((f.t : Int) == g.t) == true) then .pointer (some ⟨(w.heap.size + 1), 1, none⟩) else undef) ::
  .inl (bif (((f.t : Int) == g.t) == true) then .string g.p else undef) ::
  .inl (bif (((f.t : Int) == g.t) == true) then .bool (f.p.toList == g.p.toList) else undef) ::
  .inl (.bool (Oq4P1 f g)) ::
  .inl (.bool (Oq4P1 f g)) ::
  .inl (bif ((Oq4P1 f g) == true) then .pointer (some ⟨w.heap.size, 2, none⟩) else undef) ::
  .inl (bif ((Oq4P1 f g) == true) then .slice d.A d.n d.c else undef) ::
  .inl (bif ((Oq4P1 f g) == true) then .pointer (some ⟨(w.heap.size + 1), 2, none⟩) else undef) ::
  .inl (bif ((Oq4P1 f g) == true) then .slice d'.A d'.n d'.c else undef) ::
  .inl (bif ((Oq4P1 f g) == true) then .bool ed else undef) ::
  .inl (.bool ((Oq4P1 f g) && ed)) ::
  .inl (.bool ((Oq4P1 f g) && ed)) ::
  .inl (bif (Oq4P3 f g ed) then .pointer (some ⟨w.heap.size, 3, none⟩) else undef) ::
  .inl (bif (Oq4P3 f g ed) then .slice a.A a.n a.c else undef) ::
  .inl (bif (Oq4P3 f g ed) then .pointer (some ⟨(w.heap.size + 1), 3, none⟩) else undef) ::
  .inl (bif (Oq4P3 f g ed) then .slice a'.A a'.n a'.c else undef) ::
  .inl (bif (Oq4P3 f g ed) then .bool ea else undef) ::
  .inl (.bool (Oq4P2 f g ed ea)) ::
  .inl (.bool (Oq4P2 f g ed ea)) ::
  .inl (bif (Oq4P4 f g ed ea) then .pointer (some ⟨w.heap.size, 4, none⟩) else undef) ::
  .inl (bif (Oq4P4 f g ed ea) then .int .i32 f.fl else undef) ::
  .inl (bif (Oq4P4 f g ed ea) then .pointer (some ⟨(w.heap.size + 1), 4, none⟩) else undef) ::
  .inl (bif (Oq4P4 f g ed ea) then .int .i32 g.fl else undef) ::
  .inl (bif (Oq4P4 f g ed ea) then .bool ((f.fl : Int) == g.fl) else undef) ::
  .inl (.bool (Oq4P5 f g ed ea)) ::
  .inl (.bool (Oq4P5 f g ed ea)) ::
  .inl (bif (Oq4P6 f g ed ea) then .pointer (some ⟨w.heap.size, 5, none⟩) else undef) ::
  .inl (bif (Oq4P6 f g ed ea) then .int .i32 f.ve else undef) ::
  .inl (bif (Oq4P6 f g ed ea) then .pointer (some ⟨(w.heap.size + 1), 5, none⟩) else undef) ::
  .inl (bif (Oq4P6 f g ed ea) then .int .i32 g.ve else undef) ::
  .inl (bif (Oq4P6 f g ed ea) then .bool ((f.ve : Int) == g.ve) else undef) ::
  .inl (.bool (Oq4P7 f g ed ea)) ::
  .inl (.bool (Oq4P7 f g ed ea)) ::
  .inl (bif (Oq4P8 f g ed ea) then .pointer (some ⟨w.heap.size, 6, none⟩) else undef) ::
  .inl (bif (Oq4P8 f g ed ea) then .bool f.wa else undef) ::
  .inl (bif (Oq4P8 f g ed ea) then .pointer (some ⟨(w.heap.size + 1), 6, none⟩) else undef) ::
  .inl (bif (Oq4P8 f g ed ea) then .bool g.wa else undef) ::
  .inl (bif (Oq4P8 f g ed ea) then .bool (f.wa == g.wa) else undef) ::
  .inl (.bool (Oq4P9 f g ed ea)) ::
  .inl (.bool (Oq4P9 f g ed ea)) ::
  .inl (bif (Oq4P10 f g ed ea) then .pointer (some ⟨w.heap.size, 7, none⟩) else undef) ::
  .inl (bif (Oq4P10 f g ed ea) then .int .i64 f.ct else undef) ::
  .inl (bif (Oq4P10 f g ed ea) then .pointer (some ⟨(w.heap.size + 1), 7, none⟩) else undef) ::
  .inl (bif (Oq4P10 f g ed ea) then .int .i64 g.ct else undef) ::
  .inl (bif (Oq4P10 f g ed ea) then .bool ((f.ct : Int) == g.ct) else undef) ::
  .inl (.bool (Oq4P11 f g ed ea)) ::
  .inl (.bool (Oq4P11 f g ed ea)) ::
  .inl (bif (Oq4P12 f g ed ea) then .pointer (some ⟨w.heap.size, 8, none⟩) else undef) ::
  .inl (bif (Oq4P12 f g ed ea) then .int .i64 f.by_ else undef) ::
  .inl (bif (Oq4P12 f g ed ea) then .pointer (some ⟨(w.heap.size + 1), 8, none⟩) else undef) ::
  .inl (bif (Oq4P12 f g ed ea) then .int .i64 g.by_ else undef) ::
  .inl (bif (Oq4P12 f g ed ea) then .bool ((f.by_ : Int) == g.by_) else undef) ::
  .inl (.bool (Oq4P13 f g ed ea)) ::
  .inl (.bool (Oq4P13 f g ed ea)) ::
  .inl (bif (Oq4P14 f g ed ea) then .pointer (some ⟨w.heap.size, 16, none⟩) else undef) ::
  .inl (bif (Oq4P14 f g ed ea) then .int .i32 f.to else undef) ::
  .inl (bif (Oq4P14 f g ed ea) then .pointer (some ⟨(w.heap.size + 1), 16, none⟩) else undef) ::
  .inl (bif (Oq4P14 f g ed ea) then .int .i32 g.to else undef) ::
  .inl (bif (Oq4P14 f g ed ea) then .bool ((f.to : Int) == g.to) else undef) ::
  .inl (.bool (Oq4P15 f g ed ea)) ::
  .inl (.bool (Oq4P15 f g ed ea)) ::
  .inl (bif (Oq4P16 f g ed ea) then .pointer (some ⟨w.heap.size, 17, none⟩) else undef) ::
  .inl (bif (Oq4P16 f g ed ea) then .slice i.A i.n i.c else undef) ::
  .inl (bif (Oq4P16 f g ed ea) then .pointer (some ⟨(w.heap.size + 1), 17, none⟩) else undef) ::
  .inl (bif (Oq4P16 f g ed ea) then .slice i'.A i'.n i'.c else undef) ::
  .inl (bif (Oq4P16 f g ed ea) then .bool ei else undef) ::
  .inl (.bool ((Oq4P15 f g ed ea) && ei)) ::
  .inl (.bool ((Oq4P15 f g ed ea) && ei)) ::
  .inl (bif (Oq4P17 f g ed ea ei) then .pointer (some ⟨w.heap.size, 9, none⟩) else undef) ::
  .inl (bif (Oq4P17 f g ed ea ei) then .int .i64 f.tl else undef) ::
  .inl (bif (Oq4P17 f g ed ea ei) then .pointer (some ⟨(w.heap.size + 1), 9, none⟩) else undef) ::
  .inl (bif (Oq4P17 f g ed ea ei) then .int .i64 g.tl else undef) ::
  .inl (bif (Oq4P17 f g ed ea ei) then .bool ((f.tl : Int) == g.tl) else undef) ::
  .inl (.bool (Oq4P18 f g ed ea ei)) ::
  .inl (.bool (Oq4P18 f g ed ea ei)) ::
  .inl (bif (Oq4P19 f g ed ea ei) then .pointer (some ⟨w.heap.size, 10, none⟩) else undef) ::
  .inl (bif (Oq4P19 f g ed ea ei) then .int .i64 f.zx else undef) ::
  .inl (bif (Oq4P19 f g ed ea ei) then .pointer (some ⟨(w.heap.size + 1), 10, none⟩) else undef) ::
  .inl (bif (Oq4P19 f g ed ea ei) then .int .i64 g.zx else undef) ::
  .inl (bif (Oq4P19 f g ed ea ei) then .bool ((f.zx : Int) == g.zx) else undef) ::
  .inl (.bool (Oq4P20 f g ed ea ei)) ::
  .inl (.bool (Oq4P20 f g ed ea ei)) ::
  .inl (bif (Oq4P21 f g ed ea ei) then .pointer (some ⟨w.heap.size, 11, none⟩) else undef) ::
  .inl (bif (Oq4P21 f g ed ea ei) then .slice (some ⟨w.heap.size, 11, none⟩) 5 5 else undef) ::
  .inl (bif (Oq4P21 f g ed ea ei) then .pointer (some ⟨(w.heap.size + 1), 11, none⟩) else undef) ::
  .inl (bif (Oq4P21 f g ed ea ei) then .slice (some ⟨(w.heap.size + 1), 11, none⟩) 5 5 else undef) ::
  .inl (bif (Oq4P21 f g ed ea ei) then .bool el else undef) ::
  .inl (.bool ((Oq4P20 f g ed ea ei) && el)) ::
  .inl (.bool ((Oq4P20 f g ed ea ei) && el)) :: []) (by kernel_rfl) (by kernel_rfl) (by kernel_rfl) (by kernel_rfl) (nomono rfl) ⟨fun ac W hb o q K hK => op_u (u := .pointer (some ⟨w.heap.size, 0, none⟩)) rfl (r_field 29 _ 0 rfl (yA (hO o 2)) zU29 rfl (n := 0) isz_21 rfl) (kR hK),
  fun ac W hb o q K hK => op_u (u := .int .i32 f.t) rfl (r_load 21 _ rfl (yA (dD q 0 5)) (yC (HS.out.below hb HS.out.lt) 0 rfl) zU21 rfl) (kR hK),
  fun ac W hb o q K hK => op_u (u := .pointer (some ⟨(w.heap.size + 1), 0, none⟩)) rfl (r_field 29 _ 0 rfl (yA (hO o 3)) zU29 rfl (n := 0) isz_21 rfl) (kR hK),
  fun ac W hb o q K hK => op_u (u := .int .i32 g.t) rfl (r_load 21 _ rfl (yA (dD q 2 7)) (yC (HT.out.below hb HT.out.lt) 0 rfl) zU21 rfl) (kR hK),
  fun ac W hb o q K hK => op_u (u := .bool ((f.t : Int) == g.t)) rfl (r_ieq 21 _ _ _ rfl (yA (dD q 1 6)) (yA (dD q 3 8))) (kR hK),
  fun ac W hb o q K hK => op_u (u := .bool ((f.t : Int) == g.t)) rfl (r_move _ rfl (yA (dD q 4 9))) (kR hK),
  fun ac W hb o q K hK => op_g (u := .pointer (some ⟨w.heap.size, 1, none⟩)) (wQ (dG q 5 10)) (fun hc => r_field 29 _ 1 rfl (yA (hO o 2)) zU29 rfl (n := 0) isz_9 rfl) (kR hK),
  fun ac W hb o q K hK => op_g (u := .string f.p) (wQ (dG q 5 10)) (fun hc => r_load 9 _ rfl (yB (dD q 6 11) hc) (yC (HS.out.below hb HS.out.lt) 1 rfl) zU9 rfl) (kR hK),
  fun ac W hb o q K hK => op_g (u := .pointer (some ⟨(w.heap.size + 1), 1, none⟩)) (wQ (dG q 5 10)) (fun hc => r_field 29 _ 1 rfl (yA (hO o 3)) zU29 rfl (n := 0) isz_9 rfl) (kR hK),
  fun ac W hb o q K hK => op_g (u := .string g.p) (wQ (dG q 5 10)) (fun hc => r_load 9 _ rfl (yB (dD q 8 13) hc) (yC (HT.out.below hb HT.out.lt) 1 rfl) zU9 rfl) (kR hK),
  fun ac W hb o q K hK => op_g (u := .bool (f.p.toList == g.p.toList)) (wQ (dG q 5 10)) (fun hc => r_seq 9 _ _ _ rfl (yB (dD q 7 12) hc) (yB (dD q 9 14) hc)) (kR hK),
  fun ac W hb o q K hK => op_u (u := .bool (Oq4P1 f g)) rfl (r_and _ _ _ rfl (yA (dD q 5 10)) (fun hb => yB (dD q 10 15) (by simp [hb])) rfl) (kR hK),
  fun ac W hb o q K hK => op_u (u := .bool (Oq4P1 f g)) rfl (r_move _ rfl (yA (dD q 11 16))) (kR hK),
  fun ac W hb o q K hK => op_g (u := .pointer (some ⟨w.heap.size, 2, none⟩)) (wQ (dG q 12 17)) (fun hc => r_field 29 _ 2 rfl (yA (hO o 2)) zU29 rfl (n := 0) isz_22 rfl) (kR hK),
  fun ac W hb o q K hK => op_g (u := .slice d.A d.n d.c) (wQ (dG q 12 17)) (fun hc => r_load 22 _ rfl (yB (dD q 13 18) hc) (yC (HS.out.below hb HS.out.lt) 2 rfl) zU22 rfl) (kR hK),
  fun ac W hb o q K hK => op_g (u := .pointer (some ⟨(w.heap.size + 1), 2, none⟩)) (wQ (dG q 12 17)) (fun hc => r_field 29 _ 2 rfl (yA (hO o 3)) zU29 rfl (n := 0) isz_22 rfl) (kR hK),
  fun ac W hb o q K hK => op_g (u := .slice d'.A d'.n d'.c) (wQ (dG q 12 17)) (fun hc => r_load 22 _ rfl (yB (dD q 15 20) hc) (yC (HT.out.below hb HT.out.lt) 2 rfl) zU22 rfl) (kR hK),
  fun ac W hb o q K hK => op_call (u := .bool ed) (wQ (dG q 12 17)) 59 _ _ rfl (#[.slice d.A d.n d.c, .slice d'.A d'.n d'.c]) (fun hc => by simp [(yB (dD q 14 19) hc), (yB (dD q 16 21) hc)]) Tryd.func59 (by kernel_rfl) (by kernel_rfl) (fun hc => CD.out W (HB1.out.trans (hb.mono HB1.out.size))) (fun w' hbl => hK _ _ rfl hbl),
  fun ac W hb o q K hK => op_u (u := .bool ((Oq4P1 f g) && ed)) rfl (r_and _ _ _ rfl (yA (dD q 12 17)) (fun hb => yB (dD q 17 22) (by simp [hb])) rfl) (kR hK),
  fun ac W hb o q K hK => op_u (u := .bool ((Oq4P1 f g) && ed)) rfl (r_move _ rfl (yA (dD q 18 23))) (kR hK),
  fun ac W hb o q K hK => op_g (u := .pointer (some ⟨w.heap.size, 3, none⟩)) (wQ (dG q 19 24)) (fun hc => r_field 29 _ 3 rfl (yA (hO o 2)) zU29 rfl (n := 0) isz_23 rfl) (kR hK),
  fun ac W hb o q K hK => op_g (u := .slice a.A a.n a.c) (wQ (dG q 19 24)) (fun hc => r_load 23 _ rfl (yB (dD q 20 25) hc) (yC (HS.out.below hb HS.out.lt) 3 rfl) zU23 rfl) (kR hK),
  fun ac W hb o q K hK => op_g (u := .pointer (some ⟨(w.heap.size + 1), 3, none⟩)) (wQ (dG q 19 24)) (fun hc => r_field 29 _ 3 rfl (yA (hO o 3)) zU29 rfl (n := 0) isz_23 rfl) (kR hK),
  fun ac W hb o q K hK => op_g (u := .slice a'.A a'.n a'.c) (wQ (dG q 19 24)) (fun hc => r_load 23 _ rfl (yB (dD q 22 27) hc) (yC (HT.out.below hb HT.out.lt) 3 rfl) zU23 rfl) (kR hK),
  fun ac W hb o q K hK => op_call (u := .bool ea) (wQ (dG q 19 24)) 60 _ _ rfl (#[.slice a.A a.n a.c, .slice a'.A a'.n a'.c]) (fun hc => by simp [(yB (dD q 21 26) hc), (yB (dD q 23 28) hc)]) Tryd.func60 (by kernel_rfl) (by kernel_rfl) (fun hc => CA.out W (HB1.out.trans (hb.mono HB1.out.size))) (fun w' hbl => hK _ _ rfl hbl),
  fun ac W hb o q K hK => op_u (u := .bool (Oq4P2 f g ed ea)) rfl (r_and _ _ _ rfl (yA (dD q 19 24)) (fun hb => yB (dD q 24 29) (by simp [hb])) rfl) (kR hK),
  fun ac W hb o q K hK => op_u (u := .bool (Oq4P2 f g ed ea)) rfl (r_move _ rfl (yA (dD q 25 30))) (kR hK),
  fun ac W hb o q K hK => op_g (u := .pointer (some ⟨w.heap.size, 4, none⟩)) (wQ (dG q 26 31)) (fun hc => r_field 29 _ 4 rfl (yA (hO o 2)) zU29 rfl (n := 0) isz_21 rfl) (kR hK),
  fun ac W hb o q K hK => op_g (u := .int .i32 f.fl) (wQ (dG q 26 31)) (fun hc => r_load 21 _ rfl (yB (dD q 27 32) hc) (yC (HS.out.below hb HS.out.lt) 4 rfl) zU21 rfl) (kR hK),
  fun ac W hb o q K hK => op_g (u := .pointer (some ⟨(w.heap.size + 1), 4, none⟩)) (wQ (dG q 26 31)) (fun hc => r_field 29 _ 4 rfl (yA (hO o 3)) zU29 rfl (n := 0) isz_21 rfl) (kR hK),
  fun ac W hb o q K hK => op_g (u := .int .i32 g.fl) (wQ (dG q 26 31)) (fun hc => r_load 21 _ rfl (yB (dD q 29 34) hc) (yC (HT.out.below hb HT.out.lt) 4 rfl) zU21 rfl) (kR hK),
  fun ac W hb o q K hK => op_g (u := .bool ((f.fl : Int) == g.fl)) (wQ (dG q 26 31)) (fun hc => r_ieq 21 _ _ _ rfl (yB (dD q 28 33) hc) (yB (dD q 30 35) hc)) (kR hK),
  fun ac W hb o q K hK => op_u (u := .bool (Oq4P5 f g ed ea)) rfl (r_and _ _ _ rfl (yA (dD q 26 31)) (fun hb => yB (dD q 31 36) (by simp [hb])) rfl) (kR hK),
  fun ac W hb o q K hK => op_u (u := .bool (Oq4P5 f g ed ea)) rfl (r_move _ rfl (yA (dD q 32 37))) (kR hK),
  fun ac W hb o q K hK => op_g (u := .pointer (some ⟨w.heap.size, 5, none⟩)) (wQ (dG q 33 38)) (fun hc => r_field 29 _ 5 rfl (yA (hO o 2)) zU29 rfl (n := 0) isz_21 rfl) (kR hK),
  fun ac W hb o q K hK => op_g (u := .int .i32 f.ve) (wQ (dG q 33 38)) (fun hc => r_load 21 _ rfl (yB (dD q 34 39) hc) (yC (HS.out.below hb HS.out.lt) 5 rfl) zU21 rfl) (kR hK),
  fun ac W hb o q K hK => op_g (u := .pointer (some ⟨(w.heap.size + 1), 5, none⟩)) (wQ (dG q 33 38)) (fun hc => r_field 29 _ 5 rfl (yA (hO o 3)) zU29 rfl (n := 0) isz_21 rfl) (kR hK),
  fun ac W hb o q K hK => op_g (u := .int .i32 g.ve) (wQ (dG q 33 38)) (fun hc => r_load 21 _ rfl (yB (dD q 36 41) hc) (yC (HT.out.below hb HT.out.lt) 5 rfl) zU21 rfl) (kR hK),
  fun ac W hb o q K hK => op_g (u := .bool ((f.ve : Int) == g.ve)) (wQ (dG q 33 38)) (fun hc => r_ieq 21 _ _ _ rfl (yB (dD q 35 40) hc) (yB (dD q 37 42) hc)) (kR hK),
  fun ac W hb o q K hK => op_u (u := .bool (Oq4P7 f g ed ea)) rfl (r_and _ _ _ rfl (yA (dD q 33 38)) (fun hb => yB (dD q 38 43) (by simp [hb])) rfl) (kR hK),
  fun ac W hb o q K hK => op_u (u := .bool (Oq4P7 f g ed ea)) rfl (r_move _ rfl (yA (dD q 39 44))) (kR hK),
  fun ac W hb o q K hK => op_g (u := .pointer (some ⟨w.heap.size, 6, none⟩)) (wQ (dG q 40 45)) (fun hc => r_field 29 _ 6 rfl (yA (hO o 2)) zU29 rfl (n := 0) isz_4 rfl) (kR hK),
  fun ac W hb o q K hK => op_g (u := .bool f.wa) (wQ (dG q 40 45)) (fun hc => r_load 4 _ rfl (yB (dD q 41 46) hc) (yC (HS.out.below hb HS.out.lt) 6 rfl) zU4 rfl) (kR hK),
  fun ac W hb o q K hK => op_g (u := .pointer (some ⟨(w.heap.size + 1), 6, none⟩)) (wQ (dG q 40 45)) (fun hc => r_field 29 _ 6 rfl (yA (hO o 3)) zU29 rfl (n := 0) isz_4 rfl) (kR hK),
  fun ac W hb o q K hK => op_g (u := .bool g.wa) (wQ (dG q 40 45)) (fun hc => r_load 4 _ rfl (yB (dD q 43 48) hc) (yC (HT.out.below hb HT.out.lt) 6 rfl) zU4 rfl) (kR hK),
  fun ac W hb o q K hK => op_g (u := .bool (f.wa == g.wa)) (wQ (dG q 40 45)) (fun hc => r_beq 4 _ _ _ rfl zU4 (yB (dD q 42 47) hc) (yB (dD q 44 49) hc)) (kR hK),
  fun ac W hb o q K hK => op_u (u := .bool (Oq4P9 f g ed ea)) rfl (r_and _ _ _ rfl (yA (dD q 40 45)) (fun hb => yB (dD q 45 50) (by simp [hb])) rfl) (kR hK),
  fun ac W hb o q K hK => op_u (u := .bool (Oq4P9 f g ed ea)) rfl (r_move _ rfl (yA (dD q 46 51))) (kR hK),
  fun ac W hb o q K hK => op_g (u := .pointer (some ⟨w.heap.size, 7, none⟩)) (wQ (dG q 47 52)) (fun hc => r_field 29 _ 7 rfl (yA (hO o 2)) zU29 rfl (n := 0) isz_2 rfl) (kR hK),
  fun ac W hb o q K hK => op_g (u := .int .i64 f.ct) (wQ (dG q 47 52)) (fun hc => r_load 2 _ rfl (yB (dD q 48 53) hc) (yC (HS.out.below hb HS.out.lt) 7 rfl) zU2 rfl) (kR hK),
  fun ac W hb o q K hK => op_g (u := .pointer (some ⟨(w.heap.size + 1), 7, none⟩)) (wQ (dG q 47 52)) (fun hc => r_field 29 _ 7 rfl (yA (hO o 3)) zU29 rfl (n := 0) isz_2 rfl) (kR hK),
  fun ac W hb o q K hK => op_g (u := .int .i64 g.ct) (wQ (dG q 47 52)) (fun hc => r_load 2 _ rfl (yB (dD q 50 55) hc) (yC (HT.out.below hb HT.out.lt) 7 rfl) zU2 rfl) (kR hK),
  fun ac W hb o q K hK => op_g (u := .bool ((f.ct : Int) == g.ct)) (wQ (dG q 47 52)) (fun hc => r_ieq 2 _ _ _ rfl (yB (dD q 49 54) hc) (yB (dD q 51 56) hc)) (kR hK),
  fun ac W hb o q K hK => op_u (u := .bool (Oq4P11 f g ed ea)) rfl (r_and _ _ _ rfl (yA (dD q 47 52)) (fun hb => yB (dD q 52 57) (by simp [hb])) rfl) (kR hK),
  fun ac W hb o q K hK => op_u (u := .bool (Oq4P11 f g ed ea)) rfl (r_move _ rfl (yA (dD q 53 58))) (kR hK),
  fun ac W hb o q K hK => op_g (u := .pointer (some ⟨w.heap.size, 8, none⟩)) (wQ (dG q 54 59)) (fun hc => r_field 29 _ 8 rfl (yA (hO o 2)) zU29 rfl (n := 0) isz_2 rfl) (kR hK),
  fun ac W hb o q K hK => op_g (u := .int .i64 f.by_) (wQ (dG q 54 59)) (fun hc => r_load 2 _ rfl (yB (dD q 55 60) hc) (yC (HS.out.below hb HS.out.lt) 8 rfl) zU2 rfl) (kR hK),
  fun ac W hb o q K hK => op_g (u := .pointer (some ⟨(w.heap.size + 1), 8, none⟩)) (wQ (dG q 54 59)) (fun hc => r_field 29 _ 8 rfl (yA (hO o 3)) zU29 rfl (n := 0) isz_2 rfl) (kR hK),
  fun ac W hb o q K hK => op_g (u := .int .i64 g.by_) (wQ (dG q 54 59)) (fun hc => r_load 2 _ rfl (yB (dD q 57 62) hc) (yC (HT.out.below hb HT.out.lt) 8 rfl) zU2 rfl) (kR hK),
  fun ac W hb o q K hK => op_g (u := .bool ((f.by_ : Int) == g.by_)) (wQ (dG q 54 59)) (fun hc => r_ieq 2 _ _ _ rfl (yB (dD q 56 61) hc) (yB (dD q 58 63) hc)) (kR hK),
  fun ac W hb o q K hK => op_u (u := .bool (Oq4P13 f g ed ea)) rfl (r_and _ _ _ rfl (yA (dD q 54 59)) (fun hb => yB (dD q 59 64) (by simp [hb])) rfl) (kR hK),
  fun ac W hb o q K hK => op_u (u := .bool (Oq4P13 f g ed ea)) rfl (r_move _ rfl (yA (dD q 60 65))) (kR hK),
  fun ac W hb o q K hK => op_g (u := .pointer (some ⟨w.heap.size, 16, none⟩)) (wQ (dG q 61 66)) (fun hc => r_field 29 _ 12 rfl (yA (hO o 2)) zU29 rfl (n := 0) isz_21 rfl) (kR hK),
  fun ac W hb o q K hK => op_g (u := .int .i32 f.to) (wQ (dG q 61 66)) (fun hc => r_load 21 _ rfl (yB (dD q 62 67) hc) (yC (HS.out.below hb HS.out.lt) 16 rfl) zU21 rfl) (kR hK),
  fun ac W hb o q K hK => op_g (u := .pointer (some ⟨(w.heap.size + 1), 16, none⟩)) (wQ (dG q 61 66)) (fun hc => r_field 29 _ 12 rfl (yA (hO o 3)) zU29 rfl (n := 0) isz_21 rfl) (kR hK),
  fun ac W hb o q K hK => op_g (u := .int .i32 g.to) (wQ (dG q 61 66)) (fun hc => r_load 21 _ rfl (yB (dD q 64 69) hc) (yC (HT.out.below hb HT.out.lt) 16 rfl) zU21 rfl) (kR hK),
  fun ac W hb o q K hK => op_g (u := .bool ((f.to : Int) == g.to)) (wQ (dG q 61 66)) (fun hc => r_ieq 21 _ _ _ rfl (yB (dD q 63 68) hc) (yB (dD q 65 70) hc)) (kR hK),
  fun ac W hb o q K hK => op_u (u := .bool (Oq4P15 f g ed ea)) rfl (r_and _ _ _ rfl (yA (dD q 61 66)) (fun hb => yB (dD q 66 71) (by simp [hb])) rfl) (kR hK),
  fun ac W hb o q K hK => op_u (u := .bool (Oq4P15 f g ed ea)) rfl (r_move _ rfl (yA (dD q 67 72))) (kR hK),
  fun ac W hb o q K hK => op_g (u := .pointer (some ⟨w.heap.size, 17, none⟩)) (wQ (dG q 68 73)) (fun hc => r_field 29 _ 13 rfl (yA (hO o 2)) zU29 rfl (n := 0) isz_26 rfl) (kR hK),
  fun ac W hb o q K hK => op_g (u := .slice i.A i.n i.c) (wQ (dG q 68 73)) (fun hc => r_load 26 _ rfl (yB (dD q 69 74) hc) (yC (HS.out.below hb HS.out.lt) 17 rfl) zU26 rfl) (kR hK),
  fun ac W hb o q K hK => op_g (u := .pointer (some ⟨(w.heap.size + 1), 17, none⟩)) (wQ (dG q 68 73)) (fun hc => r_field 29 _ 13 rfl (yA (hO o 3)) zU29 rfl (n := 0) isz_26 rfl) (kR hK),
  fun ac W hb o q K hK => op_g (u := .slice i'.A i'.n i'.c) (wQ (dG q 68 73)) (fun hc => r_load 26 _ rfl (yB (dD q 71 76) hc) (yC (HT.out.below hb HT.out.lt) 17 rfl) zU26 rfl) (kR hK),
  fun ac W hb o q K hK => op_call (u := .bool ei) (wQ (dG q 68 73)) 61 _ _ rfl (#[.slice i.A i.n i.c, .slice i'.A i'.n i'.c]) (fun hc => by simp [(yB (dD q 70 75) hc), (yB (dD q 72 77) hc)]) Tryd.func61 (by kernel_rfl) (by kernel_rfl) (fun hc => CI.out W (HB1.out.trans (hb.mono HB1.out.size))) (fun w' hbl => hK _ _ rfl hbl),
  fun ac W hb o q K hK => op_u (u := .bool ((Oq4P15 f g ed ea) && ei)) rfl (r_and _ _ _ rfl (yA (dD q 68 73)) (fun hb => yB (dD q 73 78) (by simp [hb])) rfl) (kR hK),
  fun ac W hb o q K hK => op_u (u := .bool ((Oq4P15 f g ed ea) && ei)) rfl (r_move _ rfl (yA (dD q 74 79))) (kR hK),
  fun ac W hb o q K hK => op_g (u := .pointer (some ⟨w.heap.size, 9, none⟩)) (wQ (dG q 75 80)) (fun hc => r_field 29 _ 9 rfl (yA (hO o 2)) zU29 rfl (n := 0) isz_2 rfl) (kR hK),
  fun ac W hb o q K hK => op_g (u := .int .i64 f.tl) (wQ (dG q 75 80)) (fun hc => r_load 2 _ rfl (yB (dD q 76 81) hc) (yC (HS.out.below hb HS.out.lt) 9 rfl) zU2 rfl) (kR hK),
  fun ac W hb o q K hK => op_g (u := .pointer (some ⟨(w.heap.size + 1), 9, none⟩)) (wQ (dG q 75 80)) (fun hc => r_field 29 _ 9 rfl (yA (hO o 3)) zU29 rfl (n := 0) isz_2 rfl) (kR hK),
  fun ac W hb o q K hK => op_g (u := .int .i64 g.tl) (wQ (dG q 75 80)) (fun hc => r_load 2 _ rfl (yB (dD q 78 83) hc) (yC (HT.out.below hb HT.out.lt) 9 rfl) zU2 rfl) (kR hK),
  fun ac W hb o q K hK => op_g (u := .bool ((f.tl : Int) == g.tl)) (wQ (dG q 75 80)) (fun hc => r_ieq 2 _ _ _ rfl (yB (dD q 77 82) hc) (yB (dD q 79 84) hc)) (kR hK),
  fun ac W hb o q K hK => op_u (u := .bool (Oq4P18 f g ed ea ei)) rfl (r_and _ _ _ rfl (yA (dD q 75 80)) (fun hb => yB (dD q 80 85) (by simp [hb])) rfl) (kR hK),
  fun ac W hb o q K hK => op_u (u := .bool (Oq4P18 f g ed ea ei)) rfl (r_move _ rfl (yA (dD q 81 86))) (kR hK),
  fun ac W hb o q K hK => op_g (u := .pointer (some ⟨w.heap.size, 10, none⟩)) (wQ (dG q 82 87)) (fun hc => r_field 29 _ 10 rfl (yA (hO o 2)) zU29 rfl (n := 0) isz_2 rfl) (kR hK),
  fun ac W hb o q K hK => op_g (u := .int .i64 f.zx) (wQ (dG q 82 87)) (fun hc => r_load 2 _ rfl (yB (dD q 83 88) hc) (yC (HS.out.below hb HS.out.lt) 10 rfl) zU2 rfl) (kR hK),
  fun ac W hb o q K hK => op_g (u := .pointer (some ⟨(w.heap.size + 1), 10, none⟩)) (wQ (dG q 82 87)) (fun hc => r_field 29 _ 10 rfl (yA (hO o 3)) zU29 rfl (n := 0) isz_2 rfl) (kR hK),
  fun ac W hb o q K hK => op_g (u := .int .i64 g.zx) (wQ (dG q 82 87)) (fun hc => r_load 2 _ rfl (yB (dD q 85 90) hc) (yC (HT.out.below hb HT.out.lt) 10 rfl) zU2 rfl) (kR hK),
  fun ac W hb o q K hK => op_g (u := .bool ((f.zx : Int) == g.zx)) (wQ (dG q 82 87)) (fun hc => r_ieq 2 _ _ _ rfl (yB (dD q 84 89) hc) (yB (dD q 86 91) hc)) (kR hK),
  fun ac W hb o q K hK => op_u (u := .bool (Oq4P20 f g ed ea ei)) rfl (r_and _ _ _ rfl (yA (dD q 82 87)) (fun hb => yB (dD q 87 92) (by simp [hb])) rfl) (kR hK),
  fun ac W hb o q K hK => op_u (u := .bool (Oq4P20 f g ed ea ei)) rfl (r_move _ rfl (yA (dD q 88 93))) (kR hK),
  fun ac W hb o q K hK => op_g (u := .pointer (some ⟨w.heap.size, 11, none⟩)) (wQ (dG q 89 94)) (fun hc => r_field 29 _ 11 rfl (yA (hO o 2)) zU29 rfl (n := 4) isz_25 rfl) (kR hK),
  fun ac W hb o q K hK => op_g (u := .slice (some ⟨w.heap.size, 11, none⟩) 5 5) (wQ (dG q 89 94)) (fun hc => r_array 25 _ rfl (yB (dD q 90 95) hc) zU25 (by decide) isz_24) (kR hK),
  fun ac W hb o q K hK => op_g (u := .pointer (some ⟨(w.heap.size + 1), 11, none⟩)) (wQ (dG q 89 94)) (fun hc => r_field 29 _ 11 rfl (yA (hO o 3)) zU29 rfl (n := 4) isz_25 rfl) (kR hK),
  fun ac W hb o q K hK => op_g (u := .slice (some ⟨(w.heap.size + 1), 11, none⟩) 5 5) (wQ (dG q 89 94)) (fun hc => r_array 25 _ rfl (yB (dD q 92 97) hc) zU25 (by decide) isz_24) (kR hK),
  fun ac W hb o q K hK => op_call (u := .bool el) (wQ (dG q 89 94)) 62 _ _ rfl (#[.slice (some ⟨w.heap.size, 11, none⟩) 5 5, .slice (some ⟨(w.heap.size + 1), 11, none⟩) 5 5, .func (.func 63) #[] #[]]) (fun hc => by simp [(yB (dD q 91 96) hc), (yB (dD q 93 98) hc), (show ac.eval (.func 63) = .func (.func 63) #[] #[] from rfl)]) Tryd.func62 (by kernel_rfl) (by kernel_rfl) (fun hc => CL.out W hb) (fun w' hbl => hK _ _ rfl hbl),
  fun ac W hb o q K hK => op_u (u := .bool ((Oq4P20 f g ed ea ei) && el)) rfl (r_and _ _ _ rfl (yA (dD q 89 94)) (fun hb => yB (dD q 94 99) (by simp [hb])) rfl) (kR hK),
  fun ac W hb o q K hK => op_u (u := .bool ((Oq4P20 f g ed ea ei) && el)) rfl (r_assign _ rfl (yA (dD q 95 100))) (kR hK), trivial⟩ ?_
 intro ae W hb hdef hlen hold hall
 have hv := dep_val (hall 96 4 rfl)
 have HB2 := Hi (HB1.out.trans (hb.mono HB1.out.size))
 clear hb hold hall hlen
 obtain ⟨tm, df⟩ := ae
 dsimp only at hdef hv
 subst hdef
 have HV := Hi hv
 clear hv
 go_wp2
 (try simp only [Exit.inBlock, Exit.then])
 refine bodyPost_ret (results_tmp rfl _ _ _) rfl ?_
 exact ⟨by rw [zP, HV.out]; rfl, HB2.out⟩
end Go.Proofs.YtpjjnmdfgcfnmaaDoor
