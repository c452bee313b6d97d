/- Are two lists of bytes, two lists of permissions the same: the walks. (printed by gen_n6.py) -/
import Derived.Test.YtaojjjcaofhmcaaDoorSt
import Derived.Lib.SlicesS
import Derived.Deep.QuietTactic
import Derived.BigQuiet
set_option linter.unusedVariables false
set_option linter.unusedSimpArgs false
namespace Go.Proofs.YtaojjjcaofhmcaaDoor
open Go.RowKit

theorem toL_iff (x y : ByteArray) : x.toList = y.toList ↔ x = y := by
  rw [← Lib.bytes_beq_iff]; simp
theorem take_snoc_eq {α : Type} {L M : List α} {k : Nat} (h : L.take k = M.take k) (hl : k < L.length) (hm : k < M.length) (he : L[k] = M[k]) : L.take (k + 1) = M.take (k + 1) := by
  rw [List.take_succ_eq_append_getElem hl, List.take_succ_eq_append_getElem hm, h, he]
theorem list_ne_at {α : Type} {L M : List α} {k : Nat} (hl : k < L.length) (hm : k < M.length) (he : L[k] ≠ M[k]) : L ≠ M := fun e => by
  subst e; exact he rfl

set_option maxRecDepth 100000 in
theorem bytesEq_any (A : Option Addr) (n c B : Nat) (l : List UInt8) (A' : Option Addr) (n' c' B' : Nat) (l' : List UInt8) (w : World) (h : Reads w B 1 A n (bcells l)) (h' : Reads w B' 1 A' n' (bcells l')) :
    Calls Tryd.prog 59 #[.slice A n c, .slice A' n' c'] w fun e w' => e = .returned (.bool (decide (l = l'))) ∧ Below w.heap.size w w' := by
  have hcv := run_string_of_bytes (P := Tryd.prog) Tryd.underlying24 Tryd.underlying5 (c := c) h 9 Tryd.underlying9
  have hcv' := run_string_of_bytes (P := Tryd.prog) Tryd.underlying24 Tryd.underlying5 (c := c') h' 9 Tryd.underlying9
  clear h h'
  by_cases he : l = l'
  · subst he
    go_enter Tryd.func59, Tryd.ntmps59
    go_wp2
    go_ret
    exact ⟨by simp, Below.refl _ _⟩
  · have hne : ¬ (⟨l.toArray⟩ : ByteArray).toList = (⟨l'.toArray⟩ : ByteArray).toList := fun e => he (by
      have := congrArg (fun x : ByteArray => x.data.toList) ((toL_iff _ _).1 e)
      simpa using this)
    go_enter Tryd.func59, Tryd.ntmps59
    go_wp2
    go_ret
    exact ⟨by simp [he, hne], Below.refl _ _⟩


set_option maxRecDepth 100000 in
set_option maxHeartbeats 2000000 in
theorem aclsEq_any (A C : Option Addr) (n m c d : Nat) (L M : List AclT) (B : Nat) (w : World) (hn : n ≤ 9223372036854775807) (hm : m ≤ 9223372036854775807) (hBw : B ≤ w.heap.size) (ha : Reads w B 3 A n (aclCells L)) (hc : Reads w B 3 C m (aclCells M)) :
    Calls Tryd.prog 60 #[.slice A n c, .slice C m d] w fun e w' => e = .returned (.bool (decide (L = M))) ∧ Below w.heap.size w w' := by
  have hl : L.length = n := by have := ha.1; rw [aclCells_length] at this; omega
  have hm' : M.length = m := by have := hc.1; rw [aclCells_length] at this; omega
  by_cases hlm : (n : Int) = m
  rotate_left
  · have hne : L ≠ M := fun e => hlm (by rw [← hl, ← hm', e])
    have HNE := Lib.hid hne
    clear hne ha hc hl hm'
    go_enter Tryd.func60, Tryd.ntmps60
    go_wp2
    go_ret
    exact ⟨by simp [HNE.out], Below.refl _ _⟩
  obtain rfl : n = m := by omega
  have HL := Lib.hid hl
  have HM := Lib.hid hm'
  have HA := Lib.hid ha
  have HC := Lib.hid hc
  clear hl hm' ha hc hlm
  go_enter Tryd.func60, Tryd.ntmps60
  go_wp2
  go_loopw [13] (fun k' wr => ∃ k : Nat, k ≤ n ∧ k' = .int .i64 k ∧ Hid (L.take k = M.take k) ∧ Below w.heap.size w wr) (fun k' _ => n - (intOf k').toNat)
  case atStart => exact ⟨0, Nat.zero_le _, rfl, by unfold Hid; simp, Below.refl _ _⟩
  case round =>
    obtain ⟨k, hk, rfl, HT, hB⟩ := hrel
    have HB := Lib.hid hB
    by_cases hlt : k < n
    · obtain ⟨b, off, rfl, _, hx⟩ := (HA.out.below (hB.mono hBw)).plain (by omega) (by omega)
      obtain ⟨b', off', rfl, _, hy⟩ := (HC.out.below (hB.mono hBw)).plain (by omega) (by omega)
      have hkl : k < L.length := by rw [HL.out]; exact hlt
      have hkm : k < M.length := by rw [HM.out]; exact hlt
      obtain ⟨g0, g1, g2⟩ := aclCells_get L k hkl
      obtain ⟨g3, g4, g5⟩ := aclCells_get M k hkm
      have x0 := hx _ _ g0
      have x1 := hx _ _ g1
      have x2 := hx _ _ g2
      have y0 := hy _ _ g3
      have y1 := hy _ _ g4
      have y2 := hy _ _ g5
      simp only [← Nat.add_assoc] at x1 x2 y1 y2
      have hst := take_snoc_eq HT.out hkl hkm
      have hno : L[k] ≠ M[k] → L ≠ M := list_ne_at hkl hkm
      obtain ⟨qa, hqa⟩ : ∃ a, a = L[k] := ⟨_, rfl⟩
      obtain ⟨ra, hra⟩ : ∃ a, a = M[k] := ⟨_, rfl⟩
      rw [← hqa] at x0 x1 x2 hst hno
      rw [← hra] at y0 y1 y2 hst hno
      obtain ⟨q0, q1, q2⟩ := qa
      obtain ⟨r0, r1, r2⟩ := ra
      dsimp only at x0 x1 x2 y0 y1 y2
      clear hx hy g0 g1 g2 g3 g4 g5 hqa hra hkl hkm hB HT
      by_cases e0 : q0 = r0
      · by_cases e1 : q1 = r1
        · by_cases e2 : q2 = r2
          · subst e0 e1 e2
            have HST := Lib.hid (hst rfl)
            clear hst hno
            go_wp2
            go_quiet (fail)
            go_wp2
            go_ways
            go_roundw
            case rel => exact ⟨k + 1, by omega, by go_num, HST.out, below_drewN' HB.out _⟩
            case measure => simp [intOf]; omega
          · have HNO := Lib.hid (hno (fun e => e2 (by injection e with _ e; injection e)))
            have e2' : ¬ q2.toList = r2.toList := fun e => e2 ((toL_iff _ _).1 e)
            subst e0 e1
            clear hst hno
            go_wp2
            go_quiet (fail)
            go_wp2
            go_ways
            go_ret
            exact ⟨by simp [HNO.out], below_drewN' HB.out _⟩
        · have HNO := Lib.hid (hno (fun e => e1 (by injection e with _ e; injection e)))
          have e1' : ¬ q1.toList = r1.toList := fun e => e1 ((toL_iff _ _).1 e)
          subst e0
          clear hst hno
          go_wp2
          go_quiet (fail)
          go_wp2
          go_ways
          go_ret
          exact ⟨by simp [HNO.out], below_drewN' HB.out _⟩
      · have HNO := Lib.hid (hno (fun e => e0 (by injection e)))
        clear hst hno
        go_wp2
        go_quiet (fail)
        go_wp2
        go_ways
        go_ret
        exact ⟨by simp [HNO.out], below_drewN' HB.out _⟩
    · have e : L = M := by have := HT.out; rwa [List.take_of_length_le (by rw [HL.out]; omega), List.take_of_length_le (by rw [HM.out]; omega)] at this
      have HE := Lib.hid e
      clear e HT hB
      go_wp2
      go_ret
      exact ⟨by simp [HE.out], HB.out⟩

set_option maxRecDepth 100000 in
set_option maxHeartbeats 2000000 in
theorem refAcls_any (A C : Option Addr) (n m c d : Nat) (L M : List AclT) (B : Nat) (w : World) (hn : n ≤ 9223372036854775807) (hm : m ≤ 9223372036854775807) (hBw : B ≤ w.heap.size) (ha : Reads w B 3 A n (aclCells L)) (hc : Reads w B 3 C m (aclCells M)) :
    Calls Tryd.prog 61 #[.slice A n c, .slice C m d] w fun e w' => e = .returned (.bool (decide (L = M))) ∧ Below w.heap.size w w' := by
  have hl : L.length = n := by have := ha.1; rw [aclCells_length] at this; omega
  have hm' : M.length = m := by have := hc.1; rw [aclCells_length] at this; omega
  by_cases hlm : (n : Int) = m
  rotate_left
  · have hne : L ≠ M := fun e => hlm (by rw [← hl, ← hm', e])
    have HNE := Lib.hid hne
    clear hne ha hc hl hm'
    go_enter Tryd.func61, Tryd.ntmps61
    go_wp2
    go_ret
    exact ⟨by simp [HNE.out], Below.refl _ _⟩
  obtain rfl : n = m := by omega
  have HL := Lib.hid hl
  have HM := Lib.hid hm'
  have HA := Lib.hid ha
  have HC := Lib.hid hc
  clear hl hm' ha hc hlm
  go_enter Tryd.func61, Tryd.ntmps61
  go_wp2
  go_loopw [5] (fun k' wr => ∃ k : Nat, k ≤ n ∧ k' = .int .i64 k ∧ Hid (L.take k = M.take k) ∧ Below w.heap.size w wr) (fun k' _ => n - (intOf k').toNat)
  case atStart => exact ⟨0, Nat.zero_le _, rfl, by unfold Hid; simp, Below.refl _ _⟩
  case round =>
    obtain ⟨k, hk, rfl, HT, hB⟩ := hrel
    have HB := Lib.hid hB
    by_cases hlt : k < n
    · obtain ⟨b, off, rfl, _, hx⟩ := (HA.out.below (hB.mono hBw)).plain (by omega) (by omega)
      obtain ⟨b', off', rfl, _, hy⟩ := (HC.out.below (hB.mono hBw)).plain (by omega) (by omega)
      have hkl : k < L.length := by rw [HL.out]; exact hlt
      have hkm : k < M.length := by rw [HM.out]; exact hlt
      obtain ⟨g0, g1, g2⟩ := aclCells_get L k hkl
      obtain ⟨g3, g4, g5⟩ := aclCells_get M k hkm
      have x0 := hx _ _ g0
      have x1 := hx _ _ g1
      have x2 := hx _ _ g2
      have y0 := hy _ _ g3
      have y1 := hy _ _ g4
      have y2 := hy _ _ g5
      simp only [← Nat.add_assoc] at x1 x2 y1 y2
      have hst := take_snoc_eq HT.out hkl hkm
      have hno : L[k] ≠ M[k] → L ≠ M := list_ne_at hkl hkm
      obtain ⟨qa, hqa⟩ : ∃ a, a = L[k] := ⟨_, rfl⟩
      obtain ⟨ra, hra⟩ : ∃ a, a = M[k] := ⟨_, rfl⟩
      rw [← hqa] at x0 x1 x2 hst hno
      rw [← hra] at y0 y1 y2 hst hno
      obtain ⟨q0, q1, q2⟩ := qa
      obtain ⟨r0, r1, r2⟩ := ra
      dsimp only at x0 x1 x2 y0 y1 y2
      clear hx hy g0 g1 g2 g3 g4 g5 hqa hra hkl hkm hB HT
      by_cases e0 : q0 = r0
      · by_cases e1 : q1 = r1
        · by_cases e2 : q2 = r2
          · subst e0 e1 e2
            have HST := Lib.hid (hst rfl)
            clear hst hno
            go_wp2
            go_quiet (fail)
            go_wp2
            go_ways
            go_roundw
            case rel => exact ⟨k + 1, by omega, by go_num, HST.out, below_drewN' HB.out _⟩
            case measure => simp [intOf]; omega
          · have HNO := Lib.hid (hno (fun e => e2 (by injection e with _ e; injection e)))
            have e2' : ¬ q2.toList = r2.toList := fun e => e2 ((toL_iff _ _).1 e)
            subst e0 e1
            clear hst hno
            go_wp2
            go_quiet (fail)
            go_wp2
            go_ways
            go_ret
            exact ⟨by simp [HNO.out], below_drewN' HB.out _⟩
        · have HNO := Lib.hid (hno (fun e => e1 (by injection e with _ e; injection e)))
          have e1' : ¬ q1.toList = r1.toList := fun e => e1 ((toL_iff _ _).1 e)
          subst e0
          clear hst hno
          go_wp2
          go_quiet (fail)
          go_wp2
          go_ways
          go_ret
          exact ⟨by simp [HNO.out], below_drewN' HB.out _⟩
      · have HNO := Lib.hid (hno (fun e => e0 (by injection e)))
        clear hst hno
        go_wp2
        go_quiet (fail)
        go_wp2
        go_ways
        go_ret
        exact ⟨by simp [HNO.out], below_drewN' HB.out _⟩
    · have e : L = M := by have := HT.out; rwa [List.take_of_length_le (by rw [HL.out]; omega), List.take_of_length_le (by rw [HM.out]; omega)] at this
      have HE := Lib.hid e
      clear e HT hB
      go_wp2
      go_ret
      exact ⟨by simp [HE.out], HB.out⟩
end Go.Proofs.YtaojjjcaofhmcaaDoor
/- A node as it reads. -/
namespace Go.Proofs.YtaojjjcaofhmcaaDoor
open Go.RowKit

/-- a node as it reads -/
structure Nd where
  p : ByteArray
  (o cz mz pz az qz ct mt ve cr av : Int)
  qh : Bool
  (qc qb : Int)
  l : List UInt8
  L : List AclT
  deriving DecidableEq
end Go.Proofs.YtaojjjcaofhmcaaDoor
