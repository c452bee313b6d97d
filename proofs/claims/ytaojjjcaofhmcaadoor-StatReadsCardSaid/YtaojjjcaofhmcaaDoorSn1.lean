/- A node's permissions: which are too great, which are no text: the walks of the program's closures and of the document's loop. (printed by gen_n1.py) -/
import Derived.Test.YtaojjjcaofhmcaaDoorSt
import Derived.Test.YtaojjjcaofhmcaaDoorJta
import Derived.Test.YtaojjjcaofhmcaaDoorJenv
import Derived.Test.YtaojjjcaofhmcaaDoorShelf
set_option linter.unusedVariables false
set_option linter.unusedSimpArgs false
namespace Go.Proofs.YtaojjjcaofhmcaaDoor
open Go.RowKit

def aclBig (a : AclT) : Bool := decide ((256 : Int) < a.2.1.size) || decide ((256 : Int) < a.2.2.size)
def aclBad (a : AclT) : Bool := !Lib.validD a.2.1.data.toList || !Lib.validD a.2.2.data.toList
/-- its texts have a length -/
def aclFit (a : AclT) : Prop := a.2.1.size ≤ 4611686018427387904 ∧ a.2.2.size ≤ 4611686018427387904

theorem vstr_any (s : ByteArray) (w : World) (hs : s.size ≤ 9223372036854775807) (hT : Lib.Utf8Tabs 0 1 w) :
    Calls Tryd.prog 56 #[.string s] w fun e w' => e = .returned (.bool (Lib.validD s.data.toList)) ∧ Below w.heap.size w w' := Any.utf8_ValidString Tryd.lays196 s w hs hT

set_option maxRecDepth 100000 in
theorem clBig_any (z : Int) (s i : ByteArray) (w : World) :
    Calls Tryd.prog 54 #[.agg #[.int .i32 z, .string s, .string i]] w fun e w' => e = .returned (.bool (aclBig (z, s, i))) ∧ Below w.heap.size w w' := by
  have hb : ∀ o, Below w.heap.size w (w.alloc o) := fun o => (Below.refl _ _).alloc (Nat.le_refl _) _
  have HB := Lib.hid hb
  clear hb
  by_cases h1 : (256 : Int) < s.size
  · go_enter Tryd.func54, Tryd.ntmps54
    go_wp2
    go_ret
    exact ⟨by simp [aclBig, h1], HB.out _⟩
  · by_cases h2 : (256 : Int) < i.size
    · go_enter Tryd.func54, Tryd.ntmps54
      go_wp2
      go_ret
      exact ⟨by simp [aclBig, h1, h2], HB.out _⟩
    · go_enter Tryd.func54, Tryd.ntmps54
      go_wp2
      go_ret
      exact ⟨by simp [aclBig, h1, h2], HB.out _⟩

set_option maxRecDepth 100000 in
set_option maxHeartbeats 2000000 in
theorem clBad_any (z : Int) (s i : ByteArray) (hf : aclFit (z, s, i)) (w : World) (hE : Env w) :
    Calls Tryd.prog 55 #[.agg #[.int .i32 z, .string s, .string i]] w fun e w' => e = .returned (.bool (aclBad (z, s, i))) ∧ Below w.heap.size w w' := by
  obtain ⟨w1, hw1⟩ : ∃ w1, w.alloc (.cells #[.int .i32 z, .string s, .string i] 57) = w1 := ⟨_, rfl⟩
  have hb1 : Below w.heap.size w w1 := by rw [← hw1]; exact (Below.refl _ _).alloc (Nat.le_refl _) _
  have hS : Blk w1 w.heap.size 57 #[.int .i32 z, .string s, .string i] := by rw [← hw1]; exact Blk.new _ _ _
  have hf1 : s.size ≤ 9223372036854775807 := by have := hf.1; simp at this; omega
  have hf2 : i.size ≤ 9223372036854775807 := by have := hf.2; simp at this; omega
  have hg : w.heap.size < w1.heap.size := by rw [← hw1]; simp
  have k1 : w1.cell? ⟨w.heap.size, 1, none⟩ = some (.string s) := (hS.cell 1).trans rfl
  have HE1 := Lib.hid (hE.below hb1)
  have HB1 := Lib.hid hb1
  have HS := Lib.hid hS
  have HG := Lib.hid hg
  have c1 := vstr_any s w1 hf1 HE1.out.tab
  have c2 := fun W (h : Below w1.heap.size w1 W) => vstr_any i W hf2 (HE1.out.below h).tab
  have hab : aclBad (z, s, i) = (!Lib.validD s.data.toList || !Lib.validD i.data.toList) := rfl
  rw [hab]
  clear hb1 hS hg hE hf hab
  generalize Lib.validD s.data.toList = v1 at c1 ⊢
  generalize Lib.validD i.data.toList = v2 at c2 ⊢
  have C1 := Lib.hid c1
  have C2 := Lib.hid c2
  clear c1 c2
  cases v1 with
  | false =>
    go_enter Tryd.func55, Tryd.ntmps55
    go_wp2_with (go_at_call 56; (with_reducible refine C1.out.mono ?_); rintro e w2 ⟨rfl, hb⟩; have HB2 := Lib.hid hb; clear hb)
    go_ret
    exact ⟨rfl, HB1.out.trans (HB2.out.mono HB1.out.size)⟩
  | true =>
    cases v2 with
    | false =>
      go_enter Tryd.func55, Tryd.ntmps55
      go_wp2_with (first
        | (go_at_call 56; (with_reducible refine C1.out.mono ?_); rintro e w2 ⟨rfl, hb⟩; have k2 : w2.cell? ⟨w.heap.size, 2, none⟩ = some (.string i) := ((HS.out.below hb HG.out).cell 2).trans rfl; have HB2 := Lib.hid hb; clear hb)
        | (go_at_call 56; (with_reducible refine (C2.out _ HB2.out).mono ?_); rintro e w3 ⟨rfl, hb⟩; have HB3 : Hid (Below w1.heap.size w1 w3) := HB2.out.trans (hb.mono HB2.out.size); clear hb))
      go_ret
      exact ⟨rfl, HB1.out.trans (HB3.out.mono HB1.out.size)⟩
    | true =>
      go_enter Tryd.func55, Tryd.ntmps55
      go_wp2_with (first
        | (go_at_call 56; (with_reducible refine C1.out.mono ?_); rintro e w2 ⟨rfl, hb⟩; have k2 : w2.cell? ⟨w.heap.size, 2, none⟩ = some (.string i) := ((HS.out.below hb HG.out).cell 2).trans rfl; have HB2 := Lib.hid hb; clear hb)
        | (go_at_call 56; (with_reducible refine (C2.out _ HB2.out).mono ?_); rintro e w3 ⟨rfl, hb⟩; have HB3 : Hid (Below w1.heap.size w1 w3) := HB2.out.trans (hb.mono HB2.out.size); clear hb))
      go_ret
      exact ⟨rfl, HB1.out.trans (HB3.out.mono HB1.out.size)⟩


set_option maxRecDepth 100000 in
set_option maxHeartbeats 1000000 in
theorem indexBig_any (A : Option Addr) (n c B : Nat) (L : List AclT) (w : World) (hn : n ≤ 9223372036854775807) (hBw : B ≤ w.heap.size) (ha : Reads w B 3 A n (aclCells L)) :
    Calls Tryd.prog 92 #[.slice A n c, .func (.func 54) #[] #[]] w fun e w' => ∃ z : Int, e = .returned (.int .i64 z) ∧ decide (0 ≤ z) = L.any aclBig ∧ Below w.heap.size w w' := by
  have hl : L.length = n := by have := ha.1; rw [aclCells_length] at this; omega
  subst hl
  have HA := Lib.hid ha
  clear ha
  go_enter Tryd.func92, Tryd.ntmps92
  go_wp2
  go_loopw [8] (fun k' wr => ∃ k : Nat, k ≤ L.length ∧ k' = .int .i64 k ∧ Hid ((L.take k).any aclBig = false) ∧ Below w.heap.size w wr) (fun k' _ => L.length - (intOf k').toNat)
  case atStart => exact ⟨0, Nat.zero_le _, rfl, by unfold Hid; simp, Below.refl _ _⟩
  case round =>
    obtain ⟨k, hk, rfl, HT, hB⟩ := hrel
    have HB := Lib.hid hB
    by_cases hlt : k < L.length
    · obtain ⟨b, off, rfl, _, hx⟩ := (HA.out.below (hB.mono hBw)).plain (by omega) (by omega)
      obtain ⟨g0, g1, g2⟩ := aclCells_get L k hlt
      have x0 := hx _ _ g0
      have x1 := hx _ _ g1
      have x2 := hx _ _ g2
      simp only [← Nat.add_assoc] at x1 x2
      have hpk : (L.take (k + 1)).any aclBig = aclBig L[k] := by rw [List.take_succ_eq_append_getElem hlt, List.any_append, HT.out]; simp
      have hmem : aclBig L[k] = true → L.any aclBig = true := fun h => List.any_eq_true.2 ⟨_, List.getElem_mem hlt, h⟩
      clear hx g0 g1 g2 hB
      obtain ⟨a, haL⟩ : ∃ a, a = L[k] := ⟨_, rfl⟩
      rw [← haL] at x0 x1 x2 hpk hmem
      obtain ⟨q0, q1, q2⟩ := a
      dsimp only at x0 x1 x2
      clear haL
      have HP := Lib.hid hpk
      have HM := Lib.hid hmem
      have hc := (clBig_any q0 q1 q2 wr)
      clear hpk hmem
      generalize aclBig (q0, q1, q2) = bb at HP HM hc
      have HC := Lib.hid hc
      clear hc
      cases bb with
      | true =>
        go_wp2_with (go_at_call 54; refine HC.out.mono ?_; rintro e w2 ⟨rfl, hb⟩; have HB2 : Hid (Below w.heap.size w w2) := HB.out.trans (hb.mono HB.out.size); clear hb)
        go_ret
        exact ⟨k, rfl, by rw [HM.out (by first | rfl | trivial)]; simp, HB2.out⟩
      | false =>
        go_wp2_with (go_at_call 54; refine HC.out.mono ?_; rintro e w2 ⟨rfl, hb⟩; have HB2 : Hid (Below w.heap.size w w2) := HB.out.trans (hb.mono HB.out.size); clear hb)
        go_roundw
        case rel => exact ⟨k + 1, by omega, by go_num, HP.out, HB2.out⟩
        case measure => simp [intOf]; omega
    · have e : L.any aclBig = false := by have := HT.out; rwa [List.take_of_length_le (by omega)] at this
      have HEE := Lib.hid e
      clear e hB HT
      go_wp2
      go_ret
      exact ⟨-1, rfl, by rw [HEE.out]; rfl, HB.out⟩

set_option maxRecDepth 100000 in
theorem containsBig_any (A : Option Addr) (n c B : Nat) (L : List AclT) (w : World) (hn : n ≤ 9223372036854775807) (hBw : B ≤ w.heap.size) (ha : Reads w B 3 A n (aclCells L)) :
    Calls Tryd.prog 53 #[.slice A n c, .func (.func 54) #[] #[]] w fun e w' => e = .returned (.bool (L.any aclBig)) ∧ Below w.heap.size w w' := by
  have hrd := indexBig_any A n c B L w hn hBw ha
  have HR := Lib.hid hrd
  clear hrd ha
  go_enter Tryd.func53, Tryd.ntmps53
  go_wp2_with (go_at_call 92; refine HR.out.mono ?_; rintro e w2 ⟨z, rfl, hz, hb⟩; have HB := Lib.hid hb; have HZ := Lib.hid hz; clear hb hz)
  go_ret
  exact ⟨by show Ending.returned (.bool (decide (0 ≤ z))) = _; rw [HZ.out], HB.out⟩

set_option maxRecDepth 100000 in
set_option maxHeartbeats 1000000 in
theorem indexBad_any (A : Option Addr) (n c B : Nat) (L : List AclT) (w : World) (hn : n ≤ 9223372036854775807) (hBw : B ≤ w.heap.size) (ha : Reads w B 3 A n (aclCells L)) (hE : Env w) (hfit : ∀ a ∈ L, aclFit a) :
    Calls Tryd.prog 92 #[.slice A n c, .func (.func 55) #[] #[]] w fun e w' => ∃ z : Int, e = .returned (.int .i64 z) ∧ decide (0 ≤ z) = L.any aclBad ∧ Below w.heap.size w w' := by
  have hl : L.length = n := by have := ha.1; rw [aclCells_length] at this; omega
  subst hl
  have HA := Lib.hid ha
  clear ha
  have HE := Lib.hid hE
  have HF := Lib.hid hfit
  clear hE hfit
  go_enter Tryd.func92, Tryd.ntmps92
  go_wp2
  go_loopw [8] (fun k' wr => ∃ k : Nat, k ≤ L.length ∧ k' = .int .i64 k ∧ Hid ((L.take k).any aclBad = false) ∧ Below w.heap.size w wr) (fun k' _ => L.length - (intOf k').toNat)
  case atStart => exact ⟨0, Nat.zero_le _, rfl, by unfold Hid; simp, Below.refl _ _⟩
  case round =>
    obtain ⟨k, hk, rfl, HT, hB⟩ := hrel
    have HB := Lib.hid hB
    by_cases hlt : k < L.length
    · obtain ⟨b, off, rfl, _, hx⟩ := (HA.out.below (hB.mono hBw)).plain (by omega) (by omega)
      obtain ⟨g0, g1, g2⟩ := aclCells_get L k hlt
      have x0 := hx _ _ g0
      have x1 := hx _ _ g1
      have x2 := hx _ _ g2
      simp only [← Nat.add_assoc] at x1 x2
      have hpk : (L.take (k + 1)).any aclBad = aclBad L[k] := by rw [List.take_succ_eq_append_getElem hlt, List.any_append, HT.out]; simp
      have hmem : aclBad L[k] = true → L.any aclBad = true := fun h => List.any_eq_true.2 ⟨_, List.getElem_mem hlt, h⟩
      have hfk : aclFit L[k] := HF.out _ (List.getElem_mem hlt)
      clear hx g0 g1 g2 hB
      obtain ⟨a, haL⟩ : ∃ a, a = L[k] := ⟨_, rfl⟩
      rw [← haL] at x0 x1 x2 hpk hmem hfk
      obtain ⟨q0, q1, q2⟩ := a
      dsimp only at x0 x1 x2
      clear haL
      have HP := Lib.hid hpk
      have HM := Lib.hid hmem
      have hc := (clBad_any q0 q1 q2 hfk wr (HE.out.below HB.out))
      clear hpk hmem
      generalize aclBad (q0, q1, q2) = bb at HP HM hc
      have HC := Lib.hid hc
      clear hc
      cases bb with
      | true =>
        go_wp2_with (go_at_call 55; refine HC.out.mono ?_; rintro e w2 ⟨rfl, hb⟩; have HB2 : Hid (Below w.heap.size w w2) := HB.out.trans (hb.mono HB.out.size); clear hb)
        go_ret
        exact ⟨k, rfl, by rw [HM.out (by first | rfl | trivial)]; simp, HB2.out⟩
      | false =>
        go_wp2_with (go_at_call 55; refine HC.out.mono ?_; rintro e w2 ⟨rfl, hb⟩; have HB2 : Hid (Below w.heap.size w w2) := HB.out.trans (hb.mono HB.out.size); clear hb)
        go_roundw
        case rel => exact ⟨k + 1, by omega, by go_num, HP.out, HB2.out⟩
        case measure => simp [intOf]; omega
    · have e : L.any aclBad = false := by have := HT.out; rwa [List.take_of_length_le (by omega)] at this
      have HEE := Lib.hid e
      clear e hB HT
      go_wp2
      go_ret
      exact ⟨-1, rfl, by rw [HEE.out]; rfl, HB.out⟩

set_option maxRecDepth 100000 in
theorem containsBad_any (A : Option Addr) (n c B : Nat) (L : List AclT) (w : World) (hn : n ≤ 9223372036854775807) (hBw : B ≤ w.heap.size) (ha : Reads w B 3 A n (aclCells L)) (hE : Env w) (hfit : ∀ a ∈ L, aclFit a) :
    Calls Tryd.prog 53 #[.slice A n c, .func (.func 55) #[] #[]] w fun e w' => e = .returned (.bool (L.any aclBad)) ∧ Below w.heap.size w w' := by
  have hrd := indexBad_any A n c B L w hn hBw ha hE hfit
  have HR := Lib.hid hrd
  clear hrd ha hE hfit
  go_enter Tryd.func53, Tryd.ntmps53
  go_wp2_with (go_at_call 92; refine HR.out.mono ?_; rintro e w2 ⟨z, rfl, hz, hb⟩; have HB := Lib.hid hb; have HZ := Lib.hid hz; clear hb hz)
  go_ret
  exact ⟨by show Ending.returned (.bool (decide (0 ≤ z))) = _; rw [HZ.out], HB.out⟩
end Go.Proofs.YtaojjjcaofhmcaaDoor
