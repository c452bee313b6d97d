/- A request's bytes: read back; what was read is written as it was; cut, grown: plain. -/
import Derived.Test.YtpjjnmdfgcfnmaaGreatDoorOb2
import Derived.Test.YtpjjnmdfgcfnmaaGreatDoorOq30
set_option linter.unusedVariables false
set_option linter.unusedSimpArgs false
namespace Go.Proofs.YtpjjnmdfgcfnmaaGreatDoor
open Go.RowKit

theorem encE_parts {x : OpC} (h : x.encE = 0) : x.rightE = 0 ∧ kindN x.f.t ≠ 5 := by
  unfold OpC.encE at h
  split at h
  · exact absurd h ‹_›
  rename_i h1
  split at h
  · cases h
  · exact ⟨by simpa using h1, by assumption⟩
theorem rightE_parts {x : OpC} (h : x.rightE = 0) : x.allE = 0 ∧ x.depth ≤ 8 ∧ x.parts ≤ 1024 ∧ x.multis ≤ 1024 := by
  unfold OpC.rightE at h
  split at h
  · exact absurd h ‹_›
  rename_i h1
  split at h
  · cases h
  rename_i h2
  simp only [Bool.or_eq_true, decide_eq_true_eq, not_or] at h2
  exact ⟨by simpa using h1, by omega, by omega, by omega⟩
theorem rightE_mk {x : OpC} (h1 : x.allE = 0) (h2 : x.depth ≤ 8) (h3 : x.parts ≤ 1024) (h4 : x.multis ≤ 1024) : x.rightE = 0 := by
  unfold OpC.rightE
  rw [if_neg (by simpa using h1), if_neg]
  simp only [Bool.or_eq_true, decide_eq_true_eq, not_or]
  omega
theorem req_back {z : Int} {x : OpC} (h : x.encE = 0) (hg : x.good) (hz : (Lit.int .i32 z).wf = true) (rest : List UInt8) : gReq (encB z x ++ rest) 0 = .inl ((z, x), (encB z x).length) := by
  obtain ⟨l, hl⟩ : ∃ l, l = encB z x ++ rest := ⟨_, rfl⟩
  have ha : Atb l 0 (encB z x) := by rw [hl]; exact (Atb.all _).left
  rw [← hl]
  unfold encB at ha ⊢
  obtain ⟨h1, h5⟩ := encE_parts h
  obtain ⟨a1, a2, a3, a4⟩ := rightE_parts h1
  have hwf : (Lit.int .i32 x.f.t).wf = true := by
    obtain ⟨f, S⟩ := x
    rw [OpC.good] at hg
    exact hg.1.t
  have e1 := wb_int hz l 0 ha.left.left
  have e2 := wb_int hwf l _ ha.left.right
  have hr := ha.right
  rw [List.length_append, ← Nat.add_assoc] at hr
  have e3 := op_back x (l.length + 1) ⟨0, 1, 0⟩ l (0 + (bInt z).length + (bInt x.f.t).length) a1 hg h5 (fun ht => by
    obtain ⟨f, S⟩ := x
    have ht : f.t = 14 := ht
    rw [OpC.depth, if_pos ht] at a2
    rw [OpC.parts, if_pos ht] at a3
    rw [OpC.multis, if_pos ht] at a4
    show 0 + partsL S ≤ 1024 ∧ 1 + multisL S ≤ 1024 ∧ 0 + 1 + depthL S ≤ 8
    omega) hr (by omega)
  unfold gReq
  rw [gb_ev e1, gb_ev e2]
  unfold Rg.map gOp Rg.map
  rw [e3]
  simp only [List.length_append, Nat.zero_add]
theorem decO_of {l : List UInt8} {y : Int × OpC} {q : Nat} (h : gReq l 0 = .inl (y, q)) : decO l = if q < l.length then .inl ((q : Int), 21) else .inr y := by
  unfold decO
  rw [h]
theorem decO_eq {l : List UInt8} {y : Int × OpC} {q : Nat} (h : gReq l 0 = .inl (y, q)) (hq : q = l.length) : decO l = .inr y := by
  rw [decO_of h, if_neg (by omega)]
theorem decO_lt {l : List UInt8} {y : Int × OpC} {q : Nat} (h : gReq l 0 = .inl (y, q)) (hq : q < l.length) : decO l = .inl ((q : Int), 21) := by
  rw [decO_of h, if_pos hq]
theorem dec_back {z : Int} {x : OpC} (h : x.encE = 0) (hg : x.good) (hz : (Lit.int .i32 z).wf = true) : decO (encB z x) = .inr (z, x) := by
  have := req_back h hg hz []
  rw [List.append_nil] at this
  exact decO_eq this rfl
theorem dec_more {z : Int} {x : OpC} (h : x.encE = 0) (hg : x.good) (hz : (Lit.int .i32 z).wf = true) {rest : List UInt8} (hr : 0 < rest.length) : decO (encB z x ++ rest) = .inl (((encB z x).length : Int), 21) := by
  exact decO_lt (req_back h hg hz rest) (by rw [List.length_append]; omega)
end Go.Proofs.YtpjjnmdfgcfnmaaGreatDoor
