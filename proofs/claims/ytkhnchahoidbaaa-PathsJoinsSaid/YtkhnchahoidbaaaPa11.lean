/- Who is under whom; the order: the walks. -/
import Derived.Test.YtkhnchahoidbaaaPa10
namespace Go.Proofs.Ytkhnchahoidbaaa
open Go.RowKit

/-- is a the path, or above it? -/
def undB (a p : ByteArray) : Bool := (a.toList == p.toList) || (a.toList == [47]) || Lib.hasPrefix p.data.toList (a ++ ⟨#[47]⟩ : ByteArray).data.toList
def underB (a p : ByteArray) : Bool := okB a && okB p && undB a p

set_option maxRecDepth 100000 in
set_option maxHeartbeats 2000000 in
theorem under_any (a p : ByteArray) (ha : a.size ≤ 140737488355328) (w : World) (m : Int) (hm : w.cell? ⟨0, 0, none⟩ = some (.int .i64 m)) (hG : 0 < w.heap.size) :
    Calls Try.prog 13 #[.string a, .string p] w fun e w' => e = .returned (.bool (underB a p)) ∧ Below w.heap.size w w' := by
  have hcell : ∀ W, Below w.heap.size w W → W.cell? ⟨0, 0, none⟩ = some (.int .i64 m) := fun W hB => by
    rw [hB.cell (p := ⟨0, 0, none⟩) hG]
    exact hm
  have PA : ∀ W, Below w.heap.size w W → Calls Try.prog 9 #[.string a] W fun e w' => e = .returned (.bool (okB a)) ∧ Below W.heap.size W w' := fun W hB => valid_ok _ W m (hcell W hB) (Nat.lt_of_lt_of_le hG hB.size)
  have PP : ∀ W, Below w.heap.size w W → Calls Try.prog 9 #[.string p] W fun e w' => e = .returned (.bool (okB p)) ∧ Below W.heap.size W w' := fun W hB => valid_ok _ W m (hcell W hB) (Nat.lt_of_lt_of_le hG hB.size)
  have HPA := Lib.hid PA
  have HPP := Lib.hid PP
  clear hcell hm PA PP
  have hu : underB a p = (okB a && okB p && ((a.toList == p.toList) || (a.toList == [47]) || Lib.hasPrefix p.data.toList (a ++ ⟨#[47]⟩ : ByteArray).data.toList)) := rfl
  rcases Bool.eq_false_or_eq_true (okB a) with g1 | g1
  · rcases Bool.eq_false_or_eq_true (okB p) with g2 | g2
    · go_enter Try.func13, Try.ntmps13
      go_wp2_with (first
        | (go_at_call 9; refine (HPP.out _ hB2).mono ?_; rintro e w4 ⟨rfl, hb4⟩; have hB4 : Below w.heap.size w w4 := hB2.trans (hb4.mono hB2.size); rw [g2])
        | (go_at_call 9; refine (HPA.out _ (Below.refl _ _)).mono ?_; rintro e w2 ⟨rfl, hB2⟩; rw [g1])
        | (go_at_call 24; refine (hasPrefix_any _ _ _).mono ?_; rintro e w5 ⟨rfl, rfl⟩))
      all_goals
        go_ret
        exact ⟨retb (by rw [hu, g1, g2]; simp [*]), hB4⟩
    · have e : underB a p = false := by rw [hu, g1, g2]; rfl
      rw [e]
      go_enter Try.func13, Try.ntmps13
      go_wp2_with (first
        | (go_at_call 9; refine (HPP.out _ hB2).mono ?_; rintro e w4 ⟨rfl, hb4⟩; have hB4 : Below w.heap.size w w4 := hB2.trans (hb4.mono hB2.size); rw [g2])
        | (go_at_call 9; refine (HPA.out _ (Below.refl _ _)).mono ?_; rintro e w2 ⟨rfl, hB2⟩; rw [g1]))
      go_ret
      exact ⟨rfl, hB4⟩
  · have e : underB a p = false := by rw [hu, g1]; rfl
    rw [e]
    go_enter Try.func13, Try.ntmps13
    go_wp2_with (first
      | (go_at_call 9; refine (HPA.out _ (Below.refl _ _)).mono ?_; rintro e w2 ⟨rfl, hB2⟩; rw [g1]))
    go_ret
    exact ⟨rfl, hB2⟩
end Go.Proofs.Ytkhnchahoidbaaa
