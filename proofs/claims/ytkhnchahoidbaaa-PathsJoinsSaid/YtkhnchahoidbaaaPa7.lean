/- PathsChecks: the walk of the law. -/
import Derived.Test.YtkhnchahoidbaaaPa6
import Derived.Test.YtkhnchahoidbaaaStill
import Derived.SizedLaws
import Derived.Test.YtkhnchahoidbaaaOpen
namespace Go.Proofs.Ytkhnchahoidbaaa
open Go.RowKit

theorem size_append (a b : ByteArray) : (a ++ b).size = a.size + b.size := ByteArray.size_append

section
variable (s : ByteArray) (hs : s.size ≤ 140737488355327) (w : World) (m : Int) (hm : w.cell? ⟨0, 0, none⟩ = some (.int .i64 m)) (hG : 0 < w.heap.size)
include hs hm hG

theorem prefix_any : Calls Try.prog 7 #[.string s] w fun e w' => e = .returned (.tuple #[.int .i64 (checkOf (s ++ ⟨#[49]⟩)).1, .int .i64 (checkOf (s ++ ⟨#[49]⟩)).2]) ∧ Below w.heap.size w w' := by
  have hz : (s ++ ⟨#[49]⟩ : ByteArray).size ≤ 140737488355328 := by rw [size_append]; show s.size + 1 ≤ _; omega
  have hc := check_any (s ++ ⟨#[49]⟩) w m hm hG
  generalize checkOf (s ++ ⟨#[49]⟩) = cc at hc ⊢
  have HC := Lib.hid hc
  clear hc hm
  go_enter Try.func7, Try.ntmps7
  go_wp2_with (go_at_call 5; refine HC.out.mono ?_; rintro e w1 ⟨rfl, hb1⟩)
  go_ret2
  exact ⟨rfl, hb1⟩

omit hs in
theorem valid_any : Calls Try.prog 9 #[.string s] w fun e w' => e = .returned (.bool ((checkOf s).1 == 0)) ∧ Below w.heap.size w w' := by
  go_enter Try.func9, Try.ntmps9
  go_wp2_with (go_at_call 5; refine (check_any s _ m hm hG).mono ?_; rintro e w1 ⟨rfl, hb1⟩)
  go_ret
  exact ⟨rfl, hb1⟩
omit hm hG
theorem rprefix_any : Calls Try.prog 8 #[.string s] w fun e w' => e = .returned (.tuple #[.int .i64 (checkOf (s ++ ⟨#[49]⟩)).1, .int .i64 (checkOf (s ++ ⟨#[49]⟩)).2]) ∧ ∃ n, w' = w.drewN n := by
  have hz : (s ++ ⟨#[49]⟩ : ByteArray).size ≤ 140737488355328 := by rw [size_append]; show s.size + 1 ≤ _; omega
  have hc := rcheck_any (s ++ ⟨#[49]⟩) w
  generalize checkOf (s ++ ⟨#[49]⟩) = cc at hc ⊢
  have HC := Lib.hid hc
  clear hc
  go_enter Try.func8, Try.ntmps8
  go_wp2_with (go_at_call 6; refine HC.out.mono ?_; rintro e w1 ⟨rfl, n, rfl⟩)
  go_ret2
  exact ⟨rfl, n, rfl⟩
omit hs in
theorem rvalid_any : Calls Try.prog 10 #[.string s] w fun e w' => e = .returned (.bool ((checkOf s).1 == 0)) ∧ ∃ n, w' = w.drewN n := by
  go_enter Try.func10, Try.ntmps10
  go_wp2_with (go_at_call 6; refine (rcheck_any s _).mono ?_; rintro e w1 ⟨rfl, n, rfl⟩)
  go_ret
  exact ⟨rfl, n, rfl⟩
end

set_option maxRecDepth 100000 in
set_option maxHeartbeats 2000000 in
theorem checks_any (s : ByteArray) (hs : s.size ≤ 140737488355327) (w : World) (m : Int) (hm : w.cell? ⟨0, 0, none⟩ = some (.int .i64 m)) (hG : 0 < w.heap.size) :
    Calls Try.prog 3 #[.string s] w fun e w' => e = .returned (.bool true) ∧ Below w.heap.size w w' := by
  have hcell : ∀ W, Below w.heap.size w W → W.cell? ⟨0, 0, none⟩ = some (.int .i64 m) := fun W hB => by
    rw [hB.cell (p := ⟨0, 0, none⟩) hG]
    exact hm
  have HC := Lib.hid hcell
  clear hcell hm
  go_enter Try.func3, Try.ntmps3
  go_wp2_with (first
    | (go_at_call 5; refine (check_any s _ m (HC.out _ (Below.refl _ _)) hG).mono ?_; rintro e w1 ⟨rfl, hb1⟩)
    | (go_at_call 6; refine (rcheck_any s _).mono ?_; rintro e w2 ⟨rfl, n1, rfl⟩)
    | (go_at_call 7; refine (prefix_any s hs _ m (HC.out _ (below_drewN' hb1 _)) (Nat.lt_of_lt_of_le hG hb1.size)).mono ?_; rintro e w3 ⟨rfl, hb3⟩; have hB3 : Below w.heap.size w w3 := (below_drewN' hb1 n1).trans (hb3.mono hb1.size))
    | (go_at_call 8; refine (rprefix_any s hs _).mono ?_; rintro e w4 ⟨rfl, n2, rfl⟩)
    | (go_at_call 9; refine (valid_any s _ m (HC.out _ (below_drewN' hB3 _)) (Nat.lt_of_lt_of_le hG hB3.size)).mono ?_; rintro e w5 ⟨rfl, hb5⟩)
    | (go_at_call 10; refine (rvalid_any s _).mono ?_; rintro e w6 ⟨rfl, n4, rfl⟩))
  go_ret
  exact ⟨(by simp), (below_drewN' (below_drewN' hB3 n2 |>.trans (hb5.mono hB3.size)) n4)⟩

theorem pathsChecks_walk {H : Type} (s : ByteArray) (_ : s.size ≤ maxLen) (W : World) (hsz : (DataW.weightsEach Try.prog ([9] : List TypeId) ([DataW.lit (.string s.data.toList)] : List (DataW H))).all (· ≤ reachBytes) = true) (hsh : W.ShapedOpen Try.prog) :
    Calls Try.prog 3 #[.string s] W fun e w' => e = .returned (.bool true) ∧ Below W.heap.size W w' := by
  have h := sized_string (j := 0) hsz rfl rfl
  rw [← Lib.size_eq] at h
  obtain ⟨m, hm⟩ := Try.laysM145.s1_3 W hsh
  have h1 := reachBytes_lt
  exact checks_any s (by unfold reachBytes at h; omega) W m hm (cell_lt hm)
end Go.Proofs.Ytkhnchahoidbaaa
