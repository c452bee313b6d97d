/- Last, Of, Next: each by the program and by the reference gives the same. -/
import Derived.Test.YtaojjjcaofhmcaaDoorSt
set_option linter.unusedVariables false
set_option linter.unusedSimpArgs false
namespace Go.Proofs.YtaojjjcaofhmcaaDoor
open Go.RowKit

def nextOf (v : Int) : Int := if v = -2 then 0 else wrap32 (v + 1)

set_option maxHeartbeats 400000 in
theorem next_any (v : Int) (h1 : -2147483648 ≤ v) (h2 : v ≤ 2147483647) (w : World) : Calls Tryd.prog 29 #[.int .i32 v] w fun e w' => e = .returned (.int .i32 (nextOf v)) ∧ w = w' := by
  by_cases h : v = -2
  · subst h
    go_enter Tryd.func29, Tryd.ntmps29
    go_wp2
    go_ret
    exact ⟨rfl, rfl⟩
  · have e1 : nextOf v = wrap32 (v + 1) := by unfold nextOf; rw [if_neg h]
    have hb : (v == -2) = false := by simpa using h
    rw [e1]
    clear e1 h
    go_enter Tryd.func29, Tryd.ntmps29
    go_wp2
    go_ret
    exact ⟨rfl, rfl⟩
/-- the greatest of five -/
def max5 (a b c d e : Int) : Int := let f := fun x y : Int => if y > x then y else x; f (f (f (f a b) c) d) e
theorem run_max5 {P : Program} (ts : Array TypeId) (t : TypeId) (a b c d e : Int) (w : World) :
    (Builtin.max_ ts t #[.int .i64 a, .int .i64 b, .int .i64 c, .int .i64 d, .int .i64 e]).run P w = .ok (.int .i64 (max5 a b c d e)) w := by
  simp [Builtin.max_, Builtin.max2, max5]

section
variable (cs : Array Value) (w : World) (cz mz pz az qz : Int) (c4 : cs[4]? = some (.int .i64 cz)) (c5 : cs[5]? = some (.int .i64 mz)) (c6 : cs[6]? = some (.int .i64 pz)) (c7 : cs[7]? = some (.int .i64 az)) (c8 : cs[8]? = some (.int .i64 qz))
include c4 c5 c6 c7 c8
set_option maxHeartbeats 400000 in
theorem last_any : Calls Tryd.prog 30 #[.agg cs] w fun e w' => e = .returned (.int .i64 (max5 cz mz pz az qz)) ∧ Below w.heap.size w w' := by
  have hm := fun W : World => run_max5 (P := Tryd.prog) #[2, 2, 2, 2, 2] 2 cz mz pz az qz W
  go_enter Tryd.func30, Tryd.ntmps30
  go_wp2
  go_ret
  exact ⟨rfl, by go_grown⟩
end

/-- the cells of what is told of a node -/
def statCells (cz mz pz ct mt ve cr av o k : Int) (dn : Nat) : Array Value :=
  #[.int .i64 cz, .int .i64 mz, .int .i64 ct, .int .i64 mt, .int .i32 ve, .int .i32 (wrap32 (2 * cr - k)), .int .i32 av, .int .i64 o, .int .i32 (wrap32 dn), .int .i32 (wrap32 k), .int .i64 pz]
theorem stat_size : (Tryd.prog.info? 23).map (·.size) = some 11 := by kernel_rfl

section
variable (cs : Array Value) (w : World) (cz mz pz ct mt ve cr av o k : Int) (dA : Option Addr) (dn dc : Nat) (c1 : cs[1]? = some (.slice dA dn dc)) (c4 : cs[4]? = some (.int .i64 cz)) (c5 : cs[5]? = some (.int .i64 mz)) (c6 : cs[6]? = some (.int .i64 pz)) (c9 : cs[9]? = some (.int .i64 ct)) (c10 : cs[10]? = some (.int .i64 mt)) (c11 : cs[11]? = some (.int .i32 ve)) (c12 : cs[12]? = some (.int .i32 cr)) (c13 : cs[13]? = some (.int .i32 av)) (c3 : cs[3]? = some (.int .i64 o))
include c1 c3 c4 c5 c6 c9 c10 c11 c12 c13
set_option maxHeartbeats 400000 in
theorem statOf_any : Calls Tryd.prog 31 #[.agg cs, .int .i64 k] w fun e w' => e = .returned (.agg (statCells cz mz pz ct mt ve cr av o k dn)) ∧ Below w.heap.size w w' := by
  have e1 : wrap32 (wrap32 (2 * cr) - wrap32 k) = wrap32 (2 * cr - k) := by unfold wrap32; omega
  go_enter Tryd.func31, Tryd.ntmps31
  go_wp2
  refine bodyPost_ret (results_cell_row rfl _ _ (w.heap.size + 1) 23 (statCells cz mz pz ct mt ve cr av o k dn) _ _ rfl (Blk.new' (by simp)) Tryd.underlying23 rfl (by rw [stat_size]; rfl)) rfl ?_
  exact ⟨rfl, by go_grown⟩
end
end Go.Proofs.YtaojjjcaofhmcaaDoor
