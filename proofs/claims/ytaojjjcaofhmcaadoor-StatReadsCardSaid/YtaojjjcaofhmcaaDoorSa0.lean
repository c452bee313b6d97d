/- What must be so of any program that has this layer: what the chapter's example comes to, plainly. -/
import Derived.Test.YtaojjjcaofhmcaaDoorSn5
import Derived.Test.YtaojjjcaofhmcaaDoorSd2
import Derived.Test.YtaojjjcaofhmcaaDoorSd5
set_option linter.unusedVariables false
set_option linter.unusedSimpArgs false
namespace Go.Proofs.YtaojjjcaofhmcaaDoor
open Go.RowKit

def aliveB : List UInt8 := nodeB ⟨#[47, 97]⟩ [120] [] [0, 7, 7, 7, 0, 0, 1000, 1000] [0, 0, 0] false 0 0
def aliveN : NdR := ⟨[47, 97], [120], [], [0, 7, 7, 7, 0, 0, 1000, 1000], [0, 0, 0], false, 0, 0⟩
theorem alive_right : rightE ⟨#[47, 97]⟩ 1 [] false 0 0 = 0 := by kernel_rfl
theorem alive_dec : decN aliveB = .inr aliveN := by kernel_rfl
theorem alive_rec : decS (recB 0 0 0 0 0 0 0 0 0 0 1) = .inr ⟨[0, 0, 0, 0], [0, 0, 0], 0, 0, 0, 1⟩ := by kernel_rfl
end Go.Proofs.YtaojjjcaofhmcaaDoor
