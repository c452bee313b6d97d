/- ops.kept: an operation with the fields of its type alone. (printed by gen_p12.py) -/
import Derived.Test.YtpjjnmdfgcfnmaaGreatDoorOqo
import Derived.Test.YtpjjnmdfgcfnmaaGreatDoorOqk2
set_option linter.unusedVariables false
set_option linter.unusedSimpArgs false
namespace Go.Proofs.YtpjjnmdfgcfnmaaGreatDoor
open Go.RowKit

def ownTypes : List Int := [1, 15, 19, 21, 2, 13, 5, 7, 120, 121, 14, (-10), (-11), 20, 3, 4, 8, 12, 6, 9, 103, 104, 106, 11, 18, 22, 101, 107]
end Go.Proofs.YtpjjnmdfgcfnmaaGreatDoor
