/- ops.kept: an operation with the fields of its type alone. (printed by gen_p12.py) -/
import Derived.Test.YtpjjnmdfgcfnmaaGreatDoorOqk1
import Derived.Test.YtpjjnmdfgcfnmaaGreatDoorOqk2
import Derived.Test.YtpjjnmdfgcfnmaaGreatDoorOqo
import Derived.Test.YtpjjnmdfgcfnmaaGreatDoorOqk4
set_option linter.unusedVariables false
set_option linter.unusedSimpArgs false
namespace Go.Proofs.YtpjjnmdfgcfnmaaGreatDoor
open Go.RowKit

def ownTypes : List Int := [1, 15, 19, 21, 2, 13, 5, 7, 120, 121, 14, (-10), (-11), 20, 3, 4, 8, 12, 6, 9, 103, 104, 106, 11, 18, 22, 101, 107]
theorem kept_any (f : OpF) (d a k0 k1 k2 k3 k4 i s : Sl) (w : World) (ht : f.t ∈ ownTypes) : Calls Tryz.prog 112 #[.agg (f.row d a k0 k1 k2 k3 k4 i s).toArray] w fun e w' => e = .returned (.agg (keptRow f d a k0 k1 k2 k3 k4 i s).toArray) ∧ Below w.heap.size w w' := by
  simp only [ownTypes, List.mem_cons, List.not_mem_nil, or_false] at ht
  rcases ht with h | h | h | h | h | h | h | h | h | h | h | h | h | h | h | h | h | h | h | h | h | h | h | h | h | h | h | h
  · exact kept_g0 1 (by decide) f d a k0 k1 k2 k3 k4 i s w h
  · exact kept_g0 15 (by decide) f d a k0 k1 k2 k3 k4 i s w h
  · exact kept_g0 19 (by decide) f d a k0 k1 k2 k3 k4 i s w h
  · exact kept_g1 21 (by decide) f d a k0 k1 k2 k3 k4 i s w h
  · exact kept_g2 2 (by decide) f d a k0 k1 k2 k3 k4 i s w h
  · exact kept_g2 13 (by decide) f d a k0 k1 k2 k3 k4 i s w h
  · exact kept_g3 5 (by decide) f d a k0 k1 k2 k3 k4 i s w h
  · exact kept_g4 7 (by decide) f d a k0 k1 k2 k3 k4 i s w h
  · exact kept_g5 120 (by decide) f d a k0 k1 k2 k3 k4 i s w h
  · exact kept_g6 121 (by decide) f d a k0 k1 k2 k3 k4 i s w h
  · exact kept_g9 14 (by decide) f d a k0 k1 k2 k3 k4 i s w h
  · exact kept_g11 (-10) (by decide) f d a k0 k1 k2 k3 k4 i s w h
  · exact kept_g12 (-11) (by decide) f d a k0 k1 k2 k3 k4 i s w h
  · exact kept_g6 20 (by decide) f d a k0 k1 k2 k3 k4 i s w h
  · exact kept_g7 3 (by decide) f d a k0 k1 k2 k3 k4 i s w h
  · exact kept_g7 4 (by decide) f d a k0 k1 k2 k3 k4 i s w h
  · exact kept_g7 8 (by decide) f d a k0 k1 k2 k3 k4 i s w h
  · exact kept_g7 12 (by decide) f d a k0 k1 k2 k3 k4 i s w h
  · exact kept_g6 6 (by decide) f d a k0 k1 k2 k3 k4 i s w h
  · exact kept_g6 9 (by decide) f d a k0 k1 k2 k3 k4 i s w h
  · exact kept_g6 103 (by decide) f d a k0 k1 k2 k3 k4 i s w h
  · exact kept_g6 104 (by decide) f d a k0 k1 k2 k3 k4 i s w h
  · exact kept_g8 106 (by decide) f d a k0 k1 k2 k3 k4 i s w h
  · exact kept_g12 11 (by decide) f d a k0 k1 k2 k3 k4 i s w h
  · exact kept_g8 18 (by decide) f d a k0 k1 k2 k3 k4 i s w h
  · exact kept_g9 22 (by decide) f d a k0 k1 k2 k3 k4 i s w h
  · exact kept_g10 101 (by decide) f d a k0 k1 k2 k3 k4 i s w h
  · exact kept_g12 107 (by decide) f d a k0 k1 k2 k3 k4 i s w h
end Go.Proofs.YtpjjnmdfgcfnmaaGreatDoor
