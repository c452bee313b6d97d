/- ops.kept: an operation with the fields of its type alone. (printed by gen_p12.py) -/
import Derived.Test.YtpjjnmdfgcfnmaaGreatDoorOq11
import Derived.Test.YtpjjnmdfgcfnmaaGreatDoorOqb
set_option linter.unusedVariables false
set_option linter.unusedSimpArgs false
namespace Go.Proofs.YtpjjnmdfgcfnmaaGreatDoor
open Go.RowKit

def nilS : Sl := ⟨none, 0, 0⟩
def tP : List Int := [1, 15, 19, 21, 2, 13, 5, 7, 120, 121, 6, 9, 103, 104, 20, 3, 4, 8, 12, 106, 18]
def tD : List Int := [1, 15, 19, 21, 5]
def tA : List Int := [1, 15, 19, 21, 7]
def tF : List Int := [1, 15, 19, 21, 106, 18]
def tV : List Int := [2, 13, 5, 7]
def tW : List Int := [3, 4, 8, 12]
def tC : List Int := [120]
def tL : List Int := [21]
def tZ : List Int := [101]
def tT : List Int := [(-10)]
def tS : List Int := [14, 22]
/-- the fields of its type alone -/
def keptF (f : OpF) : OpF := ⟨f.t, if f.t ∈ tP then f.p else ⟨#[]⟩, if f.t ∈ tD then f.l else [], if f.t ∈ tA then f.L else [], if f.t ∈ tF then f.fl else 0, if f.t ∈ tV then f.ve else 0, if f.t ∈ tW then f.wa else false, if f.t ∈ tC then f.ct else 0, if f.t ∈ tC then f.by_ else 0, if f.t ∈ tL then f.tl else 0, if f.t ∈ tZ then f.zx else 0,
  if f.t ∈ tZ then f.K0 else [], if f.t ∈ tZ then f.K1 else [], if f.t ∈ tZ then f.K2 else [], if f.t ∈ tZ then f.K3 else [], if f.t ∈ tZ then f.K4 else [], if f.t ∈ tT then f.to else 0, if f.t ∈ tT then f.I else []⟩
def kS (l : List Int) (t : Int) (s : Sl) : Sl := if t ∈ l then s else nilS
def keptRow (f : OpF) (d a k0 k1 k2 k3 k4 i s : Sl) : List Value := (keptF f).row (kS tD f.t d) (kS tA f.t a) (kS tZ f.t k0) (kS tZ f.t k1) (kS tZ f.t k2) (kS tZ f.t k3) (kS tZ f.t k4) (kS tT f.t i) (kS tS f.t s)

def SwNo (t : Int) : List Int → Prop
  | [] => True
  | c :: r => (t == c) = false ∧ SwNo t r
theorem sw_all {l cs : List Int} {t : Int} (h : t ∈ l) (hc : (cs.all fun c => !l.contains c) = true) : SwNo t cs := by
  induction cs with
  | nil => trivial
  | cons c r ih =>
    rw [List.all_cons, Bool.and_eq_true] at hc
    refine ⟨?_, ih hc.2⟩
    rw [beq_eq_false_iff_ne]
    rintro rfl
    rw [List.contains_iff_mem.2 h] at hc
    exact absurd hc.1 (by decide)

end Go.Proofs.YtpjjnmdfgcfnmaaGreatDoor
