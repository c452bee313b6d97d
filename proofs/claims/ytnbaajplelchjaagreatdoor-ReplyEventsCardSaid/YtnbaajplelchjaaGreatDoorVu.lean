/- unicode/utf8.ValidString: the shelf's contract laid at the seat by hand (the lay passes it over). -/
import Derived.Shelf.Unicode.ValidAny
import Derived.Test.YtnbaajplelchjaaGreatDoorJta
import Derived.Test.YtnbaajplelchjaaGreatDoorJenv
import Derived.Test.YtnbaajplelchjaaGreatDoorEv3
set_option linter.unusedVariables false
set_option linter.unusedSimpArgs false
namespace Go.Proofs.YtnbaajplelchjaaGreatDoor
open Go.RowKit Go.Shelf

def vuRen : Go.Shelf.Ren := ⟨fun | 196 => 60 | 259 => 118 | n => n, fun | 9 => 9 | 4 => 4 | 3 => 3 | 5 => 5 | 12 => 12 | 119 => 162 | 0 => 0 | 46 => 135 | 139 => 165 | 138 => 164 | 53 => 81 | n => n, fun | 3 => 0 | 4 => 1 | n => n⟩
theorem vuLays : Go.Proofs.Lays.n196 Tryz.prog vuRen := {
  mixed := by kernel_rfl
  f196 := Tryz.func60.trans (congrArg some (by kernel_rfl))
  f259 := Tryz.func118.trans (congrArg some (by kernel_rfl))
  t0 := Tryz.underlying0
  a0 := Tryz.isAgg0
  z0 := Tryz.sizeOf0
  v0 := Tryz.zeroValue0
  t3 := Tryz.underlying3
  a3 := Tryz.isAgg3
  z3 := Tryz.sizeOf3
  v3 := Tryz.zeroValue3
  t4 := Tryz.underlying4
  a4 := Tryz.isAgg4
  z4 := Tryz.sizeOf4
  v4 := Tryz.zeroValue4
  t5 := Tryz.underlying5
  a5 := Tryz.isAgg5
  z5 := Tryz.sizeOf5
  v5 := Tryz.zeroValue5
  t9 := Tryz.underlying9
  a9 := Tryz.isAgg9
  z9 := Tryz.sizeOf9
  v9 := Tryz.zeroValue9
  t12 := Tryz.underlying12
  a12 := Tryz.isAgg12
  z12 := Tryz.sizeOf12
  v12 := Tryz.zeroValue12
  t46 := Tryz.underlying135
  a46 := Tryz.isAgg135
  z46 := Tryz.sizeOf135
  v46 := Tryz.zeroValue135
  t53 := Tryz.underlying81
  a53 := Tryz.isAgg81
  z53 := Tryz.sizeOf81
  v53 := Tryz.zeroValue81
  t119 := Tryz.underlying162
  a119 := Tryz.isAgg162
  z119 := Tryz.sizeOf162
  t138 := Tryz.underlying164
  a138 := Tryz.isAgg164
  z138 := Tryz.sizeOf164
  v138 := Tryz.zeroValue164
  t139 := Tryz.underlying165
  a139 := Tryz.isAgg165
  z139 := Tryz.sizeOf165
  v139 := Tryz.zeroValue165
  g3 := by kernel_rfl
  g4 := by kernel_rfl }
theorem vstr_any (s : ByteArray) (w : World) (hs : s.size ≤ 9223372036854775807) (hT : Lib.Utf8Tabs 0 1 w) :
    Calls Tryz.prog 60 #[.string s] w fun e w' => e = .returned (.bool (Lib.validD s.data.toList)) ∧ Below w.heap.size w w' := Any.utf8_ValidString vuLays s w hs hT
theorem vstr_of (p : ByteArray) (w : World) (hs : p.size ≤ 4611686018427387904) (hE : Env w) : Vstr p (Lib.validD p.data.toList) w := fun W hb => vstr_any p W (by omega) (hE.below hb).tab
theorem vref_of (p : ByteArray) (w : World) (hs : p.size ≤ 4611686018427387904) : Vref p (Lib.validD p.data.toList) w := fun W hb => (utf8_any p W hs).mono fun e w' h => ⟨h.1, h.2 ▸ Below.refl _ _⟩
end Go.Proofs.YtnbaajplelchjaaGreatDoor
