/- What a row lists of unicode/utf8's tables gives the world that the walks ask for. -/
import Derived.Test.YtpjjnmdfgcfnmaaGreatDoorJw
import Derived.Test.YtpjjnmdfgcfnmaaGreatDoorBase
import Derived.Lib.LaidU8T
import Derived.MakeChecks
import Derived.Shelf.Unicode.ValidAny
set_option linter.unusedVariables false
set_option linter.unusedSimpArgs false
namespace Go.Proofs.YtpjjnmdfgcfnmaaGreatDoor
open Go.RowKit Go.Shelf Go.Lib

/-- the library's tables, as they are laid -/
structure Env (W : World) : Prop where
  tab : Lib.Utf8Tabs 0 1 W
  g1 : 0 < W.heap.size
  g2 : 1 < W.heap.size

def u8ren : Ren := ⟨id, fun x => if x = 5 then 5 else if x = 119 then 159 else if x = 138 then 161 else 162, fun x => if x = 3 then 0 else 1⟩
theorem u8types : U8Types Tryz.prog u8ren := ⟨Tryz.underlying5, Tryz.underlying159, Tryz.underlying161, Tryz.underlying162⟩
theorem u8extra : U8Extra Tryz.prog u8ren := ⟨by kernel_rfl, by kernel_rfl, by kernel_rfl, by kernel_rfl, by kernel_rfl, by kernel_rfl, by kernel_rfl⟩
theorem first_data : Rows.laid_unicode_utf8_first = Lib.firstData := by kernel_rfl
theorem accept_data : (Rows.laid_unicode_utf8_acceptRanges : DataW Unit) = Lib.acceptData := by kernel_rfl

theorem env_of {l : List (String × DataW Unit)} {W : World} (h : laidMetH Tryz.prog l W) (hp : (l.all fun x => x.2.handleName?.isNone) = true) (m1 : ("unicode/utf8.first", Rows.laid_unicode_utf8_first) ∈ l) (m2 : ("unicode/utf8.acceptRanges", Rows.laid_unicode_utf8_acceptRanges) ∈ l) : Env W := by
  rw [MakeChecks.laidMetH_plain _ _ _ hp] at h
  have h1 := laidMet.reads h m1
  have h2 := laidMet.reads h m2
  rw [first_data] at h1
  rw [accept_data] at h2
  have ht : Lib.Utf8Tabs 0 1 W := utf8Tabs_of_readsT u8types u8extra h1 h2
  exact ⟨ht, cell_lt (ht.1 0 (by decide)), cell_lt (ht.2 0 (by decide)).1⟩
theorem Env.below {W W' : World} (h : Env W) (hb : Below W.heap.size W W') : Env W' :=
  ⟨⟨fun c hc => by rw [hb.cell h.g1]; exact h.tab.1 c hc, fun i hi => by rw [hb.cell h.g2, hb.cell h.g2]; exact h.tab.2 i hi⟩, Nat.lt_of_lt_of_le h.g1 hb.size, Nat.lt_of_lt_of_le h.g2 hb.size⟩
end Go.Proofs.YtpjjnmdfgcfnmaaGreatDoor
/- unicode/utf8.ValidString: the shelf's contract laid at the seat by hand (the lay passes it over). -/
namespace Go.Proofs.YtpjjnmdfgcfnmaaGreatDoor
open Go.RowKit Go.Shelf

def vuRen : Go.Shelf.Ren := ⟨fun | 196 => 111 | 259 => 133 | n => n, fun | 9 => 9 | 4 => 4 | 3 => 3 | 5 => 5 | 12 => 12 | 119 => 159 | 0 => 0 | 46 => 110 | 139 => 162 | 138 => 161 | 53 => 69 | n => n, fun | 3 => 0 | 4 => 1 | n => n⟩
theorem vuLays : Go.Proofs.Lays.n196 Tryz.prog vuRen := {
  mixed := by kernel_rfl
  f196 := Tryz.func111.trans (congrArg some (by kernel_rfl))
  f259 := Tryz.func133.trans (congrArg some (by kernel_rfl))
  t0 := Tryz.underlying0
  a0 := Tryz.isAgg0
  z0 := Tryz.sizeOf0
  v0 := Tryz.zeroValue0
  t3 := Tryz.underlying3
  a3 := Tryz.isAgg3
  z3 := Tryz.sizeOf3
  v3 := Tryz.zeroValue3
  t4 := Tryz.underlying4
  a4 := Tryz.isAgg4
  z4 := Tryz.sizeOf4
  v4 := Tryz.zeroValue4
  t5 := Tryz.underlying5
  a5 := Tryz.isAgg5
  z5 := Tryz.sizeOf5
  v5 := Tryz.zeroValue5
  t9 := Tryz.underlying9
  a9 := Tryz.isAgg9
  z9 := Tryz.sizeOf9
  v9 := Tryz.zeroValue9
  t12 := Tryz.underlying12
  a12 := Tryz.isAgg12
  z12 := Tryz.sizeOf12
  v12 := Tryz.zeroValue12
  t46 := Tryz.underlying110
  a46 := Tryz.isAgg110
  z46 := Tryz.sizeOf110
  v46 := Tryz.zeroValue110
  t53 := Tryz.underlying69
  a53 := Tryz.isAgg69
  z53 := Tryz.sizeOf69
  v53 := Tryz.zeroValue69
  t119 := Tryz.underlying159
  a119 := Tryz.isAgg159
  z119 := Tryz.sizeOf159
  t138 := Tryz.underlying161
  a138 := Tryz.isAgg161
  z138 := Tryz.sizeOf161
  v138 := Tryz.zeroValue161
  t139 := Tryz.underlying162
  a139 := Tryz.isAgg162
  z139 := Tryz.sizeOf162
  v139 := Tryz.zeroValue162
  g3 := by kernel_rfl
  g4 := by kernel_rfl }
theorem vstr_any (s : ByteArray) (w : World) (hs : s.size ≤ 9223372036854775807) (hT : Lib.Utf8Tabs 0 1 w) :
    Calls Tryz.prog 111 #[.string s] w fun e w' => e = .returned (.bool (Lib.validD s.data.toList)) ∧ Below w.heap.size w w' := Any.utf8_ValidString vuLays s w hs hT
end Go.Proofs.YtpjjnmdfgcfnmaaGreatDoor
