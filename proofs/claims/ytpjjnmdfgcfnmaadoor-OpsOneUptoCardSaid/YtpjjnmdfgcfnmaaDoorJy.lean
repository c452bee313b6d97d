/- What a row lists of unicode/utf8's tables gives the world that the walks ask for. -/
import Derived.Test.YtpjjnmdfgcfnmaaDoorJw
import Derived.Test.YtpjjnmdfgcfnmaaDoorBase
import Derived.Lib.LaidU8T
import Derived.MakeChecks
import Derived.Shelf.Unicode.ValidAny
set_option linter.unusedVariables false
set_option linter.unusedSimpArgs false
namespace Go.Proofs.YtpjjnmdfgcfnmaaDoor
open Go.RowKit Go.Shelf Go.Lib

/-- the library's tables, as they are laid -/
structure Env (W : World) : Prop where
  tab : Lib.Utf8Tabs 0 1 W
  g1 : 0 < W.heap.size
  g2 : 1 < W.heap.size

def u8ren : Ren := ⟨id, fun x => if x = 5 then 5 else if x = 119 then 133 else if x = 138 then 135 else 136, fun x => if x = 3 then 0 else 1⟩
theorem u8types : U8Types Tryd.prog u8ren := ⟨Tryd.underlying5, Tryd.underlying133, Tryd.underlying135, Tryd.underlying136⟩
theorem u8extra : U8Extra Tryd.prog u8ren := ⟨by kernel_rfl, by kernel_rfl, by kernel_rfl, by kernel_rfl, by kernel_rfl, by kernel_rfl, by kernel_rfl⟩
theorem first_data : Rows.laid_unicode_utf8_first = Lib.firstData := by kernel_rfl
theorem accept_data : (Rows.laid_unicode_utf8_acceptRanges : DataW Unit) = Lib.acceptData := by kernel_rfl

theorem env_of {l : List (String × DataW Unit)} {W : World} (h : laidMetH Tryd.prog l W) (hp : (l.all fun x => x.2.handleName?.isNone) = true) (m1 : ("unicode/utf8.first", Rows.laid_unicode_utf8_first) ∈ l) (m2 : ("unicode/utf8.acceptRanges", Rows.laid_unicode_utf8_acceptRanges) ∈ l) : Env W := by
  rw [MakeChecks.laidMetH_plain _ _ _ hp] at h
  have h1 := laidMet.reads h m1
  have h2 := laidMet.reads h m2
  rw [first_data] at h1
  rw [accept_data] at h2
  have ht : Lib.Utf8Tabs 0 1 W := utf8Tabs_of_readsT u8types u8extra h1 h2
  exact ⟨ht, cell_lt (ht.1 0 (by decide)), cell_lt (ht.2 0 (by decide)).1⟩
theorem Env.below {W W' : World} (h : Env W) (hb : Below W.heap.size W W') : Env W' :=
  ⟨⟨fun c hc => by rw [hb.cell h.g1]; exact h.tab.1 c hc, fun i hi => by rw [hb.cell h.g2, hb.cell h.g2]; exact h.tab.2 i hi⟩, Nat.lt_of_lt_of_le h.g1 hb.size, Nat.lt_of_lt_of_le h.g2 hb.size⟩
end Go.Proofs.YtpjjnmdfgcfnmaaDoor
/- unicode/utf8.ValidString: the shelf's contract laid at the seat by hand (the lay passes it over). -/
namespace Go.Proofs.YtpjjnmdfgcfnmaaDoor
open Go.RowKit Go.Shelf

def vuRen : Go.Shelf.Ren := ⟨fun | 196 => 77 | 259 => 96 | n => n, fun | 9 => 9 | 4 => 4 | 3 => 3 | 5 => 5 | 12 => 12 | 119 => 133 | 0 => 0 | 46 => 102 | 139 => 136 | 138 => 135 | 53 => 80 | n => n, fun | 3 => 0 | 4 => 1 | n => n⟩
theorem vuLays : Go.Proofs.Lays.n196 Tryd.prog vuRen := {
  mixed := by kernel_rfl
  f196 := Tryd.func77.trans (congrArg some (by kernel_rfl))
  f259 := Tryd.func96.trans (congrArg some (by kernel_rfl))
  t0 := Tryd.underlying0
  a0 := Tryd.isAgg0
  z0 := Tryd.sizeOf0
  v0 := Tryd.zeroValue0
  t3 := Tryd.underlying3
  a3 := Tryd.isAgg3
  z3 := Tryd.sizeOf3
  v3 := Tryd.zeroValue3
  t4 := Tryd.underlying4
  a4 := Tryd.isAgg4
  z4 := Tryd.sizeOf4
  v4 := Tryd.zeroValue4
  t5 := Tryd.underlying5
  a5 := Tryd.isAgg5
  z5 := Tryd.sizeOf5
  v5 := Tryd.zeroValue5
  t9 := Tryd.underlying9
  a9 := Tryd.isAgg9
  z9 := Tryd.sizeOf9
  v9 := Tryd.zeroValue9
  t12 := Tryd.underlying12
  a12 := Tryd.isAgg12
  z12 := Tryd.sizeOf12
  v12 := Tryd.zeroValue12
  t46 := Tryd.underlying102
  a46 := Tryd.isAgg102
  z46 := Tryd.sizeOf102
  v46 := Tryd.zeroValue102
  t53 := Tryd.underlying80
  a53 := Tryd.isAgg80
  z53 := Tryd.sizeOf80
  v53 := Tryd.zeroValue80
  t119 := Tryd.underlying133
  a119 := Tryd.isAgg133
  z119 := Tryd.sizeOf133
  t138 := Tryd.underlying135
  a138 := Tryd.isAgg135
  z138 := Tryd.sizeOf135
  v138 := Tryd.zeroValue135
  t139 := Tryd.underlying136
  a139 := Tryd.isAgg136
  z139 := Tryd.sizeOf136
  v139 := Tryd.zeroValue136
  g3 := by kernel_rfl
  g4 := by kernel_rfl }
theorem vstr_any (s : ByteArray) (w : World) (hs : s.size ≤ 9223372036854775807) (hT : Lib.Utf8Tabs 0 1 w) :
    Calls Tryd.prog 77 #[.string s] w fun e w' => e = .returned (.bool (Lib.validD s.data.toList)) ∧ Below w.heap.size w w' := Any.utf8_ValidString vuLays s w hs hT
end Go.Proofs.YtpjjnmdfgcfnmaaDoor
