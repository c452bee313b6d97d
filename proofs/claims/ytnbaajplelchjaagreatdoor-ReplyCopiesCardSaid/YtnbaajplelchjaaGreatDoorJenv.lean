/- What a row lists of unicode/utf8's tables gives the world that the walks ask for. -/
import Derived.Test.YtnbaajplelchjaaGreatDoorJw
import Derived.Test.YtnbaajplelchjaaGreatDoorBase
import Derived.Lib.LaidU8T
import Derived.MakeChecks
set_option linter.unusedVariables false
set_option linter.unusedSimpArgs false
namespace Go.Proofs.YtnbaajplelchjaaGreatDoor
open Go.RowKit Go.Shelf Go.Lib

/-- the library's tables, as they are laid -/
structure Env (W : World) : Prop where
  tab : Lib.Utf8Tabs 0 1 W
  g1 : 0 < W.heap.size
  g2 : 1 < W.heap.size

def u8ren : Ren := ⟨id, fun x => if x = 5 then 5 else if x = 119 then 162 else if x = 138 then 164 else 165, fun x => if x = 3 then 0 else 1⟩
theorem u8types : U8Types Tryz.prog u8ren := ⟨Tryz.underlying5, Tryz.underlying162, Tryz.underlying164, Tryz.underlying165⟩
theorem u8extra : U8Extra Tryz.prog u8ren := ⟨by kernel_rfl, by kernel_rfl, by kernel_rfl, by kernel_rfl, by kernel_rfl, by kernel_rfl, by kernel_rfl⟩
theorem first_data : Rows.laid_unicode_utf8_first = Lib.firstData := by kernel_rfl
theorem accept_data : (Rows.laid_unicode_utf8_acceptRanges : DataW Unit) = Lib.acceptData := by kernel_rfl

theorem env_of {l : List (String × DataW Unit)} {W : World} (h : laidMetH Tryz.prog l W) (hp : (l.all fun x => x.2.handleName?.isNone) = true) (m1 : ("unicode/utf8.first", Rows.laid_unicode_utf8_first) ∈ l) (m2 : ("unicode/utf8.acceptRanges", Rows.laid_unicode_utf8_acceptRanges) ∈ l) : Env W := by
  rw [MakeChecks.laidMetH_plain _ _ _ hp] at h
  have h1 := laidMet.reads h m1
  have h2 := laidMet.reads h m2
  rw [first_data] at h1
  rw [accept_data] at h2
  have ht : Lib.Utf8Tabs 0 1 W := utf8Tabs_of_readsT u8types u8extra h1 h2
  exact ⟨ht, cell_lt (ht.1 0 (by decide)), cell_lt (ht.2 0 (by decide)).1⟩
theorem Env.below {W W' : World} (h : Env W) (hb : Below W.heap.size W W') : Env W' :=
  ⟨⟨fun c hc => by rw [hb.cell h.g1]; exact h.tab.1 c hc, fun i hi => by rw [hb.cell h.g2, hb.cell h.g2]; exact h.tab.2 i hi⟩, Nat.lt_of_lt_of_le h.g1 hb.size, Nat.lt_of_lt_of_le h.g2 hb.size⟩
end Go.Proofs.YtnbaajplelchjaaGreatDoor
