/-
  DERIVED. GIVEN WITH THE SEED: THE CARDS: each row of YtgbifmcdkigbgaaDoorRows.lean that lists a variable, with what it lists TIED to the program's text (the seventh form; the later family's looks); each row that meets fmt, with fmt's text TOLD by the authors' own Lean function (tested against real Go, not proved from fmt's source: count such statements apart). THE CARD IS WHAT COUNTS. Prove the row's statement (the work); the ties are given (YtgbifmcdkigbgaaDoorTie.lean); close each card by the builder's one call (the guide's Derived/Test/ToyasCard.lean, 'card_holds'). Laid BY PROGRAM, IN A SANDBOX (cutbox-door.mjs). By AI agents, Wed Nov 11 2026. No macro, syntax, notation, axiom, sorry.
-/
import Derived.Test.YtgbifmcdkigbgaaDoorRows
import GoSem.ClaimSeven
namespace Go.Proofs.YtgbifmcdkigbgaaDoor
namespace Rows

/-- THE TIED CARD OF 'arborlaw20.ZxidTexts'. -/
def zxidTextsCard : Claim7 := { stood := { row := zxidTextsRow, standIns := [], harness := (true, "be34fc203de10ced2dc9163dc48b0bc004af990a2814191fa398071768b33216"), looks := true }, kinds := [], alts := [], laidByText := true, laidKinds := [.data, .data, .data, .sentinel, .sentinel], laidTests := true, laidLooks := .later }
def ZxidTextsCardSaid : Prop := Claim7.holds Tryd.pinned (.plain (OpenSpec.ofChange zxidTextsSpec)) zxidTextsCard

/-- THE SECOND FORM's CARD OF 'arborlaw20.ZxidTexts'. -/
def zxidTextsUptoCard : Claim7 := { stood := { row := zxidTextsUptoRow, standIns := [], harness := (true, "be34fc203de10ced2dc9163dc48b0bc004af990a2814191fa398071768b33216"), looks := true }, kinds := [], alts := [], laidByText := true, laidKinds := [.data, .data, .data, .sentinel, .sentinel], laidTests := true, laidLooks := .later }
def ZxidTextsUptoCardSaid : Prop := Claim7.holds Tryd.pinned (.plain (OpenSpec.upto zxidTextsSpec)) zxidTextsUptoCard
end Rows
end Go.Proofs.YtgbifmcdkigbgaaDoor
