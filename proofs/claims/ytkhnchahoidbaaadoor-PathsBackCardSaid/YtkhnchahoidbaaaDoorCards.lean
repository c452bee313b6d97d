/-
  DERIVED. GIVEN WITH THE SEED: THE CARDS: each row of YtkhnchahoidbaaaDoorRows.lean that lists a variable, with what it lists TIED to the program's text (the seventh form; the later family's looks); each row that meets fmt, with fmt's text TOLD by the authors' own Lean function (tested against real Go, not proved from fmt's source: count such statements apart). THE CARD IS WHAT COUNTS. Prove the row's statement (the work); the ties are given (YtkhnchahoidbaaaDoorTie.lean); close each card by the builder's one call (the guide's Derived/Test/ToyasCard.lean, 'card_holds'). Laid BY PROGRAM, IN A SANDBOX (cutbox-door.mjs). By AI agents, Wed Nov 11 2026. No macro, syntax, notation, axiom, sorry.
-/
import Derived.Test.YtkhnchahoidbaaaDoorRows
import GoSem.ClaimSeven
namespace Go.Proofs.YtkhnchahoidbaaaDoor
namespace Rows

/-- THE TIED CARD OF 'arborlaw03.PathsParts'. -/
def pathsPartsCard : Claim7 := { stood := { row := pathsPartsRow, standIns := [], harness := (true, "8c8155856cd32931836a7cbb4a062f4407307a46b70185186d85b9aa74bce0b3"), looks := true }, kinds := [], alts := [], laidByText := true, laidKinds := [.data, .pinned], laidTests := true, laidLooks := .later }
def PathsPartsCardSaid : Prop := Claim7.holds Tryd.pinned (.plain (OpenSpec.ofChange pathsPartsSpec)) pathsPartsCard

/-- THE TIED CARD OF 'arborlaw03.PathsSuffixes'. -/
def pathsSuffixesCard : Claim7 := { stood := { row := pathsSuffixesRow, standIns := [], harness := (true, "8c8155856cd32931836a7cbb4a062f4407307a46b70185186d85b9aa74bce0b3"), looks := true }, kinds := [], alts := [], laidByText := true, laidKinds := [.data, .data, .data], laidTests := true, laidLooks := .later }
def PathsSuffixesCardSaid : Prop := Claim7.holds Tryd.pinned (.plain (OpenSpec.ofChange pathsSuffixesSpec)) pathsSuffixesCard

/-- THE TIED CARD OF 'arborlaw03.PathsSplits'. -/
def pathsSplitsCard : Claim7 := { stood := { row := pathsSplitsRow, standIns := [], harness := (true, "8c8155856cd32931836a7cbb4a062f4407307a46b70185186d85b9aa74bce0b3"), looks := true }, kinds := [], alts := [], laidByText := true, laidKinds := [.data, .data, .data, .sentinel, .sentinel], laidTests := true, laidLooks := .later }
def PathsSplitsCardSaid : Prop := Claim7.holds Tryd.pinned (.plain (OpenSpec.ofChange pathsSplitsSpec)) pathsSplitsCard

/-- THE TIED CARD OF 'arborlaw03.PathsOrders'. -/
def pathsOrdersCard : Claim7 := { stood := { row := pathsOrdersRow, standIns := [], harness := (true, "8c8155856cd32931836a7cbb4a062f4407307a46b70185186d85b9aa74bce0b3"), looks := true }, kinds := [], alts := [], laidByText := true, laidKinds := [.data, .data, .data, .sentinel, .sentinel], laidTests := true, laidLooks := .later }
def PathsOrdersCardSaid : Prop := Claim7.holds Tryd.pinned (.plain (OpenSpec.ofChange pathsOrdersSpec)) pathsOrdersCard

/-- THE TIED CARD OF 'arborlaw03.PathsOwn'. -/
def pathsOwnCard : Claim7 := { stood := { row := pathsOwnRow, standIns := [], harness := (true, "8c8155856cd32931836a7cbb4a062f4407307a46b70185186d85b9aa74bce0b3"), looks := true }, kinds := [], alts := [], laidByText := true, laidKinds := [.data, .data, .data, .data, .sentinel, .sentinel, .pinned], laidTests := true, laidLooks := .later }
def PathsOwnCardSaid : Prop := Claim7.holds Tryd.pinned (.plain (OpenSpec.ofChange pathsOwnSpec)) pathsOwnCard

/-- THE TIED CARD OF 'arborlaw03.PathsChain'. -/
def pathsChainCard : Claim7 := { stood := { row := pathsChainRow, standIns := [], harness := (true, "8c8155856cd32931836a7cbb4a062f4407307a46b70185186d85b9aa74bce0b3"), looks := true }, kinds := [], alts := [], laidByText := true, laidKinds := [.data, .data, .data, .data, .sentinel, .sentinel, .pinned], laidTests := true, laidLooks := .later }
def PathsChainCardSaid : Prop := Claim7.holds Tryd.pinned (.plain (OpenSpec.ofChange pathsChainSpec)) pathsChainCard

/-- THE TIED CARD OF 'arborlaw03.PathsBack'. -/
def pathsBackCard : Claim7 := { stood := { row := pathsBackRow, standIns := [], harness := (true, "8c8155856cd32931836a7cbb4a062f4407307a46b70185186d85b9aa74bce0b3"), looks := true }, kinds := [], alts := [], laidByText := true, laidKinds := [.data, .data, .data, .data, .sentinel, .sentinel, .pinned], laidTests := true, laidLooks := .later }
def PathsBackCardSaid : Prop := Claim7.holds Tryd.pinned (.plain (OpenSpec.ofChange pathsBackSpec)) pathsBackCard

/-- THE SECOND FORM's CARD OF 'arborlaw03.PathsParts'. -/
def pathsPartsUptoCard : Claim7 := { stood := { row := pathsPartsUptoRow, standIns := [], harness := (true, "8c8155856cd32931836a7cbb4a062f4407307a46b70185186d85b9aa74bce0b3"), looks := true }, kinds := [], alts := [], laidByText := true, laidKinds := [.data, .pinned], laidTests := true, laidLooks := .later }
def PathsPartsUptoCardSaid : Prop := Claim7.holds Tryd.pinned (.plain (OpenSpec.upto pathsPartsSpec)) pathsPartsUptoCard

/-- THE SECOND FORM's CARD OF 'arborlaw03.PathsSuffixes'. -/
def pathsSuffixesUptoCard : Claim7 := { stood := { row := pathsSuffixesUptoRow, standIns := [], harness := (true, "8c8155856cd32931836a7cbb4a062f4407307a46b70185186d85b9aa74bce0b3"), looks := true }, kinds := [], alts := [], laidByText := true, laidKinds := [.data, .data, .data], laidTests := true, laidLooks := .later }
def PathsSuffixesUptoCardSaid : Prop := Claim7.holds Tryd.pinned (.plain (OpenSpec.upto pathsSuffixesSpec)) pathsSuffixesUptoCard

/-- THE SECOND FORM's CARD OF 'arborlaw03.PathsSplits'. -/
def pathsSplitsUptoCard : Claim7 := { stood := { row := pathsSplitsUptoRow, standIns := [], harness := (true, "8c8155856cd32931836a7cbb4a062f4407307a46b70185186d85b9aa74bce0b3"), looks := true }, kinds := [], alts := [], laidByText := true, laidKinds := [.data, .data, .data, .sentinel, .sentinel], laidTests := true, laidLooks := .later }
def PathsSplitsUptoCardSaid : Prop := Claim7.holds Tryd.pinned (.plain (OpenSpec.upto pathsSplitsSpec)) pathsSplitsUptoCard

/-- THE SECOND FORM's CARD OF 'arborlaw03.PathsOrders'. -/
def pathsOrdersUptoCard : Claim7 := { stood := { row := pathsOrdersUptoRow, standIns := [], harness := (true, "8c8155856cd32931836a7cbb4a062f4407307a46b70185186d85b9aa74bce0b3"), looks := true }, kinds := [], alts := [], laidByText := true, laidKinds := [.data, .data, .data, .sentinel, .sentinel], laidTests := true, laidLooks := .later }
def PathsOrdersUptoCardSaid : Prop := Claim7.holds Tryd.pinned (.plain (OpenSpec.upto pathsOrdersSpec)) pathsOrdersUptoCard

/-- THE SECOND FORM's CARD OF 'arborlaw03.PathsOwn'. -/
def pathsOwnUptoCard : Claim7 := { stood := { row := pathsOwnUptoRow, standIns := [], harness := (true, "8c8155856cd32931836a7cbb4a062f4407307a46b70185186d85b9aa74bce0b3"), looks := true }, kinds := [], alts := [], laidByText := true, laidKinds := [.data, .data, .data, .data, .sentinel, .sentinel, .pinned], laidTests := true, laidLooks := .later }
def PathsOwnUptoCardSaid : Prop := Claim7.holds Tryd.pinned (.plain (OpenSpec.upto pathsOwnSpec)) pathsOwnUptoCard

/-- THE SECOND FORM's CARD OF 'arborlaw03.PathsChain'. -/
def pathsChainUptoCard : Claim7 := { stood := { row := pathsChainUptoRow, standIns := [], harness := (true, "8c8155856cd32931836a7cbb4a062f4407307a46b70185186d85b9aa74bce0b3"), looks := true }, kinds := [], alts := [], laidByText := true, laidKinds := [.data, .data, .data, .data, .sentinel, .sentinel, .pinned], laidTests := true, laidLooks := .later }
def PathsChainUptoCardSaid : Prop := Claim7.holds Tryd.pinned (.plain (OpenSpec.upto pathsChainSpec)) pathsChainUptoCard

/-- THE SECOND FORM's CARD OF 'arborlaw03.PathsBack'. -/
def pathsBackUptoCard : Claim7 := { stood := { row := pathsBackUptoRow, standIns := [], harness := (true, "8c8155856cd32931836a7cbb4a062f4407307a46b70185186d85b9aa74bce0b3"), looks := true }, kinds := [], alts := [], laidByText := true, laidKinds := [.data, .data, .data, .data, .sentinel, .sentinel, .pinned], laidTests := true, laidLooks := .later }
def PathsBackUptoCardSaid : Prop := Claim7.holds Tryd.pinned (.plain (OpenSpec.upto pathsBackSpec)) pathsBackUptoCard
end Rows
end Go.Proofs.YtkhnchahoidbaaaDoor
