/-
  DERIVED. GIVEN WITH THE SEED: THE CARDS: each row of YtpjjnmdfgcfnmaaGreatDoorRows.lean that lists a variable, with what it lists TIED to the program's text (the seventh form; the later family's looks); each row that meets fmt, with fmt's text TOLD by the authors' own Lean function (tested against real Go, not proved from fmt's source: count such statements apart). THE CARD IS WHAT COUNTS. Prove the row's statement (the work); the ties are given (YtpjjnmdfgcfnmaaGreatDoorTie.lean); close each card by the builder's one call (the guide's Derived/Test/ToyasCard.lean, 'card_holds'). Laid BY PROGRAM, IN A SANDBOX (cutbox-door.mjs). By AI agents, Wed Nov 11 2026. No macro, syntax, notation, axiom, sorry.
-/
import Derived.Test.YtpjjnmdfgcfnmaaGreatDoorRows
import GoSem.ClaimSeven
namespace Go.Proofs.YtpjjnmdfgcfnmaaGreatDoor
namespace Rows

/-- THE TIED CARD OF 'arborlaw11.OpsRights'. -/
def opsRightsCard : Claim7 := { stood := { row := opsRightsRow, standIns := [], harness := (true, "aaef6cd7fcbd6521539994017fdf033c5f6df967e72c296f52b5fa8bf4e865c6"), looks := true }, kinds := [], alts := [], laidByText := true, laidKinds := [.data, .pinned], laidTests := true, laidLooks := .later }
def OpsRightsCardSaid : Prop := Claim7.holds Tryz.pinned (.plain (OpenSpec.ofChange opsRightsSpec)) opsRightsCard

/-- THE TIED CARD OF 'arborlaw11.OpsCounts'. -/
def opsCountsCard : Claim7 := { stood := { row := opsCountsRow, standIns := [], harness := (true, "aaef6cd7fcbd6521539994017fdf033c5f6df967e72c296f52b5fa8bf4e865c6"), looks := true }, kinds := [], alts := [], laidByText := true, laidKinds := [.data, .pinned], laidTests := true, laidLooks := .later }
def OpsCountsCardSaid : Prop := Claim7.holds Tryz.pinned (.plain (OpenSpec.ofChange opsCountsSpec)) opsCountsCard

/-- THE TIED CARD OF 'arborlaw11.OpsEncodes'. -/
def opsEncodesCard : Claim7 := { stood := { row := opsEncodesRow, standIns := [], harness := (true, "aaef6cd7fcbd6521539994017fdf033c5f6df967e72c296f52b5fa8bf4e865c6"), looks := true }, kinds := [], alts := [], laidByText := true, laidKinds := [.data, .pinned], laidTests := true, laidLooks := .later }
def OpsEncodesCardSaid : Prop := Claim7.holds Tryz.pinned (.plain (OpenSpec.ofChange opsEncodesSpec)) opsEncodesCard

/-- THE TIED CARD OF 'arborlaw11.OpsDecodes'. -/
def opsDecodesCard : Claim7 := { stood := { row := opsDecodesRow, standIns := [], harness := (true, "aaef6cd7fcbd6521539994017fdf033c5f6df967e72c296f52b5fa8bf4e865c6"), looks := true }, kinds := [], alts := [], laidByText := true, laidKinds := [.data, .pinned], laidTests := true, laidLooks := .later }
def OpsDecodesCardSaid : Prop := Claim7.holds Tryz.pinned (.plain (OpenSpec.ofChange opsDecodesSpec)) opsDecodesCard

/-- THE TIED CARD OF 'arborlaw11.OpsSames'. -/
def opsSamesCard : Claim7 := { stood := { row := opsSamesRow, standIns := [], harness := (true, "aaef6cd7fcbd6521539994017fdf033c5f6df967e72c296f52b5fa8bf4e865c6"), looks := true }, kinds := [], alts := [], laidByText := true, laidKinds := [.data, .pinned], laidTests := true, laidLooks := .later }
def OpsSamesCardSaid : Prop := Claim7.holds Tryz.pinned (.plain (OpenSpec.ofChange opsSamesSpec)) opsSamesCard

/-- THE SECOND FORM's CARD OF 'arborlaw11.OpsRights'. -/
def opsRightsUptoCard : Claim7 := { stood := { row := opsRightsUptoRow, standIns := [], harness := (true, "aaef6cd7fcbd6521539994017fdf033c5f6df967e72c296f52b5fa8bf4e865c6"), looks := true }, kinds := [], alts := [], laidByText := true, laidKinds := [.data, .pinned], laidTests := true, laidLooks := .later }
def OpsRightsUptoCardSaid : Prop := Claim7.holds Tryz.pinned (.plain (OpenSpec.upto opsRightsSpec)) opsRightsUptoCard

/-- THE SECOND FORM's CARD OF 'arborlaw11.OpsCounts'. -/
def opsCountsUptoCard : Claim7 := { stood := { row := opsCountsUptoRow, standIns := [], harness := (true, "aaef6cd7fcbd6521539994017fdf033c5f6df967e72c296f52b5fa8bf4e865c6"), looks := true }, kinds := [], alts := [], laidByText := true, laidKinds := [.data, .pinned], laidTests := true, laidLooks := .later }
def OpsCountsUptoCardSaid : Prop := Claim7.holds Tryz.pinned (.plain (OpenSpec.upto opsCountsSpec)) opsCountsUptoCard

/-- THE SECOND FORM's CARD OF 'arborlaw11.OpsEncodes'. -/
def opsEncodesUptoCard : Claim7 := { stood := { row := opsEncodesUptoRow, standIns := [], harness := (true, "aaef6cd7fcbd6521539994017fdf033c5f6df967e72c296f52b5fa8bf4e865c6"), looks := true }, kinds := [], alts := [], laidByText := true, laidKinds := [.data, .pinned], laidTests := true, laidLooks := .later }
def OpsEncodesUptoCardSaid : Prop := Claim7.holds Tryz.pinned (.plain (OpenSpec.upto opsEncodesSpec)) opsEncodesUptoCard

/-- THE SECOND FORM's CARD OF 'arborlaw11.OpsDecodes'. -/
def opsDecodesUptoCard : Claim7 := { stood := { row := opsDecodesUptoRow, standIns := [], harness := (true, "aaef6cd7fcbd6521539994017fdf033c5f6df967e72c296f52b5fa8bf4e865c6"), looks := true }, kinds := [], alts := [], laidByText := true, laidKinds := [.data, .pinned], laidTests := true, laidLooks := .later }
def OpsDecodesUptoCardSaid : Prop := Claim7.holds Tryz.pinned (.plain (OpenSpec.upto opsDecodesSpec)) opsDecodesUptoCard

/-- THE SECOND FORM's CARD OF 'arborlaw11.OpsSames'. -/
def opsSamesUptoCard : Claim7 := { stood := { row := opsSamesUptoRow, standIns := [], harness := (true, "aaef6cd7fcbd6521539994017fdf033c5f6df967e72c296f52b5fa8bf4e865c6"), looks := true }, kinds := [], alts := [], laidByText := true, laidKinds := [.data, .pinned], laidTests := true, laidLooks := .later }
def OpsSamesUptoCardSaid : Prop := Claim7.holds Tryz.pinned (.plain (OpenSpec.upto opsSamesSpec)) opsSamesUptoCard
end Rows
end Go.Proofs.YtpjjnmdfgcfnmaaGreatDoor
