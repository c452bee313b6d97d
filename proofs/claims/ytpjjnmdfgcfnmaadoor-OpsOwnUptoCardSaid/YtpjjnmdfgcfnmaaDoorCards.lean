/-
  DERIVED. GIVEN WITH THE SEED: THE CARDS: each row of YtpjjnmdfgcfnmaaDoorRows.lean that lists a variable, with what it lists TIED to the program's text (the seventh form; the later family's looks); each row that meets fmt, with fmt's text TOLD by the authors' own Lean function (tested against real Go, not proved from fmt's source: count such statements apart). THE CARD IS WHAT COUNTS. Prove the row's statement (the work); the ties are given (YtpjjnmdfgcfnmaaDoorTie.lean); close each card by the builder's one call (the guide's Derived/Test/ToyasCard.lean, 'card_holds'). Laid BY PROGRAM, IN A SANDBOX (cutbox-door.mjs). By AI agents, Wed Nov 11 2026. No macro, syntax, notation, axiom, sorry.
-/
import Derived.Test.YtpjjnmdfgcfnmaaDoorRows
import GoSem.ClaimSeven
namespace Go.Proofs.YtpjjnmdfgcfnmaaDoor
namespace Rows

/-- THE TIED CARD OF 'arborlaw11.OpsBack'. -/
def opsBackCard : Claim7 := { stood := { row := opsBackRow, standIns := [], harness := (true, "0a37a2bf1525f3ccec62dd7d96cc6e6b4a58829969db0e3486ef2161d0d3f821"), looks := true }, kinds := [], alts := [], laidByText := true, laidKinds := [.data, .pinned], laidTests := true, laidLooks := .later }
def OpsBackCardSaid : Prop := Claim7.holds Tryd.pinned (.plain (OpenSpec.ofChange opsBackSpec)) opsBackCard

/-- THE TIED CARD OF 'arborlaw11.OpsCuts'. -/
def opsCutsCard : Claim7 := { stood := { row := opsCutsRow, standIns := [], harness := (true, "0a37a2bf1525f3ccec62dd7d96cc6e6b4a58829969db0e3486ef2161d0d3f821"), looks := true }, kinds := [], alts := [], laidByText := true, laidKinds := [.data, .pinned], laidTests := true, laidLooks := .later }
def OpsCutsCardSaid : Prop := Claim7.holds Tryd.pinned (.plain (OpenSpec.ofChange opsCutsSpec)) opsCutsCard

/-- THE TIED CARD OF 'arborlaw11.OpsFlat'. -/
def opsFlatCard : Claim7 := { stood := { row := opsFlatRow, standIns := [], harness := (true, "0a37a2bf1525f3ccec62dd7d96cc6e6b4a58829969db0e3486ef2161d0d3f821"), looks := true }, kinds := [], alts := [], laidByText := true, laidKinds := [.data, .pinned], laidTests := true, laidLooks := .later }
def OpsFlatCardSaid : Prop := Claim7.holds Tryd.pinned (.plain (OpenSpec.ofChange opsFlatSpec)) opsFlatCard

/-- THE TIED CARD OF 'arborlaw11.OpsOwn'. -/
def opsOwnCard : Claim7 := { stood := { row := opsOwnRow, standIns := [], harness := (true, "0a37a2bf1525f3ccec62dd7d96cc6e6b4a58829969db0e3486ef2161d0d3f821"), looks := true }, kinds := [], alts := [], laidByText := true, laidKinds := [.data, .pinned], laidTests := true, laidLooks := .later }
def OpsOwnCardSaid : Prop := Claim7.holds Tryd.pinned (.plain (OpenSpec.ofChange opsOwnSpec)) opsOwnCard

/-- THE TIED CARD OF 'arborlaw11.OpsOne'. -/
def opsOneCard : Claim7 := { stood := { row := opsOneRow, standIns := [], harness := (true, "0a37a2bf1525f3ccec62dd7d96cc6e6b4a58829969db0e3486ef2161d0d3f821"), looks := true }, kinds := [], alts := [], laidByText := true, laidKinds := [.data, .pinned], laidTests := true, laidLooks := .later }
def OpsOneCardSaid : Prop := Claim7.holds Tryd.pinned (.plain (OpenSpec.ofChange opsOneSpec)) opsOneCard

/-- THE SECOND FORM's CARD OF 'arborlaw11.OpsBack'. -/
def opsBackUptoCard : Claim7 := { stood := { row := opsBackUptoRow, standIns := [], harness := (true, "0a37a2bf1525f3ccec62dd7d96cc6e6b4a58829969db0e3486ef2161d0d3f821"), looks := true }, kinds := [], alts := [], laidByText := true, laidKinds := [.data, .pinned], laidTests := true, laidLooks := .later }
def OpsBackUptoCardSaid : Prop := Claim7.holds Tryd.pinned (.plain (OpenSpec.upto opsBackSpec)) opsBackUptoCard

/-- THE SECOND FORM's CARD OF 'arborlaw11.OpsCuts'. -/
def opsCutsUptoCard : Claim7 := { stood := { row := opsCutsUptoRow, standIns := [], harness := (true, "0a37a2bf1525f3ccec62dd7d96cc6e6b4a58829969db0e3486ef2161d0d3f821"), looks := true }, kinds := [], alts := [], laidByText := true, laidKinds := [.data, .pinned], laidTests := true, laidLooks := .later }
def OpsCutsUptoCardSaid : Prop := Claim7.holds Tryd.pinned (.plain (OpenSpec.upto opsCutsSpec)) opsCutsUptoCard

/-- THE SECOND FORM's CARD OF 'arborlaw11.OpsFlat'. -/
def opsFlatUptoCard : Claim7 := { stood := { row := opsFlatUptoRow, standIns := [], harness := (true, "0a37a2bf1525f3ccec62dd7d96cc6e6b4a58829969db0e3486ef2161d0d3f821"), looks := true }, kinds := [], alts := [], laidByText := true, laidKinds := [.data, .pinned], laidTests := true, laidLooks := .later }
def OpsFlatUptoCardSaid : Prop := Claim7.holds Tryd.pinned (.plain (OpenSpec.upto opsFlatSpec)) opsFlatUptoCard

/-- THE SECOND FORM's CARD OF 'arborlaw11.OpsOwn'. -/
def opsOwnUptoCard : Claim7 := { stood := { row := opsOwnUptoRow, standIns := [], harness := (true, "0a37a2bf1525f3ccec62dd7d96cc6e6b4a58829969db0e3486ef2161d0d3f821"), looks := true }, kinds := [], alts := [], laidByText := true, laidKinds := [.data, .pinned], laidTests := true, laidLooks := .later }
def OpsOwnUptoCardSaid : Prop := Claim7.holds Tryd.pinned (.plain (OpenSpec.upto opsOwnSpec)) opsOwnUptoCard

/-- THE SECOND FORM's CARD OF 'arborlaw11.OpsOne'. -/
def opsOneUptoCard : Claim7 := { stood := { row := opsOneUptoRow, standIns := [], harness := (true, "0a37a2bf1525f3ccec62dd7d96cc6e6b4a58829969db0e3486ef2161d0d3f821"), looks := true }, kinds := [], alts := [], laidByText := true, laidKinds := [.data, .pinned], laidTests := true, laidLooks := .later }
def OpsOneUptoCardSaid : Prop := Claim7.holds Tryd.pinned (.plain (OpenSpec.upto opsOneSpec)) opsOneUptoCard
end Rows
end Go.Proofs.YtpjjnmdfgcfnmaaDoor
