/-
  DERIVED. GIVEN WITH THE SEED: THE CARDS: each row of YtaojjjcaofhmcaaDoorRows.lean that lists a variable, with what it lists TIED to the program's text (the seventh form; the later family's looks); each row that meets fmt, with fmt's text TOLD by the authors' own Lean function (tested against real Go, not proved from fmt's source: count such statements apart). THE CARD IS WHAT COUNTS. Prove the row's statement (the work); the ties are given (YtaojjjcaofhmcaaDoorTie.lean); close each card by the builder's one call (the guide's Derived/Test/ToyasCard.lean, 'card_holds'). Laid BY PROGRAM, IN A SANDBOX (cutbox-door.mjs). By AI agents, Wed Nov 11 2026. No macro, syntax, notation, axiom, sorry.
-/
import Derived.Test.YtaojjjcaofhmcaaDoorRows
import GoSem.ClaimSeven
namespace Go.Proofs.YtaojjjcaofhmcaaDoor
namespace Rows

/-- THE TIED CARD OF 'arborlaw05.StatRecords'. -/
def statRecordsCard : Claim7 := { stood := { row := statRecordsRow, standIns := [], harness := (true, "9feac8127304fe2050b17fdb77b7e2240fc07e4240b9d7a08f53033aaf5e31d7"), looks := true }, kinds := [], alts := [], laidByText := true, laidKinds := [.data, .data, .data], laidTests := true, laidLooks := .later }
def StatRecordsCardSaid : Prop := Claim7.holds Tryd.pinned (.plain (OpenSpec.ofChange statRecordsSpec)) statRecordsCard

/-- THE TIED CARD OF 'arborlaw05.StatRights'. -/
def statRightsCard : Claim7 := { stood := { row := statRightsRow, standIns := [], harness := (true, "9feac8127304fe2050b17fdb77b7e2240fc07e4240b9d7a08f53033aaf5e31d7"), looks := true }, kinds := [], alts := [], laidByText := true, laidKinds := [.data, .pinned], laidTests := true, laidLooks := .later }
def StatRightsCardSaid : Prop := Claim7.holds Tryd.pinned (.plain (OpenSpec.ofChange statRightsSpec)) statRightsCard

/-- THE TIED CARD OF 'arborlaw05.StatReads'. -/
def statReadsCard : Claim7 := { stood := { row := statReadsRow, standIns := [], harness := (true, "9feac8127304fe2050b17fdb77b7e2240fc07e4240b9d7a08f53033aaf5e31d7"), looks := true }, kinds := [], alts := [], laidByText := true, laidKinds := [.data, .pinned], laidTests := true, laidLooks := .later }
def StatReadsCardSaid : Prop := Claim7.holds Tryd.pinned (.plain (OpenSpec.ofChange statReadsSpec)) statReadsCard

/-- THE TIED CARD OF 'arborlaw05.StatOwn'. -/
def statOwnCard : Claim7 := { stood := { row := statOwnRow, standIns := [], harness := (true, "9feac8127304fe2050b17fdb77b7e2240fc07e4240b9d7a08f53033aaf5e31d7"), looks := true }, kinds := [], alts := [], laidByText := true, laidKinds := [.data, .pinned], laidTests := true, laidLooks := .later }
def StatOwnCardSaid : Prop := Claim7.holds Tryd.pinned (.plain (OpenSpec.ofChange statOwnSpec)) statOwnCard

/-- THE TIED CARD OF 'arborlaw05.StatCounts'. -/
def statCountsCard : Claim7 := { stood := { row := statCountsRow, standIns := [], harness := (true, "9feac8127304fe2050b17fdb77b7e2240fc07e4240b9d7a08f53033aaf5e31d7"), looks := true }, kinds := [], alts := [], laidByText := true, laidKinds := [.data, .pinned], laidTests := true, laidLooks := .later }
def StatCountsCardSaid : Prop := Claim7.holds Tryd.pinned (.plain (OpenSpec.ofChange statCountsSpec)) statCountsCard

/-- THE TIED CARD OF 'arborlaw05.StatBack'. -/
def statBackCard : Claim7 := { stood := { row := statBackRow, standIns := [], harness := (true, "9feac8127304fe2050b17fdb77b7e2240fc07e4240b9d7a08f53033aaf5e31d7"), looks := true }, kinds := [], alts := [], laidByText := true, laidKinds := [.data, .pinned], laidTests := true, laidLooks := .later }
def StatBackCardSaid : Prop := Claim7.holds Tryd.pinned (.plain (OpenSpec.ofChange statBackSpec)) statBackCard

/-- THE TIED CARD OF 'arborlaw05.StatOne'. -/
def statOneCard : Claim7 := { stood := { row := statOneRow, standIns := [], harness := (true, "9feac8127304fe2050b17fdb77b7e2240fc07e4240b9d7a08f53033aaf5e31d7"), looks := true }, kinds := [], alts := [], laidByText := true, laidKinds := [.data, .data, .data, .data, .pinned], laidTests := true, laidLooks := .later }
def StatOneCardSaid : Prop := Claim7.holds Tryd.pinned (.plain (OpenSpec.ofChange statOneSpec)) statOneCard

/-- THE SECOND FORM's CARD OF 'arborlaw05.StatRecords'. -/
def statRecordsUptoCard : Claim7 := { stood := { row := statRecordsUptoRow, standIns := [], harness := (true, "9feac8127304fe2050b17fdb77b7e2240fc07e4240b9d7a08f53033aaf5e31d7"), looks := true }, kinds := [], alts := [], laidByText := true, laidKinds := [.data, .data, .data], laidTests := true, laidLooks := .later }
def StatRecordsUptoCardSaid : Prop := Claim7.holds Tryd.pinned (.plain (OpenSpec.upto statRecordsSpec)) statRecordsUptoCard

/-- THE SECOND FORM's CARD OF 'arborlaw05.StatRights'. -/
def statRightsUptoCard : Claim7 := { stood := { row := statRightsUptoRow, standIns := [], harness := (true, "9feac8127304fe2050b17fdb77b7e2240fc07e4240b9d7a08f53033aaf5e31d7"), looks := true }, kinds := [], alts := [], laidByText := true, laidKinds := [.data, .pinned], laidTests := true, laidLooks := .later }
def StatRightsUptoCardSaid : Prop := Claim7.holds Tryd.pinned (.plain (OpenSpec.upto statRightsSpec)) statRightsUptoCard

/-- THE SECOND FORM's CARD OF 'arborlaw05.StatReads'. -/
def statReadsUptoCard : Claim7 := { stood := { row := statReadsUptoRow, standIns := [], harness := (true, "9feac8127304fe2050b17fdb77b7e2240fc07e4240b9d7a08f53033aaf5e31d7"), looks := true }, kinds := [], alts := [], laidByText := true, laidKinds := [.data, .pinned], laidTests := true, laidLooks := .later }
def StatReadsUptoCardSaid : Prop := Claim7.holds Tryd.pinned (.plain (OpenSpec.upto statReadsSpec)) statReadsUptoCard

/-- THE SECOND FORM's CARD OF 'arborlaw05.StatOwn'. -/
def statOwnUptoCard : Claim7 := { stood := { row := statOwnUptoRow, standIns := [], harness := (true, "9feac8127304fe2050b17fdb77b7e2240fc07e4240b9d7a08f53033aaf5e31d7"), looks := true }, kinds := [], alts := [], laidByText := true, laidKinds := [.data, .pinned], laidTests := true, laidLooks := .later }
def StatOwnUptoCardSaid : Prop := Claim7.holds Tryd.pinned (.plain (OpenSpec.upto statOwnSpec)) statOwnUptoCard

/-- THE SECOND FORM's CARD OF 'arborlaw05.StatCounts'. -/
def statCountsUptoCard : Claim7 := { stood := { row := statCountsUptoRow, standIns := [], harness := (true, "9feac8127304fe2050b17fdb77b7e2240fc07e4240b9d7a08f53033aaf5e31d7"), looks := true }, kinds := [], alts := [], laidByText := true, laidKinds := [.data, .pinned], laidTests := true, laidLooks := .later }
def StatCountsUptoCardSaid : Prop := Claim7.holds Tryd.pinned (.plain (OpenSpec.upto statCountsSpec)) statCountsUptoCard

/-- THE SECOND FORM's CARD OF 'arborlaw05.StatBack'. -/
def statBackUptoCard : Claim7 := { stood := { row := statBackUptoRow, standIns := [], harness := (true, "9feac8127304fe2050b17fdb77b7e2240fc07e4240b9d7a08f53033aaf5e31d7"), looks := true }, kinds := [], alts := [], laidByText := true, laidKinds := [.data, .pinned], laidTests := true, laidLooks := .later }
def StatBackUptoCardSaid : Prop := Claim7.holds Tryd.pinned (.plain (OpenSpec.upto statBackSpec)) statBackUptoCard

/-- THE SECOND FORM's CARD OF 'arborlaw05.StatOne'. -/
def statOneUptoCard : Claim7 := { stood := { row := statOneUptoRow, standIns := [], harness := (true, "9feac8127304fe2050b17fdb77b7e2240fc07e4240b9d7a08f53033aaf5e31d7"), looks := true }, kinds := [], alts := [], laidByText := true, laidKinds := [.data, .data, .data, .data, .pinned], laidTests := true, laidLooks := .later }
def StatOneUptoCardSaid : Prop := Claim7.holds Tryd.pinned (.plain (OpenSpec.upto statOneSpec)) statOneUptoCard
end Rows
end Go.Proofs.YtaojjjcaofhmcaaDoor
