/-
  DERIVED. GIVEN WITH THE SEED: THE CARDS: each row of YtnbaajplelchjaaGreatDoorRows.lean that lists a variable, with what it lists TIED to the program's text (the seventh form; the later family's looks); each row that meets fmt, with fmt's text TOLD by the authors' own Lean function (tested against real Go, not proved from fmt's source: count such statements apart). THE CARD IS WHAT COUNTS. Prove the row's statement (the work); the ties are given (YtnbaajplelchjaaGreatDoorTie.lean); close each card by the builder's one call (the guide's Derived/Test/ToyasCard.lean, 'card_holds'). Laid BY PROGRAM, IN A SANDBOX (cutbox-door.mjs). By AI agents, Wed Nov 11 2026. No macro, syntax, notation, axiom, sorry.
-/
import Derived.Test.YtnbaajplelchjaaGreatDoorRows
import GoSem.ClaimSeven
namespace Go.Proofs.YtnbaajplelchjaaGreatDoor
namespace Rows

/-- THE TIED CARD OF 'arborlaw12.ReplyBytes'. -/
def replyBytesCard : Claim7 := { stood := { row := replyBytesRow, standIns := [], harness := (true, "4b288e5afb6be6d522459c860f5e4fea9c57139202effe7d830833cd612654b3"), looks := true }, kinds := [], alts := [], laidByText := true, laidKinds := [.data, .data, .data, .data, .pinned], laidTests := true, laidLooks := .later }
def ReplyBytesCardSaid : Prop := Claim7.holds Tryz.pinned (.plain (OpenSpec.ofChange replyBytesSpec)) replyBytesCard

/-- THE TIED CARD OF 'arborlaw12.ReplyReads'. -/
def replyReadsCard : Claim7 := { stood := { row := replyReadsRow, standIns := [], harness := (true, "4b288e5afb6be6d522459c860f5e4fea9c57139202effe7d830833cd612654b3"), looks := true }, kinds := [], alts := [], laidByText := true, laidKinds := [.data, .data, .data, .data, .pinned], laidTests := true, laidLooks := .later }
def ReplyReadsCardSaid : Prop := Claim7.holds Tryz.pinned (.plain (OpenSpec.ofChange replyReadsSpec)) replyReadsCard

/-- THE TIED CARD OF 'arborlaw12.ReplyEvents'. -/
def replyEventsCard : Claim7 := { stood := { row := replyEventsRow, standIns := [], harness := (true, "4b288e5afb6be6d522459c860f5e4fea9c57139202effe7d830833cd612654b3"), looks := true }, kinds := [], alts := [], laidByText := true, laidKinds := [.data, .data, .data, .data, .pinned], laidTests := true, laidLooks := .later }
def ReplyEventsCardSaid : Prop := Claim7.holds Tryz.pinned (.plain (OpenSpec.ofChange replyEventsSpec)) replyEventsCard

/-- THE TIED CARD OF 'arborlaw12.ReplyCopies'. -/
def replyCopiesCard : Claim7 := { stood := { row := replyCopiesRow, standIns := [], harness := (true, "4b288e5afb6be6d522459c860f5e4fea9c57139202effe7d830833cd612654b3"), looks := true }, kinds := [], alts := [], laidByText := true, laidKinds := [.data, .data, .data, .data, .pinned], laidTests := true, laidLooks := .later }
def ReplyCopiesCardSaid : Prop := Claim7.holds Tryz.pinned (.plain (OpenSpec.ofChange replyCopiesSpec)) replyCopiesCard

/-- THE TIED CARD OF 'arborlaw12.ReplyNames'. -/
def replyNamesCard : Claim7 := { stood := { row := replyNamesRow, standIns := [], harness := (true, "4b288e5afb6be6d522459c860f5e4fea9c57139202effe7d830833cd612654b3"), looks := true }, kinds := [], alts := [], laidByText := true, laidKinds := [.data, .data, .data, .data, .sentinel, .sentinel, .pinned], laidTests := true, laidLooks := .later }
def ReplyNamesCardSaid : Prop := Claim7.holds Tryz.pinned (.plain (OpenSpec.ofChange replyNamesSpec)) replyNamesCard

/-- THE SECOND FORM's CARD OF 'arborlaw12.ReplyBytes'. -/
def replyBytesUptoCard : Claim7 := { stood := { row := replyBytesUptoRow, standIns := [], harness := (true, "4b288e5afb6be6d522459c860f5e4fea9c57139202effe7d830833cd612654b3"), looks := true }, kinds := [], alts := [], laidByText := true, laidKinds := [.data, .data, .data, .data, .pinned], laidTests := true, laidLooks := .later }
def ReplyBytesUptoCardSaid : Prop := Claim7.holds Tryz.pinned (.plain (OpenSpec.upto replyBytesSpec)) replyBytesUptoCard

/-- THE SECOND FORM's CARD OF 'arborlaw12.ReplyReads'. -/
def replyReadsUptoCard : Claim7 := { stood := { row := replyReadsUptoRow, standIns := [], harness := (true, "4b288e5afb6be6d522459c860f5e4fea9c57139202effe7d830833cd612654b3"), looks := true }, kinds := [], alts := [], laidByText := true, laidKinds := [.data, .data, .data, .data, .pinned], laidTests := true, laidLooks := .later }
def ReplyReadsUptoCardSaid : Prop := Claim7.holds Tryz.pinned (.plain (OpenSpec.upto replyReadsSpec)) replyReadsUptoCard

/-- THE SECOND FORM's CARD OF 'arborlaw12.ReplyEvents'. -/
def replyEventsUptoCard : Claim7 := { stood := { row := replyEventsUptoRow, standIns := [], harness := (true, "4b288e5afb6be6d522459c860f5e4fea9c57139202effe7d830833cd612654b3"), looks := true }, kinds := [], alts := [], laidByText := true, laidKinds := [.data, .data, .data, .data, .pinned], laidTests := true, laidLooks := .later }
def ReplyEventsUptoCardSaid : Prop := Claim7.holds Tryz.pinned (.plain (OpenSpec.upto replyEventsSpec)) replyEventsUptoCard

/-- THE SECOND FORM's CARD OF 'arborlaw12.ReplyCopies'. -/
def replyCopiesUptoCard : Claim7 := { stood := { row := replyCopiesUptoRow, standIns := [], harness := (true, "4b288e5afb6be6d522459c860f5e4fea9c57139202effe7d830833cd612654b3"), looks := true }, kinds := [], alts := [], laidByText := true, laidKinds := [.data, .data, .data, .data, .pinned], laidTests := true, laidLooks := .later }
def ReplyCopiesUptoCardSaid : Prop := Claim7.holds Tryz.pinned (.plain (OpenSpec.upto replyCopiesSpec)) replyCopiesUptoCard

/-- THE SECOND FORM's CARD OF 'arborlaw12.ReplyNames'. -/
def replyNamesUptoCard : Claim7 := { stood := { row := replyNamesUptoRow, standIns := [], harness := (true, "4b288e5afb6be6d522459c860f5e4fea9c57139202effe7d830833cd612654b3"), looks := true }, kinds := [], alts := [], laidByText := true, laidKinds := [.data, .data, .data, .data, .sentinel, .sentinel, .pinned], laidTests := true, laidLooks := .later }
def ReplyNamesUptoCardSaid : Prop := Claim7.holds Tryz.pinned (.plain (OpenSpec.upto replyNamesSpec)) replyNamesUptoCard
end Rows
end Go.Proofs.YtnbaajplelchjaaGreatDoor
