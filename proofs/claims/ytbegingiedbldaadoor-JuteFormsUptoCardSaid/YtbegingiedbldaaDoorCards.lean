/-
  DERIVED. GIVEN WITH THE SEED: THE CARDS: each row of YtbegingiedbldaaDoorRows.lean that lists a variable, with what it lists TIED to the program's text (the seventh form; the later family's looks); each row that meets fmt, with fmt's text TOLD by the authors' own Lean function (tested against real Go, not proved from fmt's source: count such statements apart). THE CARD IS WHAT COUNTS. Prove the row's statement (the work); the ties are given (YtbegingiedbldaaDoorTie.lean); close each card by the builder's one call (the guide's Derived/Test/ToyasCard.lean, 'card_holds'). Laid BY PROGRAM, IN A SANDBOX (cutbox-door.mjs). By AI agents, Wed Nov 11 2026. No macro, syntax, notation, axiom, sorry.
-/
import Derived.Test.YtbegingiedbldaaDoorRows
import GoSem.ClaimSeven
namespace Go.Proofs.YtbegingiedbldaaDoor
namespace Rows

/-- THE TIED CARD OF 'arborlaw02.JuteReads'. -/
def juteReadsCard : Claim7 := { stood := { row := juteReadsRow, standIns := [], harness := (true, "ccd2e210ec695bcb7fe231df19d1f60efcbd579f28c7a8078605a6a475c7dd02"), looks := true }, kinds := [], alts := [], laidByText := true, laidKinds := [.data, .pinned], laidTests := true, laidLooks := .later }
def JuteReadsCardSaid : Prop := Claim7.holds Tryd.pinned (.plain (OpenSpec.ofChange juteReadsSpec)) juteReadsCard

/-- THE TIED CARD OF 'arborlaw02.JuteLonger'. -/
def juteLongerCard : Claim7 := { stood := { row := juteLongerRow, standIns := [], harness := (true, "ccd2e210ec695bcb7fe231df19d1f60efcbd579f28c7a8078605a6a475c7dd02"), looks := true }, kinds := [], alts := [], laidByText := true, laidKinds := [.data, .pinned], laidTests := true, laidLooks := .later }
def JuteLongerCardSaid : Prop := Claim7.holds Tryd.pinned (.plain (OpenSpec.ofChange juteLongerSpec)) juteLongerCard

/-- THE TIED CARD OF 'arborlaw02.JuteInside'. -/
def juteInsideCard : Claim7 := { stood := { row := juteInsideRow, standIns := [], harness := (true, "ccd2e210ec695bcb7fe231df19d1f60efcbd579f28c7a8078605a6a475c7dd02"), looks := true }, kinds := [], alts := [], laidByText := true, laidKinds := [.data, .pinned], laidTests := true, laidLooks := .later }
def JuteInsideCardSaid : Prop := Claim7.holds Tryd.pinned (.plain (OpenSpec.ofChange juteInsideSpec)) juteInsideCard

/-- THE TIED CARD OF 'arborlaw02.JuteForms'. -/
def juteFormsCard : Claim7 := { stood := { row := juteFormsRow, standIns := [], harness := (true, "ccd2e210ec695bcb7fe231df19d1f60efcbd579f28c7a8078605a6a475c7dd02"), looks := true }, kinds := [], alts := [], laidByText := true, laidKinds := [.data, .pinned], laidTests := true, laidLooks := .later }
def JuteFormsCardSaid : Prop := Claim7.holds Tryd.pinned (.plain (OpenSpec.ofChange juteFormsSpec)) juteFormsCard

/-- THE TIED CARD OF 'arborlaw02.JuteSums'. -/
def juteSumsCard : Claim7 := { stood := { row := juteSumsRow, standIns := [], harness := (true, "ccd2e210ec695bcb7fe231df19d1f60efcbd579f28c7a8078605a6a475c7dd02"), looks := true }, kinds := [], alts := [], laidByText := true, laidKinds := [.data, .pinned], laidTests := true, laidLooks := .later }
def JuteSumsCardSaid : Prop := Claim7.holds Tryd.pinned (.plain (OpenSpec.ofChange juteSumsSpec)) juteSumsCard

/-- THE TIED CARD OF 'arborlaw02.JuteWrites'. -/
def juteWritesCard : Claim7 := { stood := { row := juteWritesRow, standIns := [], harness := (true, "ccd2e210ec695bcb7fe231df19d1f60efcbd579f28c7a8078605a6a475c7dd02"), looks := true }, kinds := [], alts := [], laidByText := true, laidKinds := [.data, .pinned], laidTests := true, laidLooks := .later }
def JuteWritesCardSaid : Prop := Claim7.holds Tryd.pinned (.plain (OpenSpec.ofChange juteWritesSpec)) juteWritesCard

/-- THE TIED CARD OF 'arborlaw02.JuteNils'. -/
def juteNilsCard : Claim7 := { stood := { row := juteNilsRow, standIns := [], harness := (true, "ccd2e210ec695bcb7fe231df19d1f60efcbd579f28c7a8078605a6a475c7dd02"), looks := true }, kinds := [], alts := [], laidByText := true, laidKinds := [.data, .pinned], laidTests := true, laidLooks := .later }
def JuteNilsCardSaid : Prop := Claim7.holds Tryd.pinned (.plain (OpenSpec.ofChange juteNilsSpec)) juteNilsCard

/-- THE TIED CARD OF 'arborlaw02.JuteBack'. -/
def juteBackCard : Claim7 := { stood := { row := juteBackRow, standIns := [], harness := (true, "ccd2e210ec695bcb7fe231df19d1f60efcbd579f28c7a8078605a6a475c7dd02"), looks := true }, kinds := [], alts := [], laidByText := true, laidKinds := [.data, .pinned], laidTests := true, laidLooks := .later }
def JuteBackCardSaid : Prop := Claim7.holds Tryd.pinned (.plain (OpenSpec.ofChange juteBackSpec)) juteBackCard

/-- THE SECOND FORM's CARD OF 'arborlaw02.JuteReads'. -/
def juteReadsUptoCard : Claim7 := { stood := { row := juteReadsUptoRow, standIns := [], harness := (true, "ccd2e210ec695bcb7fe231df19d1f60efcbd579f28c7a8078605a6a475c7dd02"), looks := true }, kinds := [], alts := [], laidByText := true, laidKinds := [.data, .pinned], laidTests := true, laidLooks := .later }
def JuteReadsUptoCardSaid : Prop := Claim7.holds Tryd.pinned (.plain (OpenSpec.upto juteReadsSpec)) juteReadsUptoCard

/-- THE SECOND FORM's CARD OF 'arborlaw02.JuteLonger'. -/
def juteLongerUptoCard : Claim7 := { stood := { row := juteLongerUptoRow, standIns := [], harness := (true, "ccd2e210ec695bcb7fe231df19d1f60efcbd579f28c7a8078605a6a475c7dd02"), looks := true }, kinds := [], alts := [], laidByText := true, laidKinds := [.data, .pinned], laidTests := true, laidLooks := .later }
def JuteLongerUptoCardSaid : Prop := Claim7.holds Tryd.pinned (.plain (OpenSpec.upto juteLongerSpec)) juteLongerUptoCard

/-- THE SECOND FORM's CARD OF 'arborlaw02.JuteInside'. -/
def juteInsideUptoCard : Claim7 := { stood := { row := juteInsideUptoRow, standIns := [], harness := (true, "ccd2e210ec695bcb7fe231df19d1f60efcbd579f28c7a8078605a6a475c7dd02"), looks := true }, kinds := [], alts := [], laidByText := true, laidKinds := [.data, .pinned], laidTests := true, laidLooks := .later }
def JuteInsideUptoCardSaid : Prop := Claim7.holds Tryd.pinned (.plain (OpenSpec.upto juteInsideSpec)) juteInsideUptoCard

/-- THE SECOND FORM's CARD OF 'arborlaw02.JuteForms'. -/
def juteFormsUptoCard : Claim7 := { stood := { row := juteFormsUptoRow, standIns := [], harness := (true, "ccd2e210ec695bcb7fe231df19d1f60efcbd579f28c7a8078605a6a475c7dd02"), looks := true }, kinds := [], alts := [], laidByText := true, laidKinds := [.data, .pinned], laidTests := true, laidLooks := .later }
def JuteFormsUptoCardSaid : Prop := Claim7.holds Tryd.pinned (.plain (OpenSpec.upto juteFormsSpec)) juteFormsUptoCard

/-- THE SECOND FORM's CARD OF 'arborlaw02.JuteSums'. -/
def juteSumsUptoCard : Claim7 := { stood := { row := juteSumsUptoRow, standIns := [], harness := (true, "ccd2e210ec695bcb7fe231df19d1f60efcbd579f28c7a8078605a6a475c7dd02"), looks := true }, kinds := [], alts := [], laidByText := true, laidKinds := [.data, .pinned], laidTests := true, laidLooks := .later }
def JuteSumsUptoCardSaid : Prop := Claim7.holds Tryd.pinned (.plain (OpenSpec.upto juteSumsSpec)) juteSumsUptoCard

/-- THE SECOND FORM's CARD OF 'arborlaw02.JuteWrites'. -/
def juteWritesUptoCard : Claim7 := { stood := { row := juteWritesUptoRow, standIns := [], harness := (true, "ccd2e210ec695bcb7fe231df19d1f60efcbd579f28c7a8078605a6a475c7dd02"), looks := true }, kinds := [], alts := [], laidByText := true, laidKinds := [.data, .pinned], laidTests := true, laidLooks := .later }
def JuteWritesUptoCardSaid : Prop := Claim7.holds Tryd.pinned (.plain (OpenSpec.upto juteWritesSpec)) juteWritesUptoCard

/-- THE SECOND FORM's CARD OF 'arborlaw02.JuteNils'. -/
def juteNilsUptoCard : Claim7 := { stood := { row := juteNilsUptoRow, standIns := [], harness := (true, "ccd2e210ec695bcb7fe231df19d1f60efcbd579f28c7a8078605a6a475c7dd02"), looks := true }, kinds := [], alts := [], laidByText := true, laidKinds := [.data, .pinned], laidTests := true, laidLooks := .later }
def JuteNilsUptoCardSaid : Prop := Claim7.holds Tryd.pinned (.plain (OpenSpec.upto juteNilsSpec)) juteNilsUptoCard

/-- THE SECOND FORM's CARD OF 'arborlaw02.JuteBack'. -/
def juteBackUptoCard : Claim7 := { stood := { row := juteBackUptoRow, standIns := [], harness := (true, "ccd2e210ec695bcb7fe231df19d1f60efcbd579f28c7a8078605a6a475c7dd02"), looks := true }, kinds := [], alts := [], laidByText := true, laidKinds := [.data, .pinned], laidTests := true, laidLooks := .later }
def JuteBackUptoCardSaid : Prop := Claim7.holds Tryd.pinned (.plain (OpenSpec.upto juteBackSpec)) juteBackUptoCard
end Rows
end Go.Proofs.YtbegingiedbldaaDoor
