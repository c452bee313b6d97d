/-
  NARROWER THAN 'FOR EVERY INPUT', by the rows' own cells (each row's printed sentence says how): JuteReads: laid · JuteLonger: laid · JuteInside: laid · JuteForms: laid · JuteSums: laid · JuteWrites: laid · JuteNils: laid · JuteBack: laid.
  DERIVED. THE GIVEN ROWS OF THIS SEAT. 8 by the template 'for every input the law returns true; each argument reads behind the call as it read before'; 0 by the template 'total and deterministic' (their statements: YtbegingiedbldaaDoorTotals.lean).
  GIVEN WITH THE SEED: the statements are not yours to turn. If you find one false, say at which input.
  Laid BY PROGRAM, IN A SANDBOX (cutbox-rows.mjs): the forced cells as the released guide's own fill.sh prints them over the translation ed2810e08f641f2c… (all of the seat's roots in one cut). By AI agents, Wed Nov 11 2026. No macro, syntax, notation, axiom, sorry.
-/
import Derived.Test.YtbegingiedbldaaDoorChecked
import GoSem.PinnedTables
import GoSem.Claim
import GoSem.ClaimJoined
import GoSem.ClaimMapViews
import Derived.JoinedTies
import Derived.KernelRfl
namespace Go.Proofs.YtbegingiedbldaaDoor
/- THE CELL 'sum', in the pinned program and in every row, IS THE sha256 OF THE DUMP (.gsa) THAT YtbegingiedbldaaDoorProg.lean LOADS. Nothing in Lean hashes anything: it is a label: what it is worth is what the hold of that sum in a sandbox is worth. -/
noncomputable def Tryd.pinned : Pinned := { name := "ytbegingiedbldaadoor", sum := "ed2810e08f641f2cc83155af4e41d65fed25825d4936b40794f8b7844e9d9425", checked := Tryd.checked }
namespace Rows
def none {H : Type} : Left H := { results := [], args := [] }

/- WHAT THE LISTED PACKAGE-LEVEL VARIABLES READ AS WHEN THE CALL BEGINS. Each datum BY PROGRAM (the guide's laid-datum.mjs) off the statement by which the dump's own 'gosem.cut.vars' lays the variable. In a bare row this is a premise. The card (YtbegingiedbldaaDoorCards.lean) ties it to the program's text. -/
def laid_unicode_utf8_acceptRanges {H : Type} : DataW H := .agg [.agg [.lit (.int .u8 128), .lit (.int .u8 191)], .agg [.lit (.int .u8 160), .lit (.int .u8 191)], .agg [.lit (.int .u8 128), .lit (.int .u8 159)], .agg [.lit (.int .u8 144), .lit (.int .u8 191)], .agg [.lit (.int .u8 128), .lit (.int .u8 143)], .agg [.lit (.int .u8 0), .lit (.int .u8 0)], .agg [.lit (.int .u8 0), .lit (.int .u8 0)], .agg [.lit (.int .u8 0), .lit (.int .u8 0)], .agg [.lit (.int .u8 0), .lit (.int .u8 0)], .agg [.lit (.int .u8 0), .lit (.int .u8 0)], .agg [.lit (.int .u8 0), .lit (.int .u8 0)], .agg [.lit (.int .u8 0), .lit (.int .u8 0)], .agg [.lit (.int .u8 0), .lit (.int .u8 0)], .agg [.lit (.int .u8 0), .lit (.int .u8 0)], .agg [.lit (.int .u8 0), .lit (.int .u8 0)], .agg [.lit (.int .u8 0), .lit (.int .u8 0)]]
/-- One of Go's own tables, pinned by name: the form's constant. -/
def laid_unicode_utf8_first : DataW Unit := Go.Pinned.utf8First

/-- 'arborlaw02.JuteReads': WHATEVER THE INPUT: true; the input reads as it did. -/
def juteReadsSpec : ChangeSpec := { name := "juteReads", fn := fun _ => fun
  | [d1, d2] => { results := [.lit (.bool true)], args := [d1, d2] }
  | _ => none }
def juteReadsRow : OpenClaim := { program := "ytbegingiedbldaadoor", sum := "ed2810e08f641f2cc83155af4e41d65fed25825d4936b40794f8b7844e9d9425", func := "arbor/arborlaw02.JuteReads", spec := "juteReads", unfollowed := true, recurses := true, named := ["unicode/utf8.first", "unicode/utf8.acceptRanges"], apart := false, laid := [("unicode/utf8.acceptRanges", laid_unicode_utf8_acceptRanges), ("unicode/utf8.first", laid_unicode_utf8_first)] }
def JuteReadsSaid : Prop := juteReadsRow.holds Tryd.pinned (OpenSpec.ofChange juteReadsSpec)

/-- ITS FALSE NEIGHBOUR: 'it returns false'. Refute it at one input. -/
def juteReadsWrong : ChangeSpec := { name := "juteReads", fn := fun _ => fun
  | [d1, d2] => { results := [.lit (.bool false)], args := [d1, d2] }
  | _ => none }
def JuteReadsWrongFalsely : Prop := juteReadsRow.holds Tryd.pinned (OpenSpec.ofChange juteReadsWrong)

/-- 'arborlaw02.JuteLonger': WHATEVER THE INPUT: true; the input reads as it did. -/
def juteLongerSpec : ChangeSpec := { name := "juteLonger", fn := fun _ => fun
  | [d1, d2, d3] => { results := [.lit (.bool true)], args := [d1, d2, d3] }
  | _ => none }
def juteLongerRow : OpenClaim := { program := "ytbegingiedbldaadoor", sum := "ed2810e08f641f2cc83155af4e41d65fed25825d4936b40794f8b7844e9d9425", func := "arbor/arborlaw02.JuteLonger", spec := "juteLonger", unfollowed := true, recurses := true, named := ["unicode/utf8.first", "unicode/utf8.acceptRanges"], apart := false, laid := [("unicode/utf8.acceptRanges", laid_unicode_utf8_acceptRanges), ("unicode/utf8.first", laid_unicode_utf8_first)] }
def JuteLongerSaid : Prop := juteLongerRow.holds Tryd.pinned (OpenSpec.ofChange juteLongerSpec)

/-- ITS FALSE NEIGHBOUR: 'it returns false'. Refute it at one input. -/
def juteLongerWrong : ChangeSpec := { name := "juteLonger", fn := fun _ => fun
  | [d1, d2, d3] => { results := [.lit (.bool false)], args := [d1, d2, d3] }
  | _ => none }
def JuteLongerWrongFalsely : Prop := juteLongerRow.holds Tryd.pinned (OpenSpec.ofChange juteLongerWrong)

/-- 'arborlaw02.JuteInside': WHATEVER THE INPUT: true; the input reads as it did. -/
def juteInsideSpec : ChangeSpec := { name := "juteInside", fn := fun _ => fun
  | [d1, d2, d3] => { results := [.lit (.bool true)], args := [d1, d2, d3] }
  | _ => none }
def juteInsideRow : OpenClaim := { program := "ytbegingiedbldaadoor", sum := "ed2810e08f641f2cc83155af4e41d65fed25825d4936b40794f8b7844e9d9425", func := "arbor/arborlaw02.JuteInside", spec := "juteInside", unfollowed := true, recurses := true, named := ["unicode/utf8.first", "unicode/utf8.acceptRanges"], apart := false, laid := [("unicode/utf8.acceptRanges", laid_unicode_utf8_acceptRanges), ("unicode/utf8.first", laid_unicode_utf8_first)] }
def JuteInsideSaid : Prop := juteInsideRow.holds Tryd.pinned (OpenSpec.ofChange juteInsideSpec)

/-- ITS FALSE NEIGHBOUR: 'it returns false'. Refute it at one input. -/
def juteInsideWrong : ChangeSpec := { name := "juteInside", fn := fun _ => fun
  | [d1, d2, d3] => { results := [.lit (.bool false)], args := [d1, d2, d3] }
  | _ => none }
def JuteInsideWrongFalsely : Prop := juteInsideRow.holds Tryd.pinned (OpenSpec.ofChange juteInsideWrong)

/-- 'arborlaw02.JuteForms': WHATEVER THE INPUT: true; the input reads as it did. -/
def juteFormsSpec : ChangeSpec := { name := "juteForms", fn := fun _ => fun
  | [d1, d2, d3] => { results := [.lit (.bool true)], args := [d1, d2, d3] }
  | _ => none }
def juteFormsRow : OpenClaim := { program := "ytbegingiedbldaadoor", sum := "ed2810e08f641f2cc83155af4e41d65fed25825d4936b40794f8b7844e9d9425", func := "arbor/arborlaw02.JuteForms", spec := "juteForms", unfollowed := true, recurses := true, named := ["unicode/utf8.first", "unicode/utf8.acceptRanges"], apart := false, laid := [("unicode/utf8.acceptRanges", laid_unicode_utf8_acceptRanges), ("unicode/utf8.first", laid_unicode_utf8_first)] }
def JuteFormsSaid : Prop := juteFormsRow.holds Tryd.pinned (OpenSpec.ofChange juteFormsSpec)

/-- ITS FALSE NEIGHBOUR: 'it returns false'. Refute it at one input. -/
def juteFormsWrong : ChangeSpec := { name := "juteForms", fn := fun _ => fun
  | [d1, d2, d3] => { results := [.lit (.bool false)], args := [d1, d2, d3] }
  | _ => none }
def JuteFormsWrongFalsely : Prop := juteFormsRow.holds Tryd.pinned (OpenSpec.ofChange juteFormsWrong)

/-- 'arborlaw02.JuteSums': WHATEVER THE INPUT: true; the input reads as it did. -/
def juteSumsSpec : ChangeSpec := { name := "juteSums", fn := fun _ => fun
  | [d1, d2] => { results := [.lit (.bool true)], args := [d1, d2] }
  | _ => none }
def juteSumsRow : OpenClaim := { program := "ytbegingiedbldaadoor", sum := "ed2810e08f641f2cc83155af4e41d65fed25825d4936b40794f8b7844e9d9425", func := "arbor/arborlaw02.JuteSums", spec := "juteSums", unfollowed := true, recurses := true, named := ["unicode/utf8.first", "unicode/utf8.acceptRanges"], apart := false, laid := [("unicode/utf8.acceptRanges", laid_unicode_utf8_acceptRanges), ("unicode/utf8.first", laid_unicode_utf8_first)] }
def JuteSumsSaid : Prop := juteSumsRow.holds Tryd.pinned (OpenSpec.ofChange juteSumsSpec)

/-- ITS FALSE NEIGHBOUR: 'it returns false'. Refute it at one input. -/
def juteSumsWrong : ChangeSpec := { name := "juteSums", fn := fun _ => fun
  | [d1, d2] => { results := [.lit (.bool false)], args := [d1, d2] }
  | _ => none }
def JuteSumsWrongFalsely : Prop := juteSumsRow.holds Tryd.pinned (OpenSpec.ofChange juteSumsWrong)

/-- 'arborlaw02.JuteWrites': WHATEVER THE INPUT: true; the input reads as it did. -/
def juteWritesSpec : ChangeSpec := { name := "juteWrites", fn := fun _ => fun
  | [d] => { results := [.lit (.bool true)], args := [d] }
  | _ => none }
def juteWritesRow : OpenClaim := { program := "ytbegingiedbldaadoor", sum := "ed2810e08f641f2cc83155af4e41d65fed25825d4936b40794f8b7844e9d9425", func := "arbor/arborlaw02.JuteWrites", spec := "juteWrites", unfollowed := true, recurses := true, named := ["unicode/utf8.first", "unicode/utf8.acceptRanges"], apart := false, laid := [("unicode/utf8.acceptRanges", laid_unicode_utf8_acceptRanges), ("unicode/utf8.first", laid_unicode_utf8_first)] }
def JuteWritesSaid : Prop := juteWritesRow.holds Tryd.pinned (OpenSpec.ofChange juteWritesSpec)

/-- ITS FALSE NEIGHBOUR: 'it returns false'. Refute it at one input. -/
def juteWritesWrong : ChangeSpec := { name := "juteWrites", fn := fun _ => fun
  | [d] => { results := [.lit (.bool false)], args := [d] }
  | _ => none }
def JuteWritesWrongFalsely : Prop := juteWritesRow.holds Tryd.pinned (OpenSpec.ofChange juteWritesWrong)

/-- 'arborlaw02.JuteNils': WHATEVER THE INPUT: true; the input reads as it did. -/
def juteNilsSpec : ChangeSpec := { name := "juteNils", fn := fun _ => fun
  | [d1, d2, d3] => { results := [.lit (.bool true)], args := [d1, d2, d3] }
  | _ => none }
def juteNilsRow : OpenClaim := { program := "ytbegingiedbldaadoor", sum := "ed2810e08f641f2cc83155af4e41d65fed25825d4936b40794f8b7844e9d9425", func := "arbor/arborlaw02.JuteNils", spec := "juteNils", unfollowed := true, recurses := true, named := ["unicode/utf8.first", "unicode/utf8.acceptRanges"], apart := false, laid := [("unicode/utf8.acceptRanges", laid_unicode_utf8_acceptRanges), ("unicode/utf8.first", laid_unicode_utf8_first)] }
def JuteNilsSaid : Prop := juteNilsRow.holds Tryd.pinned (OpenSpec.ofChange juteNilsSpec)

/-- ITS FALSE NEIGHBOUR: 'it returns false'. Refute it at one input. -/
def juteNilsWrong : ChangeSpec := { name := "juteNils", fn := fun _ => fun
  | [d1, d2, d3] => { results := [.lit (.bool false)], args := [d1, d2, d3] }
  | _ => none }
def JuteNilsWrongFalsely : Prop := juteNilsRow.holds Tryd.pinned (OpenSpec.ofChange juteNilsWrong)

/-- 'arborlaw02.JuteBack': WHATEVER THE INPUT: true; the input reads as it did. -/
def juteBackSpec : ChangeSpec := { name := "juteBack", fn := fun _ => fun
  | [d] => { results := [.lit (.bool true)], args := [d] }
  | _ => none }
def juteBackRow : OpenClaim := { program := "ytbegingiedbldaadoor", sum := "ed2810e08f641f2cc83155af4e41d65fed25825d4936b40794f8b7844e9d9425", func := "arbor/arborlaw02.JuteBack", spec := "juteBack", unfollowed := true, recurses := true, named := ["unicode/utf8.first", "unicode/utf8.acceptRanges"], apart := false, laid := [("unicode/utf8.acceptRanges", laid_unicode_utf8_acceptRanges), ("unicode/utf8.first", laid_unicode_utf8_first)] }
def JuteBackSaid : Prop := juteBackRow.holds Tryd.pinned (OpenSpec.ofChange juteBackSpec)

/-- ITS FALSE NEIGHBOUR: 'it returns false'. Refute it at one input. -/
def juteBackWrong : ChangeSpec := { name := "juteBack", fn := fun _ => fun
  | [d] => { results := [.lit (.bool false)], args := [d] }
  | _ => none }
def JuteBackWrongFalsely : Prop := juteBackRow.holds Tryd.pinned (OpenSpec.ofChange juteBackWrong)

/- THE SECOND FORM. 'bulk': how many values and letters a reading holds, each counted each time it is reached (what is shared counts as often as it is met; a slice's spare places count too). A statement '..UptoSaid' is the law's where the arguments, and the package variables that the reading takes, are together of bulk at most 1048576: NARROWER than '..Said'. Prove '..Said' where nothing that the law and all that it calls make is longer than what came in: it says more and counts as full. Else prove '..UptoSaid'. A law counts once. -/
mutual
def uptoBulk {H : Type} : DataW H → Nat
  | .lit (.string bytes) => bytes.length + 1
  | .lit _ => 1
  | .nil => 1
  | .ptr d => uptoBulk d + 1
  | .slice elems spare => uptoBulkAll elems + uptoBulkAll spare + 1
  | .agg parts => uptoBulkAll parts + 1
  | .iface _ d => uptoBulk d + 1
  | .map entries => uptoBulkEntries entries + 1
  | .held _ => 1
def uptoBulkAll {H : Type} : List (DataW H) → Nat
  | [] => 0
  | d :: r => uptoBulk d + uptoBulkAll r
def uptoBulkEntries {H : Type} : List (Lit × DataW H) → Nat
  | [] => 0
  | x :: r => uptoBulkEntry x + uptoBulkEntries r
def uptoBulkEntry {H : Type} : Lit × DataW H → Nat
  | (.string bytes, d) => bytes.length + uptoBulk d + 1
  | (_, d) => uptoBulk d + 1
 end
def uptoSmall : (H : Type) → List (DataW H) → Bool := fun _ ds => decide (uptoBulkAll ds ≤ 1048576)
def OpenSpec.upto (s : _root_.Go.ChangeSpec) : _root_.Go.OpenSpec := { _root_.Go.OpenSpec.ofChange s with cond := some uptoSmall }

/-- 'arborlaw02.JuteReads', WHERE WHAT IT READS IS OF BULK AT MOST 1048576: true; the input reads as it did. -/
def juteReadsUptoRow : OpenClaim := { program := "ytbegingiedbldaadoor", sum := "ed2810e08f641f2cc83155af4e41d65fed25825d4936b40794f8b7844e9d9425", func := "arbor/arborlaw02.JuteReads", spec := "juteReads", unfollowed := true, recurses := true, named := ["unicode/utf8.first", "unicode/utf8.acceptRanges"], apart := false, laid := [("unicode/utf8.acceptRanges", laid_unicode_utf8_acceptRanges), ("unicode/utf8.first", laid_unicode_utf8_first)], narrowed := true }
def JuteReadsUptoSaid : Prop := juteReadsUptoRow.holds Tryd.pinned (OpenSpec.upto juteReadsSpec)

/-- 'arborlaw02.JuteLonger', WHERE WHAT IT READS IS OF BULK AT MOST 1048576: true; the input reads as it did. -/
def juteLongerUptoRow : OpenClaim := { program := "ytbegingiedbldaadoor", sum := "ed2810e08f641f2cc83155af4e41d65fed25825d4936b40794f8b7844e9d9425", func := "arbor/arborlaw02.JuteLonger", spec := "juteLonger", unfollowed := true, recurses := true, named := ["unicode/utf8.first", "unicode/utf8.acceptRanges"], apart := false, laid := [("unicode/utf8.acceptRanges", laid_unicode_utf8_acceptRanges), ("unicode/utf8.first", laid_unicode_utf8_first)], narrowed := true }
def JuteLongerUptoSaid : Prop := juteLongerUptoRow.holds Tryd.pinned (OpenSpec.upto juteLongerSpec)

/-- 'arborlaw02.JuteInside', WHERE WHAT IT READS IS OF BULK AT MOST 1048576: true; the input reads as it did. -/
def juteInsideUptoRow : OpenClaim := { program := "ytbegingiedbldaadoor", sum := "ed2810e08f641f2cc83155af4e41d65fed25825d4936b40794f8b7844e9d9425", func := "arbor/arborlaw02.JuteInside", spec := "juteInside", unfollowed := true, recurses := true, named := ["unicode/utf8.first", "unicode/utf8.acceptRanges"], apart := false, laid := [("unicode/utf8.acceptRanges", laid_unicode_utf8_acceptRanges), ("unicode/utf8.first", laid_unicode_utf8_first)], narrowed := true }
def JuteInsideUptoSaid : Prop := juteInsideUptoRow.holds Tryd.pinned (OpenSpec.upto juteInsideSpec)

/-- 'arborlaw02.JuteForms', WHERE WHAT IT READS IS OF BULK AT MOST 1048576: true; the input reads as it did. -/
def juteFormsUptoRow : OpenClaim := { program := "ytbegingiedbldaadoor", sum := "ed2810e08f641f2cc83155af4e41d65fed25825d4936b40794f8b7844e9d9425", func := "arbor/arborlaw02.JuteForms", spec := "juteForms", unfollowed := true, recurses := true, named := ["unicode/utf8.first", "unicode/utf8.acceptRanges"], apart := false, laid := [("unicode/utf8.acceptRanges", laid_unicode_utf8_acceptRanges), ("unicode/utf8.first", laid_unicode_utf8_first)], narrowed := true }
def JuteFormsUptoSaid : Prop := juteFormsUptoRow.holds Tryd.pinned (OpenSpec.upto juteFormsSpec)

/-- 'arborlaw02.JuteSums', WHERE WHAT IT READS IS OF BULK AT MOST 1048576: true; the input reads as it did. -/
def juteSumsUptoRow : OpenClaim := { program := "ytbegingiedbldaadoor", sum := "ed2810e08f641f2cc83155af4e41d65fed25825d4936b40794f8b7844e9d9425", func := "arbor/arborlaw02.JuteSums", spec := "juteSums", unfollowed := true, recurses := true, named := ["unicode/utf8.first", "unicode/utf8.acceptRanges"], apart := false, laid := [("unicode/utf8.acceptRanges", laid_unicode_utf8_acceptRanges), ("unicode/utf8.first", laid_unicode_utf8_first)], narrowed := true }
def JuteSumsUptoSaid : Prop := juteSumsUptoRow.holds Tryd.pinned (OpenSpec.upto juteSumsSpec)

/-- 'arborlaw02.JuteWrites', WHERE WHAT IT READS IS OF BULK AT MOST 1048576: true; the input reads as it did. -/
def juteWritesUptoRow : OpenClaim := { program := "ytbegingiedbldaadoor", sum := "ed2810e08f641f2cc83155af4e41d65fed25825d4936b40794f8b7844e9d9425", func := "arbor/arborlaw02.JuteWrites", spec := "juteWrites", unfollowed := true, recurses := true, named := ["unicode/utf8.first", "unicode/utf8.acceptRanges"], apart := false, laid := [("unicode/utf8.acceptRanges", laid_unicode_utf8_acceptRanges), ("unicode/utf8.first", laid_unicode_utf8_first)], narrowed := true }
def JuteWritesUptoSaid : Prop := juteWritesUptoRow.holds Tryd.pinned (OpenSpec.upto juteWritesSpec)

/-- 'arborlaw02.JuteNils', WHERE WHAT IT READS IS OF BULK AT MOST 1048576: true; the input reads as it did. -/
def juteNilsUptoRow : OpenClaim := { program := "ytbegingiedbldaadoor", sum := "ed2810e08f641f2cc83155af4e41d65fed25825d4936b40794f8b7844e9d9425", func := "arbor/arborlaw02.JuteNils", spec := "juteNils", unfollowed := true, recurses := true, named := ["unicode/utf8.first", "unicode/utf8.acceptRanges"], apart := false, laid := [("unicode/utf8.acceptRanges", laid_unicode_utf8_acceptRanges), ("unicode/utf8.first", laid_unicode_utf8_first)], narrowed := true }
def JuteNilsUptoSaid : Prop := juteNilsUptoRow.holds Tryd.pinned (OpenSpec.upto juteNilsSpec)

/-- 'arborlaw02.JuteBack', WHERE WHAT IT READS IS OF BULK AT MOST 1048576: true; the input reads as it did. -/
def juteBackUptoRow : OpenClaim := { program := "ytbegingiedbldaadoor", sum := "ed2810e08f641f2cc83155af4e41d65fed25825d4936b40794f8b7844e9d9425", func := "arbor/arborlaw02.JuteBack", spec := "juteBack", unfollowed := true, recurses := true, named := ["unicode/utf8.first", "unicode/utf8.acceptRanges"], apart := false, laid := [("unicode/utf8.acceptRanges", laid_unicode_utf8_acceptRanges), ("unicode/utf8.first", laid_unicode_utf8_first)], narrowed := true }
def JuteBackUptoSaid : Prop := juteBackUptoRow.holds Tryd.pinned (OpenSpec.upto juteBackSpec)

end Rows
end Go.Proofs.YtbegingiedbldaaDoor
