/-
  NARROWER THAN 'FOR EVERY INPUT', by the rows' own cells (each row's printed sentence says how): OpsRights: loops, laid · OpsCounts: loops, laid · OpsEncodes: loops, laid · OpsDecodes: laid · OpsSames: loops, laid.
  DERIVED. THE GIVEN ROWS OF THIS SEAT. 5 by the template 'for every input the law returns true; each argument reads behind the call as it read before'; 0 by the template 'total and deterministic' (their statements: YtpjjnmdfgcfnmaaGreatDoorTotals.lean).
  GIVEN WITH THE SEED: the statements are not yours to turn. If you find one false, say at which input.
  Laid BY PROGRAM, IN A SANDBOX (cutbox-rows.mjs): the forced cells as the released guide's own fill.sh prints them over the translation eaf6013a094e132b… (all of the seat's roots in one cut). By AI agents, Wed Nov 11 2026. No macro, syntax, notation, axiom, sorry.
-/
import Derived.Test.YtpjjnmdfgcfnmaaGreatDoorChecked
import GoSem.PinnedTables
import GoSem.Claim
import GoSem.ClaimJoined
import GoSem.ClaimMapViews
import Derived.JoinedTies
import Derived.KernelRfl
namespace Go.Proofs.YtpjjnmdfgcfnmaaGreatDoor
/- THE CELL 'sum', in the pinned program and in every row, IS THE sha256 OF THE DUMP (.gsa) THAT YtpjjnmdfgcfnmaaGreatDoorProg.lean LOADS. Nothing in Lean hashes anything: it is a label: what it is worth is what the hold of that sum in a sandbox is worth. -/
noncomputable def Tryz.pinned : Pinned := { name := "ytpjjnmdfgcfnmaagreatdoor", sum := "eaf6013a094e132b8a55ead0911a8c1e66720c6b49aef11c7c237d8ac71db97d", checked := Tryz.checked }
namespace Rows
def none {H : Type} : Left H := { results := [], args := [] }

/- WHAT THE LISTED PACKAGE-LEVEL VARIABLES READ AS WHEN THE CALL BEGINS. Each datum BY PROGRAM (the guide's laid-datum.mjs) off the statement by which the dump's own 'gosem.cut.vars' lays the variable. In a bare row this is a premise. The card (YtpjjnmdfgcfnmaaGreatDoorCards.lean) ties it to the program's text. -/
def laid_unicode_utf8_acceptRanges {H : Type} : DataW H := .agg [.agg [.lit (.int .u8 128), .lit (.int .u8 191)], .agg [.lit (.int .u8 160), .lit (.int .u8 191)], .agg [.lit (.int .u8 128), .lit (.int .u8 159)], .agg [.lit (.int .u8 144), .lit (.int .u8 191)], .agg [.lit (.int .u8 128), .lit (.int .u8 143)], .agg [.lit (.int .u8 0), .lit (.int .u8 0)], .agg [.lit (.int .u8 0), .lit (.int .u8 0)], .agg [.lit (.int .u8 0), .lit (.int .u8 0)], .agg [.lit (.int .u8 0), .lit (.int .u8 0)], .agg [.lit (.int .u8 0), .lit (.int .u8 0)], .agg [.lit (.int .u8 0), .lit (.int .u8 0)], .agg [.lit (.int .u8 0), .lit (.int .u8 0)], .agg [.lit (.int .u8 0), .lit (.int .u8 0)], .agg [.lit (.int .u8 0), .lit (.int .u8 0)], .agg [.lit (.int .u8 0), .lit (.int .u8 0)], .agg [.lit (.int .u8 0), .lit (.int .u8 0)]]
/-- One of Go's own tables, pinned by name: the form's constant. -/
def laid_unicode_utf8_first : DataW Unit := Go.Pinned.utf8First

/-- 'arborlaw11.OpsRights': WHATEVER THE INPUT: true; the input reads as it did. -/
def opsRightsSpec : ChangeSpec := { name := "opsRights", fn := fun _ => fun
  | [d1, d2] => { results := [.lit (.bool true)], args := [d1, d2] }
  | _ => none }
def opsRightsRow : OpenClaim := { program := "ytpjjnmdfgcfnmaagreatdoor", sum := "eaf6013a094e132b8a55ead0911a8c1e66720c6b49aef11c7c237d8ac71db97d", func := "arbor/arborlaw11.OpsRights", spec := "opsRights", unfollowed := true, recurses := true, named := ["unicode/utf8.first", "unicode/utf8.acceptRanges"], loops := true, apart := false, laid := [("unicode/utf8.acceptRanges", laid_unicode_utf8_acceptRanges), ("unicode/utf8.first", laid_unicode_utf8_first)] }
def OpsRightsSaid : Prop := opsRightsRow.holds Tryz.pinned (OpenSpec.ofChange opsRightsSpec)

/-- ITS FALSE NEIGHBOUR: 'it returns false'. Refute it at one input. -/
def opsRightsWrong : ChangeSpec := { name := "opsRights", fn := fun _ => fun
  | [d1, d2] => { results := [.lit (.bool false)], args := [d1, d2] }
  | _ => none }
def OpsRightsWrongFalsely : Prop := opsRightsRow.holds Tryz.pinned (OpenSpec.ofChange opsRightsWrong)

/-- 'arborlaw11.OpsCounts': WHATEVER THE INPUT: true; the input reads as it did. -/
def opsCountsSpec : ChangeSpec := { name := "opsCounts", fn := fun _ => fun
  | [d] => { results := [.lit (.bool true)], args := [d] }
  | _ => none }
def opsCountsRow : OpenClaim := { program := "ytpjjnmdfgcfnmaagreatdoor", sum := "eaf6013a094e132b8a55ead0911a8c1e66720c6b49aef11c7c237d8ac71db97d", func := "arbor/arborlaw11.OpsCounts", spec := "opsCounts", unfollowed := true, recurses := true, named := ["unicode/utf8.first", "unicode/utf8.acceptRanges"], loops := true, apart := false, laid := [("unicode/utf8.acceptRanges", laid_unicode_utf8_acceptRanges), ("unicode/utf8.first", laid_unicode_utf8_first)] }
def OpsCountsSaid : Prop := opsCountsRow.holds Tryz.pinned (OpenSpec.ofChange opsCountsSpec)

/-- ITS FALSE NEIGHBOUR: 'it returns false'. Refute it at one input. -/
def opsCountsWrong : ChangeSpec := { name := "opsCounts", fn := fun _ => fun
  | [d] => { results := [.lit (.bool false)], args := [d] }
  | _ => none }
def OpsCountsWrongFalsely : Prop := opsCountsRow.holds Tryz.pinned (OpenSpec.ofChange opsCountsWrong)

/-- 'arborlaw11.OpsEncodes': WHATEVER THE INPUT: true; the input reads as it did. -/
def opsEncodesSpec : ChangeSpec := { name := "opsEncodes", fn := fun _ => fun
  | [d] => { results := [.lit (.bool true)], args := [d] }
  | _ => none }
def opsEncodesRow : OpenClaim := { program := "ytpjjnmdfgcfnmaagreatdoor", sum := "eaf6013a094e132b8a55ead0911a8c1e66720c6b49aef11c7c237d8ac71db97d", func := "arbor/arborlaw11.OpsEncodes", spec := "opsEncodes", unfollowed := true, recurses := true, named := ["unicode/utf8.first", "unicode/utf8.acceptRanges"], loops := true, apart := false, laid := [("unicode/utf8.acceptRanges", laid_unicode_utf8_acceptRanges), ("unicode/utf8.first", laid_unicode_utf8_first)] }
def OpsEncodesSaid : Prop := opsEncodesRow.holds Tryz.pinned (OpenSpec.ofChange opsEncodesSpec)

/-- ITS FALSE NEIGHBOUR: 'it returns false'. Refute it at one input. -/
def opsEncodesWrong : ChangeSpec := { name := "opsEncodes", fn := fun _ => fun
  | [d] => { results := [.lit (.bool false)], args := [d] }
  | _ => none }
def OpsEncodesWrongFalsely : Prop := opsEncodesRow.holds Tryz.pinned (OpenSpec.ofChange opsEncodesWrong)

/-- 'arborlaw11.OpsDecodes': WHATEVER THE INPUT: true; the input reads as it did. -/
def opsDecodesSpec : ChangeSpec := { name := "opsDecodes", fn := fun _ => fun
  | [d] => { results := [.lit (.bool true)], args := [d] }
  | _ => none }
def opsDecodesRow : OpenClaim := { program := "ytpjjnmdfgcfnmaagreatdoor", sum := "eaf6013a094e132b8a55ead0911a8c1e66720c6b49aef11c7c237d8ac71db97d", func := "arbor/arborlaw11.OpsDecodes", spec := "opsDecodes", unfollowed := true, recurses := true, named := ["unicode/utf8.first", "unicode/utf8.acceptRanges"], apart := false, laid := [("unicode/utf8.acceptRanges", laid_unicode_utf8_acceptRanges), ("unicode/utf8.first", laid_unicode_utf8_first)] }
def OpsDecodesSaid : Prop := opsDecodesRow.holds Tryz.pinned (OpenSpec.ofChange opsDecodesSpec)

/-- ITS FALSE NEIGHBOUR: 'it returns false'. Refute it at one input. -/
def opsDecodesWrong : ChangeSpec := { name := "opsDecodes", fn := fun _ => fun
  | [d] => { results := [.lit (.bool false)], args := [d] }
  | _ => none }
def OpsDecodesWrongFalsely : Prop := opsDecodesRow.holds Tryz.pinned (OpenSpec.ofChange opsDecodesWrong)

/-- 'arborlaw11.OpsSames': WHATEVER THE INPUT: true; the input reads as it did. -/
def opsSamesSpec : ChangeSpec := { name := "opsSames", fn := fun _ => fun
  | [d1, d2] => { results := [.lit (.bool true)], args := [d1, d2] }
  | _ => none }
def opsSamesRow : OpenClaim := { program := "ytpjjnmdfgcfnmaagreatdoor", sum := "eaf6013a094e132b8a55ead0911a8c1e66720c6b49aef11c7c237d8ac71db97d", func := "arbor/arborlaw11.OpsSames", spec := "opsSames", unfollowed := true, recurses := true, named := ["unicode/utf8.first", "unicode/utf8.acceptRanges"], loops := true, apart := false, laid := [("unicode/utf8.acceptRanges", laid_unicode_utf8_acceptRanges), ("unicode/utf8.first", laid_unicode_utf8_first)] }
def OpsSamesSaid : Prop := opsSamesRow.holds Tryz.pinned (OpenSpec.ofChange opsSamesSpec)

/-- ITS FALSE NEIGHBOUR: 'it returns false'. Refute it at one input. -/
def opsSamesWrong : ChangeSpec := { name := "opsSames", fn := fun _ => fun
  | [d1, d2] => { results := [.lit (.bool false)], args := [d1, d2] }
  | _ => none }
def OpsSamesWrongFalsely : Prop := opsSamesRow.holds Tryz.pinned (OpenSpec.ofChange opsSamesWrong)

/- THE SECOND FORM. 'bulk': how many values and letters a reading holds, each counted each time it is reached (what is shared counts as often as it is met; a slice's spare places count too). A statement '..UptoSaid' is the law's where the arguments, and the package variables that the reading takes, are together of bulk at most 1048576: NARROWER than '..Said'. Prove '..Said' where nothing that the law and all that it calls make is longer than what came in: it says more and counts as full. Else prove '..UptoSaid'. A law counts once. -/
mutual
def uptoBulk {H : Type} : DataW H → Nat
  | .lit (.string bytes) => bytes.length + 1
  | .lit _ => 1
  | .nil => 1
  | .ptr d => uptoBulk d + 1
  | .slice elems spare => uptoBulkAll elems + uptoBulkAll spare + 1
  | .agg parts => uptoBulkAll parts + 1
  | .iface _ d => uptoBulk d + 1
  | .map entries => uptoBulkEntries entries + 1
  | .held _ => 1
def uptoBulkAll {H : Type} : List (DataW H) → Nat
  | [] => 0
  | d :: r => uptoBulk d + uptoBulkAll r
def uptoBulkEntries {H : Type} : List (Lit × DataW H) → Nat
  | [] => 0
  | x :: r => uptoBulkEntry x + uptoBulkEntries r
def uptoBulkEntry {H : Type} : Lit × DataW H → Nat
  | (.string bytes, d) => bytes.length + uptoBulk d + 1
  | (_, d) => uptoBulk d + 1
 end
def uptoSmall : (H : Type) → List (DataW H) → Bool := fun _ ds => decide (uptoBulkAll ds ≤ 1048576)
def OpenSpec.upto (s : _root_.Go.ChangeSpec) : _root_.Go.OpenSpec := { _root_.Go.OpenSpec.ofChange s with cond := some uptoSmall }

/-- 'arborlaw11.OpsRights', WHERE WHAT IT READS IS OF BULK AT MOST 1048576: true; the input reads as it did. -/
def opsRightsUptoRow : OpenClaim := { program := "ytpjjnmdfgcfnmaagreatdoor", sum := "eaf6013a094e132b8a55ead0911a8c1e66720c6b49aef11c7c237d8ac71db97d", func := "arbor/arborlaw11.OpsRights", spec := "opsRights", unfollowed := true, recurses := true, named := ["unicode/utf8.first", "unicode/utf8.acceptRanges"], loops := true, apart := false, laid := [("unicode/utf8.acceptRanges", laid_unicode_utf8_acceptRanges), ("unicode/utf8.first", laid_unicode_utf8_first)], narrowed := true }
def OpsRightsUptoSaid : Prop := opsRightsUptoRow.holds Tryz.pinned (OpenSpec.upto opsRightsSpec)

/-- 'arborlaw11.OpsCounts', WHERE WHAT IT READS IS OF BULK AT MOST 1048576: true; the input reads as it did. -/
def opsCountsUptoRow : OpenClaim := { program := "ytpjjnmdfgcfnmaagreatdoor", sum := "eaf6013a094e132b8a55ead0911a8c1e66720c6b49aef11c7c237d8ac71db97d", func := "arbor/arborlaw11.OpsCounts", spec := "opsCounts", unfollowed := true, recurses := true, named := ["unicode/utf8.first", "unicode/utf8.acceptRanges"], loops := true, apart := false, laid := [("unicode/utf8.acceptRanges", laid_unicode_utf8_acceptRanges), ("unicode/utf8.first", laid_unicode_utf8_first)], narrowed := true }
def OpsCountsUptoSaid : Prop := opsCountsUptoRow.holds Tryz.pinned (OpenSpec.upto opsCountsSpec)

/-- 'arborlaw11.OpsEncodes', WHERE WHAT IT READS IS OF BULK AT MOST 1048576: true; the input reads as it did. -/
def opsEncodesUptoRow : OpenClaim := { program := "ytpjjnmdfgcfnmaagreatdoor", sum := "eaf6013a094e132b8a55ead0911a8c1e66720c6b49aef11c7c237d8ac71db97d", func := "arbor/arborlaw11.OpsEncodes", spec := "opsEncodes", unfollowed := true, recurses := true, named := ["unicode/utf8.first", "unicode/utf8.acceptRanges"], loops := true, apart := false, laid := [("unicode/utf8.acceptRanges", laid_unicode_utf8_acceptRanges), ("unicode/utf8.first", laid_unicode_utf8_first)], narrowed := true }
def OpsEncodesUptoSaid : Prop := opsEncodesUptoRow.holds Tryz.pinned (OpenSpec.upto opsEncodesSpec)

/-- 'arborlaw11.OpsDecodes', WHERE WHAT IT READS IS OF BULK AT MOST 1048576: true; the input reads as it did. -/
def opsDecodesUptoRow : OpenClaim := { program := "ytpjjnmdfgcfnmaagreatdoor", sum := "eaf6013a094e132b8a55ead0911a8c1e66720c6b49aef11c7c237d8ac71db97d", func := "arbor/arborlaw11.OpsDecodes", spec := "opsDecodes", unfollowed := true, recurses := true, named := ["unicode/utf8.first", "unicode/utf8.acceptRanges"], apart := false, laid := [("unicode/utf8.acceptRanges", laid_unicode_utf8_acceptRanges), ("unicode/utf8.first", laid_unicode_utf8_first)], narrowed := true }
def OpsDecodesUptoSaid : Prop := opsDecodesUptoRow.holds Tryz.pinned (OpenSpec.upto opsDecodesSpec)

/-- 'arborlaw11.OpsSames', WHERE WHAT IT READS IS OF BULK AT MOST 1048576: true; the input reads as it did. -/
def opsSamesUptoRow : OpenClaim := { program := "ytpjjnmdfgcfnmaagreatdoor", sum := "eaf6013a094e132b8a55ead0911a8c1e66720c6b49aef11c7c237d8ac71db97d", func := "arbor/arborlaw11.OpsSames", spec := "opsSames", unfollowed := true, recurses := true, named := ["unicode/utf8.first", "unicode/utf8.acceptRanges"], loops := true, apart := false, laid := [("unicode/utf8.acceptRanges", laid_unicode_utf8_acceptRanges), ("unicode/utf8.first", laid_unicode_utf8_first)], narrowed := true }
def OpsSamesUptoSaid : Prop := opsSamesUptoRow.holds Tryz.pinned (OpenSpec.upto opsSamesSpec)

end Rows
end Go.Proofs.YtpjjnmdfgcfnmaaGreatDoor
