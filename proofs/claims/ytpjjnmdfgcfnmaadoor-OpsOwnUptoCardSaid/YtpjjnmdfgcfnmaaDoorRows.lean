/-
  NARROWER THAN 'FOR EVERY INPUT', by the rows' own cells (each row's printed sentence says how): OpsBack: loops, laid · OpsCuts: loops, laid · OpsFlat: loops, laid · OpsOwn: loops, laid · OpsOne: loops, laid.
  DERIVED. THE GIVEN ROWS OF THIS SEAT. 5 by the template 'for every input the law returns true; each argument reads behind the call as it read before'; 0 by the template 'total and deterministic' (their statements: YtpjjnmdfgcfnmaaDoorTotals.lean).
  GIVEN WITH THE SEED: the statements are not yours to turn. If you find one false, say at which input.
  Laid BY PROGRAM, IN A SANDBOX (cutbox-rows.mjs): the forced cells as the released guide's own fill.sh prints them over the translation 28b1e599cbf0c513… (all of the seat's roots in one cut). By AI agents, Wed Nov 11 2026. No macro, syntax, notation, axiom, sorry.
-/
import Derived.Test.YtpjjnmdfgcfnmaaDoorChecked
import GoSem.PinnedTables
import GoSem.Claim
import GoSem.ClaimJoined
import GoSem.ClaimMapViews
import Derived.JoinedTies
import Derived.KernelRfl
namespace Go.Proofs.YtpjjnmdfgcfnmaaDoor
/- THE CELL 'sum', in the pinned program and in every row, IS THE sha256 OF THE DUMP (.gsa) THAT YtpjjnmdfgcfnmaaDoorProg.lean LOADS. Nothing in Lean hashes anything: it is a label: what it is worth is what the hold of that sum in a sandbox is worth. -/
noncomputable def Tryd.pinned : Pinned := { name := "ytpjjnmdfgcfnmaadoor", sum := "28b1e599cbf0c513ffc21c53eee48d30dd9117ee27deb44df53ab0c5e0114e6f", checked := Tryd.checked }
namespace Rows
def none {H : Type} : Left H := { results := [], args := [] }

/- WHAT THE LISTED PACKAGE-LEVEL VARIABLES READ AS WHEN THE CALL BEGINS. Each datum BY PROGRAM (the guide's laid-datum.mjs) off the statement by which the dump's own 'gosem.cut.vars' lays the variable. In a bare row this is a premise. The card (YtpjjnmdfgcfnmaaDoorCards.lean) ties it to the program's text. -/
def laid_unicode_utf8_acceptRanges {H : Type} : DataW H := .agg [.agg [.lit (.int .u8 128), .lit (.int .u8 191)], .agg [.lit (.int .u8 160), .lit (.int .u8 191)], .agg [.lit (.int .u8 128), .lit (.int .u8 159)], .agg [.lit (.int .u8 144), .lit (.int .u8 191)], .agg [.lit (.int .u8 128), .lit (.int .u8 143)], .agg [.lit (.int .u8 0), .lit (.int .u8 0)], .agg [.lit (.int .u8 0), .lit (.int .u8 0)], .agg [.lit (.int .u8 0), .lit (.int .u8 0)], .agg [.lit (.int .u8 0), .lit (.int .u8 0)], .agg [.lit (.int .u8 0), .lit (.int .u8 0)], .agg [.lit (.int .u8 0), .lit (.int .u8 0)], .agg [.lit (.int .u8 0), .lit (.int .u8 0)], .agg [.lit (.int .u8 0), .lit (.int .u8 0)], .agg [.lit (.int .u8 0), .lit (.int .u8 0)], .agg [.lit (.int .u8 0), .lit (.int .u8 0)], .agg [.lit (.int .u8 0), .lit (.int .u8 0)]]
/-- One of Go's own tables, pinned by name: the form's constant. -/
def laid_unicode_utf8_first : DataW Unit := Go.Pinned.utf8First

/-- 'arborlaw11.OpsBack': WHATEVER THE INPUT: true; the input reads as it did. -/
def opsBackSpec : ChangeSpec := { name := "opsBack", fn := fun _ => fun
  | [d1, d2] => { results := [.lit (.bool true)], args := [d1, d2] }
  | _ => none }
def opsBackRow : OpenClaim := { program := "ytpjjnmdfgcfnmaadoor", sum := "28b1e599cbf0c513ffc21c53eee48d30dd9117ee27deb44df53ab0c5e0114e6f", func := "arbor/arborlaw11.OpsBack", spec := "opsBack", unfollowed := true, recurses := true, named := ["unicode/utf8.first", "unicode/utf8.acceptRanges"], loops := true, apart := false, laid := [("unicode/utf8.acceptRanges", laid_unicode_utf8_acceptRanges), ("unicode/utf8.first", laid_unicode_utf8_first)] }
def OpsBackSaid : Prop := opsBackRow.holds Tryd.pinned (OpenSpec.ofChange opsBackSpec)

/-- ITS FALSE NEIGHBOUR: 'it returns false'. Refute it at one input. -/
def opsBackWrong : ChangeSpec := { name := "opsBack", fn := fun _ => fun
  | [d1, d2] => { results := [.lit (.bool false)], args := [d1, d2] }
  | _ => none }
def OpsBackWrongFalsely : Prop := opsBackRow.holds Tryd.pinned (OpenSpec.ofChange opsBackWrong)

/-- 'arborlaw11.OpsCuts': WHATEVER THE INPUT: true; the input reads as it did. -/
def opsCutsSpec : ChangeSpec := { name := "opsCuts", fn := fun _ => fun
  | [d1, d2, d3] => { results := [.lit (.bool true)], args := [d1, d2, d3] }
  | _ => none }
def opsCutsRow : OpenClaim := { program := "ytpjjnmdfgcfnmaadoor", sum := "28b1e599cbf0c513ffc21c53eee48d30dd9117ee27deb44df53ab0c5e0114e6f", func := "arbor/arborlaw11.OpsCuts", spec := "opsCuts", unfollowed := true, recurses := true, named := ["unicode/utf8.first", "unicode/utf8.acceptRanges"], loops := true, apart := false, laid := [("unicode/utf8.acceptRanges", laid_unicode_utf8_acceptRanges), ("unicode/utf8.first", laid_unicode_utf8_first)] }
def OpsCutsSaid : Prop := opsCutsRow.holds Tryd.pinned (OpenSpec.ofChange opsCutsSpec)

/-- ITS FALSE NEIGHBOUR: 'it returns false'. Refute it at one input. -/
def opsCutsWrong : ChangeSpec := { name := "opsCuts", fn := fun _ => fun
  | [d1, d2, d3] => { results := [.lit (.bool false)], args := [d1, d2, d3] }
  | _ => none }
def OpsCutsWrongFalsely : Prop := opsCutsRow.holds Tryd.pinned (OpenSpec.ofChange opsCutsWrong)

/-- 'arborlaw11.OpsFlat': WHATEVER THE INPUT: true; the input reads as it did. -/
def opsFlatSpec : ChangeSpec := { name := "opsFlat", fn := fun _ => fun
  | [d] => { results := [.lit (.bool true)], args := [d] }
  | _ => none }
def opsFlatRow : OpenClaim := { program := "ytpjjnmdfgcfnmaadoor", sum := "28b1e599cbf0c513ffc21c53eee48d30dd9117ee27deb44df53ab0c5e0114e6f", func := "arbor/arborlaw11.OpsFlat", spec := "opsFlat", unfollowed := true, recurses := true, named := ["unicode/utf8.first", "unicode/utf8.acceptRanges"], loops := true, apart := false, laid := [("unicode/utf8.acceptRanges", laid_unicode_utf8_acceptRanges), ("unicode/utf8.first", laid_unicode_utf8_first)] }
def OpsFlatSaid : Prop := opsFlatRow.holds Tryd.pinned (OpenSpec.ofChange opsFlatSpec)

/-- ITS FALSE NEIGHBOUR: 'it returns false'. Refute it at one input. -/
def opsFlatWrong : ChangeSpec := { name := "opsFlat", fn := fun _ => fun
  | [d] => { results := [.lit (.bool false)], args := [d] }
  | _ => none }
def OpsFlatWrongFalsely : Prop := opsFlatRow.holds Tryd.pinned (OpenSpec.ofChange opsFlatWrong)

/-- 'arborlaw11.OpsOwn': WHATEVER THE INPUT: true; the input reads as it did. -/
def opsOwnSpec : ChangeSpec := { name := "opsOwn", fn := fun _ => fun
  | [d] => { results := [.lit (.bool true)], args := [d] }
  | _ => none }
def opsOwnRow : OpenClaim := { program := "ytpjjnmdfgcfnmaadoor", sum := "28b1e599cbf0c513ffc21c53eee48d30dd9117ee27deb44df53ab0c5e0114e6f", func := "arbor/arborlaw11.OpsOwn", spec := "opsOwn", unfollowed := true, recurses := true, named := ["unicode/utf8.first", "unicode/utf8.acceptRanges"], loops := true, apart := false, laid := [("unicode/utf8.acceptRanges", laid_unicode_utf8_acceptRanges), ("unicode/utf8.first", laid_unicode_utf8_first)] }
def OpsOwnSaid : Prop := opsOwnRow.holds Tryd.pinned (OpenSpec.ofChange opsOwnSpec)

/-- ITS FALSE NEIGHBOUR: 'it returns false'. Refute it at one input. -/
def opsOwnWrong : ChangeSpec := { name := "opsOwn", fn := fun _ => fun
  | [d] => { results := [.lit (.bool false)], args := [d] }
  | _ => none }
def OpsOwnWrongFalsely : Prop := opsOwnRow.holds Tryd.pinned (OpenSpec.ofChange opsOwnWrong)

/-- 'arborlaw11.OpsOne': WHATEVER THE INPUT: true; the input reads as it did. -/
def opsOneSpec : ChangeSpec := { name := "opsOne", fn := fun _ => fun
  | [d1, d2] => { results := [.lit (.bool true)], args := [d1, d2] }
  | _ => none }
def opsOneRow : OpenClaim := { program := "ytpjjnmdfgcfnmaadoor", sum := "28b1e599cbf0c513ffc21c53eee48d30dd9117ee27deb44df53ab0c5e0114e6f", func := "arbor/arborlaw11.OpsOne", spec := "opsOne", unfollowed := true, recurses := true, named := ["unicode/utf8.first", "unicode/utf8.acceptRanges"], loops := true, apart := false, laid := [("unicode/utf8.acceptRanges", laid_unicode_utf8_acceptRanges), ("unicode/utf8.first", laid_unicode_utf8_first)] }
def OpsOneSaid : Prop := opsOneRow.holds Tryd.pinned (OpenSpec.ofChange opsOneSpec)

/-- ITS FALSE NEIGHBOUR: 'it returns false'. Refute it at one input. -/
def opsOneWrong : ChangeSpec := { name := "opsOne", fn := fun _ => fun
  | [d1, d2] => { results := [.lit (.bool false)], args := [d1, d2] }
  | _ => none }
def OpsOneWrongFalsely : Prop := opsOneRow.holds Tryd.pinned (OpenSpec.ofChange opsOneWrong)

/- THE SECOND FORM. 'bulk': how many values and letters a reading holds, each counted each time it is reached (what is shared counts as often as it is met; a slice's spare places count too). A statement '..UptoSaid' is the law's where the arguments, and the package variables that the reading takes, are together of bulk at most 1048576: NARROWER than '..Said'. Prove '..Said' where nothing that the law and all that it calls make is longer than what came in: it says more and counts as full. Else prove '..UptoSaid'. A law counts once. -/
mutual
def uptoBulk {H : Type} : DataW H → Nat
  | .lit (.string bytes) => bytes.length + 1
  | .lit _ => 1
  | .nil => 1
  | .ptr d => uptoBulk d + 1
  | .slice elems spare => uptoBulkAll elems + uptoBulkAll spare + 1
  | .agg parts => uptoBulkAll parts + 1
  | .iface _ d => uptoBulk d + 1
  | .map entries => uptoBulkEntries entries + 1
  | .held _ => 1
def uptoBulkAll {H : Type} : List (DataW H) → Nat
  | [] => 0
  | d :: r => uptoBulk d + uptoBulkAll r
def uptoBulkEntries {H : Type} : List (Lit × DataW H) → Nat
  | [] => 0
  | x :: r => uptoBulkEntry x + uptoBulkEntries r
def uptoBulkEntry {H : Type} : Lit × DataW H → Nat
  | (.string bytes, d) => bytes.length + uptoBulk d + 1
  | (_, d) => uptoBulk d + 1
 end
def uptoSmall : (H : Type) → List (DataW H) → Bool := fun _ ds => decide (uptoBulkAll ds ≤ 1048576)
def OpenSpec.upto (s : _root_.Go.ChangeSpec) : _root_.Go.OpenSpec := { _root_.Go.OpenSpec.ofChange s with cond := some uptoSmall }

/-- 'arborlaw11.OpsBack', WHERE WHAT IT READS IS OF BULK AT MOST 1048576: true; the input reads as it did. -/
def opsBackUptoRow : OpenClaim := { program := "ytpjjnmdfgcfnmaadoor", sum := "28b1e599cbf0c513ffc21c53eee48d30dd9117ee27deb44df53ab0c5e0114e6f", func := "arbor/arborlaw11.OpsBack", spec := "opsBack", unfollowed := true, recurses := true, named := ["unicode/utf8.first", "unicode/utf8.acceptRanges"], loops := true, apart := false, laid := [("unicode/utf8.acceptRanges", laid_unicode_utf8_acceptRanges), ("unicode/utf8.first", laid_unicode_utf8_first)], narrowed := true }
def OpsBackUptoSaid : Prop := opsBackUptoRow.holds Tryd.pinned (OpenSpec.upto opsBackSpec)

/-- 'arborlaw11.OpsCuts', WHERE WHAT IT READS IS OF BULK AT MOST 1048576: true; the input reads as it did. -/
def opsCutsUptoRow : OpenClaim := { program := "ytpjjnmdfgcfnmaadoor", sum := "28b1e599cbf0c513ffc21c53eee48d30dd9117ee27deb44df53ab0c5e0114e6f", func := "arbor/arborlaw11.OpsCuts", spec := "opsCuts", unfollowed := true, recurses := true, named := ["unicode/utf8.first", "unicode/utf8.acceptRanges"], loops := true, apart := false, laid := [("unicode/utf8.acceptRanges", laid_unicode_utf8_acceptRanges), ("unicode/utf8.first", laid_unicode_utf8_first)], narrowed := true }
def OpsCutsUptoSaid : Prop := opsCutsUptoRow.holds Tryd.pinned (OpenSpec.upto opsCutsSpec)

/-- 'arborlaw11.OpsFlat', WHERE WHAT IT READS IS OF BULK AT MOST 1048576: true; the input reads as it did. -/
def opsFlatUptoRow : OpenClaim := { program := "ytpjjnmdfgcfnmaadoor", sum := "28b1e599cbf0c513ffc21c53eee48d30dd9117ee27deb44df53ab0c5e0114e6f", func := "arbor/arborlaw11.OpsFlat", spec := "opsFlat", unfollowed := true, recurses := true, named := ["unicode/utf8.first", "unicode/utf8.acceptRanges"], loops := true, apart := false, laid := [("unicode/utf8.acceptRanges", laid_unicode_utf8_acceptRanges), ("unicode/utf8.first", laid_unicode_utf8_first)], narrowed := true }
def OpsFlatUptoSaid : Prop := opsFlatUptoRow.holds Tryd.pinned (OpenSpec.upto opsFlatSpec)

/-- 'arborlaw11.OpsOwn', WHERE WHAT IT READS IS OF BULK AT MOST 1048576: true; the input reads as it did. -/
def opsOwnUptoRow : OpenClaim := { program := "ytpjjnmdfgcfnmaadoor", sum := "28b1e599cbf0c513ffc21c53eee48d30dd9117ee27deb44df53ab0c5e0114e6f", func := "arbor/arborlaw11.OpsOwn", spec := "opsOwn", unfollowed := true, recurses := true, named := ["unicode/utf8.first", "unicode/utf8.acceptRanges"], loops := true, apart := false, laid := [("unicode/utf8.acceptRanges", laid_unicode_utf8_acceptRanges), ("unicode/utf8.first", laid_unicode_utf8_first)], narrowed := true }
def OpsOwnUptoSaid : Prop := opsOwnUptoRow.holds Tryd.pinned (OpenSpec.upto opsOwnSpec)

/-- 'arborlaw11.OpsOne', WHERE WHAT IT READS IS OF BULK AT MOST 1048576: true; the input reads as it did. -/
def opsOneUptoRow : OpenClaim := { program := "ytpjjnmdfgcfnmaadoor", sum := "28b1e599cbf0c513ffc21c53eee48d30dd9117ee27deb44df53ab0c5e0114e6f", func := "arbor/arborlaw11.OpsOne", spec := "opsOne", unfollowed := true, recurses := true, named := ["unicode/utf8.first", "unicode/utf8.acceptRanges"], loops := true, apart := false, laid := [("unicode/utf8.acceptRanges", laid_unicode_utf8_acceptRanges), ("unicode/utf8.first", laid_unicode_utf8_first)], narrowed := true }
def OpsOneUptoSaid : Prop := opsOneUptoRow.holds Tryd.pinned (OpenSpec.upto opsOneSpec)

end Rows
end Go.Proofs.YtpjjnmdfgcfnmaaDoor
