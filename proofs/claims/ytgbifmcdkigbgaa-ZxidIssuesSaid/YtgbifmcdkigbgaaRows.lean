/-
  No cell of these rows narrows 'for every input' (looked for: loops, veiled, ifaces, maps, wideKeys, modest, calm, conditions, laid).
  DERIVED. THE GIVEN ROWS OF THIS SEAT. 4 by the template 'for every input the law returns true; each argument reads behind the call as it read before'; 0 by the template 'total and deterministic' (their statements: YtgbifmcdkigbgaaTotals.lean).
  GIVEN WITH THE SEED: the statements are not yours to turn. If you find one false, say at which input.
  Laid BY PROGRAM, IN A SANDBOX (cutbox-rows.mjs): the forced cells as the released guide's own fill.sh prints them over the translation 3cfb08d2efceb0a3… (all of the seat's roots in one cut). By AI agents, Wed Nov 11 2026. No macro, syntax, notation, axiom, sorry.
-/
import Derived.Test.YtgbifmcdkigbgaaChecked
import GoSem.Claim
import GoSem.ClaimJoined
import GoSem.ClaimMapViews
import Derived.JoinedTies
import Derived.KernelRfl
namespace Go.Proofs.Ytgbifmcdkigbgaa
/- THE CELL 'sum', in the pinned program and in every row, IS THE sha256 OF THE DUMP (.gsa) THAT YtgbifmcdkigbgaaProg.lean LOADS. Nothing in Lean hashes anything: it is a label: what it is worth is what the hold of that sum in a sandbox is worth. -/
noncomputable def Try.pinned : Pinned := { name := "ytgbifmcdkigbgaa", sum := "3cfb08d2efceb0a33221840c3374d8e4dade62867bbd211f958807c8f7ee7a46", checked := Try.checked }
namespace Rows
def none {H : Type} : Left H := { results := [], args := [] }

/-- 'arborlaw20.ZxidSteps': WHATEVER THE INPUT: true; the input reads as it did. -/
def zxidStepsSpec : ChangeSpec := { name := "zxidSteps", fn := fun _ => fun
  | [d] => { results := [.lit (.bool true)], args := [d] }
  | _ => none }
def zxidStepsRow : OpenClaim := { program := "ytgbifmcdkigbgaa", sum := "3cfb08d2efceb0a33221840c3374d8e4dade62867bbd211f958807c8f7ee7a46", func := "arbor/arborlaw20.ZxidSteps", spec := "zxidSteps", apart := false }
def ZxidStepsSaid : Prop := zxidStepsRow.holds Try.pinned (OpenSpec.ofChange zxidStepsSpec)

/-- ITS FALSE NEIGHBOUR: 'it returns false'. Refute it at one input. -/
def zxidStepsWrong : ChangeSpec := { name := "zxidSteps", fn := fun _ => fun
  | [d] => { results := [.lit (.bool false)], args := [d] }
  | _ => none }
def ZxidStepsWrongFalsely : Prop := zxidStepsRow.holds Try.pinned (OpenSpec.ofChange zxidStepsWrong)

/-- 'arborlaw20.ZxidParts': WHATEVER THE INPUT: true; the input reads as it did. -/
def zxidPartsSpec : ChangeSpec := { name := "zxidParts", fn := fun _ => fun
  | [d1, d2, d3] => { results := [.lit (.bool true)], args := [d1, d2, d3] }
  | _ => none }
def zxidPartsRow : OpenClaim := { program := "ytgbifmcdkigbgaa", sum := "3cfb08d2efceb0a33221840c3374d8e4dade62867bbd211f958807c8f7ee7a46", func := "arbor/arborlaw20.ZxidParts", spec := "zxidParts", apart := false }
def ZxidPartsSaid : Prop := zxidPartsRow.holds Try.pinned (OpenSpec.ofChange zxidPartsSpec)

/-- ITS FALSE NEIGHBOUR: 'it returns false'. Refute it at one input. -/
def zxidPartsWrong : ChangeSpec := { name := "zxidParts", fn := fun _ => fun
  | [d1, d2, d3] => { results := [.lit (.bool false)], args := [d1, d2, d3] }
  | _ => none }
def ZxidPartsWrongFalsely : Prop := zxidPartsRow.holds Try.pinned (OpenSpec.ofChange zxidPartsWrong)

/-- 'arborlaw20.ZxidOrder': WHATEVER THE INPUT: true; the input reads as it did. -/
def zxidOrderSpec : ChangeSpec := { name := "zxidOrder", fn := fun _ => fun
  | [d1, d2] => { results := [.lit (.bool true)], args := [d1, d2] }
  | _ => none }
def zxidOrderRow : OpenClaim := { program := "ytgbifmcdkigbgaa", sum := "3cfb08d2efceb0a33221840c3374d8e4dade62867bbd211f958807c8f7ee7a46", func := "arbor/arborlaw20.ZxidOrder", spec := "zxidOrder", apart := false }
def ZxidOrderSaid : Prop := zxidOrderRow.holds Try.pinned (OpenSpec.ofChange zxidOrderSpec)

/-- ITS FALSE NEIGHBOUR: 'it returns false'. Refute it at one input. -/
def zxidOrderWrong : ChangeSpec := { name := "zxidOrder", fn := fun _ => fun
  | [d1, d2] => { results := [.lit (.bool false)], args := [d1, d2] }
  | _ => none }
def ZxidOrderWrongFalsely : Prop := zxidOrderRow.holds Try.pinned (OpenSpec.ofChange zxidOrderWrong)

/-- 'arborlaw20.ZxidIssues': WHATEVER THE INPUT: true; the input reads as it did. -/
def zxidIssuesSpec : ChangeSpec := { name := "zxidIssues", fn := fun _ => fun
  | [d1, d2] => { results := [.lit (.bool true)], args := [d1, d2] }
  | _ => none }
def zxidIssuesRow : OpenClaim := { program := "ytgbifmcdkigbgaa", sum := "3cfb08d2efceb0a33221840c3374d8e4dade62867bbd211f958807c8f7ee7a46", func := "arbor/arborlaw20.ZxidIssues", spec := "zxidIssues", apart := false }
def ZxidIssuesSaid : Prop := zxidIssuesRow.holds Try.pinned (OpenSpec.ofChange zxidIssuesSpec)

/-- ITS FALSE NEIGHBOUR: 'it returns false'. Refute it at one input. -/
def zxidIssuesWrong : ChangeSpec := { name := "zxidIssues", fn := fun _ => fun
  | [d1, d2] => { results := [.lit (.bool false)], args := [d1, d2] }
  | _ => none }
def ZxidIssuesWrongFalsely : Prop := zxidIssuesRow.holds Try.pinned (OpenSpec.ofChange zxidIssuesWrong)

/- THE SECOND FORM. 'bulk': how many values and letters a reading holds, each counted each time it is reached (what is shared counts as often as it is met; a slice's spare places count too). A statement '..UptoSaid' is the law's where the arguments, and the package variables that the reading takes, are together of bulk at most 1048576: NARROWER than '..Said'. Prove '..Said' where nothing that the law and all that it calls make is longer than what came in: it says more and counts as full. Else prove '..UptoSaid'. A law counts once. -/
mutual
def uptoBulk {H : Type} : DataW H → Nat
  | .lit (.string bytes) => bytes.length + 1
  | .lit _ => 1
  | .nil => 1
  | .ptr d => uptoBulk d + 1
  | .slice elems spare => uptoBulkAll elems + uptoBulkAll spare + 1
  | .agg parts => uptoBulkAll parts + 1
  | .iface _ d => uptoBulk d + 1
  | .map entries => uptoBulkEntries entries + 1
  | .held _ => 1
def uptoBulkAll {H : Type} : List (DataW H) → Nat
  | [] => 0
  | d :: r => uptoBulk d + uptoBulkAll r
def uptoBulkEntries {H : Type} : List (Lit × DataW H) → Nat
  | [] => 0
  | x :: r => uptoBulkEntry x + uptoBulkEntries r
def uptoBulkEntry {H : Type} : Lit × DataW H → Nat
  | (.string bytes, d) => bytes.length + uptoBulk d + 1
  | (_, d) => uptoBulk d + 1
 end
def uptoSmall : (H : Type) → List (DataW H) → Bool := fun _ ds => decide (uptoBulkAll ds ≤ 1048576)
def OpenSpec.upto (s : _root_.Go.ChangeSpec) : _root_.Go.OpenSpec := { _root_.Go.OpenSpec.ofChange s with cond := some uptoSmall }

/-- 'arborlaw20.ZxidSteps', WHERE WHAT IT READS IS OF BULK AT MOST 1048576: true; the input reads as it did. -/
def zxidStepsUptoRow : OpenClaim := { program := "ytgbifmcdkigbgaa", sum := "3cfb08d2efceb0a33221840c3374d8e4dade62867bbd211f958807c8f7ee7a46", func := "arbor/arborlaw20.ZxidSteps", spec := "zxidSteps", apart := false, narrowed := true }
def ZxidStepsUptoSaid : Prop := zxidStepsUptoRow.holds Try.pinned (OpenSpec.upto zxidStepsSpec)

/-- 'arborlaw20.ZxidParts', WHERE WHAT IT READS IS OF BULK AT MOST 1048576: true; the input reads as it did. -/
def zxidPartsUptoRow : OpenClaim := { program := "ytgbifmcdkigbgaa", sum := "3cfb08d2efceb0a33221840c3374d8e4dade62867bbd211f958807c8f7ee7a46", func := "arbor/arborlaw20.ZxidParts", spec := "zxidParts", apart := false, narrowed := true }
def ZxidPartsUptoSaid : Prop := zxidPartsUptoRow.holds Try.pinned (OpenSpec.upto zxidPartsSpec)

/-- 'arborlaw20.ZxidOrder', WHERE WHAT IT READS IS OF BULK AT MOST 1048576: true; the input reads as it did. -/
def zxidOrderUptoRow : OpenClaim := { program := "ytgbifmcdkigbgaa", sum := "3cfb08d2efceb0a33221840c3374d8e4dade62867bbd211f958807c8f7ee7a46", func := "arbor/arborlaw20.ZxidOrder", spec := "zxidOrder", apart := false, narrowed := true }
def ZxidOrderUptoSaid : Prop := zxidOrderUptoRow.holds Try.pinned (OpenSpec.upto zxidOrderSpec)

/-- 'arborlaw20.ZxidIssues', WHERE WHAT IT READS IS OF BULK AT MOST 1048576: true; the input reads as it did. -/
def zxidIssuesUptoRow : OpenClaim := { program := "ytgbifmcdkigbgaa", sum := "3cfb08d2efceb0a33221840c3374d8e4dade62867bbd211f958807c8f7ee7a46", func := "arbor/arborlaw20.ZxidIssues", spec := "zxidIssues", apart := false, narrowed := true }
def ZxidIssuesUptoSaid : Prop := zxidIssuesUptoRow.holds Try.pinned (OpenSpec.upto zxidIssuesSpec)

end Rows
end Go.Proofs.Ytgbifmcdkigbgaa
