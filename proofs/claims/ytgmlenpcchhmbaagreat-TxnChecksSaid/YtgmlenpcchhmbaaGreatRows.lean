/-
  No cell of these rows narrows 'for every input' (looked for: loops, veiled, ifaces, maps, wideKeys, modest, calm, conditions, laid).
  DERIVED. THE GIVEN ROWS OF THIS SEAT. 10 by the template 'for every input the law returns true; each argument reads behind the call as it read before'; 0 by the template 'total and deterministic' (their statements: YtgmlenpcchhmbaaGreatTotals.lean).
  GIVEN WITH THE SEED: the statements are not yours to turn. If you find one false, say at which input.
  Laid BY PROGRAM, IN A SANDBOX (cutbox-rows.mjs): the forced cells as the released guide's own fill.sh prints them over the translation c4e19534f45c31eb… (all of the seat's roots in one cut). By AI agents, Wed Nov 11 2026. No macro, syntax, notation, axiom, sorry.
-/
import Derived.Test.YtgmlenpcchhmbaaGreatChecked
import GoSem.Claim
import GoSem.ClaimJoined
import GoSem.ClaimMapViews
import Derived.JoinedTies
import Derived.KernelRfl
namespace Go.Proofs.YtgmlenpcchhmbaaGreat
/- THE CELL 'sum', in the pinned program and in every row, IS THE sha256 OF THE DUMP (.gsa) THAT YtgmlenpcchhmbaaGreatProg.lean LOADS. Nothing in Lean hashes anything: it is a label: what it is worth is what the hold of that sum in a sandbox is worth. -/
noncomputable def Tryz.pinned : Pinned := { name := "ytgmlenpcchhmbaagreat", sum := "c4e19534f45c31eb44de4e18cff2df13227d03bfb2773f6ea6cf7b92e7035682", checked := Tryz.checked }
namespace Rows
def none {H : Type} : Left H := { results := [], args := [] }

/-- 'folkmootlaw08.TxnChecks': WHATEVER THE INPUT: true; the input reads as it did. -/
def txnChecksSpec : ChangeSpec := { name := "txnChecks", fn := fun _ => fun
  | [d1, d2] => { results := [.lit (.bool true)], args := [d1, d2] }
  | _ => none }
def txnChecksRow : OpenClaim := { program := "ytgmlenpcchhmbaagreat", sum := "c4e19534f45c31eb44de4e18cff2df13227d03bfb2773f6ea6cf7b92e7035682", func := "folkmoot/folkmootlaw08.TxnChecks", spec := "txnChecks", inPlace := ["math.Float64bits", "math.Float64frombits"], unfollowed := true, recurses := true, apart := false }
def TxnChecksSaid : Prop := txnChecksRow.holds Tryz.pinned (OpenSpec.ofChange txnChecksSpec)

/-- ITS FALSE NEIGHBOUR: 'it returns false'. Refute it at one input. -/
def txnChecksWrong : ChangeSpec := { name := "txnChecks", fn := fun _ => fun
  | [d1, d2] => { results := [.lit (.bool false)], args := [d1, d2] }
  | _ => none }
def TxnChecksWrongFalsely : Prop := txnChecksRow.holds Tryz.pinned (OpenSpec.ofChange txnChecksWrong)

/-- 'folkmootlaw08.TxnEvals': WHATEVER THE INPUT: true; the input reads as it did. -/
def txnEvalsSpec : ChangeSpec := { name := "txnEvals", fn := fun _ => fun
  | [d1, d2, d3] => { results := [.lit (.bool true)], args := [d1, d2, d3] }
  | _ => none }
def txnEvalsRow : OpenClaim := { program := "ytgmlenpcchhmbaagreat", sum := "c4e19534f45c31eb44de4e18cff2df13227d03bfb2773f6ea6cf7b92e7035682", func := "folkmoot/folkmootlaw08.TxnEvals", spec := "txnEvals", inPlace := ["math.Float64bits", "math.Float64frombits", "internal/bytealg.abigen_runtime_cmpstring", "slices.overlaps[folkmoot/api.Pair]"], unfollowed := true, recurses := true, apart := false }
def TxnEvalsSaid : Prop := txnEvalsRow.holds Tryz.pinned (OpenSpec.ofChange txnEvalsSpec)

/-- ITS FALSE NEIGHBOUR: 'it returns false'. Refute it at one input. -/
def txnEvalsWrong : ChangeSpec := { name := "txnEvals", fn := fun _ => fun
  | [d1, d2, d3] => { results := [.lit (.bool false)], args := [d1, d2, d3] }
  | _ => none }
def TxnEvalsWrongFalsely : Prop := txnEvalsRow.holds Tryz.pinned (OpenSpec.ofChange txnEvalsWrong)

/-- 'folkmootlaw08.TxnSum': WHATEVER THE INPUT: true; the input reads as it did. -/
def txnSumSpec : ChangeSpec := { name := "txnSum", fn := fun _ => fun
  | [d1, d2, d3, d4] => { results := [.lit (.bool true)], args := [d1, d2, d3, d4] }
  | _ => none }
def txnSumRow : OpenClaim := { program := "ytgmlenpcchhmbaagreat", sum := "c4e19534f45c31eb44de4e18cff2df13227d03bfb2773f6ea6cf7b92e7035682", func := "folkmoot/folkmootlaw08.TxnSum", spec := "txnSum", inPlace := ["math.Float64bits", "math.Float64frombits", "internal/bytealg.abigen_runtime_cmpstring", "slices.overlaps[folkmoot/api.Pair]"], unfollowed := true, recurses := true, apart := false }
def TxnSumSaid : Prop := txnSumRow.holds Tryz.pinned (OpenSpec.ofChange txnSumSpec)

/-- ITS FALSE NEIGHBOUR: 'it returns false'. Refute it at one input. -/
def txnSumWrong : ChangeSpec := { name := "txnSum", fn := fun _ => fun
  | [d1, d2, d3, d4] => { results := [.lit (.bool false)], args := [d1, d2, d3, d4] }
  | _ => none }
def TxnSumWrongFalsely : Prop := txnSumRow.holds Tryz.pinned (OpenSpec.ofChange txnSumWrong)

/-- 'folkmootlaw08.TxnParts': WHATEVER THE INPUT: true; the input reads as it did. -/
def txnPartsSpec : ChangeSpec := { name := "txnParts", fn := fun _ => fun
  | [d1, d2, d3] => { results := [.lit (.bool true)], args := [d1, d2, d3] }
  | _ => none }
def txnPartsRow : OpenClaim := { program := "ytgmlenpcchhmbaagreat", sum := "c4e19534f45c31eb44de4e18cff2df13227d03bfb2773f6ea6cf7b92e7035682", func := "folkmoot/folkmootlaw08.TxnParts", spec := "txnParts", inPlace := ["math.Float64frombits", "math.Float64bits", "internal/bytealg.abigen_runtime_cmpstring", "slices.overlaps[folkmoot/api.Pair]"], unfollowed := true, recurses := true, apart := false }
def TxnPartsSaid : Prop := txnPartsRow.holds Tryz.pinned (OpenSpec.ofChange txnPartsSpec)

/-- ITS FALSE NEIGHBOUR: 'it returns false'. Refute it at one input. -/
def txnPartsWrong : ChangeSpec := { name := "txnParts", fn := fun _ => fun
  | [d1, d2, d3] => { results := [.lit (.bool false)], args := [d1, d2, d3] }
  | _ => none }
def TxnPartsWrongFalsely : Prop := txnPartsRow.holds Tryz.pinned (OpenSpec.ofChange txnPartsWrong)

/-- 'folkmootlaw08.TxnSees': WHATEVER THE INPUT: true; the input reads as it did. -/
def txnSeesSpec : ChangeSpec := { name := "txnSees", fn := fun _ => fun
  | [d1, d2, d3, d4] => { results := [.lit (.bool true)], args := [d1, d2, d3, d4] }
  | _ => none }
def txnSeesRow : OpenClaim := { program := "ytgmlenpcchhmbaagreat", sum := "c4e19534f45c31eb44de4e18cff2df13227d03bfb2773f6ea6cf7b92e7035682", func := "folkmoot/folkmootlaw08.TxnSees", spec := "txnSees", inPlace := ["math.Float64frombits", "math.Float64bits", "internal/bytealg.abigen_runtime_cmpstring", "slices.overlaps[folkmoot/api.Pair]"], unfollowed := true, recurses := true, apart := false }
def TxnSeesSaid : Prop := txnSeesRow.holds Tryz.pinned (OpenSpec.ofChange txnSeesSpec)

/-- ITS FALSE NEIGHBOUR: 'it returns false'. Refute it at one input. -/
def txnSeesWrong : ChangeSpec := { name := "txnSees", fn := fun _ => fun
  | [d1, d2, d3, d4] => { results := [.lit (.bool false)], args := [d1, d2, d3, d4] }
  | _ => none }
def TxnSeesWrongFalsely : Prop := txnSeesRow.holds Tryz.pinned (OpenSpec.ofChange txnSeesWrong)

/-- 'folkmootlaw08.TxnWrites': WHATEVER THE INPUT: true; the input reads as it did. -/
def txnWritesSpec : ChangeSpec := { name := "txnWrites", fn := fun _ => fun
  | [d1, d2, d3] => { results := [.lit (.bool true)], args := [d1, d2, d3] }
  | _ => none }
def txnWritesRow : OpenClaim := { program := "ytgmlenpcchhmbaagreat", sum := "c4e19534f45c31eb44de4e18cff2df13227d03bfb2773f6ea6cf7b92e7035682", func := "folkmoot/folkmootlaw08.TxnWrites", spec := "txnWrites", inPlace := ["math.Float64bits", "math.Float64frombits", "internal/bytealg.abigen_runtime_cmpstring", "slices.overlaps[folkmoot/api.Pair]"], unfollowed := true, recurses := true, apart := false }
def TxnWritesSaid : Prop := txnWritesRow.holds Tryz.pinned (OpenSpec.ofChange txnWritesSpec)

/-- ITS FALSE NEIGHBOUR: 'it returns false'. Refute it at one input. -/
def txnWritesWrong : ChangeSpec := { name := "txnWrites", fn := fun _ => fun
  | [d1, d2, d3] => { results := [.lit (.bool false)], args := [d1, d2, d3] }
  | _ => none }
def TxnWritesWrongFalsely : Prop := txnWritesRow.holds Tryz.pinned (OpenSpec.ofChange txnWritesWrong)

/-- 'folkmootlaw08.TxnSuffices': WHATEVER THE INPUT: true; the input reads as it did. -/
def txnSufficesSpec : ChangeSpec := { name := "txnSuffices", fn := fun _ => fun
  | [d1, d2] => { results := [.lit (.bool true)], args := [d1, d2] }
  | _ => none }
def txnSufficesRow : OpenClaim := { program := "ytgmlenpcchhmbaagreat", sum := "c4e19534f45c31eb44de4e18cff2df13227d03bfb2773f6ea6cf7b92e7035682", func := "folkmoot/folkmootlaw08.TxnSuffices", spec := "txnSuffices", inPlace := ["math.Float64frombits", "math.Float64bits", "internal/bytealg.abigen_runtime_cmpstring"], unfollowed := true, recurses := true, apart := false }
def TxnSufficesSaid : Prop := txnSufficesRow.holds Tryz.pinned (OpenSpec.ofChange txnSufficesSpec)

/-- ITS FALSE NEIGHBOUR: 'it returns false'. Refute it at one input. -/
def txnSufficesWrong : ChangeSpec := { name := "txnSuffices", fn := fun _ => fun
  | [d1, d2] => { results := [.lit (.bool false)], args := [d1, d2] }
  | _ => none }
def TxnSufficesWrongFalsely : Prop := txnSufficesRow.holds Tryz.pinned (OpenSpec.ofChange txnSufficesWrong)

/-- 'folkmootlaw08.TxnReads': WHATEVER THE INPUT: true; the input reads as it did. -/
def txnReadsSpec : ChangeSpec := { name := "txnReads", fn := fun _ => fun
  | [d1, d2, d3] => { results := [.lit (.bool true)], args := [d1, d2, d3] }
  | _ => none }
def txnReadsRow : OpenClaim := { program := "ytgmlenpcchhmbaagreat", sum := "c4e19534f45c31eb44de4e18cff2df13227d03bfb2773f6ea6cf7b92e7035682", func := "folkmoot/folkmootlaw08.TxnReads", spec := "txnReads", inPlace := ["math.Float64frombits", "math.Float64bits", "internal/bytealg.abigen_runtime_cmpstring"], unfollowed := true, recurses := true, apart := false }
def TxnReadsSaid : Prop := txnReadsRow.holds Tryz.pinned (OpenSpec.ofChange txnReadsSpec)

/-- ITS FALSE NEIGHBOUR: 'it returns false'. Refute it at one input. -/
def txnReadsWrong : ChangeSpec := { name := "txnReads", fn := fun _ => fun
  | [d1, d2, d3] => { results := [.lit (.bool false)], args := [d1, d2, d3] }
  | _ => none }
def TxnReadsWrongFalsely : Prop := txnReadsRow.holds Tryz.pinned (OpenSpec.ofChange txnReadsWrong)

/-- 'folkmootlaw08.TxnSpans': WHATEVER THE INPUT: true; the input reads as it did. -/
def txnSpansSpec : ChangeSpec := { name := "txnSpans", fn := fun _ => fun
  | [d1, d2] => { results := [.lit (.bool true)], args := [d1, d2] }
  | _ => none }
def txnSpansRow : OpenClaim := { program := "ytgmlenpcchhmbaagreat", sum := "c4e19534f45c31eb44de4e18cff2df13227d03bfb2773f6ea6cf7b92e7035682", func := "folkmoot/folkmootlaw08.TxnSpans", spec := "txnSpans", inPlace := ["math.Float64bits", "math.Float64frombits", "internal/bytealg.abigen_runtime_cmpstring"], unfollowed := true, recurses := true, apart := false }
def TxnSpansSaid : Prop := txnSpansRow.holds Tryz.pinned (OpenSpec.ofChange txnSpansSpec)

/-- ITS FALSE NEIGHBOUR: 'it returns false'. Refute it at one input. -/
def txnSpansWrong : ChangeSpec := { name := "txnSpans", fn := fun _ => fun
  | [d1, d2] => { results := [.lit (.bool false)], args := [d1, d2] }
  | _ => none }
def TxnSpansWrongFalsely : Prop := txnSpansRow.holds Tryz.pinned (OpenSpec.ofChange txnSpansWrong)

/-- 'folkmootlaw08.TxnEither': WHATEVER THE INPUT: true; the input reads as it did. -/
def txnEitherSpec : ChangeSpec := { name := "txnEither", fn := fun _ => fun
  | [d1, d2, d3] => { results := [.lit (.bool true)], args := [d1, d2, d3] }
  | _ => none }
def txnEitherRow : OpenClaim := { program := "ytgmlenpcchhmbaagreat", sum := "c4e19534f45c31eb44de4e18cff2df13227d03bfb2773f6ea6cf7b92e7035682", func := "folkmoot/folkmootlaw08.TxnEither", spec := "txnEither", inPlace := ["math.Float64frombits", "math.Float64bits", "internal/bytealg.abigen_runtime_cmpstring", "slices.overlaps[folkmoot/api.Pair]"], unfollowed := true, recurses := true, apart := false }
def TxnEitherSaid : Prop := txnEitherRow.holds Tryz.pinned (OpenSpec.ofChange txnEitherSpec)

/-- ITS FALSE NEIGHBOUR: 'it returns false'. Refute it at one input. -/
def txnEitherWrong : ChangeSpec := { name := "txnEither", fn := fun _ => fun
  | [d1, d2, d3] => { results := [.lit (.bool false)], args := [d1, d2, d3] }
  | _ => none }
def TxnEitherWrongFalsely : Prop := txnEitherRow.holds Tryz.pinned (OpenSpec.ofChange txnEitherWrong)

/- THE SECOND FORM. 'bulk': how many values and letters a reading holds, each counted each time it is reached (what is shared counts as often as it is met; a slice's spare places count too). A statement '..UptoSaid' is the law's where the arguments, and the package variables that the reading takes, are together of bulk at most 1048576: NARROWER than '..Said'. Prove '..Said' where nothing that the law and all that it calls make is longer than what came in: it says more and counts as full. Else prove '..UptoSaid'. A law counts once. -/
mutual
def uptoBulk {H : Type} : DataW H → Nat
  | .lit (.string bytes) => bytes.length + 1
  | .lit _ => 1
  | .nil => 1
  | .ptr d => uptoBulk d + 1
  | .slice elems spare => uptoBulkAll elems + uptoBulkAll spare + 1
  | .agg parts => uptoBulkAll parts + 1
  | .iface _ d => uptoBulk d + 1
  | .map entries => uptoBulkEntries entries + 1
  | .held _ => 1
def uptoBulkAll {H : Type} : List (DataW H) → Nat
  | [] => 0
  | d :: r => uptoBulk d + uptoBulkAll r
def uptoBulkEntries {H : Type} : List (Lit × DataW H) → Nat
  | [] => 0
  | x :: r => uptoBulkEntry x + uptoBulkEntries r
def uptoBulkEntry {H : Type} : Lit × DataW H → Nat
  | (.string bytes, d) => bytes.length + uptoBulk d + 1
  | (_, d) => uptoBulk d + 1
 end
def uptoSmall : (H : Type) → List (DataW H) → Bool := fun _ ds => decide (uptoBulkAll ds ≤ 1048576)
def OpenSpec.upto (s : _root_.Go.ChangeSpec) : _root_.Go.OpenSpec := { _root_.Go.OpenSpec.ofChange s with cond := some uptoSmall }

/-- 'folkmootlaw08.TxnChecks', WHERE WHAT IT READS IS OF BULK AT MOST 1048576: true; the input reads as it did. -/
def txnChecksUptoRow : OpenClaim := { program := "ytgmlenpcchhmbaagreat", sum := "c4e19534f45c31eb44de4e18cff2df13227d03bfb2773f6ea6cf7b92e7035682", func := "folkmoot/folkmootlaw08.TxnChecks", spec := "txnChecks", inPlace := ["math.Float64bits", "math.Float64frombits"], unfollowed := true, recurses := true, apart := false, narrowed := true }
def TxnChecksUptoSaid : Prop := txnChecksUptoRow.holds Tryz.pinned (OpenSpec.upto txnChecksSpec)

/-- 'folkmootlaw08.TxnEvals', WHERE WHAT IT READS IS OF BULK AT MOST 1048576: true; the input reads as it did. -/
def txnEvalsUptoRow : OpenClaim := { program := "ytgmlenpcchhmbaagreat", sum := "c4e19534f45c31eb44de4e18cff2df13227d03bfb2773f6ea6cf7b92e7035682", func := "folkmoot/folkmootlaw08.TxnEvals", spec := "txnEvals", inPlace := ["math.Float64bits", "math.Float64frombits", "internal/bytealg.abigen_runtime_cmpstring", "slices.overlaps[folkmoot/api.Pair]"], unfollowed := true, recurses := true, apart := false, narrowed := true }
def TxnEvalsUptoSaid : Prop := txnEvalsUptoRow.holds Tryz.pinned (OpenSpec.upto txnEvalsSpec)

/-- 'folkmootlaw08.TxnSum', WHERE WHAT IT READS IS OF BULK AT MOST 1048576: true; the input reads as it did. -/
def txnSumUptoRow : OpenClaim := { program := "ytgmlenpcchhmbaagreat", sum := "c4e19534f45c31eb44de4e18cff2df13227d03bfb2773f6ea6cf7b92e7035682", func := "folkmoot/folkmootlaw08.TxnSum", spec := "txnSum", inPlace := ["math.Float64bits", "math.Float64frombits", "internal/bytealg.abigen_runtime_cmpstring", "slices.overlaps[folkmoot/api.Pair]"], unfollowed := true, recurses := true, apart := false, narrowed := true }
def TxnSumUptoSaid : Prop := txnSumUptoRow.holds Tryz.pinned (OpenSpec.upto txnSumSpec)

/-- 'folkmootlaw08.TxnParts', WHERE WHAT IT READS IS OF BULK AT MOST 1048576: true; the input reads as it did. -/
def txnPartsUptoRow : OpenClaim := { program := "ytgmlenpcchhmbaagreat", sum := "c4e19534f45c31eb44de4e18cff2df13227d03bfb2773f6ea6cf7b92e7035682", func := "folkmoot/folkmootlaw08.TxnParts", spec := "txnParts", inPlace := ["math.Float64frombits", "math.Float64bits", "internal/bytealg.abigen_runtime_cmpstring", "slices.overlaps[folkmoot/api.Pair]"], unfollowed := true, recurses := true, apart := false, narrowed := true }
def TxnPartsUptoSaid : Prop := txnPartsUptoRow.holds Tryz.pinned (OpenSpec.upto txnPartsSpec)

/-- 'folkmootlaw08.TxnSees', WHERE WHAT IT READS IS OF BULK AT MOST 1048576: true; the input reads as it did. -/
def txnSeesUptoRow : OpenClaim := { program := "ytgmlenpcchhmbaagreat", sum := "c4e19534f45c31eb44de4e18cff2df13227d03bfb2773f6ea6cf7b92e7035682", func := "folkmoot/folkmootlaw08.TxnSees", spec := "txnSees", inPlace := ["math.Float64frombits", "math.Float64bits", "internal/bytealg.abigen_runtime_cmpstring", "slices.overlaps[folkmoot/api.Pair]"], unfollowed := true, recurses := true, apart := false, narrowed := true }
def TxnSeesUptoSaid : Prop := txnSeesUptoRow.holds Tryz.pinned (OpenSpec.upto txnSeesSpec)

/-- 'folkmootlaw08.TxnWrites', WHERE WHAT IT READS IS OF BULK AT MOST 1048576: true; the input reads as it did. -/
def txnWritesUptoRow : OpenClaim := { program := "ytgmlenpcchhmbaagreat", sum := "c4e19534f45c31eb44de4e18cff2df13227d03bfb2773f6ea6cf7b92e7035682", func := "folkmoot/folkmootlaw08.TxnWrites", spec := "txnWrites", inPlace := ["math.Float64bits", "math.Float64frombits", "internal/bytealg.abigen_runtime_cmpstring", "slices.overlaps[folkmoot/api.Pair]"], unfollowed := true, recurses := true, apart := false, narrowed := true }
def TxnWritesUptoSaid : Prop := txnWritesUptoRow.holds Tryz.pinned (OpenSpec.upto txnWritesSpec)

/-- 'folkmootlaw08.TxnSuffices', WHERE WHAT IT READS IS OF BULK AT MOST 1048576: true; the input reads as it did. -/
def txnSufficesUptoRow : OpenClaim := { program := "ytgmlenpcchhmbaagreat", sum := "c4e19534f45c31eb44de4e18cff2df13227d03bfb2773f6ea6cf7b92e7035682", func := "folkmoot/folkmootlaw08.TxnSuffices", spec := "txnSuffices", inPlace := ["math.Float64frombits", "math.Float64bits", "internal/bytealg.abigen_runtime_cmpstring"], unfollowed := true, recurses := true, apart := false, narrowed := true }
def TxnSufficesUptoSaid : Prop := txnSufficesUptoRow.holds Tryz.pinned (OpenSpec.upto txnSufficesSpec)

/-- 'folkmootlaw08.TxnReads', WHERE WHAT IT READS IS OF BULK AT MOST 1048576: true; the input reads as it did. -/
def txnReadsUptoRow : OpenClaim := { program := "ytgmlenpcchhmbaagreat", sum := "c4e19534f45c31eb44de4e18cff2df13227d03bfb2773f6ea6cf7b92e7035682", func := "folkmoot/folkmootlaw08.TxnReads", spec := "txnReads", inPlace := ["math.Float64frombits", "math.Float64bits", "internal/bytealg.abigen_runtime_cmpstring"], unfollowed := true, recurses := true, apart := false, narrowed := true }
def TxnReadsUptoSaid : Prop := txnReadsUptoRow.holds Tryz.pinned (OpenSpec.upto txnReadsSpec)

/-- 'folkmootlaw08.TxnSpans', WHERE WHAT IT READS IS OF BULK AT MOST 1048576: true; the input reads as it did. -/
def txnSpansUptoRow : OpenClaim := { program := "ytgmlenpcchhmbaagreat", sum := "c4e19534f45c31eb44de4e18cff2df13227d03bfb2773f6ea6cf7b92e7035682", func := "folkmoot/folkmootlaw08.TxnSpans", spec := "txnSpans", inPlace := ["math.Float64bits", "math.Float64frombits", "internal/bytealg.abigen_runtime_cmpstring"], unfollowed := true, recurses := true, apart := false, narrowed := true }
def TxnSpansUptoSaid : Prop := txnSpansUptoRow.holds Tryz.pinned (OpenSpec.upto txnSpansSpec)

/-- 'folkmootlaw08.TxnEither', WHERE WHAT IT READS IS OF BULK AT MOST 1048576: true; the input reads as it did. -/
def txnEitherUptoRow : OpenClaim := { program := "ytgmlenpcchhmbaagreat", sum := "c4e19534f45c31eb44de4e18cff2df13227d03bfb2773f6ea6cf7b92e7035682", func := "folkmoot/folkmootlaw08.TxnEither", spec := "txnEither", inPlace := ["math.Float64frombits", "math.Float64bits", "internal/bytealg.abigen_runtime_cmpstring", "slices.overlaps[folkmoot/api.Pair]"], unfollowed := true, recurses := true, apart := false, narrowed := true }
def TxnEitherUptoSaid : Prop := txnEitherUptoRow.holds Tryz.pinned (OpenSpec.upto txnEitherSpec)

end Rows
end Go.Proofs.YtgmlenpcchhmbaaGreat
