/-
  No cell of these rows narrows 'for every input' (looked for: loops, veiled, ifaces, maps, wideKeys, modest, calm, conditions, laid).
  DERIVED. THE GIVEN ROWS OF THIS SEAT. 5 by the template 'for every input the law returns true; each argument reads behind the call as it read before'; 0 by the template 'total and deterministic' (their statements: YtaedlmeaconflaaGreatTotals.lean).
  GIVEN WITH THE SEED: the statements are not yours to turn. If you find one false, say at which input.
  Laid BY PROGRAM, IN A SANDBOX (cutbox-rows.mjs): the forced cells as the released guide's own fill.sh prints them over the translation 9a42c0ea37c5039b… (all of the seat's roots in one cut). By AI agents, Wed Nov 11 2026. No macro, syntax, notation, axiom, sorry.
-/
import Derived.Test.YtaedlmeaconflaaGreatChecked
import GoSem.Claim
import GoSem.ClaimJoined
import GoSem.ClaimMapViews
import Derived.JoinedTies
import Derived.KernelRfl
namespace Go.Proofs.YtaedlmeaconflaaGreat
/- THE CELL 'sum', in the pinned program and in every row, IS THE sha256 OF THE DUMP (.gsa) THAT YtaedlmeaconflaaGreatProg.lean LOADS. Nothing in Lean hashes anything: it is a label: what it is worth is what the hold of that sum in a sandbox is worth. -/
noncomputable def Tryz.pinned : Pinned := { name := "ytaedlmeaconflaagreat", sum := "9a42c0ea37c5039b05e5466a202454cad3485e6dc21eccc02390e45d3151799b", checked := Tryz.checked }
namespace Rows
def none {H : Type} : Left H := { results := [], args := [] }

/-- 'folkmootlaw06.DepsChecks': WHATEVER THE INPUT: true; the input reads as it did. -/
def depsChecksSpec : ChangeSpec := { name := "depsChecks", fn := fun _ => fun
  | [d1, d2] => { results := [.lit (.bool true)], args := [d1, d2] }
  | _ => none }
def depsChecksRow : OpenClaim := { program := "ytaedlmeaconflaagreat", sum := "9a42c0ea37c5039b05e5466a202454cad3485e6dc21eccc02390e45d3151799b", func := "folkmoot/folkmootlaw06.DepsChecks", spec := "depsChecks", unfollowed := true, recurses := true, apart := false }
def DepsChecksSaid : Prop := depsChecksRow.holds Tryz.pinned (OpenSpec.ofChange depsChecksSpec)

/-- ITS FALSE NEIGHBOUR: 'it returns false'. Refute it at one input. -/
def depsChecksWrong : ChangeSpec := { name := "depsChecks", fn := fun _ => fun
  | [d1, d2] => { results := [.lit (.bool false)], args := [d1, d2] }
  | _ => none }
def DepsChecksWrongFalsely : Prop := depsChecksRow.holds Tryz.pinned (OpenSpec.ofChange depsChecksWrong)

/-- 'folkmootlaw06.DepsBelow': WHATEVER THE INPUT: true; the input reads as it did. -/
def depsBelowSpec : ChangeSpec := { name := "depsBelow", fn := fun _ => fun
  | [d1, d2] => { results := [.lit (.bool true)], args := [d1, d2] }
  | _ => none }
def depsBelowRow : OpenClaim := { program := "ytaedlmeaconflaagreat", sum := "9a42c0ea37c5039b05e5466a202454cad3485e6dc21eccc02390e45d3151799b", func := "folkmoot/folkmootlaw06.DepsBelow", spec := "depsBelow", unfollowed := true, recurses := true, apart := false }
def DepsBelowSaid : Prop := depsBelowRow.holds Tryz.pinned (OpenSpec.ofChange depsBelowSpec)

/-- ITS FALSE NEIGHBOUR: 'it returns false'. Refute it at one input. -/
def depsBelowWrong : ChangeSpec := { name := "depsBelow", fn := fun _ => fun
  | [d1, d2] => { results := [.lit (.bool false)], args := [d1, d2] }
  | _ => none }
def DepsBelowWrongFalsely : Prop := depsBelowRow.holds Tryz.pinned (OpenSpec.ofChange depsBelowWrong)

/-- 'folkmootlaw06.DepsParts': WHATEVER THE INPUT: true; the input reads as it did. -/
def depsPartsSpec : ChangeSpec := { name := "depsParts", fn := fun _ => fun
  | [d1, d2, d3] => { results := [.lit (.bool true)], args := [d1, d2, d3] }
  | _ => none }
def depsPartsRow : OpenClaim := { program := "ytaedlmeaconflaagreat", sum := "9a42c0ea37c5039b05e5466a202454cad3485e6dc21eccc02390e45d3151799b", func := "folkmoot/folkmootlaw06.DepsParts", spec := "depsParts", unfollowed := true, recurses := true, apart := false }
def DepsPartsSaid : Prop := depsPartsRow.holds Tryz.pinned (OpenSpec.ofChange depsPartsSpec)

/-- ITS FALSE NEIGHBOUR: 'it returns false'. Refute it at one input. -/
def depsPartsWrong : ChangeSpec := { name := "depsParts", fn := fun _ => fun
  | [d1, d2, d3] => { results := [.lit (.bool false)], args := [d1, d2, d3] }
  | _ => none }
def DepsPartsWrongFalsely : Prop := depsPartsRow.holds Tryz.pinned (OpenSpec.ofChange depsPartsWrong)

/-- 'folkmootlaw06.DepsMerged': WHATEVER THE INPUT: true; the input reads as it did. -/
def depsMergedSpec : ChangeSpec := { name := "depsMerged", fn := fun _ => fun
  | [d1, d2, d3, d4] => { results := [.lit (.bool true)], args := [d1, d2, d3, d4] }
  | _ => none }
def depsMergedRow : OpenClaim := { program := "ytaedlmeaconflaagreat", sum := "9a42c0ea37c5039b05e5466a202454cad3485e6dc21eccc02390e45d3151799b", func := "folkmoot/folkmootlaw06.DepsMerged", spec := "depsMerged", unfollowed := true, recurses := true, apart := false }
def DepsMergedSaid : Prop := depsMergedRow.holds Tryz.pinned (OpenSpec.ofChange depsMergedSpec)

/-- ITS FALSE NEIGHBOUR: 'it returns false'. Refute it at one input. -/
def depsMergedWrong : ChangeSpec := { name := "depsMerged", fn := fun _ => fun
  | [d1, d2, d3, d4] => { results := [.lit (.bool false)], args := [d1, d2, d3, d4] }
  | _ => none }
def DepsMergedWrongFalsely : Prop := depsMergedRow.holds Tryz.pinned (OpenSpec.ofChange depsMergedWrong)

/-- 'folkmootlaw06.DepsTell': WHATEVER THE INPUT: true; the input reads as it did. -/
def depsTellSpec : ChangeSpec := { name := "depsTell", fn := fun _ => fun
  | [d1, d2, d3, d4, d5] => { results := [.lit (.bool true)], args := [d1, d2, d3, d4, d5] }
  | _ => none }
def depsTellRow : OpenClaim := { program := "ytaedlmeaconflaagreat", sum := "9a42c0ea37c5039b05e5466a202454cad3485e6dc21eccc02390e45d3151799b", func := "folkmoot/folkmootlaw06.DepsTell", spec := "depsTell", unfollowed := true, recurses := true, apart := false }
def DepsTellSaid : Prop := depsTellRow.holds Tryz.pinned (OpenSpec.ofChange depsTellSpec)

/-- ITS FALSE NEIGHBOUR: 'it returns false'. Refute it at one input. -/
def depsTellWrong : ChangeSpec := { name := "depsTell", fn := fun _ => fun
  | [d1, d2, d3, d4, d5] => { results := [.lit (.bool false)], args := [d1, d2, d3, d4, d5] }
  | _ => none }
def DepsTellWrongFalsely : Prop := depsTellRow.holds Tryz.pinned (OpenSpec.ofChange depsTellWrong)

/- THE SECOND FORM. 'bulk': how many values and letters a reading holds, each counted each time it is reached (what is shared counts as often as it is met; a slice's spare places count too). A statement '..UptoSaid' is the law's where the arguments, and the package variables that the reading takes, are together of bulk at most 1048576: NARROWER than '..Said'. Prove '..Said' where nothing that the law and all that it calls make is longer than what came in: it says more and counts as full. Else prove '..UptoSaid'. A law counts once. -/
mutual
def uptoBulk {H : Type} : DataW H → Nat
  | .lit (.string bytes) => bytes.length + 1
  | .lit _ => 1
  | .nil => 1
  | .ptr d => uptoBulk d + 1
  | .slice elems spare => uptoBulkAll elems + uptoBulkAll spare + 1
  | .agg parts => uptoBulkAll parts + 1
  | .iface _ d => uptoBulk d + 1
  | .map entries => uptoBulkEntries entries + 1
  | .held _ => 1
def uptoBulkAll {H : Type} : List (DataW H) → Nat
  | [] => 0
  | d :: r => uptoBulk d + uptoBulkAll r
def uptoBulkEntries {H : Type} : List (Lit × DataW H) → Nat
  | [] => 0
  | x :: r => uptoBulkEntry x + uptoBulkEntries r
def uptoBulkEntry {H : Type} : Lit × DataW H → Nat
  | (.string bytes, d) => bytes.length + uptoBulk d + 1
  | (_, d) => uptoBulk d + 1
 end
def uptoSmall : (H : Type) → List (DataW H) → Bool := fun _ ds => decide (uptoBulkAll ds ≤ 1048576)
def OpenSpec.upto (s : _root_.Go.ChangeSpec) : _root_.Go.OpenSpec := { _root_.Go.OpenSpec.ofChange s with cond := some uptoSmall }

/-- 'folkmootlaw06.DepsChecks', WHERE WHAT IT READS IS OF BULK AT MOST 1048576: true; the input reads as it did. -/
def depsChecksUptoRow : OpenClaim := { program := "ytaedlmeaconflaagreat", sum := "9a42c0ea37c5039b05e5466a202454cad3485e6dc21eccc02390e45d3151799b", func := "folkmoot/folkmootlaw06.DepsChecks", spec := "depsChecks", unfollowed := true, recurses := true, apart := false, narrowed := true }
def DepsChecksUptoSaid : Prop := depsChecksUptoRow.holds Tryz.pinned (OpenSpec.upto depsChecksSpec)

/-- 'folkmootlaw06.DepsBelow', WHERE WHAT IT READS IS OF BULK AT MOST 1048576: true; the input reads as it did. -/
def depsBelowUptoRow : OpenClaim := { program := "ytaedlmeaconflaagreat", sum := "9a42c0ea37c5039b05e5466a202454cad3485e6dc21eccc02390e45d3151799b", func := "folkmoot/folkmootlaw06.DepsBelow", spec := "depsBelow", unfollowed := true, recurses := true, apart := false, narrowed := true }
def DepsBelowUptoSaid : Prop := depsBelowUptoRow.holds Tryz.pinned (OpenSpec.upto depsBelowSpec)

/-- 'folkmootlaw06.DepsParts', WHERE WHAT IT READS IS OF BULK AT MOST 1048576: true; the input reads as it did. -/
def depsPartsUptoRow : OpenClaim := { program := "ytaedlmeaconflaagreat", sum := "9a42c0ea37c5039b05e5466a202454cad3485e6dc21eccc02390e45d3151799b", func := "folkmoot/folkmootlaw06.DepsParts", spec := "depsParts", unfollowed := true, recurses := true, apart := false, narrowed := true }
def DepsPartsUptoSaid : Prop := depsPartsUptoRow.holds Tryz.pinned (OpenSpec.upto depsPartsSpec)

/-- 'folkmootlaw06.DepsMerged', WHERE WHAT IT READS IS OF BULK AT MOST 1048576: true; the input reads as it did. -/
def depsMergedUptoRow : OpenClaim := { program := "ytaedlmeaconflaagreat", sum := "9a42c0ea37c5039b05e5466a202454cad3485e6dc21eccc02390e45d3151799b", func := "folkmoot/folkmootlaw06.DepsMerged", spec := "depsMerged", unfollowed := true, recurses := true, apart := false, narrowed := true }
def DepsMergedUptoSaid : Prop := depsMergedUptoRow.holds Tryz.pinned (OpenSpec.upto depsMergedSpec)

/-- 'folkmootlaw06.DepsTell', WHERE WHAT IT READS IS OF BULK AT MOST 1048576: true; the input reads as it did. -/
def depsTellUptoRow : OpenClaim := { program := "ytaedlmeaconflaagreat", sum := "9a42c0ea37c5039b05e5466a202454cad3485e6dc21eccc02390e45d3151799b", func := "folkmoot/folkmootlaw06.DepsTell", spec := "depsTell", unfollowed := true, recurses := true, apart := false, narrowed := true }
def DepsTellUptoSaid : Prop := depsTellUptoRow.holds Tryz.pinned (OpenSpec.upto depsTellSpec)

end Rows
end Go.Proofs.YtaedlmeaconflaaGreat
