/-
  No cell of these rows narrows 'for every input' (looked for: loops, veiled, ifaces, maps, wideKeys, modest, calm, conditions, laid).
  DERIVED. THE GIVEN ROWS OF THIS SEAT. 5 by the template 'for every input the law returns true; each argument reads behind the call as it read before'; 0 by the template 'total and deterministic' (their statements: YtnimghkkhiacfaaTotals.lean).
  GIVEN WITH THE SEED: the statements are not yours to turn. If you find one false, say at which input.
  Laid BY PROGRAM, IN A SANDBOX (cutbox-rows.mjs): the forced cells as the released guide's own fill.sh prints them over the translation d7433c452d949fd6… (all of the seat's roots in one cut). By AI agents, Wed Nov 11 2026. No macro, syntax, notation, axiom, sorry.
-/
import Derived.Test.YtnimghkkhiacfaaChecked
import GoSem.Claim
import GoSem.ClaimJoined
import GoSem.ClaimMapViews
import Derived.JoinedTies
import Derived.KernelRfl
namespace Go.Proofs.Ytnimghkkhiacfaa
/- THE CELL 'sum', in the pinned program and in every row, IS THE sha256 OF THE DUMP (.gsa) THAT YtnimghkkhiacfaaProg.lean LOADS. Nothing in Lean hashes anything: it is a label: what it is worth is what the hold of that sum in a sandbox is worth. -/
noncomputable def Try.pinned : Pinned := { name := "ytnimghkkhiacfaa", sum := "d7433c452d949fd691a61c25c3cd1d7db76a4f0a372178d7be7252d447666135", checked := Try.checked }
namespace Rows
def none {H : Type} : Left H := { results := [], args := [] }

/-- 'folkmootlaw14.DrumSafe': WHATEVER THE INPUT: true; the input reads as it did. -/
def drumSafeSpec : ChangeSpec := { name := "drumSafe", fn := fun _ => fun
  | [d1, d2, d3, d4, d5] => { results := [.lit (.bool true)], args := [d1, d2, d3, d4, d5] }
  | _ => none }
def drumSafeRow : OpenClaim := { program := "ytnimghkkhiacfaa", sum := "d7433c452d949fd691a61c25c3cd1d7db76a4f0a372178d7be7252d447666135", func := "folkmoot/folkmootlaw14.DrumSafe", spec := "drumSafe", unfollowed := true, recurses := true, apart := false }
def DrumSafeSaid : Prop := drumSafeRow.holds Try.pinned (OpenSpec.ofChange drumSafeSpec)

/-- ITS FALSE NEIGHBOUR: 'it returns false'. Refute it at one input. -/
def drumSafeWrong : ChangeSpec := { name := "drumSafe", fn := fun _ => fun
  | [d1, d2, d3, d4, d5] => { results := [.lit (.bool false)], args := [d1, d2, d3, d4, d5] }
  | _ => none }
def DrumSafeWrongFalsely : Prop := drumSafeRow.holds Try.pinned (OpenSpec.ofChange drumSafeWrong)

/-- 'folkmootlaw14.DrumArmed': WHATEVER THE INPUT: true; the input reads as it did. -/
def drumArmedSpec : ChangeSpec := { name := "drumArmed", fn := fun _ => fun
  | [d1, d2] => { results := [.lit (.bool true)], args := [d1, d2] }
  | _ => none }
def drumArmedRow : OpenClaim := { program := "ytnimghkkhiacfaa", sum := "d7433c452d949fd691a61c25c3cd1d7db76a4f0a372178d7be7252d447666135", func := "folkmoot/folkmootlaw14.DrumArmed", spec := "drumArmed", unfollowed := true, recurses := true, apart := false }
def DrumArmedSaid : Prop := drumArmedRow.holds Try.pinned (OpenSpec.ofChange drumArmedSpec)

/-- ITS FALSE NEIGHBOUR: 'it returns false'. Refute it at one input. -/
def drumArmedWrong : ChangeSpec := { name := "drumArmed", fn := fun _ => fun
  | [d1, d2] => { results := [.lit (.bool false)], args := [d1, d2] }
  | _ => none }
def DrumArmedWrongFalsely : Prop := drumArmedRow.holds Try.pinned (OpenSpec.ofChange drumArmedWrong)

/-- 'folkmootlaw14.DrumPlays': WHATEVER THE INPUT: true; the input reads as it did. -/
def drumPlaysSpec : ChangeSpec := { name := "drumPlays", fn := fun _ => fun
  | [d1, d2] => { results := [.lit (.bool true)], args := [d1, d2] }
  | _ => none }
def drumPlaysRow : OpenClaim := { program := "ytnimghkkhiacfaa", sum := "d7433c452d949fd691a61c25c3cd1d7db76a4f0a372178d7be7252d447666135", func := "folkmoot/folkmootlaw14.DrumPlays", spec := "drumPlays", unfollowed := true, recurses := true, apart := false }
def DrumPlaysSaid : Prop := drumPlaysRow.holds Try.pinned (OpenSpec.ofChange drumPlaysSpec)

/-- ITS FALSE NEIGHBOUR: 'it returns false'. Refute it at one input. -/
def drumPlaysWrong : ChangeSpec := { name := "drumPlays", fn := fun _ => fun
  | [d1, d2] => { results := [.lit (.bool false)], args := [d1, d2] }
  | _ => none }
def DrumPlaysWrongFalsely : Prop := drumPlaysRow.holds Try.pinned (OpenSpec.ofChange drumPlaysWrong)

/-- 'folkmootlaw14.DrumNil': WHATEVER THE INPUT: true; the input reads as it did. -/
def drumNilSpec : ChangeSpec := { name := "drumNil", fn := fun _ => fun
  | [d1, d2] => { results := [.lit (.bool true)], args := [d1, d2] }
  | _ => none }
def drumNilRow : OpenClaim := { program := "ytnimghkkhiacfaa", sum := "d7433c452d949fd691a61c25c3cd1d7db76a4f0a372178d7be7252d447666135", func := "folkmoot/folkmootlaw14.DrumNil", spec := "drumNil", unfollowed := true, recurses := true, apart := false }
def DrumNilSaid : Prop := drumNilRow.holds Try.pinned (OpenSpec.ofChange drumNilSpec)

/-- ITS FALSE NEIGHBOUR: 'it returns false'. Refute it at one input. -/
def drumNilWrong : ChangeSpec := { name := "drumNil", fn := fun _ => fun
  | [d1, d2] => { results := [.lit (.bool false)], args := [d1, d2] }
  | _ => none }
def DrumNilWrongFalsely : Prop := drumNilRow.holds Try.pinned (OpenSpec.ofChange drumNilWrong)

/-- 'folkmootlaw14.DrumParts': WHATEVER THE INPUT: true; the input reads as it did. -/
def drumPartsSpec : ChangeSpec := { name := "drumParts", fn := fun _ => fun
  | [d1, d2] => { results := [.lit (.bool true)], args := [d1, d2] }
  | _ => none }
def drumPartsRow : OpenClaim := { program := "ytnimghkkhiacfaa", sum := "d7433c452d949fd691a61c25c3cd1d7db76a4f0a372178d7be7252d447666135", func := "folkmoot/folkmootlaw14.DrumParts", spec := "drumParts", unfollowed := true, recurses := true, apart := false }
def DrumPartsSaid : Prop := drumPartsRow.holds Try.pinned (OpenSpec.ofChange drumPartsSpec)

/-- ITS FALSE NEIGHBOUR: 'it returns false'. Refute it at one input. -/
def drumPartsWrong : ChangeSpec := { name := "drumParts", fn := fun _ => fun
  | [d1, d2] => { results := [.lit (.bool false)], args := [d1, d2] }
  | _ => none }
def DrumPartsWrongFalsely : Prop := drumPartsRow.holds Try.pinned (OpenSpec.ofChange drumPartsWrong)

/- THE SECOND FORM. 'bulk': how many values and letters a reading holds, each counted each time it is reached (what is shared counts as often as it is met; a slice's spare places count too). A statement '..UptoSaid' is the law's where the arguments, and the package variables that the reading takes, are together of bulk at most 1048576: NARROWER than '..Said'. Prove '..Said' where nothing that the law and all that it calls make is longer than what came in: it says more and counts as full. Else prove '..UptoSaid'. A law counts once. -/
mutual
def uptoBulk {H : Type} : DataW H → Nat
  | .lit (.string bytes) => bytes.length + 1
  | .lit _ => 1
  | .nil => 1
  | .ptr d => uptoBulk d + 1
  | .slice elems spare => uptoBulkAll elems + uptoBulkAll spare + 1
  | .agg parts => uptoBulkAll parts + 1
  | .iface _ d => uptoBulk d + 1
  | .map entries => uptoBulkEntries entries + 1
  | .held _ => 1
def uptoBulkAll {H : Type} : List (DataW H) → Nat
  | [] => 0
  | d :: r => uptoBulk d + uptoBulkAll r
def uptoBulkEntries {H : Type} : List (Lit × DataW H) → Nat
  | [] => 0
  | x :: r => uptoBulkEntry x + uptoBulkEntries r
def uptoBulkEntry {H : Type} : Lit × DataW H → Nat
  | (.string bytes, d) => bytes.length + uptoBulk d + 1
  | (_, d) => uptoBulk d + 1
 end
def uptoSmall : (H : Type) → List (DataW H) → Bool := fun _ ds => decide (uptoBulkAll ds ≤ 1048576)
def OpenSpec.upto (s : _root_.Go.ChangeSpec) : _root_.Go.OpenSpec := { _root_.Go.OpenSpec.ofChange s with cond := some uptoSmall }

/-- 'folkmootlaw14.DrumSafe', WHERE WHAT IT READS IS OF BULK AT MOST 1048576: true; the input reads as it did. -/
def drumSafeUptoRow : OpenClaim := { program := "ytnimghkkhiacfaa", sum := "d7433c452d949fd691a61c25c3cd1d7db76a4f0a372178d7be7252d447666135", func := "folkmoot/folkmootlaw14.DrumSafe", spec := "drumSafe", unfollowed := true, recurses := true, apart := false, narrowed := true }
def DrumSafeUptoSaid : Prop := drumSafeUptoRow.holds Try.pinned (OpenSpec.upto drumSafeSpec)

/-- 'folkmootlaw14.DrumArmed', WHERE WHAT IT READS IS OF BULK AT MOST 1048576: true; the input reads as it did. -/
def drumArmedUptoRow : OpenClaim := { program := "ytnimghkkhiacfaa", sum := "d7433c452d949fd691a61c25c3cd1d7db76a4f0a372178d7be7252d447666135", func := "folkmoot/folkmootlaw14.DrumArmed", spec := "drumArmed", unfollowed := true, recurses := true, apart := false, narrowed := true }
def DrumArmedUptoSaid : Prop := drumArmedUptoRow.holds Try.pinned (OpenSpec.upto drumArmedSpec)

/-- 'folkmootlaw14.DrumPlays', WHERE WHAT IT READS IS OF BULK AT MOST 1048576: true; the input reads as it did. -/
def drumPlaysUptoRow : OpenClaim := { program := "ytnimghkkhiacfaa", sum := "d7433c452d949fd691a61c25c3cd1d7db76a4f0a372178d7be7252d447666135", func := "folkmoot/folkmootlaw14.DrumPlays", spec := "drumPlays", unfollowed := true, recurses := true, apart := false, narrowed := true }
def DrumPlaysUptoSaid : Prop := drumPlaysUptoRow.holds Try.pinned (OpenSpec.upto drumPlaysSpec)

/-- 'folkmootlaw14.DrumNil', WHERE WHAT IT READS IS OF BULK AT MOST 1048576: true; the input reads as it did. -/
def drumNilUptoRow : OpenClaim := { program := "ytnimghkkhiacfaa", sum := "d7433c452d949fd691a61c25c3cd1d7db76a4f0a372178d7be7252d447666135", func := "folkmoot/folkmootlaw14.DrumNil", spec := "drumNil", unfollowed := true, recurses := true, apart := false, narrowed := true }
def DrumNilUptoSaid : Prop := drumNilUptoRow.holds Try.pinned (OpenSpec.upto drumNilSpec)

/-- 'folkmootlaw14.DrumParts', WHERE WHAT IT READS IS OF BULK AT MOST 1048576: true; the input reads as it did. -/
def drumPartsUptoRow : OpenClaim := { program := "ytnimghkkhiacfaa", sum := "d7433c452d949fd691a61c25c3cd1d7db76a4f0a372178d7be7252d447666135", func := "folkmoot/folkmootlaw14.DrumParts", spec := "drumParts", unfollowed := true, recurses := true, apart := false, narrowed := true }
def DrumPartsUptoSaid : Prop := drumPartsUptoRow.holds Try.pinned (OpenSpec.upto drumPartsSpec)

end Rows
end Go.Proofs.Ytnimghkkhiacfaa
