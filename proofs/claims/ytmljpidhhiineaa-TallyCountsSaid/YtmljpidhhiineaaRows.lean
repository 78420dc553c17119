/-
  No cell of these rows narrows 'for every input' (looked for: loops, veiled, ifaces, maps, wideKeys, modest, calm, conditions, laid).
  DERIVED. THE GIVEN ROWS OF THIS SEAT. 6 by the template 'for every input the law returns true; each argument reads behind the call as it read before'; 0 by the template 'total and deterministic' (their statements: YtmljpidhhiineaaTotals.lean).
  GIVEN WITH THE SEED: the statements are not yours to turn. If you find one false, say at which input.
  Laid BY PROGRAM, IN A SANDBOX (cutbox-rows.mjs): the forced cells as the released guide's own fill.sh prints them over the translation 328ce00e5ea52c0e… (all of the seat's roots in one cut). By AI agents, Wed Nov 11 2026. No macro, syntax, notation, axiom, sorry.
-/
import Derived.Test.YtmljpidhhiineaaChecked
import GoSem.Claim
import GoSem.ClaimJoined
import GoSem.ClaimMapViews
import Derived.JoinedTies
import Derived.KernelRfl
namespace Go.Proofs.Ytmljpidhhiineaa
/- THE CELL 'sum', in the pinned program and in every row, IS THE sha256 OF THE DUMP (.gsa) THAT YtmljpidhhiineaaProg.lean LOADS. Nothing in Lean hashes anything: it is a label: what it is worth is what the hold of that sum in a sandbox is worth. -/
noncomputable def Try.pinned : Pinned := { name := "ytmljpidhhiineaa", sum := "328ce00e5ea52c0ee361553cb9136de6d54d2f2eea9485e4fe67ca33f45f627b", checked := Try.checked }
namespace Rows
def none {H : Type} : Left H := { results := [], args := [] }

/-- 'folkmootlaw05.TallyCounts': WHATEVER THE INPUT: true; the input reads as it did. -/
def tallyCountsSpec : ChangeSpec := { name := "tallyCounts", fn := fun _ => fun
  | [d1, d2, d3] => { results := [.lit (.bool true)], args := [d1, d2, d3] }
  | _ => none }
def tallyCountsRow : OpenClaim := { program := "ytmljpidhhiineaa", sum := "328ce00e5ea52c0ee361553cb9136de6d54d2f2eea9485e4fe67ca33f45f627b", func := "folkmoot/folkmootlaw05.TallyCounts", spec := "tallyCounts", unfollowed := true, recurses := true, apart := false }
def TallyCountsSaid : Prop := tallyCountsRow.holds Try.pinned (OpenSpec.ofChange tallyCountsSpec)

/-- ITS FALSE NEIGHBOUR: 'it returns false'. Refute it at one input. -/
def tallyCountsWrong : ChangeSpec := { name := "tallyCounts", fn := fun _ => fun
  | [d1, d2, d3] => { results := [.lit (.bool false)], args := [d1, d2, d3] }
  | _ => none }
def TallyCountsWrongFalsely : Prop := tallyCountsRow.holds Try.pinned (OpenSpec.ofChange tallyCountsWrong)

/-- 'folkmootlaw05.TallyMeet': WHATEVER THE INPUT: true; the input reads as it did. -/
def tallyMeetSpec : ChangeSpec := { name := "tallyMeet", fn := fun _ => fun
  | [d1, d2, d3, d4] => { results := [.lit (.bool true)], args := [d1, d2, d3, d4] }
  | _ => none }
def tallyMeetRow : OpenClaim := { program := "ytmljpidhhiineaa", sum := "328ce00e5ea52c0ee361553cb9136de6d54d2f2eea9485e4fe67ca33f45f627b", func := "folkmoot/folkmootlaw05.TallyMeet", spec := "tallyMeet", unfollowed := true, recurses := true, apart := false }
def TallyMeetSaid : Prop := tallyMeetRow.holds Try.pinned (OpenSpec.ofChange tallyMeetSpec)

/-- ITS FALSE NEIGHBOUR: 'it returns false'. Refute it at one input. -/
def tallyMeetWrong : ChangeSpec := { name := "tallyMeet", fn := fun _ => fun
  | [d1, d2, d3, d4] => { results := [.lit (.bool false)], args := [d1, d2, d3, d4] }
  | _ => none }
def TallyMeetWrongFalsely : Prop := tallyMeetRow.holds Try.pinned (OpenSpec.ofChange tallyMeetWrong)

/-- 'folkmootlaw05.TallyOrder': WHATEVER THE INPUT: true; the input reads as it did. -/
def tallyOrderSpec : ChangeSpec := { name := "tallyOrder", fn := fun _ => fun
  | [d1, d2, d3] => { results := [.lit (.bool true)], args := [d1, d2, d3] }
  | _ => none }
def tallyOrderRow : OpenClaim := { program := "ytmljpidhhiineaa", sum := "328ce00e5ea52c0ee361553cb9136de6d54d2f2eea9485e4fe67ca33f45f627b", func := "folkmoot/folkmootlaw05.TallyOrder", spec := "tallyOrder", unfollowed := true, recurses := true, apart := false }
def TallyOrderSaid : Prop := tallyOrderRow.holds Try.pinned (OpenSpec.ofChange tallyOrderSpec)

/-- ITS FALSE NEIGHBOUR: 'it returns false'. Refute it at one input. -/
def tallyOrderWrong : ChangeSpec := { name := "tallyOrder", fn := fun _ => fun
  | [d1, d2, d3] => { results := [.lit (.bool false)], args := [d1, d2, d3] }
  | _ => none }
def TallyOrderWrongFalsely : Prop := tallyOrderRow.holds Try.pinned (OpenSpec.ofChange tallyOrderWrong)

/-- 'folkmootlaw05.TallyNil': WHATEVER THE INPUT: true; the input reads as it did. -/
def tallyNilSpec : ChangeSpec := { name := "tallyNil", fn := fun _ => fun
  | [d] => { results := [.lit (.bool true)], args := [d] }
  | _ => none }
def tallyNilRow : OpenClaim := { program := "ytmljpidhhiineaa", sum := "328ce00e5ea52c0ee361553cb9136de6d54d2f2eea9485e4fe67ca33f45f627b", func := "folkmoot/folkmootlaw05.TallyNil", spec := "tallyNil", unfollowed := true, recurses := true, apart := false }
def TallyNilSaid : Prop := tallyNilRow.holds Try.pinned (OpenSpec.ofChange tallyNilSpec)

/-- ITS FALSE NEIGHBOUR: 'it returns false'. Refute it at one input. -/
def tallyNilWrong : ChangeSpec := { name := "tallyNil", fn := fun _ => fun
  | [d] => { results := [.lit (.bool false)], args := [d] }
  | _ => none }
def TallyNilWrongFalsely : Prop := tallyNilRow.holds Try.pinned (OpenSpec.ofChange tallyNilWrong)

/-- 'folkmootlaw05.TallyOthers': WHATEVER THE INPUT: true; the input reads as it did. -/
def tallyOthersSpec : ChangeSpec := { name := "tallyOthers", fn := fun _ => fun
  | [d1, d2, d3] => { results := [.lit (.bool true)], args := [d1, d2, d3] }
  | _ => none }
def tallyOthersRow : OpenClaim := { program := "ytmljpidhhiineaa", sum := "328ce00e5ea52c0ee361553cb9136de6d54d2f2eea9485e4fe67ca33f45f627b", func := "folkmoot/folkmootlaw05.TallyOthers", spec := "tallyOthers", unfollowed := true, recurses := true, apart := false }
def TallyOthersSaid : Prop := tallyOthersRow.holds Try.pinned (OpenSpec.ofChange tallyOthersSpec)

/-- ITS FALSE NEIGHBOUR: 'it returns false'. Refute it at one input. -/
def tallyOthersWrong : ChangeSpec := { name := "tallyOthers", fn := fun _ => fun
  | [d1, d2, d3] => { results := [.lit (.bool false)], args := [d1, d2, d3] }
  | _ => none }
def TallyOthersWrongFalsely : Prop := tallyOthersRow.holds Try.pinned (OpenSpec.ofChange tallyOthersWrong)

/-- 'folkmootlaw05.TallyShards': WHATEVER THE INPUT: true; the input reads as it did. -/
def tallyShardsSpec : ChangeSpec := { name := "tallyShards", fn := fun _ => fun
  | [d1, d2, d3] => { results := [.lit (.bool true)], args := [d1, d2, d3] }
  | _ => none }
def tallyShardsRow : OpenClaim := { program := "ytmljpidhhiineaa", sum := "328ce00e5ea52c0ee361553cb9136de6d54d2f2eea9485e4fe67ca33f45f627b", func := "folkmoot/folkmootlaw05.TallyShards", spec := "tallyShards", unfollowed := true, recurses := true, apart := false }
def TallyShardsSaid : Prop := tallyShardsRow.holds Try.pinned (OpenSpec.ofChange tallyShardsSpec)

/-- ITS FALSE NEIGHBOUR: 'it returns false'. Refute it at one input. -/
def tallyShardsWrong : ChangeSpec := { name := "tallyShards", fn := fun _ => fun
  | [d1, d2, d3] => { results := [.lit (.bool false)], args := [d1, d2, d3] }
  | _ => none }
def TallyShardsWrongFalsely : Prop := tallyShardsRow.holds Try.pinned (OpenSpec.ofChange tallyShardsWrong)

/- THE SECOND FORM. 'bulk': how many values and letters a reading holds, each counted each time it is reached (what is shared counts as often as it is met; a slice's spare places count too). A statement '..UptoSaid' is the law's where the arguments, and the package variables that the reading takes, are together of bulk at most 1048576: NARROWER than '..Said'. Prove '..Said' where nothing that the law and all that it calls make is longer than what came in: it says more and counts as full. Else prove '..UptoSaid'. A law counts once. -/
mutual
def uptoBulk {H : Type} : DataW H → Nat
  | .lit (.string bytes) => bytes.length + 1
  | .lit _ => 1
  | .nil => 1
  | .ptr d => uptoBulk d + 1
  | .slice elems spare => uptoBulkAll elems + uptoBulkAll spare + 1
  | .agg parts => uptoBulkAll parts + 1
  | .iface _ d => uptoBulk d + 1
  | .map entries => uptoBulkEntries entries + 1
  | .held _ => 1
def uptoBulkAll {H : Type} : List (DataW H) → Nat
  | [] => 0
  | d :: r => uptoBulk d + uptoBulkAll r
def uptoBulkEntries {H : Type} : List (Lit × DataW H) → Nat
  | [] => 0
  | x :: r => uptoBulkEntry x + uptoBulkEntries r
def uptoBulkEntry {H : Type} : Lit × DataW H → Nat
  | (.string bytes, d) => bytes.length + uptoBulk d + 1
  | (_, d) => uptoBulk d + 1
 end
def uptoSmall : (H : Type) → List (DataW H) → Bool := fun _ ds => decide (uptoBulkAll ds ≤ 1048576)
def OpenSpec.upto (s : _root_.Go.ChangeSpec) : _root_.Go.OpenSpec := { _root_.Go.OpenSpec.ofChange s with cond := some uptoSmall }

/-- 'folkmootlaw05.TallyCounts', WHERE WHAT IT READS IS OF BULK AT MOST 1048576: true; the input reads as it did. -/
def tallyCountsUptoRow : OpenClaim := { program := "ytmljpidhhiineaa", sum := "328ce00e5ea52c0ee361553cb9136de6d54d2f2eea9485e4fe67ca33f45f627b", func := "folkmoot/folkmootlaw05.TallyCounts", spec := "tallyCounts", unfollowed := true, recurses := true, apart := false, narrowed := true }
def TallyCountsUptoSaid : Prop := tallyCountsUptoRow.holds Try.pinned (OpenSpec.upto tallyCountsSpec)

/-- 'folkmootlaw05.TallyMeet', WHERE WHAT IT READS IS OF BULK AT MOST 1048576: true; the input reads as it did. -/
def tallyMeetUptoRow : OpenClaim := { program := "ytmljpidhhiineaa", sum := "328ce00e5ea52c0ee361553cb9136de6d54d2f2eea9485e4fe67ca33f45f627b", func := "folkmoot/folkmootlaw05.TallyMeet", spec := "tallyMeet", unfollowed := true, recurses := true, apart := false, narrowed := true }
def TallyMeetUptoSaid : Prop := tallyMeetUptoRow.holds Try.pinned (OpenSpec.upto tallyMeetSpec)

/-- 'folkmootlaw05.TallyOrder', WHERE WHAT IT READS IS OF BULK AT MOST 1048576: true; the input reads as it did. -/
def tallyOrderUptoRow : OpenClaim := { program := "ytmljpidhhiineaa", sum := "328ce00e5ea52c0ee361553cb9136de6d54d2f2eea9485e4fe67ca33f45f627b", func := "folkmoot/folkmootlaw05.TallyOrder", spec := "tallyOrder", unfollowed := true, recurses := true, apart := false, narrowed := true }
def TallyOrderUptoSaid : Prop := tallyOrderUptoRow.holds Try.pinned (OpenSpec.upto tallyOrderSpec)

/-- 'folkmootlaw05.TallyNil', WHERE WHAT IT READS IS OF BULK AT MOST 1048576: true; the input reads as it did. -/
def tallyNilUptoRow : OpenClaim := { program := "ytmljpidhhiineaa", sum := "328ce00e5ea52c0ee361553cb9136de6d54d2f2eea9485e4fe67ca33f45f627b", func := "folkmoot/folkmootlaw05.TallyNil", spec := "tallyNil", unfollowed := true, recurses := true, apart := false, narrowed := true }
def TallyNilUptoSaid : Prop := tallyNilUptoRow.holds Try.pinned (OpenSpec.upto tallyNilSpec)

/-- 'folkmootlaw05.TallyOthers', WHERE WHAT IT READS IS OF BULK AT MOST 1048576: true; the input reads as it did. -/
def tallyOthersUptoRow : OpenClaim := { program := "ytmljpidhhiineaa", sum := "328ce00e5ea52c0ee361553cb9136de6d54d2f2eea9485e4fe67ca33f45f627b", func := "folkmoot/folkmootlaw05.TallyOthers", spec := "tallyOthers", unfollowed := true, recurses := true, apart := false, narrowed := true }
def TallyOthersUptoSaid : Prop := tallyOthersUptoRow.holds Try.pinned (OpenSpec.upto tallyOthersSpec)

/-- 'folkmootlaw05.TallyShards', WHERE WHAT IT READS IS OF BULK AT MOST 1048576: true; the input reads as it did. -/
def tallyShardsUptoRow : OpenClaim := { program := "ytmljpidhhiineaa", sum := "328ce00e5ea52c0ee361553cb9136de6d54d2f2eea9485e4fe67ca33f45f627b", func := "folkmoot/folkmootlaw05.TallyShards", spec := "tallyShards", unfollowed := true, recurses := true, apart := false, narrowed := true }
def TallyShardsUptoSaid : Prop := tallyShardsUptoRow.holds Try.pinned (OpenSpec.upto tallyShardsSpec)

end Rows
end Go.Proofs.Ytmljpidhhiineaa
