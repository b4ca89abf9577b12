/-
  No cell of these rows narrows 'for every input' (looked for: loops, veiled, ifaces, maps, wideKeys, modest, calm, conditions, laid).
  DERIVED. THE GIVEN ROWS OF THIS SEAT. 8 by the template 'for every input the law returns true; each argument reads behind the call as it read before'; 0 by the template 'total and deterministic' (their statements: YtbbogkcfngpbbaaTotals.lean).
  GIVEN WITH THE SEED: the statements are not yours to turn. If you find one false, say at which input.
  Laid BY PROGRAM, IN A SANDBOX (cutbox-rows.mjs): the forced cells as the released guide's own fill.sh prints them over the translation d98388c110aefb2c… (all of the seat's roots in one cut). By AI agents, Wed Nov 11 2026. No macro, syntax, notation, axiom, sorry.
-/
import Derived.Test.YtbbogkcfngpbbaaChecked
import GoSem.Claim
import GoSem.ClaimJoined
import GoSem.ClaimMapViews
import Derived.JoinedTies
import Derived.KernelRfl
namespace Go.Proofs.Ytbbogkcfngpbbaa
/- THE CELL 'sum', in the pinned program and in every row, IS THE sha256 OF THE DUMP (.gsa) THAT YtbbogkcfngpbbaaProg.lean LOADS. Nothing in Lean hashes anything: it is a label: what it is worth is what the hold of that sum in a sandbox is worth. -/
noncomputable def Try.pinned : Pinned := { name := "ytbbogkcfngpbbaa", sum := "d98388c110aefb2c1bb30ab1c170c4d896eb440a8fa79fb3f488d775f380a78c", checked := Try.checked }
namespace Rows
def none {H : Type} : Left H := { results := [], args := [] }

/-- 'usufructlaw05.IrLooks': WHATEVER THE INPUT: true; the input reads as it did. -/
def irLooksSpec : ChangeSpec := { name := "irLooks", fn := fun _ => fun
  | [d1, d2, d3] => { results := [.lit (.bool true)], args := [d1, d2, d3] }
  | _ => none }
def irLooksRow : OpenClaim := { program := "ytbbogkcfngpbbaa", sum := "d98388c110aefb2c1bb30ab1c170c4d896eb440a8fa79fb3f488d775f380a78c", func := "usufruct/usufructlaw05.IrLooks", spec := "irLooks", unfollowed := true, recurses := true, apart := false }
def IrLooksSaid : Prop := irLooksRow.holds Try.pinned (OpenSpec.ofChange irLooksSpec)

/-- ITS FALSE NEIGHBOUR: 'it returns false'. Refute it at one input. -/
def irLooksWrong : ChangeSpec := { name := "irLooks", fn := fun _ => fun
  | [d1, d2, d3] => { results := [.lit (.bool false)], args := [d1, d2, d3] }
  | _ => none }
def IrLooksWrongFalsely : Prop := irLooksRow.holds Try.pinned (OpenSpec.ofChange irLooksWrong)

/-- 'usufructlaw05.IrSames': WHATEVER THE INPUT: true; the input reads as it did. -/
def irSamesSpec : ChangeSpec := { name := "irSames", fn := fun _ => fun
  | [d1, d2, d3] => { results := [.lit (.bool true)], args := [d1, d2, d3] }
  | _ => none }
def irSamesRow : OpenClaim := { program := "ytbbogkcfngpbbaa", sum := "d98388c110aefb2c1bb30ab1c170c4d896eb440a8fa79fb3f488d775f380a78c", func := "usufruct/usufructlaw05.IrSames", spec := "irSames", unfollowed := true, recurses := true, apart := false }
def IrSamesSaid : Prop := irSamesRow.holds Try.pinned (OpenSpec.ofChange irSamesSpec)

/-- ITS FALSE NEIGHBOUR: 'it returns false'. Refute it at one input. -/
def irSamesWrong : ChangeSpec := { name := "irSames", fn := fun _ => fun
  | [d1, d2, d3] => { results := [.lit (.bool false)], args := [d1, d2, d3] }
  | _ => none }
def IrSamesWrongFalsely : Prop := irSamesRow.holds Try.pinned (OpenSpec.ofChange irSamesWrong)

/-- 'usufructlaw05.IrGrow': WHATEVER THE INPUT: true; the input reads as it did. -/
def irGrowSpec : ChangeSpec := { name := "irGrow", fn := fun _ => fun
  | [d] => { results := [.lit (.bool true)], args := [d] }
  | _ => none }
def irGrowRow : OpenClaim := { program := "ytbbogkcfngpbbaa", sum := "d98388c110aefb2c1bb30ab1c170c4d896eb440a8fa79fb3f488d775f380a78c", func := "usufruct/usufructlaw05.IrGrow", spec := "irGrow", unfollowed := true, recurses := true, apart := false }
def IrGrowSaid : Prop := irGrowRow.holds Try.pinned (OpenSpec.ofChange irGrowSpec)

/-- ITS FALSE NEIGHBOUR: 'it returns false'. Refute it at one input. -/
def irGrowWrong : ChangeSpec := { name := "irGrow", fn := fun _ => fun
  | [d] => { results := [.lit (.bool false)], args := [d] }
  | _ => none }
def IrGrowWrongFalsely : Prop := irGrowRow.holds Try.pinned (OpenSpec.ofChange irGrowWrong)

/-- 'usufructlaw05.IrEdges': WHATEVER THE INPUT: true; the input reads as it did. -/
def irEdgesSpec : ChangeSpec := { name := "irEdges", fn := fun _ => fun
  | [d1, d2] => { results := [.lit (.bool true)], args := [d1, d2] }
  | _ => none }
def irEdgesRow : OpenClaim := { program := "ytbbogkcfngpbbaa", sum := "d98388c110aefb2c1bb30ab1c170c4d896eb440a8fa79fb3f488d775f380a78c", func := "usufruct/usufructlaw05.IrEdges", spec := "irEdges", unfollowed := true, recurses := true, apart := false }
def IrEdgesSaid : Prop := irEdgesRow.holds Try.pinned (OpenSpec.ofChange irEdgesSpec)

/-- ITS FALSE NEIGHBOUR: 'it returns false'. Refute it at one input. -/
def irEdgesWrong : ChangeSpec := { name := "irEdges", fn := fun _ => fun
  | [d1, d2] => { results := [.lit (.bool false)], args := [d1, d2] }
  | _ => none }
def IrEdgesWrongFalsely : Prop := irEdgesRow.holds Try.pinned (OpenSpec.ofChange irEdgesWrong)

/-- 'usufructlaw11.CallsChain': WHATEVER THE INPUT: true; the input reads as it did. -/
def callsChainSpec : ChangeSpec := { name := "callsChain", fn := fun _ => fun
  | [d1, d2, d3, d4] => { results := [.lit (.bool true)], args := [d1, d2, d3, d4] }
  | _ => none }
def callsChainRow : OpenClaim := { program := "ytbbogkcfngpbbaa", sum := "d98388c110aefb2c1bb30ab1c170c4d896eb440a8fa79fb3f488d775f380a78c", func := "usufruct/usufructlaw11.CallsChain", spec := "callsChain", unfollowed := true, recurses := true, apart := false }
def CallsChainSaid : Prop := callsChainRow.holds Try.pinned (OpenSpec.ofChange callsChainSpec)

/-- ITS FALSE NEIGHBOUR: 'it returns false'. Refute it at one input. -/
def callsChainWrong : ChangeSpec := { name := "callsChain", fn := fun _ => fun
  | [d1, d2, d3, d4] => { results := [.lit (.bool false)], args := [d1, d2, d3, d4] }
  | _ => none }
def CallsChainWrongFalsely : Prop := callsChainRow.holds Try.pinned (OpenSpec.ofChange callsChainWrong)

/-- 'usufructlaw11.CallsGroups': WHATEVER THE INPUT: true; the input reads as it did. -/
def callsGroupsSpec : ChangeSpec := { name := "callsGroups", fn := fun _ => fun
  | [d1, d2] => { results := [.lit (.bool true)], args := [d1, d2] }
  | _ => none }
def callsGroupsRow : OpenClaim := { program := "ytbbogkcfngpbbaa", sum := "d98388c110aefb2c1bb30ab1c170c4d896eb440a8fa79fb3f488d775f380a78c", func := "usufruct/usufructlaw11.CallsGroups", spec := "callsGroups", unfollowed := true, recurses := true, apart := false }
def CallsGroupsSaid : Prop := callsGroupsRow.holds Try.pinned (OpenSpec.ofChange callsGroupsSpec)

/-- ITS FALSE NEIGHBOUR: 'it returns false'. Refute it at one input. -/
def callsGroupsWrong : ChangeSpec := { name := "callsGroups", fn := fun _ => fun
  | [d1, d2] => { results := [.lit (.bool false)], args := [d1, d2] }
  | _ => none }
def CallsGroupsWrongFalsely : Prop := callsGroupsRow.holds Try.pinned (OpenSpec.ofChange callsGroupsWrong)

/-- 'usufructlaw11.CallsGraphs': WHATEVER THE INPUT: true; the input reads as it did. -/
def callsGraphsSpec : ChangeSpec := { name := "callsGraphs", fn := fun _ => fun
  | [d] => { results := [.lit (.bool true)], args := [d] }
  | _ => none }
def callsGraphsRow : OpenClaim := { program := "ytbbogkcfngpbbaa", sum := "d98388c110aefb2c1bb30ab1c170c4d896eb440a8fa79fb3f488d775f380a78c", func := "usufruct/usufructlaw11.CallsGraphs", spec := "callsGraphs", unfollowed := true, recurses := true, apart := false }
def CallsGraphsSaid : Prop := callsGraphsRow.holds Try.pinned (OpenSpec.ofChange callsGraphsSpec)

/-- ITS FALSE NEIGHBOUR: 'it returns false'. Refute it at one input. -/
def callsGraphsWrong : ChangeSpec := { name := "callsGraphs", fn := fun _ => fun
  | [d] => { results := [.lit (.bool false)], args := [d] }
  | _ => none }
def CallsGraphsWrongFalsely : Prop := callsGraphsRow.holds Try.pinned (OpenSpec.ofChange callsGraphsWrong)

/-- 'usufructlaw11.CallsUp': WHATEVER THE INPUT: true; the input reads as it did. -/
def callsUpSpec : ChangeSpec := { name := "callsUp", fn := fun _ => fun
  | [d] => { results := [.lit (.bool true)], args := [d] }
  | _ => none }
def callsUpRow : OpenClaim := { program := "ytbbogkcfngpbbaa", sum := "d98388c110aefb2c1bb30ab1c170c4d896eb440a8fa79fb3f488d775f380a78c", func := "usufruct/usufructlaw11.CallsUp", spec := "callsUp", unfollowed := true, recurses := true, apart := false }
def CallsUpSaid : Prop := callsUpRow.holds Try.pinned (OpenSpec.ofChange callsUpSpec)

/-- ITS FALSE NEIGHBOUR: 'it returns false'. Refute it at one input. -/
def callsUpWrong : ChangeSpec := { name := "callsUp", fn := fun _ => fun
  | [d] => { results := [.lit (.bool false)], args := [d] }
  | _ => none }
def CallsUpWrongFalsely : Prop := callsUpRow.holds Try.pinned (OpenSpec.ofChange callsUpWrong)

/- THE SECOND FORM. 'bulk': how many values and letters a reading holds, each counted each time it is reached (what is shared counts as often as it is met; a slice's spare places count too). A statement '..UptoSaid' is the law's where the arguments, and the package variables that the reading takes, are together of bulk at most 1048576: NARROWER than '..Said'. Prove '..Said' where nothing that the law and all that it calls make is longer than what came in: it says more and counts as full. Else prove '..UptoSaid'. A law counts once. -/
mutual
def uptoBulk {H : Type} : DataW H → Nat
  | .lit (.string bytes) => bytes.length + 1
  | .lit _ => 1
  | .nil => 1
  | .ptr d => uptoBulk d + 1
  | .slice elems spare => uptoBulkAll elems + uptoBulkAll spare + 1
  | .agg parts => uptoBulkAll parts + 1
  | .iface _ d => uptoBulk d + 1
  | .map entries => uptoBulkEntries entries + 1
  | .held _ => 1
def uptoBulkAll {H : Type} : List (DataW H) → Nat
  | [] => 0
  | d :: r => uptoBulk d + uptoBulkAll r
def uptoBulkEntries {H : Type} : List (Lit × DataW H) → Nat
  | [] => 0
  | x :: r => uptoBulkEntry x + uptoBulkEntries r
def uptoBulkEntry {H : Type} : Lit × DataW H → Nat
  | (.string bytes, d) => bytes.length + uptoBulk d + 1
  | (_, d) => uptoBulk d + 1
 end
def uptoSmall : (H : Type) → List (DataW H) → Bool := fun _ ds => decide (uptoBulkAll ds ≤ 1048576)
def OpenSpec.upto (s : _root_.Go.ChangeSpec) : _root_.Go.OpenSpec := { _root_.Go.OpenSpec.ofChange s with cond := some uptoSmall }

/-- 'usufructlaw05.IrLooks', WHERE WHAT IT READS IS OF BULK AT MOST 1048576: true; the input reads as it did. -/
def irLooksUptoRow : OpenClaim := { program := "ytbbogkcfngpbbaa", sum := "d98388c110aefb2c1bb30ab1c170c4d896eb440a8fa79fb3f488d775f380a78c", func := "usufruct/usufructlaw05.IrLooks", spec := "irLooks", unfollowed := true, recurses := true, apart := false, narrowed := true }
def IrLooksUptoSaid : Prop := irLooksUptoRow.holds Try.pinned (OpenSpec.upto irLooksSpec)

/-- 'usufructlaw05.IrSames', WHERE WHAT IT READS IS OF BULK AT MOST 1048576: true; the input reads as it did. -/
def irSamesUptoRow : OpenClaim := { program := "ytbbogkcfngpbbaa", sum := "d98388c110aefb2c1bb30ab1c170c4d896eb440a8fa79fb3f488d775f380a78c", func := "usufruct/usufructlaw05.IrSames", spec := "irSames", unfollowed := true, recurses := true, apart := false, narrowed := true }
def IrSamesUptoSaid : Prop := irSamesUptoRow.holds Try.pinned (OpenSpec.upto irSamesSpec)

/-- 'usufructlaw05.IrGrow', WHERE WHAT IT READS IS OF BULK AT MOST 1048576: true; the input reads as it did. -/
def irGrowUptoRow : OpenClaim := { program := "ytbbogkcfngpbbaa", sum := "d98388c110aefb2c1bb30ab1c170c4d896eb440a8fa79fb3f488d775f380a78c", func := "usufruct/usufructlaw05.IrGrow", spec := "irGrow", unfollowed := true, recurses := true, apart := false, narrowed := true }
def IrGrowUptoSaid : Prop := irGrowUptoRow.holds Try.pinned (OpenSpec.upto irGrowSpec)

/-- 'usufructlaw05.IrEdges', WHERE WHAT IT READS IS OF BULK AT MOST 1048576: true; the input reads as it did. -/
def irEdgesUptoRow : OpenClaim := { program := "ytbbogkcfngpbbaa", sum := "d98388c110aefb2c1bb30ab1c170c4d896eb440a8fa79fb3f488d775f380a78c", func := "usufruct/usufructlaw05.IrEdges", spec := "irEdges", unfollowed := true, recurses := true, apart := false, narrowed := true }
def IrEdgesUptoSaid : Prop := irEdgesUptoRow.holds Try.pinned (OpenSpec.upto irEdgesSpec)

/-- 'usufructlaw11.CallsChain', WHERE WHAT IT READS IS OF BULK AT MOST 1048576: true; the input reads as it did. -/
def callsChainUptoRow : OpenClaim := { program := "ytbbogkcfngpbbaa", sum := "d98388c110aefb2c1bb30ab1c170c4d896eb440a8fa79fb3f488d775f380a78c", func := "usufruct/usufructlaw11.CallsChain", spec := "callsChain", unfollowed := true, recurses := true, apart := false, narrowed := true }
def CallsChainUptoSaid : Prop := callsChainUptoRow.holds Try.pinned (OpenSpec.upto callsChainSpec)

/-- 'usufructlaw11.CallsGroups', WHERE WHAT IT READS IS OF BULK AT MOST 1048576: true; the input reads as it did. -/
def callsGroupsUptoRow : OpenClaim := { program := "ytbbogkcfngpbbaa", sum := "d98388c110aefb2c1bb30ab1c170c4d896eb440a8fa79fb3f488d775f380a78c", func := "usufruct/usufructlaw11.CallsGroups", spec := "callsGroups", unfollowed := true, recurses := true, apart := false, narrowed := true }
def CallsGroupsUptoSaid : Prop := callsGroupsUptoRow.holds Try.pinned (OpenSpec.upto callsGroupsSpec)

/-- 'usufructlaw11.CallsGraphs', WHERE WHAT IT READS IS OF BULK AT MOST 1048576: true; the input reads as it did. -/
def callsGraphsUptoRow : OpenClaim := { program := "ytbbogkcfngpbbaa", sum := "d98388c110aefb2c1bb30ab1c170c4d896eb440a8fa79fb3f488d775f380a78c", func := "usufruct/usufructlaw11.CallsGraphs", spec := "callsGraphs", unfollowed := true, recurses := true, apart := false, narrowed := true }
def CallsGraphsUptoSaid : Prop := callsGraphsUptoRow.holds Try.pinned (OpenSpec.upto callsGraphsSpec)

/-- 'usufructlaw11.CallsUp', WHERE WHAT IT READS IS OF BULK AT MOST 1048576: true; the input reads as it did. -/
def callsUpUptoRow : OpenClaim := { program := "ytbbogkcfngpbbaa", sum := "d98388c110aefb2c1bb30ab1c170c4d896eb440a8fa79fb3f488d775f380a78c", func := "usufruct/usufructlaw11.CallsUp", spec := "callsUp", unfollowed := true, recurses := true, apart := false, narrowed := true }
def CallsUpUptoSaid : Prop := callsUpUptoRow.holds Try.pinned (OpenSpec.upto callsUpSpec)

end Rows
end Go.Proofs.Ytbbogkcfngpbbaa
