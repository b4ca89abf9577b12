/-
  No cell of these rows narrows 'for every input' (looked for: loops, veiled, ifaces, maps, wideKeys, modest, calm, conditions, laid).
  DERIVED. THE GIVEN ROWS OF THIS SEAT. 11 by the template 'for every input the law returns true; each argument reads behind the call as it read before'; 0 by the template 'total and deterministic' (their statements: YtpbkkajgcdahcaaTotals.lean).
  GIVEN WITH THE SEED: the statements are not yours to turn. If you find one false, say at which input.
  Laid BY PROGRAM, IN A SANDBOX (cutbox-rows.mjs): the forced cells as the released guide's own fill.sh prints them over the translation 888fa2405137f91c… (all of the seat's roots in one cut). By AI agents, Wed Nov 11 2026. No macro, syntax, notation, axiom, sorry.
-/
import Derived.Test.YtpbkkajgcdahcaaChecked
import GoSem.Claim
import GoSem.ClaimJoined
import GoSem.ClaimMapViews
import Derived.JoinedTies
import Derived.KernelRfl
namespace Go.Proofs.Ytpbkkajgcdahcaa
/- THE CELL 'sum', in the pinned program and in every row, IS THE sha256 OF THE DUMP (.gsa) THAT YtpbkkajgcdahcaaProg.lean LOADS. Nothing in Lean hashes anything: it is a label: what it is worth is what the hold of that sum in a sandbox is worth. -/
noncomputable def Try.pinned : Pinned := { name := "ytpbkkajgcdahcaa", sum := "888fa2405137f91c5fd53d7d98367ffd2a91090dafa8cc50d81ead0bb4d46f96", checked := Try.checked }
namespace Rows
def none {H : Type} : Left H := { results := [], args := [] }

/-- 'usufructlaw08.FlowForwards': WHATEVER THE INPUT: true; the input reads as it did. -/
def flowForwardsSpec : ChangeSpec := { name := "flowForwards", fn := fun _ => fun
  | [d] => { results := [.lit (.bool true)], args := [d] }
  | _ => none }
def flowForwardsRow : OpenClaim := { program := "ytpbkkajgcdahcaa", sum := "888fa2405137f91c5fd53d7d98367ffd2a91090dafa8cc50d81ead0bb4d46f96", func := "usufruct/usufructlaw08.FlowForwards", spec := "flowForwards", unfollowed := true, recurses := true, apart := false }
def FlowForwardsSaid : Prop := flowForwardsRow.holds Try.pinned (OpenSpec.ofChange flowForwardsSpec)

/-- ITS FALSE NEIGHBOUR: 'it returns false'. Refute it at one input. -/
def flowForwardsWrong : ChangeSpec := { name := "flowForwards", fn := fun _ => fun
  | [d] => { results := [.lit (.bool false)], args := [d] }
  | _ => none }
def FlowForwardsWrongFalsely : Prop := flowForwardsRow.holds Try.pinned (OpenSpec.ofChange flowForwardsWrong)

/-- 'usufructlaw08.FlowReaches': WHATEVER THE INPUT: true; the input reads as it did. -/
def flowReachesSpec : ChangeSpec := { name := "flowReaches", fn := fun _ => fun
  | [d] => { results := [.lit (.bool true)], args := [d] }
  | _ => none }
def flowReachesRow : OpenClaim := { program := "ytpbkkajgcdahcaa", sum := "888fa2405137f91c5fd53d7d98367ffd2a91090dafa8cc50d81ead0bb4d46f96", func := "usufruct/usufructlaw08.FlowReaches", spec := "flowReaches", unfollowed := true, recurses := true, apart := false }
def FlowReachesSaid : Prop := flowReachesRow.holds Try.pinned (OpenSpec.ofChange flowReachesSpec)

/-- ITS FALSE NEIGHBOUR: 'it returns false'. Refute it at one input. -/
def flowReachesWrong : ChangeSpec := { name := "flowReaches", fn := fun _ => fun
  | [d] => { results := [.lit (.bool false)], args := [d] }
  | _ => none }
def FlowReachesWrongFalsely : Prop := flowReachesRow.holds Try.pinned (OpenSpec.ofChange flowReachesWrong)

/-- 'usufructlaw08.FlowSame': WHATEVER THE INPUT: true; the input reads as it did. -/
def flowSameSpec : ChangeSpec := { name := "flowSame", fn := fun _ => fun
  | [d] => { results := [.lit (.bool true)], args := [d] }
  | _ => none }
def flowSameRow : OpenClaim := { program := "ytpbkkajgcdahcaa", sum := "888fa2405137f91c5fd53d7d98367ffd2a91090dafa8cc50d81ead0bb4d46f96", func := "usufruct/usufructlaw08.FlowSame", spec := "flowSame", unfollowed := true, recurses := true, apart := false }
def FlowSameSaid : Prop := flowSameRow.holds Try.pinned (OpenSpec.ofChange flowSameSpec)

/-- ITS FALSE NEIGHBOUR: 'it returns false'. Refute it at one input. -/
def flowSameWrong : ChangeSpec := { name := "flowSame", fn := fun _ => fun
  | [d] => { results := [.lit (.bool false)], args := [d] }
  | _ => none }
def FlowSameWrongFalsely : Prop := flowSameRow.holds Try.pinned (OpenSpec.ofChange flowSameWrong)

/-- 'usufructlaw09.DomOvers': WHATEVER THE INPUT: true; the input reads as it did. -/
def domOversSpec : ChangeSpec := { name := "domOvers", fn := fun _ => fun
  | [d] => { results := [.lit (.bool true)], args := [d] }
  | _ => none }
def domOversRow : OpenClaim := { program := "ytpbkkajgcdahcaa", sum := "888fa2405137f91c5fd53d7d98367ffd2a91090dafa8cc50d81ead0bb4d46f96", func := "usufruct/usufructlaw09.DomOvers", spec := "domOvers", unfollowed := true, recurses := true, apart := false }
def DomOversSaid : Prop := domOversRow.holds Try.pinned (OpenSpec.ofChange domOversSpec)

/-- ITS FALSE NEIGHBOUR: 'it returns false'. Refute it at one input. -/
def domOversWrong : ChangeSpec := { name := "domOvers", fn := fun _ => fun
  | [d] => { results := [.lit (.bool false)], args := [d] }
  | _ => none }
def DomOversWrongFalsely : Prop := domOversRow.holds Try.pinned (OpenSpec.ofChange domOversWrong)

/-- 'usufructlaw09.DomWays': WHATEVER THE INPUT: true; the input reads as it did. -/
def domWaysSpec : ChangeSpec := { name := "domWays", fn := fun _ => fun
  | [d1, d2, d3] => { results := [.lit (.bool true)], args := [d1, d2, d3] }
  | _ => none }
def domWaysRow : OpenClaim := { program := "ytpbkkajgcdahcaa", sum := "888fa2405137f91c5fd53d7d98367ffd2a91090dafa8cc50d81ead0bb4d46f96", func := "usufruct/usufructlaw09.DomWays", spec := "domWays", unfollowed := true, recurses := true, apart := false }
def DomWaysSaid : Prop := domWaysRow.holds Try.pinned (OpenSpec.ofChange domWaysSpec)

/-- ITS FALSE NEIGHBOUR: 'it returns false'. Refute it at one input. -/
def domWaysWrong : ChangeSpec := { name := "domWays", fn := fun _ => fun
  | [d1, d2, d3] => { results := [.lit (.bool false)], args := [d1, d2, d3] }
  | _ => none }
def DomWaysWrongFalsely : Prop := domWaysRow.holds Try.pinned (OpenSpec.ofChange domWaysWrong)

/-- 'usufructlaw09.DomPaths': WHATEVER THE INPUT: true; the input reads as it did. -/
def domPathsSpec : ChangeSpec := { name := "domPaths", fn := fun _ => fun
  | [d1, d2] => { results := [.lit (.bool true)], args := [d1, d2] }
  | _ => none }
def domPathsRow : OpenClaim := { program := "ytpbkkajgcdahcaa", sum := "888fa2405137f91c5fd53d7d98367ffd2a91090dafa8cc50d81ead0bb4d46f96", func := "usufruct/usufructlaw09.DomPaths", spec := "domPaths", unfollowed := true, recurses := true, apart := false }
def DomPathsSaid : Prop := domPathsRow.holds Try.pinned (OpenSpec.ofChange domPathsSpec)

/-- ITS FALSE NEIGHBOUR: 'it returns false'. Refute it at one input. -/
def domPathsWrong : ChangeSpec := { name := "domPaths", fn := fun _ => fun
  | [d1, d2] => { results := [.lit (.bool false)], args := [d1, d2] }
  | _ => none }
def DomPathsWrongFalsely : Prop := domPathsRow.holds Try.pinned (OpenSpec.ofChange domPathsWrong)

/-- 'usufructlaw10.LiveStraight': WHATEVER THE INPUT: true; the input reads as it did. -/
def liveStraightSpec : ChangeSpec := { name := "liveStraight", fn := fun _ => fun
  | [d1, d2] => { results := [.lit (.bool true)], args := [d1, d2] }
  | _ => none }
def liveStraightRow : OpenClaim := { program := "ytpbkkajgcdahcaa", sum := "888fa2405137f91c5fd53d7d98367ffd2a91090dafa8cc50d81ead0bb4d46f96", func := "usufruct/usufructlaw10.LiveStraight", spec := "liveStraight", unfollowed := true, recurses := true, apart := false }
def LiveStraightSaid : Prop := liveStraightRow.holds Try.pinned (OpenSpec.ofChange liveStraightSpec)

/-- ITS FALSE NEIGHBOUR: 'it returns false'. Refute it at one input. -/
def liveStraightWrong : ChangeSpec := { name := "liveStraight", fn := fun _ => fun
  | [d1, d2] => { results := [.lit (.bool false)], args := [d1, d2] }
  | _ => none }
def LiveStraightWrongFalsely : Prop := liveStraightRow.holds Try.pinned (OpenSpec.ofChange liveStraightWrong)

/-- 'usufructlaw10.LiveTables': WHATEVER THE INPUT: true; the input reads as it did. -/
def liveTablesSpec : ChangeSpec := { name := "liveTables", fn := fun _ => fun
  | [d] => { results := [.lit (.bool true)], args := [d] }
  | _ => none }
def liveTablesRow : OpenClaim := { program := "ytpbkkajgcdahcaa", sum := "888fa2405137f91c5fd53d7d98367ffd2a91090dafa8cc50d81ead0bb4d46f96", func := "usufruct/usufructlaw10.LiveTables", spec := "liveTables", unfollowed := true, recurses := true, apart := false }
def LiveTablesSaid : Prop := liveTablesRow.holds Try.pinned (OpenSpec.ofChange liveTablesSpec)

/-- ITS FALSE NEIGHBOUR: 'it returns false'. Refute it at one input. -/
def liveTablesWrong : ChangeSpec := { name := "liveTables", fn := fun _ => fun
  | [d] => { results := [.lit (.bool false)], args := [d] }
  | _ => none }
def LiveTablesWrongFalsely : Prop := liveTablesRow.holds Try.pinned (OpenSpec.ofChange liveTablesWrong)

/-- 'usufructlaw10.LiveWays': WHATEVER THE INPUT: true; the input reads as it did. -/
def liveWaysSpec : ChangeSpec := { name := "liveWays", fn := fun _ => fun
  | [d] => { results := [.lit (.bool true)], args := [d] }
  | _ => none }
def liveWaysRow : OpenClaim := { program := "ytpbkkajgcdahcaa", sum := "888fa2405137f91c5fd53d7d98367ffd2a91090dafa8cc50d81ead0bb4d46f96", func := "usufruct/usufructlaw10.LiveWays", spec := "liveWays", unfollowed := true, recurses := true, apart := false }
def LiveWaysSaid : Prop := liveWaysRow.holds Try.pinned (OpenSpec.ofChange liveWaysSpec)

/-- ITS FALSE NEIGHBOUR: 'it returns false'. Refute it at one input. -/
def liveWaysWrong : ChangeSpec := { name := "liveWays", fn := fun _ => fun
  | [d] => { results := [.lit (.bool false)], args := [d] }
  | _ => none }
def LiveWaysWrongFalsely : Prop := liveWaysRow.holds Try.pinned (OpenSpec.ofChange liveWaysWrong)

/-- 'usufructlaw09.DomUnders': WHATEVER THE INPUT: true; the input reads as it did. -/
def domUndersSpec : ChangeSpec := { name := "domUnders", fn := fun _ => fun
  | [d1, d2, d3] => { results := [.lit (.bool true)], args := [d1, d2, d3] }
  | _ => none }
def domUndersRow : OpenClaim := { program := "ytpbkkajgcdahcaa", sum := "888fa2405137f91c5fd53d7d98367ffd2a91090dafa8cc50d81ead0bb4d46f96", func := "usufruct/usufructlaw09.DomUnders", spec := "domUnders", unfollowed := true, recurses := true, apart := false }
def DomUndersSaid : Prop := domUndersRow.holds Try.pinned (OpenSpec.ofChange domUndersSpec)

/-- ITS FALSE NEIGHBOUR: 'it returns false'. Refute it at one input. -/
def domUndersWrong : ChangeSpec := { name := "domUnders", fn := fun _ => fun
  | [d1, d2, d3] => { results := [.lit (.bool false)], args := [d1, d2, d3] }
  | _ => none }
def DomUndersWrongFalsely : Prop := domUndersRow.holds Try.pinned (OpenSpec.ofChange domUndersWrong)

/-- 'usufructlaw09.DomNils': WHATEVER THE INPUT: true; the input reads as it did. -/
def domNilsSpec : ChangeSpec := { name := "domNils", fn := fun _ => fun
  | [d1, d2] => { results := [.lit (.bool true)], args := [d1, d2] }
  | _ => none }
def domNilsRow : OpenClaim := { program := "ytpbkkajgcdahcaa", sum := "888fa2405137f91c5fd53d7d98367ffd2a91090dafa8cc50d81ead0bb4d46f96", func := "usufruct/usufructlaw09.DomNils", spec := "domNils", unfollowed := true, recurses := true, apart := false }
def DomNilsSaid : Prop := domNilsRow.holds Try.pinned (OpenSpec.ofChange domNilsSpec)

/-- ITS FALSE NEIGHBOUR: 'it returns false'. Refute it at one input. -/
def domNilsWrong : ChangeSpec := { name := "domNils", fn := fun _ => fun
  | [d1, d2] => { results := [.lit (.bool false)], args := [d1, d2] }
  | _ => none }
def DomNilsWrongFalsely : Prop := domNilsRow.holds Try.pinned (OpenSpec.ofChange domNilsWrong)

/- THE SECOND FORM. 'bulk': how many values and letters a reading holds, each counted each time it is reached (what is shared counts as often as it is met; a slice's spare places count too). A statement '..UptoSaid' is the law's where the arguments, and the package variables that the reading takes, are together of bulk at most 1048576: NARROWER than '..Said'. Prove '..Said' where nothing that the law and all that it calls make is longer than what came in: it says more and counts as full. Else prove '..UptoSaid'. A law counts once. -/
mutual
def uptoBulk {H : Type} : DataW H → Nat
  | .lit (.string bytes) => bytes.length + 1
  | .lit _ => 1
  | .nil => 1
  | .ptr d => uptoBulk d + 1
  | .slice elems spare => uptoBulkAll elems + uptoBulkAll spare + 1
  | .agg parts => uptoBulkAll parts + 1
  | .iface _ d => uptoBulk d + 1
  | .map entries => uptoBulkEntries entries + 1
  | .held _ => 1
def uptoBulkAll {H : Type} : List (DataW H) → Nat
  | [] => 0
  | d :: r => uptoBulk d + uptoBulkAll r
def uptoBulkEntries {H : Type} : List (Lit × DataW H) → Nat
  | [] => 0
  | x :: r => uptoBulkEntry x + uptoBulkEntries r
def uptoBulkEntry {H : Type} : Lit × DataW H → Nat
  | (.string bytes, d) => bytes.length + uptoBulk d + 1
  | (_, d) => uptoBulk d + 1
 end
def uptoSmall : (H : Type) → List (DataW H) → Bool := fun _ ds => decide (uptoBulkAll ds ≤ 1048576)
def OpenSpec.upto (s : _root_.Go.ChangeSpec) : _root_.Go.OpenSpec := { _root_.Go.OpenSpec.ofChange s with cond := some uptoSmall }

/-- 'usufructlaw08.FlowForwards', WHERE WHAT IT READS IS OF BULK AT MOST 1048576: true; the input reads as it did. -/
def flowForwardsUptoRow : OpenClaim := { program := "ytpbkkajgcdahcaa", sum := "888fa2405137f91c5fd53d7d98367ffd2a91090dafa8cc50d81ead0bb4d46f96", func := "usufruct/usufructlaw08.FlowForwards", spec := "flowForwards", unfollowed := true, recurses := true, apart := false, narrowed := true }
def FlowForwardsUptoSaid : Prop := flowForwardsUptoRow.holds Try.pinned (OpenSpec.upto flowForwardsSpec)

/-- 'usufructlaw08.FlowReaches', WHERE WHAT IT READS IS OF BULK AT MOST 1048576: true; the input reads as it did. -/
def flowReachesUptoRow : OpenClaim := { program := "ytpbkkajgcdahcaa", sum := "888fa2405137f91c5fd53d7d98367ffd2a91090dafa8cc50d81ead0bb4d46f96", func := "usufruct/usufructlaw08.FlowReaches", spec := "flowReaches", unfollowed := true, recurses := true, apart := false, narrowed := true }
def FlowReachesUptoSaid : Prop := flowReachesUptoRow.holds Try.pinned (OpenSpec.upto flowReachesSpec)

/-- 'usufructlaw08.FlowSame', WHERE WHAT IT READS IS OF BULK AT MOST 1048576: true; the input reads as it did. -/
def flowSameUptoRow : OpenClaim := { program := "ytpbkkajgcdahcaa", sum := "888fa2405137f91c5fd53d7d98367ffd2a91090dafa8cc50d81ead0bb4d46f96", func := "usufruct/usufructlaw08.FlowSame", spec := "flowSame", unfollowed := true, recurses := true, apart := false, narrowed := true }
def FlowSameUptoSaid : Prop := flowSameUptoRow.holds Try.pinned (OpenSpec.upto flowSameSpec)

/-- 'usufructlaw09.DomOvers', WHERE WHAT IT READS IS OF BULK AT MOST 1048576: true; the input reads as it did. -/
def domOversUptoRow : OpenClaim := { program := "ytpbkkajgcdahcaa", sum := "888fa2405137f91c5fd53d7d98367ffd2a91090dafa8cc50d81ead0bb4d46f96", func := "usufruct/usufructlaw09.DomOvers", spec := "domOvers", unfollowed := true, recurses := true, apart := false, narrowed := true }
def DomOversUptoSaid : Prop := domOversUptoRow.holds Try.pinned (OpenSpec.upto domOversSpec)

/-- 'usufructlaw09.DomWays', WHERE WHAT IT READS IS OF BULK AT MOST 1048576: true; the input reads as it did. -/
def domWaysUptoRow : OpenClaim := { program := "ytpbkkajgcdahcaa", sum := "888fa2405137f91c5fd53d7d98367ffd2a91090dafa8cc50d81ead0bb4d46f96", func := "usufruct/usufructlaw09.DomWays", spec := "domWays", unfollowed := true, recurses := true, apart := false, narrowed := true }
def DomWaysUptoSaid : Prop := domWaysUptoRow.holds Try.pinned (OpenSpec.upto domWaysSpec)

/-- 'usufructlaw09.DomPaths', WHERE WHAT IT READS IS OF BULK AT MOST 1048576: true; the input reads as it did. -/
def domPathsUptoRow : OpenClaim := { program := "ytpbkkajgcdahcaa", sum := "888fa2405137f91c5fd53d7d98367ffd2a91090dafa8cc50d81ead0bb4d46f96", func := "usufruct/usufructlaw09.DomPaths", spec := "domPaths", unfollowed := true, recurses := true, apart := false, narrowed := true }
def DomPathsUptoSaid : Prop := domPathsUptoRow.holds Try.pinned (OpenSpec.upto domPathsSpec)

/-- 'usufructlaw10.LiveStraight', WHERE WHAT IT READS IS OF BULK AT MOST 1048576: true; the input reads as it did. -/
def liveStraightUptoRow : OpenClaim := { program := "ytpbkkajgcdahcaa", sum := "888fa2405137f91c5fd53d7d98367ffd2a91090dafa8cc50d81ead0bb4d46f96", func := "usufruct/usufructlaw10.LiveStraight", spec := "liveStraight", unfollowed := true, recurses := true, apart := false, narrowed := true }
def LiveStraightUptoSaid : Prop := liveStraightUptoRow.holds Try.pinned (OpenSpec.upto liveStraightSpec)

/-- 'usufructlaw10.LiveTables', WHERE WHAT IT READS IS OF BULK AT MOST 1048576: true; the input reads as it did. -/
def liveTablesUptoRow : OpenClaim := { program := "ytpbkkajgcdahcaa", sum := "888fa2405137f91c5fd53d7d98367ffd2a91090dafa8cc50d81ead0bb4d46f96", func := "usufruct/usufructlaw10.LiveTables", spec := "liveTables", unfollowed := true, recurses := true, apart := false, narrowed := true }
def LiveTablesUptoSaid : Prop := liveTablesUptoRow.holds Try.pinned (OpenSpec.upto liveTablesSpec)

/-- 'usufructlaw10.LiveWays', WHERE WHAT IT READS IS OF BULK AT MOST 1048576: true; the input reads as it did. -/
def liveWaysUptoRow : OpenClaim := { program := "ytpbkkajgcdahcaa", sum := "888fa2405137f91c5fd53d7d98367ffd2a91090dafa8cc50d81ead0bb4d46f96", func := "usufruct/usufructlaw10.LiveWays", spec := "liveWays", unfollowed := true, recurses := true, apart := false, narrowed := true }
def LiveWaysUptoSaid : Prop := liveWaysUptoRow.holds Try.pinned (OpenSpec.upto liveWaysSpec)

/-- 'usufructlaw09.DomUnders', WHERE WHAT IT READS IS OF BULK AT MOST 1048576: true; the input reads as it did. -/
def domUndersUptoRow : OpenClaim := { program := "ytpbkkajgcdahcaa", sum := "888fa2405137f91c5fd53d7d98367ffd2a91090dafa8cc50d81ead0bb4d46f96", func := "usufruct/usufructlaw09.DomUnders", spec := "domUnders", unfollowed := true, recurses := true, apart := false, narrowed := true }
def DomUndersUptoSaid : Prop := domUndersUptoRow.holds Try.pinned (OpenSpec.upto domUndersSpec)

/-- 'usufructlaw09.DomNils', WHERE WHAT IT READS IS OF BULK AT MOST 1048576: true; the input reads as it did. -/
def domNilsUptoRow : OpenClaim := { program := "ytpbkkajgcdahcaa", sum := "888fa2405137f91c5fd53d7d98367ffd2a91090dafa8cc50d81ead0bb4d46f96", func := "usufruct/usufructlaw09.DomNils", spec := "domNils", unfollowed := true, recurses := true, apart := false, narrowed := true }
def DomNilsUptoSaid : Prop := domNilsUptoRow.holds Try.pinned (OpenSpec.upto domNilsSpec)

end Rows
end Go.Proofs.Ytpbkkajgcdahcaa
