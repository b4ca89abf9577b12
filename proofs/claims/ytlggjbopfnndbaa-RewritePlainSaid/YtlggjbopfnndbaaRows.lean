/-
  No cell of these rows narrows 'for every input' (looked for: loops, veiled, ifaces, maps, wideKeys, modest, calm, conditions, laid).
  DERIVED. THE GIVEN ROWS OF THIS SEAT. 8 by the template 'for every input the law returns true; each argument reads behind the call as it read before'; 0 by the template 'total and deterministic' (their statements: YtlggjbopfnndbaaTotals.lean).
  GIVEN WITH THE SEED: the statements are not yours to turn. If you find one false, say at which input.
  Laid BY PROGRAM, IN A SANDBOX (cutbox-rows.mjs): the forced cells as the released guide's own fill.sh prints them over the translation 48d8db46589c4817… (all of the seat's roots in one cut). By AI agents, Wed Nov 11 2026. No macro, syntax, notation, axiom, sorry.
-/
import Derived.Test.YtlggjbopfnndbaaChecked
import GoSem.Claim
import GoSem.ClaimJoined
import GoSem.ClaimMapViews
import Derived.JoinedTies
import Derived.KernelRfl
namespace Go.Proofs.Ytlggjbopfnndbaa
/- THE CELL 'sum', in the pinned program and in every row, IS THE sha256 OF THE DUMP (.gsa) THAT YtlggjbopfnndbaaProg.lean LOADS. Nothing in Lean hashes anything: it is a label: what it is worth is what the hold of that sum in a sandbox is worth. -/
noncomputable def Try.pinned : Pinned := { name := "ytlggjbopfnndbaa", sum := "48d8db46589c4817216e93ceeab816c68e03dc5bdf8a7200dec524fcce822785", checked := Try.checked }
namespace Rows
def none {H : Type} : Left H := { results := [], args := [] }

/-- 'usufructlaw27.RewriteModes': WHATEVER THE INPUT: true; the input reads as it did. -/
def rewriteModesSpec : ChangeSpec := { name := "rewriteModes", fn := fun _ => fun
  | [d1, d2, d3] => { results := [.lit (.bool true)], args := [d1, d2, d3] }
  | _ => none }
def rewriteModesRow : OpenClaim := { program := "ytlggjbopfnndbaa", sum := "48d8db46589c4817216e93ceeab816c68e03dc5bdf8a7200dec524fcce822785", func := "usufruct/usufructlaw27.RewriteModes", spec := "rewriteModes", unfollowed := true, recurses := true, apart := false }
def RewriteModesSaid : Prop := rewriteModesRow.holds Try.pinned (OpenSpec.ofChange rewriteModesSpec)

/-- ITS FALSE NEIGHBOUR: 'it returns false'. Refute it at one input. -/
def rewriteModesWrong : ChangeSpec := { name := "rewriteModes", fn := fun _ => fun
  | [d1, d2, d3] => { results := [.lit (.bool false)], args := [d1, d2, d3] }
  | _ => none }
def RewriteModesWrongFalsely : Prop := rewriteModesRow.holds Try.pinned (OpenSpec.ofChange rewriteModesWrong)

/-- 'usufructlaw27.RewritePlain': WHATEVER THE INPUT: true; the input reads as it did. -/
def rewritePlainSpec : ChangeSpec := { name := "rewritePlain", fn := fun _ => fun
  | [d] => { results := [.lit (.bool true)], args := [d] }
  | _ => none }
def rewritePlainRow : OpenClaim := { program := "ytlggjbopfnndbaa", sum := "48d8db46589c4817216e93ceeab816c68e03dc5bdf8a7200dec524fcce822785", func := "usufruct/usufructlaw27.RewritePlain", spec := "rewritePlain", unfollowed := true, recurses := true, apart := false }
def RewritePlainSaid : Prop := rewritePlainRow.holds Try.pinned (OpenSpec.ofChange rewritePlainSpec)

/-- ITS FALSE NEIGHBOUR: 'it returns false'. Refute it at one input. -/
def rewritePlainWrong : ChangeSpec := { name := "rewritePlain", fn := fun _ => fun
  | [d] => { results := [.lit (.bool false)], args := [d] }
  | _ => none }
def RewritePlainWrongFalsely : Prop := rewritePlainRow.holds Try.pinned (OpenSpec.ofChange rewritePlainWrong)

/-- 'usufructlaw27.RewriteTwice': WHATEVER THE INPUT: true; the input reads as it did. -/
def rewriteTwiceSpec : ChangeSpec := { name := "rewriteTwice", fn := fun _ => fun
  | [d] => { results := [.lit (.bool true)], args := [d] }
  | _ => none }
def rewriteTwiceRow : OpenClaim := { program := "ytlggjbopfnndbaa", sum := "48d8db46589c4817216e93ceeab816c68e03dc5bdf8a7200dec524fcce822785", func := "usufruct/usufructlaw27.RewriteTwice", spec := "rewriteTwice", unfollowed := true, recurses := true, apart := false }
def RewriteTwiceSaid : Prop := rewriteTwiceRow.holds Try.pinned (OpenSpec.ofChange rewriteTwiceSpec)

/-- ITS FALSE NEIGHBOUR: 'it returns false'. Refute it at one input. -/
def rewriteTwiceWrong : ChangeSpec := { name := "rewriteTwice", fn := fun _ => fun
  | [d] => { results := [.lit (.bool false)], args := [d] }
  | _ => none }
def RewriteTwiceWrongFalsely : Prop := rewriteTwiceRow.holds Try.pinned (OpenSpec.ofChange rewriteTwiceWrong)

/-- 'usufructlaw19.RegionsLent': WHATEVER THE INPUT: true; the input reads as it did. -/
def regionsLentSpec : ChangeSpec := { name := "regionsLent", fn := fun _ => fun
  | [d] => { results := [.lit (.bool true)], args := [d] }
  | _ => none }
def regionsLentRow : OpenClaim := { program := "ytlggjbopfnndbaa", sum := "48d8db46589c4817216e93ceeab816c68e03dc5bdf8a7200dec524fcce822785", func := "usufruct/usufructlaw19.RegionsLent", spec := "regionsLent", inPlace := ["internal/abi.NoEscape", "internal/bytealg.MakeNoZero"], unfollowed := true, recurses := true, apart := false }
def RegionsLentSaid : Prop := regionsLentRow.holds Try.pinned (OpenSpec.ofChange regionsLentSpec)

/-- ITS FALSE NEIGHBOUR: 'it returns false'. Refute it at one input. -/
def regionsLentWrong : ChangeSpec := { name := "regionsLent", fn := fun _ => fun
  | [d] => { results := [.lit (.bool false)], args := [d] }
  | _ => none }
def RegionsLentWrongFalsely : Prop := regionsLentRow.holds Try.pinned (OpenSpec.ofChange regionsLentWrong)

/-- 'usufructlaw27.RewriteSources': WHATEVER THE INPUT: true; the input reads as it did. -/
def rewriteSourcesSpec : ChangeSpec := { name := "rewriteSources", fn := fun _ => fun
  | [d1, d2] => { results := [.lit (.bool true)], args := [d1, d2] }
  | _ => none }
def rewriteSourcesRow : OpenClaim := { program := "ytlggjbopfnndbaa", sum := "48d8db46589c4817216e93ceeab816c68e03dc5bdf8a7200dec524fcce822785", func := "usufruct/usufructlaw27.RewriteSources", spec := "rewriteSources", unfollowed := true, recurses := true, apart := false }
def RewriteSourcesSaid : Prop := rewriteSourcesRow.holds Try.pinned (OpenSpec.ofChange rewriteSourcesSpec)

/-- ITS FALSE NEIGHBOUR: 'it returns false'. Refute it at one input. -/
def rewriteSourcesWrong : ChangeSpec := { name := "rewriteSources", fn := fun _ => fun
  | [d1, d2] => { results := [.lit (.bool false)], args := [d1, d2] }
  | _ => none }
def RewriteSourcesWrongFalsely : Prop := rewriteSourcesRow.holds Try.pinned (OpenSpec.ofChange rewriteSourcesWrong)

/-- 'usufructlaw19.RegionsStay': WHATEVER THE INPUT: true; the input reads as it did. -/
def regionsStaySpec : ChangeSpec := { name := "regionsStay", fn := fun _ => fun
  | [d] => { results := [.lit (.bool true)], args := [d] }
  | _ => none }
def regionsStayRow : OpenClaim := { program := "ytlggjbopfnndbaa", sum := "48d8db46589c4817216e93ceeab816c68e03dc5bdf8a7200dec524fcce822785", func := "usufruct/usufructlaw19.RegionsStay", spec := "regionsStay", inPlace := ["internal/abi.NoEscape", "internal/bytealg.MakeNoZero"], unfollowed := true, recurses := true, apart := false }
def RegionsStaySaid : Prop := regionsStayRow.holds Try.pinned (OpenSpec.ofChange regionsStaySpec)

/-- ITS FALSE NEIGHBOUR: 'it returns false'. Refute it at one input. -/
def regionsStayWrong : ChangeSpec := { name := "regionsStay", fn := fun _ => fun
  | [d] => { results := [.lit (.bool false)], args := [d] }
  | _ => none }
def RegionsStayWrongFalsely : Prop := regionsStayRow.holds Try.pinned (OpenSpec.ofChange regionsStayWrong)

/-- 'usufructlaw19.RegionsOrigins': WHATEVER THE INPUT: true; the input reads as it did. -/
def regionsOriginsSpec : ChangeSpec := { name := "regionsOrigins", fn := fun _ => fun
  | [d] => { results := [.lit (.bool true)], args := [d] }
  | _ => none }
def regionsOriginsRow : OpenClaim := { program := "ytlggjbopfnndbaa", sum := "48d8db46589c4817216e93ceeab816c68e03dc5bdf8a7200dec524fcce822785", func := "usufruct/usufructlaw19.RegionsOrigins", spec := "regionsOrigins", inPlace := ["internal/abi.NoEscape", "internal/bytealg.MakeNoZero"], unfollowed := true, recurses := true, apart := false }
def RegionsOriginsSaid : Prop := regionsOriginsRow.holds Try.pinned (OpenSpec.ofChange regionsOriginsSpec)

/-- ITS FALSE NEIGHBOUR: 'it returns false'. Refute it at one input. -/
def regionsOriginsWrong : ChangeSpec := { name := "regionsOrigins", fn := fun _ => fun
  | [d] => { results := [.lit (.bool false)], args := [d] }
  | _ => none }
def RegionsOriginsWrongFalsely : Prop := regionsOriginsRow.holds Try.pinned (OpenSpec.ofChange regionsOriginsWrong)

/-- 'usufructlaw19.RegionsLooks': WHATEVER THE INPUT: true; the input reads as it did. -/
def regionsLooksSpec : ChangeSpec := { name := "regionsLooks", fn := fun _ => fun
  | [d1, d2, d3, d4] => { results := [.lit (.bool true)], args := [d1, d2, d3, d4] }
  | _ => none }
def regionsLooksRow : OpenClaim := { program := "ytlggjbopfnndbaa", sum := "48d8db46589c4817216e93ceeab816c68e03dc5bdf8a7200dec524fcce822785", func := "usufruct/usufructlaw19.RegionsLooks", spec := "regionsLooks", inPlace := ["internal/abi.NoEscape", "internal/bytealg.MakeNoZero"], unfollowed := true, recurses := true, apart := false }
def RegionsLooksSaid : Prop := regionsLooksRow.holds Try.pinned (OpenSpec.ofChange regionsLooksSpec)

/-- ITS FALSE NEIGHBOUR: 'it returns false'. Refute it at one input. -/
def regionsLooksWrong : ChangeSpec := { name := "regionsLooks", fn := fun _ => fun
  | [d1, d2, d3, d4] => { results := [.lit (.bool false)], args := [d1, d2, d3, d4] }
  | _ => none }
def RegionsLooksWrongFalsely : Prop := regionsLooksRow.holds Try.pinned (OpenSpec.ofChange regionsLooksWrong)

/- THE SECOND FORM. 'bulk': how many values and letters a reading holds, each counted each time it is reached (what is shared counts as often as it is met; a slice's spare places count too). A statement '..UptoSaid' is the law's where the arguments, and the package variables that the reading takes, are together of bulk at most 1048576: NARROWER than '..Said'. Prove '..Said' where nothing that the law and all that it calls make is longer than what came in: it says more and counts as full. Else prove '..UptoSaid'. A law counts once. -/
mutual
def uptoBulk {H : Type} : DataW H → Nat
  | .lit (.string bytes) => bytes.length + 1
  | .lit _ => 1
  | .nil => 1
  | .ptr d => uptoBulk d + 1
  | .slice elems spare => uptoBulkAll elems + uptoBulkAll spare + 1
  | .agg parts => uptoBulkAll parts + 1
  | .iface _ d => uptoBulk d + 1
  | .map entries => uptoBulkEntries entries + 1
  | .held _ => 1
def uptoBulkAll {H : Type} : List (DataW H) → Nat
  | [] => 0
  | d :: r => uptoBulk d + uptoBulkAll r
def uptoBulkEntries {H : Type} : List (Lit × DataW H) → Nat
  | [] => 0
  | x :: r => uptoBulkEntry x + uptoBulkEntries r
def uptoBulkEntry {H : Type} : Lit × DataW H → Nat
  | (.string bytes, d) => bytes.length + uptoBulk d + 1
  | (_, d) => uptoBulk d + 1
 end
def uptoSmall : (H : Type) → List (DataW H) → Bool := fun _ ds => decide (uptoBulkAll ds ≤ 1048576)
def OpenSpec.upto (s : _root_.Go.ChangeSpec) : _root_.Go.OpenSpec := { _root_.Go.OpenSpec.ofChange s with cond := some uptoSmall }

/-- 'usufructlaw27.RewriteModes', WHERE WHAT IT READS IS OF BULK AT MOST 1048576: true; the input reads as it did. -/
def rewriteModesUptoRow : OpenClaim := { program := "ytlggjbopfnndbaa", sum := "48d8db46589c4817216e93ceeab816c68e03dc5bdf8a7200dec524fcce822785", func := "usufruct/usufructlaw27.RewriteModes", spec := "rewriteModes", unfollowed := true, recurses := true, apart := false, narrowed := true }
def RewriteModesUptoSaid : Prop := rewriteModesUptoRow.holds Try.pinned (OpenSpec.upto rewriteModesSpec)

/-- 'usufructlaw27.RewritePlain', WHERE WHAT IT READS IS OF BULK AT MOST 1048576: true; the input reads as it did. -/
def rewritePlainUptoRow : OpenClaim := { program := "ytlggjbopfnndbaa", sum := "48d8db46589c4817216e93ceeab816c68e03dc5bdf8a7200dec524fcce822785", func := "usufruct/usufructlaw27.RewritePlain", spec := "rewritePlain", unfollowed := true, recurses := true, apart := false, narrowed := true }
def RewritePlainUptoSaid : Prop := rewritePlainUptoRow.holds Try.pinned (OpenSpec.upto rewritePlainSpec)

/-- 'usufructlaw27.RewriteTwice', WHERE WHAT IT READS IS OF BULK AT MOST 1048576: true; the input reads as it did. -/
def rewriteTwiceUptoRow : OpenClaim := { program := "ytlggjbopfnndbaa", sum := "48d8db46589c4817216e93ceeab816c68e03dc5bdf8a7200dec524fcce822785", func := "usufruct/usufructlaw27.RewriteTwice", spec := "rewriteTwice", unfollowed := true, recurses := true, apart := false, narrowed := true }
def RewriteTwiceUptoSaid : Prop := rewriteTwiceUptoRow.holds Try.pinned (OpenSpec.upto rewriteTwiceSpec)

/-- 'usufructlaw19.RegionsLent', WHERE WHAT IT READS IS OF BULK AT MOST 1048576: true; the input reads as it did. -/
def regionsLentUptoRow : OpenClaim := { program := "ytlggjbopfnndbaa", sum := "48d8db46589c4817216e93ceeab816c68e03dc5bdf8a7200dec524fcce822785", func := "usufruct/usufructlaw19.RegionsLent", spec := "regionsLent", inPlace := ["internal/abi.NoEscape", "internal/bytealg.MakeNoZero"], unfollowed := true, recurses := true, apart := false, narrowed := true }
def RegionsLentUptoSaid : Prop := regionsLentUptoRow.holds Try.pinned (OpenSpec.upto regionsLentSpec)

/-- 'usufructlaw27.RewriteSources', WHERE WHAT IT READS IS OF BULK AT MOST 1048576: true; the input reads as it did. -/
def rewriteSourcesUptoRow : OpenClaim := { program := "ytlggjbopfnndbaa", sum := "48d8db46589c4817216e93ceeab816c68e03dc5bdf8a7200dec524fcce822785", func := "usufruct/usufructlaw27.RewriteSources", spec := "rewriteSources", unfollowed := true, recurses := true, apart := false, narrowed := true }
def RewriteSourcesUptoSaid : Prop := rewriteSourcesUptoRow.holds Try.pinned (OpenSpec.upto rewriteSourcesSpec)

/-- 'usufructlaw19.RegionsStay', WHERE WHAT IT READS IS OF BULK AT MOST 1048576: true; the input reads as it did. -/
def regionsStayUptoRow : OpenClaim := { program := "ytlggjbopfnndbaa", sum := "48d8db46589c4817216e93ceeab816c68e03dc5bdf8a7200dec524fcce822785", func := "usufruct/usufructlaw19.RegionsStay", spec := "regionsStay", inPlace := ["internal/abi.NoEscape", "internal/bytealg.MakeNoZero"], unfollowed := true, recurses := true, apart := false, narrowed := true }
def RegionsStayUptoSaid : Prop := regionsStayUptoRow.holds Try.pinned (OpenSpec.upto regionsStaySpec)

/-- 'usufructlaw19.RegionsOrigins', WHERE WHAT IT READS IS OF BULK AT MOST 1048576: true; the input reads as it did. -/
def regionsOriginsUptoRow : OpenClaim := { program := "ytlggjbopfnndbaa", sum := "48d8db46589c4817216e93ceeab816c68e03dc5bdf8a7200dec524fcce822785", func := "usufruct/usufructlaw19.RegionsOrigins", spec := "regionsOrigins", inPlace := ["internal/abi.NoEscape", "internal/bytealg.MakeNoZero"], unfollowed := true, recurses := true, apart := false, narrowed := true }
def RegionsOriginsUptoSaid : Prop := regionsOriginsUptoRow.holds Try.pinned (OpenSpec.upto regionsOriginsSpec)

/-- 'usufructlaw19.RegionsLooks', WHERE WHAT IT READS IS OF BULK AT MOST 1048576: true; the input reads as it did. -/
def regionsLooksUptoRow : OpenClaim := { program := "ytlggjbopfnndbaa", sum := "48d8db46589c4817216e93ceeab816c68e03dc5bdf8a7200dec524fcce822785", func := "usufruct/usufructlaw19.RegionsLooks", spec := "regionsLooks", inPlace := ["internal/abi.NoEscape", "internal/bytealg.MakeNoZero"], unfollowed := true, recurses := true, apart := false, narrowed := true }
def RegionsLooksUptoSaid : Prop := regionsLooksUptoRow.holds Try.pinned (OpenSpec.upto regionsLooksSpec)

end Rows
end Go.Proofs.Ytlggjbopfnndbaa
