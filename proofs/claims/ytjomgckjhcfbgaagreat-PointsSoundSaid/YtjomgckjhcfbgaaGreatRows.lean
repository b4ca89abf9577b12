/-
  No cell of these rows narrows 'for every input' (looked for: loops, veiled, ifaces, maps, wideKeys, modest, calm, conditions, laid).
  DERIVED. THE GIVEN ROWS OF THIS SEAT. 9 by the template 'for every input the law returns true; each argument reads behind the call as it read before'; 0 by the template 'total and deterministic' (their statements: YtjomgckjhcfbgaaGreatTotals.lean).
  GIVEN WITH THE SEED: the statements are not yours to turn. If you find one false, say at which input.
  Laid BY PROGRAM, IN A SANDBOX (cutbox-rows.mjs): the forced cells as the released guide's own fill.sh prints them over the translation 9162d9f6b41eef55… (all of the seat's roots in one cut). By AI agents, Wed Nov 11 2026. No macro, syntax, notation, axiom, sorry.
-/
import Derived.Test.YtjomgckjhcfbgaaGreatChecked
import GoSem.Claim
import GoSem.ClaimJoined
import GoSem.ClaimMapViews
import Derived.JoinedTies
import Derived.KernelRfl
namespace Go.Proofs.YtjomgckjhcfbgaaGreat
/- THE CELL 'sum', in the pinned program and in every row, IS THE sha256 OF THE DUMP (.gsa) THAT YtjomgckjhcfbgaaGreatProg.lean LOADS. Nothing in Lean hashes anything: it is a label: what it is worth is what the hold of that sum in a sandbox is worth. -/
noncomputable def Tryz.pinned : Pinned := { name := "ytjomgckjhcfbgaagreat", sum := "9162d9f6b41eef5523d7786508028772c9bcc67d714e9074fb20c9043039fb11", checked := Tryz.checked }
namespace Rows
def none {H : Type} : Left H := { results := [], args := [] }

/-- 'usufructlaw17.WantFree': WHATEVER THE INPUT: true; the input reads as it did. -/
def wantFreeSpec : ChangeSpec := { name := "wantFree", fn := fun _ => fun
  | [d] => { results := [.lit (.bool true)], args := [d] }
  | _ => none }
def wantFreeRow : OpenClaim := { program := "ytjomgckjhcfbgaagreat", sum := "9162d9f6b41eef5523d7786508028772c9bcc67d714e9074fb20c9043039fb11", func := "usufruct/usufructlaw17.WantFree", spec := "wantFree", unfollowed := true, recurses := true, plainKeys := false, apart := false }
def WantFreeSaid : Prop := wantFreeRow.holds Tryz.pinned (OpenSpec.ofChange wantFreeSpec)

/-- ITS FALSE NEIGHBOUR: 'it returns false'. Refute it at one input. -/
def wantFreeWrong : ChangeSpec := { name := "wantFree", fn := fun _ => fun
  | [d] => { results := [.lit (.bool false)], args := [d] }
  | _ => none }
def WantFreeWrongFalsely : Prop := wantFreeRow.holds Tryz.pinned (OpenSpec.ofChange wantFreeWrong)

/-- 'usufructlaw17.WantClauses': WHATEVER THE INPUT: true; the input reads as it did. -/
def wantClausesSpec : ChangeSpec := { name := "wantClauses", fn := fun _ => fun
  | [d] => { results := [.lit (.bool true)], args := [d] }
  | _ => none }
def wantClausesRow : OpenClaim := { program := "ytjomgckjhcfbgaagreat", sum := "9162d9f6b41eef5523d7786508028772c9bcc67d714e9074fb20c9043039fb11", func := "usufruct/usufructlaw17.WantClauses", spec := "wantClauses", unfollowed := true, recurses := true, plainKeys := false, apart := false }
def WantClausesSaid : Prop := wantClausesRow.holds Tryz.pinned (OpenSpec.ofChange wantClausesSpec)

/-- ITS FALSE NEIGHBOUR: 'it returns false'. Refute it at one input. -/
def wantClausesWrong : ChangeSpec := { name := "wantClauses", fn := fun _ => fun
  | [d] => { results := [.lit (.bool false)], args := [d] }
  | _ => none }
def WantClausesWrongFalsely : Prop := wantClausesRow.holds Tryz.pinned (OpenSpec.ofChange wantClausesWrong)

/-- 'usufructlaw17.WantShort': WHATEVER THE INPUT: true; the input reads as it did. -/
def wantShortSpec : ChangeSpec := { name := "wantShort", fn := fun _ => fun
  | [d] => { results := [.lit (.bool true)], args := [d] }
  | _ => none }
def wantShortRow : OpenClaim := { program := "ytjomgckjhcfbgaagreat", sum := "9162d9f6b41eef5523d7786508028772c9bcc67d714e9074fb20c9043039fb11", func := "usufruct/usufructlaw17.WantShort", spec := "wantShort", unfollowed := true, recurses := true, plainKeys := false, apart := false }
def WantShortSaid : Prop := wantShortRow.holds Tryz.pinned (OpenSpec.ofChange wantShortSpec)

/-- ITS FALSE NEIGHBOUR: 'it returns false'. Refute it at one input. -/
def wantShortWrong : ChangeSpec := { name := "wantShort", fn := fun _ => fun
  | [d] => { results := [.lit (.bool false)], args := [d] }
  | _ => none }
def WantShortWrongFalsely : Prop := wantShortRow.holds Tryz.pinned (OpenSpec.ofChange wantShortWrong)

/-- 'usufructlaw17.WantPointers': WHATEVER THE INPUT: true; the input reads as it did. -/
def wantPointersSpec : ChangeSpec := { name := "wantPointers", fn := fun _ => fun
  | [d1, d2, d3, d4] => { results := [.lit (.bool true)], args := [d1, d2, d3, d4] }
  | _ => none }
def wantPointersRow : OpenClaim := { program := "ytjomgckjhcfbgaagreat", sum := "9162d9f6b41eef5523d7786508028772c9bcc67d714e9074fb20c9043039fb11", func := "usufruct/usufructlaw17.WantPointers", spec := "wantPointers", unfollowed := true, recurses := true, plainKeys := false, apart := false }
def WantPointersSaid : Prop := wantPointersRow.holds Tryz.pinned (OpenSpec.ofChange wantPointersSpec)

/-- ITS FALSE NEIGHBOUR: 'it returns false'. Refute it at one input. -/
def wantPointersWrong : ChangeSpec := { name := "wantPointers", fn := fun _ => fun
  | [d1, d2, d3, d4] => { results := [.lit (.bool false)], args := [d1, d2, d3, d4] }
  | _ => none }
def WantPointersWrongFalsely : Prop := wantPointersRow.holds Tryz.pinned (OpenSpec.ofChange wantPointersWrong)

/-- 'usufructlaw12.PointsSound': WHATEVER THE INPUT: true; the input reads as it did. -/
def pointsSoundSpec : ChangeSpec := { name := "pointsSound", fn := fun _ => fun
  | [d1, d2, d3, d4] => { results := [.lit (.bool true)], args := [d1, d2, d3, d4] }
  | _ => none }
def pointsSoundRow : OpenClaim := { program := "ytjomgckjhcfbgaagreat", sum := "9162d9f6b41eef5523d7786508028772c9bcc67d714e9074fb20c9043039fb11", func := "usufruct/usufructlaw12.PointsSound", spec := "pointsSound", unfollowed := true, recurses := true, plainKeys := false, apart := false }
def PointsSoundSaid : Prop := pointsSoundRow.holds Tryz.pinned (OpenSpec.ofChange pointsSoundSpec)

/-- ITS FALSE NEIGHBOUR: 'it returns false'. Refute it at one input. -/
def pointsSoundWrong : ChangeSpec := { name := "pointsSound", fn := fun _ => fun
  | [d1, d2, d3, d4] => { results := [.lit (.bool false)], args := [d1, d2, d3, d4] }
  | _ => none }
def PointsSoundWrongFalsely : Prop := pointsSoundRow.holds Tryz.pinned (OpenSpec.ofChange pointsSoundWrong)

/-- 'usufructlaw12.PointsEach': WHATEVER THE INPUT: true; the input reads as it did. -/
def pointsEachSpec : ChangeSpec := { name := "pointsEach", fn := fun _ => fun
  | [d1, d2, d3, d4, d5] => { results := [.lit (.bool true)], args := [d1, d2, d3, d4, d5] }
  | _ => none }
def pointsEachRow : OpenClaim := { program := "ytjomgckjhcfbgaagreat", sum := "9162d9f6b41eef5523d7786508028772c9bcc67d714e9074fb20c9043039fb11", func := "usufruct/usufructlaw12.PointsEach", spec := "pointsEach", unfollowed := true, recurses := true, plainKeys := false, apart := false }
def PointsEachSaid : Prop := pointsEachRow.holds Tryz.pinned (OpenSpec.ofChange pointsEachSpec)

/-- ITS FALSE NEIGHBOUR: 'it returns false'. Refute it at one input. -/
def pointsEachWrong : ChangeSpec := { name := "pointsEach", fn := fun _ => fun
  | [d1, d2, d3, d4, d5] => { results := [.lit (.bool false)], args := [d1, d2, d3, d4, d5] }
  | _ => none }
def PointsEachWrongFalsely : Prop := pointsEachRow.holds Tryz.pinned (OpenSpec.ofChange pointsEachWrong)

/-- 'usufructlaw12.PointsSets': WHATEVER THE INPUT: true; the input reads as it did. -/
def pointsSetsSpec : ChangeSpec := { name := "pointsSets", fn := fun _ => fun
  | [d] => { results := [.lit (.bool true)], args := [d] }
  | _ => none }
def pointsSetsRow : OpenClaim := { program := "ytjomgckjhcfbgaagreat", sum := "9162d9f6b41eef5523d7786508028772c9bcc67d714e9074fb20c9043039fb11", func := "usufruct/usufructlaw12.PointsSets", spec := "pointsSets", unfollowed := true, recurses := true, plainKeys := false, apart := false }
def PointsSetsSaid : Prop := pointsSetsRow.holds Tryz.pinned (OpenSpec.ofChange pointsSetsSpec)

/-- ITS FALSE NEIGHBOUR: 'it returns false'. Refute it at one input. -/
def pointsSetsWrong : ChangeSpec := { name := "pointsSets", fn := fun _ => fun
  | [d] => { results := [.lit (.bool false)], args := [d] }
  | _ => none }
def PointsSetsWrongFalsely : Prop := pointsSetsRow.holds Tryz.pinned (OpenSpec.ofChange pointsSetsWrong)

/-- 'usufructlaw12.PointsHold': WHATEVER THE INPUT: true; the input reads as it did. -/
def pointsHoldSpec : ChangeSpec := { name := "pointsHold", fn := fun _ => fun
  | [d] => { results := [.lit (.bool true)], args := [d] }
  | _ => none }
def pointsHoldRow : OpenClaim := { program := "ytjomgckjhcfbgaagreat", sum := "9162d9f6b41eef5523d7786508028772c9bcc67d714e9074fb20c9043039fb11", func := "usufruct/usufructlaw12.PointsHold", spec := "pointsHold", unfollowed := true, recurses := true, plainKeys := false, apart := false }
def PointsHoldSaid : Prop := pointsHoldRow.holds Tryz.pinned (OpenSpec.ofChange pointsHoldSpec)

/-- ITS FALSE NEIGHBOUR: 'it returns false'. Refute it at one input. -/
def pointsHoldWrong : ChangeSpec := { name := "pointsHold", fn := fun _ => fun
  | [d] => { results := [.lit (.bool false)], args := [d] }
  | _ => none }
def PointsHoldWrongFalsely : Prop := pointsHoldRow.holds Tryz.pinned (OpenSpec.ofChange pointsHoldWrong)

/-- 'usufructlaw12.PointsNils': WHATEVER THE INPUT: true; the input reads as it did. -/
def pointsNilsSpec : ChangeSpec := { name := "pointsNils", fn := fun _ => fun
  | [d1, d2] => { results := [.lit (.bool true)], args := [d1, d2] }
  | _ => none }
def pointsNilsRow : OpenClaim := { program := "ytjomgckjhcfbgaagreat", sum := "9162d9f6b41eef5523d7786508028772c9bcc67d714e9074fb20c9043039fb11", func := "usufruct/usufructlaw12.PointsNils", spec := "pointsNils", unfollowed := true, recurses := true, plainKeys := false, apart := false }
def PointsNilsSaid : Prop := pointsNilsRow.holds Tryz.pinned (OpenSpec.ofChange pointsNilsSpec)

/-- ITS FALSE NEIGHBOUR: 'it returns false'. Refute it at one input. -/
def pointsNilsWrong : ChangeSpec := { name := "pointsNils", fn := fun _ => fun
  | [d1, d2] => { results := [.lit (.bool false)], args := [d1, d2] }
  | _ => none }
def PointsNilsWrongFalsely : Prop := pointsNilsRow.holds Tryz.pinned (OpenSpec.ofChange pointsNilsWrong)

/- THE SECOND FORM. 'bulk': how many values and letters a reading holds, each counted each time it is reached (what is shared counts as often as it is met; a slice's spare places count too). A statement '..UptoSaid' is the law's where the arguments, and the package variables that the reading takes, are together of bulk at most 1048576: NARROWER than '..Said'. Prove '..Said' where nothing that the law and all that it calls make is longer than what came in: it says more and counts as full. Else prove '..UptoSaid'. A law counts once. -/
mutual
def uptoBulk {H : Type} : DataW H → Nat
  | .lit (.string bytes) => bytes.length + 1
  | .lit _ => 1
  | .nil => 1
  | .ptr d => uptoBulk d + 1
  | .slice elems spare => uptoBulkAll elems + uptoBulkAll spare + 1
  | .agg parts => uptoBulkAll parts + 1
  | .iface _ d => uptoBulk d + 1
  | .map entries => uptoBulkEntries entries + 1
  | .held _ => 1
def uptoBulkAll {H : Type} : List (DataW H) → Nat
  | [] => 0
  | d :: r => uptoBulk d + uptoBulkAll r
def uptoBulkEntries {H : Type} : List (Lit × DataW H) → Nat
  | [] => 0
  | x :: r => uptoBulkEntry x + uptoBulkEntries r
def uptoBulkEntry {H : Type} : Lit × DataW H → Nat
  | (.string bytes, d) => bytes.length + uptoBulk d + 1
  | (_, d) => uptoBulk d + 1
 end
def uptoSmall : (H : Type) → List (DataW H) → Bool := fun _ ds => decide (uptoBulkAll ds ≤ 1048576)
def OpenSpec.upto (s : _root_.Go.ChangeSpec) : _root_.Go.OpenSpec := { _root_.Go.OpenSpec.ofChange s with cond := some uptoSmall }

/-- 'usufructlaw17.WantFree', WHERE WHAT IT READS IS OF BULK AT MOST 1048576: true; the input reads as it did. -/
def wantFreeUptoRow : OpenClaim := { program := "ytjomgckjhcfbgaagreat", sum := "9162d9f6b41eef5523d7786508028772c9bcc67d714e9074fb20c9043039fb11", func := "usufruct/usufructlaw17.WantFree", spec := "wantFree", unfollowed := true, recurses := true, plainKeys := false, apart := false, narrowed := true }
def WantFreeUptoSaid : Prop := wantFreeUptoRow.holds Tryz.pinned (OpenSpec.upto wantFreeSpec)

/-- 'usufructlaw17.WantClauses', WHERE WHAT IT READS IS OF BULK AT MOST 1048576: true; the input reads as it did. -/
def wantClausesUptoRow : OpenClaim := { program := "ytjomgckjhcfbgaagreat", sum := "9162d9f6b41eef5523d7786508028772c9bcc67d714e9074fb20c9043039fb11", func := "usufruct/usufructlaw17.WantClauses", spec := "wantClauses", unfollowed := true, recurses := true, plainKeys := false, apart := false, narrowed := true }
def WantClausesUptoSaid : Prop := wantClausesUptoRow.holds Tryz.pinned (OpenSpec.upto wantClausesSpec)

/-- 'usufructlaw17.WantShort', WHERE WHAT IT READS IS OF BULK AT MOST 1048576: true; the input reads as it did. -/
def wantShortUptoRow : OpenClaim := { program := "ytjomgckjhcfbgaagreat", sum := "9162d9f6b41eef5523d7786508028772c9bcc67d714e9074fb20c9043039fb11", func := "usufruct/usufructlaw17.WantShort", spec := "wantShort", unfollowed := true, recurses := true, plainKeys := false, apart := false, narrowed := true }
def WantShortUptoSaid : Prop := wantShortUptoRow.holds Tryz.pinned (OpenSpec.upto wantShortSpec)

/-- 'usufructlaw17.WantPointers', WHERE WHAT IT READS IS OF BULK AT MOST 1048576: true; the input reads as it did. -/
def wantPointersUptoRow : OpenClaim := { program := "ytjomgckjhcfbgaagreat", sum := "9162d9f6b41eef5523d7786508028772c9bcc67d714e9074fb20c9043039fb11", func := "usufruct/usufructlaw17.WantPointers", spec := "wantPointers", unfollowed := true, recurses := true, plainKeys := false, apart := false, narrowed := true }
def WantPointersUptoSaid : Prop := wantPointersUptoRow.holds Tryz.pinned (OpenSpec.upto wantPointersSpec)

/-- 'usufructlaw12.PointsSound', WHERE WHAT IT READS IS OF BULK AT MOST 1048576: true; the input reads as it did. -/
def pointsSoundUptoRow : OpenClaim := { program := "ytjomgckjhcfbgaagreat", sum := "9162d9f6b41eef5523d7786508028772c9bcc67d714e9074fb20c9043039fb11", func := "usufruct/usufructlaw12.PointsSound", spec := "pointsSound", unfollowed := true, recurses := true, plainKeys := false, apart := false, narrowed := true }
def PointsSoundUptoSaid : Prop := pointsSoundUptoRow.holds Tryz.pinned (OpenSpec.upto pointsSoundSpec)

/-- 'usufructlaw12.PointsEach', WHERE WHAT IT READS IS OF BULK AT MOST 1048576: true; the input reads as it did. -/
def pointsEachUptoRow : OpenClaim := { program := "ytjomgckjhcfbgaagreat", sum := "9162d9f6b41eef5523d7786508028772c9bcc67d714e9074fb20c9043039fb11", func := "usufruct/usufructlaw12.PointsEach", spec := "pointsEach", unfollowed := true, recurses := true, plainKeys := false, apart := false, narrowed := true }
def PointsEachUptoSaid : Prop := pointsEachUptoRow.holds Tryz.pinned (OpenSpec.upto pointsEachSpec)

/-- 'usufructlaw12.PointsSets', WHERE WHAT IT READS IS OF BULK AT MOST 1048576: true; the input reads as it did. -/
def pointsSetsUptoRow : OpenClaim := { program := "ytjomgckjhcfbgaagreat", sum := "9162d9f6b41eef5523d7786508028772c9bcc67d714e9074fb20c9043039fb11", func := "usufruct/usufructlaw12.PointsSets", spec := "pointsSets", unfollowed := true, recurses := true, plainKeys := false, apart := false, narrowed := true }
def PointsSetsUptoSaid : Prop := pointsSetsUptoRow.holds Tryz.pinned (OpenSpec.upto pointsSetsSpec)

/-- 'usufructlaw12.PointsHold', WHERE WHAT IT READS IS OF BULK AT MOST 1048576: true; the input reads as it did. -/
def pointsHoldUptoRow : OpenClaim := { program := "ytjomgckjhcfbgaagreat", sum := "9162d9f6b41eef5523d7786508028772c9bcc67d714e9074fb20c9043039fb11", func := "usufruct/usufructlaw12.PointsHold", spec := "pointsHold", unfollowed := true, recurses := true, plainKeys := false, apart := false, narrowed := true }
def PointsHoldUptoSaid : Prop := pointsHoldUptoRow.holds Tryz.pinned (OpenSpec.upto pointsHoldSpec)

/-- 'usufructlaw12.PointsNils', WHERE WHAT IT READS IS OF BULK AT MOST 1048576: true; the input reads as it did. -/
def pointsNilsUptoRow : OpenClaim := { program := "ytjomgckjhcfbgaagreat", sum := "9162d9f6b41eef5523d7786508028772c9bcc67d714e9074fb20c9043039fb11", func := "usufruct/usufructlaw12.PointsNils", spec := "pointsNils", unfollowed := true, recurses := true, plainKeys := false, apart := false, narrowed := true }
def PointsNilsUptoSaid : Prop := pointsNilsUptoRow.holds Tryz.pinned (OpenSpec.upto pointsNilsSpec)

end Rows
end Go.Proofs.YtjomgckjhcfbgaaGreat
