/-
  No cell of these rows narrows 'for every input' (looked for: loops, veiled, ifaces, maps, wideKeys, modest, calm, conditions, laid).
  DERIVED. THE GIVEN ROWS OF THIS SEAT. 10 by the template 'for every input the law returns true; each argument reads behind the call as it read before'; 0 by the template 'total and deterministic' (their statements: YtceogegjghmonaaTotals.lean).
  GIVEN WITH THE SEED: the statements are not yours to turn. If you find one false, say at which input.
  Laid BY PROGRAM, IN A SANDBOX (cutbox-rows.mjs): the forced cells as the released guide's own fill.sh prints them over the translation b3e7b4fb1a4dd836… (all of the seat's roots in one cut). By AI agents, Wed Nov 11 2026. No macro, syntax, notation, axiom, sorry.
-/
import Derived.Test.YtceogegjghmonaaChecked
import GoSem.Claim
import GoSem.ClaimJoined
import GoSem.ClaimMapViews
import Derived.JoinedTies
import Derived.KernelRfl
namespace Go.Proofs.Ytceogegjghmonaa
/- THE CELL 'sum', in the pinned program and in every row, IS THE sha256 OF THE DUMP (.gsa) THAT YtceogegjghmonaaProg.lean LOADS. Nothing in Lean hashes anything: it is a label: what it is worth is what the hold of that sum in a sandbox is worth. -/
noncomputable def Try.pinned : Pinned := { name := "ytceogegjghmonaa", sum := "b3e7b4fb1a4dd836f78d290eb87b47e4cc4f12dcdabe120ff9cba08069bbd614", checked := Try.checked }
namespace Rows
def none {H : Type} : Left H := { results := [], args := [] }

/-- 'laws.FnPrivateReading': WHATEVER THE INPUT: true; the input reads as it did. -/
def fnPrivateReadingSpec : ChangeSpec := { name := "fnPrivateReading", fn := fun _ => fun
  | [d] => { results := [.lit (.bool true)], args := [d] }
  | _ => none }
def fnPrivateReadingRow : OpenClaim := { program := "ytceogegjghmonaa", sum := "b3e7b4fb1a4dd836f78d290eb87b47e4cc4f12dcdabe120ff9cba08069bbd614", func := "loop.example/g00516/laws.FnPrivateReading", spec := "fnPrivateReading", unfollowed := true, recurses := true, apart := false }
def FnPrivateReadingSaid : Prop := fnPrivateReadingRow.holds Try.pinned (OpenSpec.ofChange fnPrivateReadingSpec)

/-- ITS FALSE NEIGHBOUR: 'it returns false'. Refute it at one input. -/
def fnPrivateReadingWrong : ChangeSpec := { name := "fnPrivateReading", fn := fun _ => fun
  | [d] => { results := [.lit (.bool false)], args := [d] }
  | _ => none }
def FnPrivateReadingWrongFalsely : Prop := fnPrivateReadingRow.holds Try.pinned (OpenSpec.ofChange fnPrivateReadingWrong)

/-- 'laws.FnShares': WHATEVER THE INPUT: true; the input reads as it did. -/
def fnSharesSpec : ChangeSpec := { name := "fnShares", fn := fun _ => fun
  | [d] => { results := [.lit (.bool true)], args := [d] }
  | _ => none }
def fnSharesRow : OpenClaim := { program := "ytceogegjghmonaa", sum := "b3e7b4fb1a4dd836f78d290eb87b47e4cc4f12dcdabe120ff9cba08069bbd614", func := "loop.example/g00516/laws.FnShares", spec := "fnShares", unfollowed := true, recurses := true, apart := false }
def FnSharesSaid : Prop := fnSharesRow.holds Try.pinned (OpenSpec.ofChange fnSharesSpec)

/-- ITS FALSE NEIGHBOUR: 'it returns false'. Refute it at one input. -/
def fnSharesWrong : ChangeSpec := { name := "fnShares", fn := fun _ => fun
  | [d] => { results := [.lit (.bool false)], args := [d] }
  | _ => none }
def FnSharesWrongFalsely : Prop := fnSharesRow.holds Try.pinned (OpenSpec.ofChange fnSharesWrong)

/-- 'laws.FnDatabases': WHATEVER THE INPUT: true; the input reads as it did. -/
def fnDatabasesSpec : ChangeSpec := { name := "fnDatabases", fn := fun _ => fun
  | [d] => { results := [.lit (.bool true)], args := [d] }
  | _ => none }
def fnDatabasesRow : OpenClaim := { program := "ytceogegjghmonaa", sum := "b3e7b4fb1a4dd836f78d290eb87b47e4cc4f12dcdabe120ff9cba08069bbd614", func := "loop.example/g00516/laws.FnDatabases", spec := "fnDatabases", unfollowed := true, recurses := true, apart := false }
def FnDatabasesSaid : Prop := fnDatabasesRow.holds Try.pinned (OpenSpec.ofChange fnDatabasesSpec)

/-- ITS FALSE NEIGHBOUR: 'it returns false'. Refute it at one input. -/
def fnDatabasesWrong : ChangeSpec := { name := "fnDatabases", fn := fun _ => fun
  | [d] => { results := [.lit (.bool false)], args := [d] }
  | _ => none }
def FnDatabasesWrongFalsely : Prop := fnDatabasesRow.holds Try.pinned (OpenSpec.ofChange fnDatabasesWrong)

/-- 'laws.FnUnitSelections': WHATEVER THE INPUT: true; the input reads as it did. -/
def fnUnitSelectionsSpec : ChangeSpec := { name := "fnUnitSelections", fn := fun _ => fun
  | [d] => { results := [.lit (.bool true)], args := [d] }
  | _ => none }
def fnUnitSelectionsRow : OpenClaim := { program := "ytceogegjghmonaa", sum := "b3e7b4fb1a4dd836f78d290eb87b47e4cc4f12dcdabe120ff9cba08069bbd614", func := "loop.example/g00516/laws.FnUnitSelections", spec := "fnUnitSelections", apart := false }
def FnUnitSelectionsSaid : Prop := fnUnitSelectionsRow.holds Try.pinned (OpenSpec.ofChange fnUnitSelectionsSpec)

/-- ITS FALSE NEIGHBOUR: 'it returns false'. Refute it at one input. -/
def fnUnitSelectionsWrong : ChangeSpec := { name := "fnUnitSelections", fn := fun _ => fun
  | [d] => { results := [.lit (.bool false)], args := [d] }
  | _ => none }
def FnUnitSelectionsWrongFalsely : Prop := fnUnitSelectionsRow.holds Try.pinned (OpenSpec.ofChange fnUnitSelectionsWrong)

/-- 'laws.FnPointReading': WHATEVER THE INPUT: true; the input reads as it did. -/
def fnPointReadingSpec : ChangeSpec := { name := "fnPointReading", fn := fun _ => fun
  | [d] => { results := [.lit (.bool true)], args := [d] }
  | _ => none }
def fnPointReadingRow : OpenClaim := { program := "ytceogegjghmonaa", sum := "b3e7b4fb1a4dd836f78d290eb87b47e4cc4f12dcdabe120ff9cba08069bbd614", func := "loop.example/g00516/laws.FnPointReading", spec := "fnPointReading", unfollowed := true, recurses := true, apart := false }
def FnPointReadingSaid : Prop := fnPointReadingRow.holds Try.pinned (OpenSpec.ofChange fnPointReadingSpec)

/-- ITS FALSE NEIGHBOUR: 'it returns false'. Refute it at one input. -/
def fnPointReadingWrong : ChangeSpec := { name := "fnPointReading", fn := fun _ => fun
  | [d] => { results := [.lit (.bool false)], args := [d] }
  | _ => none }
def FnPointReadingWrongFalsely : Prop := fnPointReadingRow.holds Try.pinned (OpenSpec.ofChange fnPointReadingWrong)

/-- 'laws.FnPointKeys': WHATEVER THE INPUT: true; the input reads as it did. -/
def fnPointKeysSpec : ChangeSpec := { name := "fnPointKeys", fn := fun _ => fun
  | [d] => { results := [.lit (.bool true)], args := [d] }
  | _ => none }
def fnPointKeysRow : OpenClaim := { program := "ytceogegjghmonaa", sum := "b3e7b4fb1a4dd836f78d290eb87b47e4cc4f12dcdabe120ff9cba08069bbd614", func := "loop.example/g00516/laws.FnPointKeys", spec := "fnPointKeys", apart := false }
def FnPointKeysSaid : Prop := fnPointKeysRow.holds Try.pinned (OpenSpec.ofChange fnPointKeysSpec)

/-- ITS FALSE NEIGHBOUR: 'it returns false'. Refute it at one input. -/
def fnPointKeysWrong : ChangeSpec := { name := "fnPointKeys", fn := fun _ => fun
  | [d] => { results := [.lit (.bool false)], args := [d] }
  | _ => none }
def FnPointKeysWrongFalsely : Prop := fnPointKeysRow.holds Try.pinned (OpenSpec.ofChange fnPointKeysWrong)

/-- 'laws.FnExactMakePointKeys': WHATEVER THE INPUT: true; the input reads as it did. -/
def fnExactMakePointKeysSpec : ChangeSpec := { name := "fnExactMakePointKeys", fn := fun _ => fun
  | [d1, d2, d3, d4] => { results := [.lit (.bool true)], args := [d1, d2, d3, d4] }
  | _ => none }
def fnExactMakePointKeysRow : OpenClaim := { program := "ytceogegjghmonaa", sum := "b3e7b4fb1a4dd836f78d290eb87b47e4cc4f12dcdabe120ff9cba08069bbd614", func := "loop.example/g00516/laws.FnExactMakePointKeys", spec := "fnExactMakePointKeys", apart := false }
def FnExactMakePointKeysSaid : Prop := fnExactMakePointKeysRow.holds Try.pinned (OpenSpec.ofChange fnExactMakePointKeysSpec)

/-- ITS FALSE NEIGHBOUR: 'it returns false'. Refute it at one input. -/
def fnExactMakePointKeysWrong : ChangeSpec := { name := "fnExactMakePointKeys", fn := fun _ => fun
  | [d1, d2, d3, d4] => { results := [.lit (.bool false)], args := [d1, d2, d3, d4] }
  | _ => none }
def FnExactMakePointKeysWrongFalsely : Prop := fnExactMakePointKeysRow.holds Try.pinned (OpenSpec.ofChange fnExactMakePointKeysWrong)

/-- 'laws.FnExactEncodePointKey': WHATEVER THE INPUT: true; the input reads as it did. -/
def fnExactEncodePointKeySpec : ChangeSpec := { name := "fnExactEncodePointKey", fn := fun _ => fun
  | [d] => { results := [.lit (.bool true)], args := [d] }
  | _ => none }
def fnExactEncodePointKeyRow : OpenClaim := { program := "ytceogegjghmonaa", sum := "b3e7b4fb1a4dd836f78d290eb87b47e4cc4f12dcdabe120ff9cba08069bbd614", func := "loop.example/g00516/laws.FnExactEncodePointKey", spec := "fnExactEncodePointKey", apart := false }
def FnExactEncodePointKeySaid : Prop := fnExactEncodePointKeyRow.holds Try.pinned (OpenSpec.ofChange fnExactEncodePointKeySpec)

/-- ITS FALSE NEIGHBOUR: 'it returns false'. Refute it at one input. -/
def fnExactEncodePointKeyWrong : ChangeSpec := { name := "fnExactEncodePointKey", fn := fun _ => fun
  | [d] => { results := [.lit (.bool false)], args := [d] }
  | _ => none }
def FnExactEncodePointKeyWrongFalsely : Prop := fnExactEncodePointKeyRow.holds Try.pinned (OpenSpec.ofChange fnExactEncodePointKeyWrong)

/-- 'laws.FnExactShareVector': WHATEVER THE INPUT: true; the input reads as it did. -/
def fnExactShareVectorSpec : ChangeSpec := { name := "fnExactShareVector", fn := fun _ => fun
  | [d1, d2] => { results := [.lit (.bool true)], args := [d1, d2] }
  | _ => none }
def fnExactShareVectorRow : OpenClaim := { program := "ytceogegjghmonaa", sum := "b3e7b4fb1a4dd836f78d290eb87b47e4cc4f12dcdabe120ff9cba08069bbd614", func := "loop.example/g00516/laws.FnExactShareVector", spec := "fnExactShareVector", apart := false }
def FnExactShareVectorSaid : Prop := fnExactShareVectorRow.holds Try.pinned (OpenSpec.ofChange fnExactShareVectorSpec)

/-- ITS FALSE NEIGHBOUR: 'it returns false'. Refute it at one input. -/
def fnExactShareVectorWrong : ChangeSpec := { name := "fnExactShareVector", fn := fun _ => fun
  | [d1, d2] => { results := [.lit (.bool false)], args := [d1, d2] }
  | _ => none }
def FnExactShareVectorWrongFalsely : Prop := fnExactShareVectorRow.holds Try.pinned (OpenSpec.ofChange fnExactShareVectorWrong)

/-- 'laws.FnSketches': WHATEVER THE INPUT: true; the input reads as it did. -/
def fnSketchesSpec : ChangeSpec := { name := "fnSketches", fn := fun _ => fun
  | [d] => { results := [.lit (.bool true)], args := [d] }
  | _ => none }
def fnSketchesRow : OpenClaim := { program := "ytceogegjghmonaa", sum := "b3e7b4fb1a4dd836f78d290eb87b47e4cc4f12dcdabe120ff9cba08069bbd614", func := "loop.example/g00516/laws.FnSketches", spec := "fnSketches", unfollowed := true, recurses := true, apart := false }
def FnSketchesSaid : Prop := fnSketchesRow.holds Try.pinned (OpenSpec.ofChange fnSketchesSpec)

/-- ITS FALSE NEIGHBOUR: 'it returns false'. Refute it at one input. -/
def fnSketchesWrong : ChangeSpec := { name := "fnSketches", fn := fun _ => fun
  | [d] => { results := [.lit (.bool false)], args := [d] }
  | _ => none }
def FnSketchesWrongFalsely : Prop := fnSketchesRow.holds Try.pinned (OpenSpec.ofChange fnSketchesWrong)

/- THE SECOND FORM. 'bulk': how many values and letters a reading holds, each counted each time it is reached (what is shared counts as often as it is met; a slice's spare places count too). A statement '..UptoSaid' is the law's where the arguments, and the package variables that the reading takes, are together of bulk at most 1048576: NARROWER than '..Said'. Prove '..Said' where nothing that the law and all that it calls make is longer than what came in: it says more and counts as full. Else prove '..UptoSaid'. A law counts once. -/
mutual
def uptoBulk {H : Type} : DataW H → Nat
  | .lit (.string bytes) => bytes.length + 1
  | .lit _ => 1
  | .nil => 1
  | .ptr d => uptoBulk d + 1
  | .slice elems spare => uptoBulkAll elems + uptoBulkAll spare + 1
  | .agg parts => uptoBulkAll parts + 1
  | .iface _ d => uptoBulk d + 1
  | .map entries => uptoBulkEntries entries + 1
  | .held _ => 1
def uptoBulkAll {H : Type} : List (DataW H) → Nat
  | [] => 0
  | d :: r => uptoBulk d + uptoBulkAll r
def uptoBulkEntries {H : Type} : List (Lit × DataW H) → Nat
  | [] => 0
  | x :: r => uptoBulkEntry x + uptoBulkEntries r
def uptoBulkEntry {H : Type} : Lit × DataW H → Nat
  | (.string bytes, d) => bytes.length + uptoBulk d + 1
  | (_, d) => uptoBulk d + 1
 end
def uptoSmall : (H : Type) → List (DataW H) → Bool := fun _ ds => decide (uptoBulkAll ds ≤ 1048576)
def OpenSpec.upto (s : _root_.Go.ChangeSpec) : _root_.Go.OpenSpec := { _root_.Go.OpenSpec.ofChange s with cond := some uptoSmall }

/-- 'laws.FnPrivateReading', WHERE WHAT IT READS IS OF BULK AT MOST 1048576: true; the input reads as it did. -/
def fnPrivateReadingUptoRow : OpenClaim := { program := "ytceogegjghmonaa", sum := "b3e7b4fb1a4dd836f78d290eb87b47e4cc4f12dcdabe120ff9cba08069bbd614", func := "loop.example/g00516/laws.FnPrivateReading", spec := "fnPrivateReading", unfollowed := true, recurses := true, apart := false, narrowed := true }
def FnPrivateReadingUptoSaid : Prop := fnPrivateReadingUptoRow.holds Try.pinned (OpenSpec.upto fnPrivateReadingSpec)

/-- 'laws.FnShares', WHERE WHAT IT READS IS OF BULK AT MOST 1048576: true; the input reads as it did. -/
def fnSharesUptoRow : OpenClaim := { program := "ytceogegjghmonaa", sum := "b3e7b4fb1a4dd836f78d290eb87b47e4cc4f12dcdabe120ff9cba08069bbd614", func := "loop.example/g00516/laws.FnShares", spec := "fnShares", unfollowed := true, recurses := true, apart := false, narrowed := true }
def FnSharesUptoSaid : Prop := fnSharesUptoRow.holds Try.pinned (OpenSpec.upto fnSharesSpec)

/-- 'laws.FnDatabases', WHERE WHAT IT READS IS OF BULK AT MOST 1048576: true; the input reads as it did. -/
def fnDatabasesUptoRow : OpenClaim := { program := "ytceogegjghmonaa", sum := "b3e7b4fb1a4dd836f78d290eb87b47e4cc4f12dcdabe120ff9cba08069bbd614", func := "loop.example/g00516/laws.FnDatabases", spec := "fnDatabases", unfollowed := true, recurses := true, apart := false, narrowed := true }
def FnDatabasesUptoSaid : Prop := fnDatabasesUptoRow.holds Try.pinned (OpenSpec.upto fnDatabasesSpec)

/-- 'laws.FnUnitSelections', WHERE WHAT IT READS IS OF BULK AT MOST 1048576: true; the input reads as it did. -/
def fnUnitSelectionsUptoRow : OpenClaim := { program := "ytceogegjghmonaa", sum := "b3e7b4fb1a4dd836f78d290eb87b47e4cc4f12dcdabe120ff9cba08069bbd614", func := "loop.example/g00516/laws.FnUnitSelections", spec := "fnUnitSelections", apart := false, narrowed := true }
def FnUnitSelectionsUptoSaid : Prop := fnUnitSelectionsUptoRow.holds Try.pinned (OpenSpec.upto fnUnitSelectionsSpec)

/-- 'laws.FnPointReading', WHERE WHAT IT READS IS OF BULK AT MOST 1048576: true; the input reads as it did. -/
def fnPointReadingUptoRow : OpenClaim := { program := "ytceogegjghmonaa", sum := "b3e7b4fb1a4dd836f78d290eb87b47e4cc4f12dcdabe120ff9cba08069bbd614", func := "loop.example/g00516/laws.FnPointReading", spec := "fnPointReading", unfollowed := true, recurses := true, apart := false, narrowed := true }
def FnPointReadingUptoSaid : Prop := fnPointReadingUptoRow.holds Try.pinned (OpenSpec.upto fnPointReadingSpec)

/-- 'laws.FnPointKeys', WHERE WHAT IT READS IS OF BULK AT MOST 1048576: true; the input reads as it did. -/
def fnPointKeysUptoRow : OpenClaim := { program := "ytceogegjghmonaa", sum := "b3e7b4fb1a4dd836f78d290eb87b47e4cc4f12dcdabe120ff9cba08069bbd614", func := "loop.example/g00516/laws.FnPointKeys", spec := "fnPointKeys", apart := false, narrowed := true }
def FnPointKeysUptoSaid : Prop := fnPointKeysUptoRow.holds Try.pinned (OpenSpec.upto fnPointKeysSpec)

/-- 'laws.FnExactMakePointKeys', WHERE WHAT IT READS IS OF BULK AT MOST 1048576: true; the input reads as it did. -/
def fnExactMakePointKeysUptoRow : OpenClaim := { program := "ytceogegjghmonaa", sum := "b3e7b4fb1a4dd836f78d290eb87b47e4cc4f12dcdabe120ff9cba08069bbd614", func := "loop.example/g00516/laws.FnExactMakePointKeys", spec := "fnExactMakePointKeys", apart := false, narrowed := true }
def FnExactMakePointKeysUptoSaid : Prop := fnExactMakePointKeysUptoRow.holds Try.pinned (OpenSpec.upto fnExactMakePointKeysSpec)

/-- 'laws.FnExactEncodePointKey', WHERE WHAT IT READS IS OF BULK AT MOST 1048576: true; the input reads as it did. -/
def fnExactEncodePointKeyUptoRow : OpenClaim := { program := "ytceogegjghmonaa", sum := "b3e7b4fb1a4dd836f78d290eb87b47e4cc4f12dcdabe120ff9cba08069bbd614", func := "loop.example/g00516/laws.FnExactEncodePointKey", spec := "fnExactEncodePointKey", apart := false, narrowed := true }
def FnExactEncodePointKeyUptoSaid : Prop := fnExactEncodePointKeyUptoRow.holds Try.pinned (OpenSpec.upto fnExactEncodePointKeySpec)

/-- 'laws.FnExactShareVector', WHERE WHAT IT READS IS OF BULK AT MOST 1048576: true; the input reads as it did. -/
def fnExactShareVectorUptoRow : OpenClaim := { program := "ytceogegjghmonaa", sum := "b3e7b4fb1a4dd836f78d290eb87b47e4cc4f12dcdabe120ff9cba08069bbd614", func := "loop.example/g00516/laws.FnExactShareVector", spec := "fnExactShareVector", apart := false, narrowed := true }
def FnExactShareVectorUptoSaid : Prop := fnExactShareVectorUptoRow.holds Try.pinned (OpenSpec.upto fnExactShareVectorSpec)

/-- 'laws.FnSketches', WHERE WHAT IT READS IS OF BULK AT MOST 1048576: true; the input reads as it did. -/
def fnSketchesUptoRow : OpenClaim := { program := "ytceogegjghmonaa", sum := "b3e7b4fb1a4dd836f78d290eb87b47e4cc4f12dcdabe120ff9cba08069bbd614", func := "loop.example/g00516/laws.FnSketches", spec := "fnSketches", unfollowed := true, recurses := true, apart := false, narrowed := true }
def FnSketchesUptoSaid : Prop := fnSketchesUptoRow.holds Try.pinned (OpenSpec.upto fnSketchesSpec)

end Rows
end Go.Proofs.Ytceogegjghmonaa
