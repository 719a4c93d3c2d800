/-
  No cell of these rows narrows 'for every input' (looked for: loops, veiled, ifaces, maps, wideKeys, modest, calm, conditions, laid).
  DERIVED. THE GIVEN ROWS OF THIS SEAT. 12 by the template 'for every input the law returns true; each argument reads behind the call as it read before'; 0 by the template 'total and deterministic' (their statements: YtfidnnfffhhchaaTotals.lean).
  GIVEN WITH THE SEED: the statements are not yours to turn. If you find one false, say at which input.
  Laid BY PROGRAM, IN A SANDBOX (cutbox-rows.mjs): the forced cells as the released guide's own fill.sh prints them over the translation ab33d015bb5d524e… (all of the seat's roots in one cut). By AI agents, Wed Nov 11 2026. No macro, syntax, notation, axiom, sorry.
-/
import Derived.Test.YtfidnnfffhhchaaChecked
import GoSem.Claim
import GoSem.ClaimJoined
import GoSem.ClaimMapViews
import Derived.JoinedTies
import Derived.KernelRfl
namespace Go.Proofs.Ytfidnnfffhhchaa
/- THE CELL 'sum', in the pinned program and in every row, IS THE sha256 OF THE DUMP (.gsa) THAT YtfidnnfffhhchaaProg.lean LOADS. Nothing in Lean hashes anything: it is a label: what it is worth is what the hold of that sum in a sandbox is worth. -/
noncomputable def Try.pinned : Pinned := { name := "ytfidnnfffhhchaa", sum := "ab33d015bb5d524e8f4ec16ff3de391f7b3980e15be8d6eea408f6136ce759c2", checked := Try.checked }
namespace Rows
def none {H : Type} : Left H := { results := [], args := [] }

/-- 'laws.FnExactKeySavings': WHATEVER THE INPUT: true; the input reads as it did. -/
def fnExactKeySavingsSpec : ChangeSpec := { name := "fnExactKeySavings", fn := fun _ => fun
  | [d] => { results := [.lit (.bool true)], args := [d] }
  | _ => none }
def fnExactKeySavingsRow : OpenClaim := { program := "ytfidnnfffhhchaa", sum := "ab33d015bb5d524e8f4ec16ff3de391f7b3980e15be8d6eea408f6136ce759c2", func := "loop.example/g00516/laws.FnExactKeySavings", spec := "fnExactKeySavings", apart := false }
def FnExactKeySavingsSaid : Prop := fnExactKeySavingsRow.holds Try.pinned (OpenSpec.ofChange fnExactKeySavingsSpec)

/-- ITS FALSE NEIGHBOUR: 'it returns false'. Refute it at one input. -/
def fnExactKeySavingsWrong : ChangeSpec := { name := "fnExactKeySavings", fn := fun _ => fun
  | [d] => { results := [.lit (.bool false)], args := [d] }
  | _ => none }
def FnExactKeySavingsWrongFalsely : Prop := fnExactKeySavingsRow.holds Try.pinned (OpenSpec.ofChange fnExactKeySavingsWrong)

/-- 'laws.FnExactIsValidMailbox': WHATEVER THE INPUT: true; the input reads as it did. -/
def fnExactIsValidMailboxSpec : ChangeSpec := { name := "fnExactIsValidMailbox", fn := fun _ => fun
  | [d] => { results := [.lit (.bool true)], args := [d] }
  | _ => none }
def fnExactIsValidMailboxRow : OpenClaim := { program := "ytfidnnfffhhchaa", sum := "ab33d015bb5d524e8f4ec16ff3de391f7b3980e15be8d6eea408f6136ce759c2", func := "loop.example/g00516/laws.FnExactIsValidMailbox", spec := "fnExactIsValidMailbox", apart := false }
def FnExactIsValidMailboxSaid : Prop := fnExactIsValidMailboxRow.holds Try.pinned (OpenSpec.ofChange fnExactIsValidMailboxSpec)

/-- ITS FALSE NEIGHBOUR: 'it returns false'. Refute it at one input. -/
def fnExactIsValidMailboxWrong : ChangeSpec := { name := "fnExactIsValidMailbox", fn := fun _ => fun
  | [d] => { results := [.lit (.bool false)], args := [d] }
  | _ => none }
def FnExactIsValidMailboxWrongFalsely : Prop := fnExactIsValidMailboxRow.holds Try.pinned (OpenSpec.ofChange fnExactIsValidMailboxWrong)

/-- 'laws.FnExactAcceptsSketch': WHATEVER THE INPUT: true; the input reads as it did. -/
def fnExactAcceptsSketchSpec : ChangeSpec := { name := "fnExactAcceptsSketch", fn := fun _ => fun
  | [d1, d2, d3] => { results := [.lit (.bool true)], args := [d1, d2, d3] }
  | _ => none }
def fnExactAcceptsSketchRow : OpenClaim := { program := "ytfidnnfffhhchaa", sum := "ab33d015bb5d524e8f4ec16ff3de391f7b3980e15be8d6eea408f6136ce759c2", func := "loop.example/g00516/laws.FnExactAcceptsSketch", spec := "fnExactAcceptsSketch", apart := false }
def FnExactAcceptsSketchSaid : Prop := fnExactAcceptsSketchRow.holds Try.pinned (OpenSpec.ofChange fnExactAcceptsSketchSpec)

/-- ITS FALSE NEIGHBOUR: 'it returns false'. Refute it at one input. -/
def fnExactAcceptsSketchWrong : ChangeSpec := { name := "fnExactAcceptsSketch", fn := fun _ => fun
  | [d1, d2, d3] => { results := [.lit (.bool false)], args := [d1, d2, d3] }
  | _ => none }
def FnExactAcceptsSketchWrongFalsely : Prop := fnExactAcceptsSketchRow.holds Try.pinned (OpenSpec.ofChange fnExactAcceptsSketchWrong)

/-- 'laws.FnExactCountCollisions': WHATEVER THE INPUT: true; the input reads as it did. -/
def fnExactCountCollisionsSpec : ChangeSpec := { name := "fnExactCountCollisions", fn := fun _ => fun
  | [d] => { results := [.lit (.bool true)], args := [d] }
  | _ => none }
def fnExactCountCollisionsRow : OpenClaim := { program := "ytfidnnfffhhchaa", sum := "ab33d015bb5d524e8f4ec16ff3de391f7b3980e15be8d6eea408f6136ce759c2", func := "loop.example/g00516/laws.FnExactCountCollisions", spec := "fnExactCountCollisions", apart := false }
def FnExactCountCollisionsSaid : Prop := fnExactCountCollisionsRow.holds Try.pinned (OpenSpec.ofChange fnExactCountCollisionsSpec)

/-- ITS FALSE NEIGHBOUR: 'it returns false'. Refute it at one input. -/
def fnExactCountCollisionsWrong : ChangeSpec := { name := "fnExactCountCollisions", fn := fun _ => fun
  | [d] => { results := [.lit (.bool false)], args := [d] }
  | _ => none }
def FnExactCountCollisionsWrongFalsely : Prop := fnExactCountCollisionsRow.holds Try.pinned (OpenSpec.ofChange fnExactCountCollisionsWrong)

/-- 'laws.FnExactIsValidPlain': WHATEVER THE INPUT: true; the input reads as it did. -/
def fnExactIsValidPlainSpec : ChangeSpec := { name := "fnExactIsValidPlain", fn := fun _ => fun
  | [d] => { results := [.lit (.bool true)], args := [d] }
  | _ => none }
def fnExactIsValidPlainRow : OpenClaim := { program := "ytfidnnfffhhchaa", sum := "ab33d015bb5d524e8f4ec16ff3de391f7b3980e15be8d6eea408f6136ce759c2", func := "loop.example/g00516/laws.FnExactIsValidPlain", spec := "fnExactIsValidPlain", apart := false }
def FnExactIsValidPlainSaid : Prop := fnExactIsValidPlainRow.holds Try.pinned (OpenSpec.ofChange fnExactIsValidPlainSpec)

/-- ITS FALSE NEIGHBOUR: 'it returns false'. Refute it at one input. -/
def fnExactIsValidPlainWrong : ChangeSpec := { name := "fnExactIsValidPlain", fn := fun _ => fun
  | [d] => { results := [.lit (.bool false)], args := [d] }
  | _ => none }
def FnExactIsValidPlainWrongFalsely : Prop := fnExactIsValidPlainRow.holds Try.pinned (OpenSpec.ofChange fnExactIsValidPlainWrong)

/-- 'laws.FnExactCollideWrites': WHATEVER THE INPUT: true; the input reads as it did. -/
def fnExactCollideWritesSpec : ChangeSpec := { name := "fnExactCollideWrites", fn := fun _ => fun
  | [d1, d2] => { results := [.lit (.bool true)], args := [d1, d2] }
  | _ => none }
def fnExactCollideWritesRow : OpenClaim := { program := "ytfidnnfffhhchaa", sum := "ab33d015bb5d524e8f4ec16ff3de391f7b3980e15be8d6eea408f6136ce759c2", func := "loop.example/g00516/laws.FnExactCollideWrites", spec := "fnExactCollideWrites", apart := false }
def FnExactCollideWritesSaid : Prop := fnExactCollideWritesRow.holds Try.pinned (OpenSpec.ofChange fnExactCollideWritesSpec)

/-- ITS FALSE NEIGHBOUR: 'it returns false'. Refute it at one input. -/
def fnExactCollideWritesWrong : ChangeSpec := { name := "fnExactCollideWrites", fn := fun _ => fun
  | [d1, d2] => { results := [.lit (.bool false)], args := [d1, d2] }
  | _ => none }
def FnExactCollideWritesWrongFalsely : Prop := fnExactCollideWritesRow.holds Try.pinned (OpenSpec.ofChange fnExactCollideWritesWrong)

/-- 'laws.FnExactChallenge': WHATEVER THE INPUT: true; the input reads as it did. -/
def fnExactChallengeSpec : ChangeSpec := { name := "fnExactChallenge", fn := fun _ => fun
  | [d1, d2] => { results := [.lit (.bool true)], args := [d1, d2] }
  | _ => none }
def fnExactChallengeRow : OpenClaim := { program := "ytfidnnfffhhchaa", sum := "ab33d015bb5d524e8f4ec16ff3de391f7b3980e15be8d6eea408f6136ce759c2", func := "loop.example/g00516/laws.FnExactChallenge", spec := "fnExactChallenge", apart := false }
def FnExactChallengeSaid : Prop := fnExactChallengeRow.holds Try.pinned (OpenSpec.ofChange fnExactChallengeSpec)

/-- ITS FALSE NEIGHBOUR: 'it returns false'. Refute it at one input. -/
def fnExactChallengeWrong : ChangeSpec := { name := "fnExactChallenge", fn := fun _ => fun
  | [d1, d2] => { results := [.lit (.bool false)], args := [d1, d2] }
  | _ => none }
def FnExactChallengeWrongFalsely : Prop := fnExactChallengeRow.holds Try.pinned (OpenSpec.ofChange fnExactChallengeWrong)

/-- 'laws.FnExactNewDatabase': WHATEVER THE INPUT: true; the input reads as it did. -/
def fnExactNewDatabaseSpec : ChangeSpec := { name := "fnExactNewDatabase", fn := fun _ => fun
  | [d] => { results := [.lit (.bool true)], args := [d] }
  | _ => none }
def fnExactNewDatabaseRow : OpenClaim := { program := "ytfidnnfffhhchaa", sum := "ab33d015bb5d524e8f4ec16ff3de391f7b3980e15be8d6eea408f6136ce759c2", func := "loop.example/g00516/laws.FnExactNewDatabase", spec := "fnExactNewDatabase", apart := false }
def FnExactNewDatabaseSaid : Prop := fnExactNewDatabaseRow.holds Try.pinned (OpenSpec.ofChange fnExactNewDatabaseSpec)

/-- ITS FALSE NEIGHBOUR: 'it returns false'. Refute it at one input. -/
def fnExactNewDatabaseWrong : ChangeSpec := { name := "fnExactNewDatabase", fn := fun _ => fun
  | [d] => { results := [.lit (.bool false)], args := [d] }
  | _ => none }
def FnExactNewDatabaseWrongFalsely : Prop := fnExactNewDatabaseRow.holds Try.pinned (OpenSpec.ofChange fnExactNewDatabaseWrong)

/-- 'laws.FnExactIsValidPointKey': WHATEVER THE INPUT: true; the input reads as it did. -/
def fnExactIsValidPointKeySpec : ChangeSpec := { name := "fnExactIsValidPointKey", fn := fun _ => fun
  | [d] => { results := [.lit (.bool true)], args := [d] }
  | _ => none }
def fnExactIsValidPointKeyRow : OpenClaim := { program := "ytfidnnfffhhchaa", sum := "ab33d015bb5d524e8f4ec16ff3de391f7b3980e15be8d6eea408f6136ce759c2", func := "loop.example/g00516/laws.FnExactIsValidPointKey", spec := "fnExactIsValidPointKey", apart := false }
def FnExactIsValidPointKeySaid : Prop := fnExactIsValidPointKeyRow.holds Try.pinned (OpenSpec.ofChange fnExactIsValidPointKeySpec)

/-- ITS FALSE NEIGHBOUR: 'it returns false'. Refute it at one input. -/
def fnExactIsValidPointKeyWrong : ChangeSpec := { name := "fnExactIsValidPointKey", fn := fun _ => fun
  | [d] => { results := [.lit (.bool false)], args := [d] }
  | _ => none }
def FnExactIsValidPointKeyWrongFalsely : Prop := fnExactIsValidPointKeyRow.holds Try.pinned (OpenSpec.ofChange fnExactIsValidPointKeyWrong)

/-- 'laws.FnExactCellCheck': WHATEVER THE INPUT: true; the input reads as it did. -/
def fnExactCellCheckSpec : ChangeSpec := { name := "fnExactCellCheck", fn := fun _ => fun
  | [d1, d2, d3] => { results := [.lit (.bool true)], args := [d1, d2, d3] }
  | _ => none }
def fnExactCellCheckRow : OpenClaim := { program := "ytfidnnfffhhchaa", sum := "ab33d015bb5d524e8f4ec16ff3de391f7b3980e15be8d6eea408f6136ce759c2", func := "loop.example/g00516/laws.FnExactCellCheck", spec := "fnExactCellCheck", apart := false }
def FnExactCellCheckSaid : Prop := fnExactCellCheckRow.holds Try.pinned (OpenSpec.ofChange fnExactCellCheckSpec)

/-- ITS FALSE NEIGHBOUR: 'it returns false'. Refute it at one input. -/
def fnExactCellCheckWrong : ChangeSpec := { name := "fnExactCellCheck", fn := fun _ => fun
  | [d1, d2, d3] => { results := [.lit (.bool false)], args := [d1, d2, d3] }
  | _ => none }
def FnExactCellCheckWrongFalsely : Prop := fnExactCellCheckRow.holds Try.pinned (OpenSpec.ofChange fnExactCellCheckWrong)

/-- 'laws.FnUnitSelections': WHATEVER THE INPUT: true; the input reads as it did. -/
def fnUnitSelectionsSpec : ChangeSpec := { name := "fnUnitSelections", fn := fun _ => fun
  | [d] => { results := [.lit (.bool true)], args := [d] }
  | _ => none }
def fnUnitSelectionsRow : OpenClaim := { program := "ytfidnnfffhhchaa", sum := "ab33d015bb5d524e8f4ec16ff3de391f7b3980e15be8d6eea408f6136ce759c2", func := "loop.example/g00516/laws.FnUnitSelections", spec := "fnUnitSelections", apart := false }
def FnUnitSelectionsSaid : Prop := fnUnitSelectionsRow.holds Try.pinned (OpenSpec.ofChange fnUnitSelectionsSpec)

/-- ITS FALSE NEIGHBOUR: 'it returns false'. Refute it at one input. -/
def fnUnitSelectionsWrong : ChangeSpec := { name := "fnUnitSelections", fn := fun _ => fun
  | [d] => { results := [.lit (.bool false)], args := [d] }
  | _ => none }
def FnUnitSelectionsWrongFalsely : Prop := fnUnitSelectionsRow.holds Try.pinned (OpenSpec.ofChange fnUnitSelectionsWrong)

/-- 'laws.FnExactEqualPointKeys': WHATEVER THE INPUT: true; the input reads as it did. -/
def fnExactEqualPointKeysSpec : ChangeSpec := { name := "fnExactEqualPointKeys", fn := fun _ => fun
  | [d1, d2] => { results := [.lit (.bool true)], args := [d1, d2] }
  | _ => none }
def fnExactEqualPointKeysRow : OpenClaim := { program := "ytfidnnfffhhchaa", sum := "ab33d015bb5d524e8f4ec16ff3de391f7b3980e15be8d6eea408f6136ce759c2", func := "loop.example/g00516/laws.FnExactEqualPointKeys", spec := "fnExactEqualPointKeys", apart := false }
def FnExactEqualPointKeysSaid : Prop := fnExactEqualPointKeysRow.holds Try.pinned (OpenSpec.ofChange fnExactEqualPointKeysSpec)

/-- ITS FALSE NEIGHBOUR: 'it returns false'. Refute it at one input. -/
def fnExactEqualPointKeysWrong : ChangeSpec := { name := "fnExactEqualPointKeys", fn := fun _ => fun
  | [d1, d2] => { results := [.lit (.bool false)], args := [d1, d2] }
  | _ => none }
def FnExactEqualPointKeysWrongFalsely : Prop := fnExactEqualPointKeysRow.holds Try.pinned (OpenSpec.ofChange fnExactEqualPointKeysWrong)

/- THE SECOND FORM. 'bulk': how many values and letters a reading holds, each counted each time it is reached (what is shared counts as often as it is met; a slice's spare places count too). A statement '..UptoSaid' is the law's where the arguments, and the package variables that the reading takes, are together of bulk at most 1048576: NARROWER than '..Said'. Prove '..Said' where nothing that the law and all that it calls make is longer than what came in: it says more and counts as full. Else prove '..UptoSaid'. A law counts once. -/
mutual
def uptoBulk {H : Type} : DataW H → Nat
  | .lit (.string bytes) => bytes.length + 1
  | .lit _ => 1
  | .nil => 1
  | .ptr d => uptoBulk d + 1
  | .slice elems spare => uptoBulkAll elems + uptoBulkAll spare + 1
  | .agg parts => uptoBulkAll parts + 1
  | .iface _ d => uptoBulk d + 1
  | .map entries => uptoBulkEntries entries + 1
  | .held _ => 1
def uptoBulkAll {H : Type} : List (DataW H) → Nat
  | [] => 0
  | d :: r => uptoBulk d + uptoBulkAll r
def uptoBulkEntries {H : Type} : List (Lit × DataW H) → Nat
  | [] => 0
  | x :: r => uptoBulkEntry x + uptoBulkEntries r
def uptoBulkEntry {H : Type} : Lit × DataW H → Nat
  | (.string bytes, d) => bytes.length + uptoBulk d + 1
  | (_, d) => uptoBulk d + 1
 end
def uptoSmall : (H : Type) → List (DataW H) → Bool := fun _ ds => decide (uptoBulkAll ds ≤ 1048576)
def OpenSpec.upto (s : _root_.Go.ChangeSpec) : _root_.Go.OpenSpec := { _root_.Go.OpenSpec.ofChange s with cond := some uptoSmall }

/-- 'laws.FnExactKeySavings', WHERE WHAT IT READS IS OF BULK AT MOST 1048576: true; the input reads as it did. -/
def fnExactKeySavingsUptoRow : OpenClaim := { program := "ytfidnnfffhhchaa", sum := "ab33d015bb5d524e8f4ec16ff3de391f7b3980e15be8d6eea408f6136ce759c2", func := "loop.example/g00516/laws.FnExactKeySavings", spec := "fnExactKeySavings", apart := false, narrowed := true }
def FnExactKeySavingsUptoSaid : Prop := fnExactKeySavingsUptoRow.holds Try.pinned (OpenSpec.upto fnExactKeySavingsSpec)

/-- 'laws.FnExactIsValidMailbox', WHERE WHAT IT READS IS OF BULK AT MOST 1048576: true; the input reads as it did. -/
def fnExactIsValidMailboxUptoRow : OpenClaim := { program := "ytfidnnfffhhchaa", sum := "ab33d015bb5d524e8f4ec16ff3de391f7b3980e15be8d6eea408f6136ce759c2", func := "loop.example/g00516/laws.FnExactIsValidMailbox", spec := "fnExactIsValidMailbox", apart := false, narrowed := true }
def FnExactIsValidMailboxUptoSaid : Prop := fnExactIsValidMailboxUptoRow.holds Try.pinned (OpenSpec.upto fnExactIsValidMailboxSpec)

/-- 'laws.FnExactAcceptsSketch', WHERE WHAT IT READS IS OF BULK AT MOST 1048576: true; the input reads as it did. -/
def fnExactAcceptsSketchUptoRow : OpenClaim := { program := "ytfidnnfffhhchaa", sum := "ab33d015bb5d524e8f4ec16ff3de391f7b3980e15be8d6eea408f6136ce759c2", func := "loop.example/g00516/laws.FnExactAcceptsSketch", spec := "fnExactAcceptsSketch", apart := false, narrowed := true }
def FnExactAcceptsSketchUptoSaid : Prop := fnExactAcceptsSketchUptoRow.holds Try.pinned (OpenSpec.upto fnExactAcceptsSketchSpec)

/-- 'laws.FnExactCountCollisions', WHERE WHAT IT READS IS OF BULK AT MOST 1048576: true; the input reads as it did. -/
def fnExactCountCollisionsUptoRow : OpenClaim := { program := "ytfidnnfffhhchaa", sum := "ab33d015bb5d524e8f4ec16ff3de391f7b3980e15be8d6eea408f6136ce759c2", func := "loop.example/g00516/laws.FnExactCountCollisions", spec := "fnExactCountCollisions", apart := false, narrowed := true }
def FnExactCountCollisionsUptoSaid : Prop := fnExactCountCollisionsUptoRow.holds Try.pinned (OpenSpec.upto fnExactCountCollisionsSpec)

/-- 'laws.FnExactIsValidPlain', WHERE WHAT IT READS IS OF BULK AT MOST 1048576: true; the input reads as it did. -/
def fnExactIsValidPlainUptoRow : OpenClaim := { program := "ytfidnnfffhhchaa", sum := "ab33d015bb5d524e8f4ec16ff3de391f7b3980e15be8d6eea408f6136ce759c2", func := "loop.example/g00516/laws.FnExactIsValidPlain", spec := "fnExactIsValidPlain", apart := false, narrowed := true }
def FnExactIsValidPlainUptoSaid : Prop := fnExactIsValidPlainUptoRow.holds Try.pinned (OpenSpec.upto fnExactIsValidPlainSpec)

/-- 'laws.FnExactCollideWrites', WHERE WHAT IT READS IS OF BULK AT MOST 1048576: true; the input reads as it did. -/
def fnExactCollideWritesUptoRow : OpenClaim := { program := "ytfidnnfffhhchaa", sum := "ab33d015bb5d524e8f4ec16ff3de391f7b3980e15be8d6eea408f6136ce759c2", func := "loop.example/g00516/laws.FnExactCollideWrites", spec := "fnExactCollideWrites", apart := false, narrowed := true }
def FnExactCollideWritesUptoSaid : Prop := fnExactCollideWritesUptoRow.holds Try.pinned (OpenSpec.upto fnExactCollideWritesSpec)

/-- 'laws.FnExactChallenge', WHERE WHAT IT READS IS OF BULK AT MOST 1048576: true; the input reads as it did. -/
def fnExactChallengeUptoRow : OpenClaim := { program := "ytfidnnfffhhchaa", sum := "ab33d015bb5d524e8f4ec16ff3de391f7b3980e15be8d6eea408f6136ce759c2", func := "loop.example/g00516/laws.FnExactChallenge", spec := "fnExactChallenge", apart := false, narrowed := true }
def FnExactChallengeUptoSaid : Prop := fnExactChallengeUptoRow.holds Try.pinned (OpenSpec.upto fnExactChallengeSpec)

/-- 'laws.FnExactNewDatabase', WHERE WHAT IT READS IS OF BULK AT MOST 1048576: true; the input reads as it did. -/
def fnExactNewDatabaseUptoRow : OpenClaim := { program := "ytfidnnfffhhchaa", sum := "ab33d015bb5d524e8f4ec16ff3de391f7b3980e15be8d6eea408f6136ce759c2", func := "loop.example/g00516/laws.FnExactNewDatabase", spec := "fnExactNewDatabase", apart := false, narrowed := true }
def FnExactNewDatabaseUptoSaid : Prop := fnExactNewDatabaseUptoRow.holds Try.pinned (OpenSpec.upto fnExactNewDatabaseSpec)

/-- 'laws.FnExactIsValidPointKey', WHERE WHAT IT READS IS OF BULK AT MOST 1048576: true; the input reads as it did. -/
def fnExactIsValidPointKeyUptoRow : OpenClaim := { program := "ytfidnnfffhhchaa", sum := "ab33d015bb5d524e8f4ec16ff3de391f7b3980e15be8d6eea408f6136ce759c2", func := "loop.example/g00516/laws.FnExactIsValidPointKey", spec := "fnExactIsValidPointKey", apart := false, narrowed := true }
def FnExactIsValidPointKeyUptoSaid : Prop := fnExactIsValidPointKeyUptoRow.holds Try.pinned (OpenSpec.upto fnExactIsValidPointKeySpec)

/-- 'laws.FnExactCellCheck', WHERE WHAT IT READS IS OF BULK AT MOST 1048576: true; the input reads as it did. -/
def fnExactCellCheckUptoRow : OpenClaim := { program := "ytfidnnfffhhchaa", sum := "ab33d015bb5d524e8f4ec16ff3de391f7b3980e15be8d6eea408f6136ce759c2", func := "loop.example/g00516/laws.FnExactCellCheck", spec := "fnExactCellCheck", apart := false, narrowed := true }
def FnExactCellCheckUptoSaid : Prop := fnExactCellCheckUptoRow.holds Try.pinned (OpenSpec.upto fnExactCellCheckSpec)

/-- 'laws.FnUnitSelections', WHERE WHAT IT READS IS OF BULK AT MOST 1048576: true; the input reads as it did. -/
def fnUnitSelectionsUptoRow : OpenClaim := { program := "ytfidnnfffhhchaa", sum := "ab33d015bb5d524e8f4ec16ff3de391f7b3980e15be8d6eea408f6136ce759c2", func := "loop.example/g00516/laws.FnUnitSelections", spec := "fnUnitSelections", apart := false, narrowed := true }
def FnUnitSelectionsUptoSaid : Prop := fnUnitSelectionsUptoRow.holds Try.pinned (OpenSpec.upto fnUnitSelectionsSpec)

/-- 'laws.FnExactEqualPointKeys', WHERE WHAT IT READS IS OF BULK AT MOST 1048576: true; the input reads as it did. -/
def fnExactEqualPointKeysUptoRow : OpenClaim := { program := "ytfidnnfffhhchaa", sum := "ab33d015bb5d524e8f4ec16ff3de391f7b3980e15be8d6eea408f6136ce759c2", func := "loop.example/g00516/laws.FnExactEqualPointKeys", spec := "fnExactEqualPointKeys", apart := false, narrowed := true }
def FnExactEqualPointKeysUptoSaid : Prop := fnExactEqualPointKeysUptoRow.holds Try.pinned (OpenSpec.upto fnExactEqualPointKeysSpec)

end Rows
end Go.Proofs.Ytfidnnfffhhchaa
