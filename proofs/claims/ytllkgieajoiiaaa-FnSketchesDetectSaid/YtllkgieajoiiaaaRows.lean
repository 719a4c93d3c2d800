/-
  No cell of these rows narrows 'for every input' (looked for: loops, veiled, ifaces, maps, wideKeys, modest, calm, conditions, laid).
  DERIVED. THE GIVEN ROWS OF THIS SEAT. 12 by the template 'for every input the law returns true; each argument reads behind the call as it read before'; 0 by the template 'total and deterministic' (their statements: YtllkgieajoiiaaaTotals.lean).
  GIVEN WITH THE SEED: the statements are not yours to turn. If you find one false, say at which input.
  Laid BY PROGRAM, IN A SANDBOX (cutbox-rows.mjs): the forced cells as the released guide's own fill.sh prints them over the translation 830d63eadb82bc0a… (all of the seat's roots in one cut). By AI agents, Wed Nov 11 2026. No macro, syntax, notation, axiom, sorry.
-/
import Derived.Test.YtllkgieajoiiaaaChecked
import GoSem.Claim
import GoSem.ClaimJoined
import GoSem.ClaimMapViews
import Derived.JoinedTies
import Derived.KernelRfl
namespace Go.Proofs.Ytllkgieajoiiaaa
/- THE CELL 'sum', in the pinned program and in every row, IS THE sha256 OF THE DUMP (.gsa) THAT YtllkgieajoiiaaaProg.lean LOADS. Nothing in Lean hashes anything: it is a label: what it is worth is what the hold of that sum in a sandbox is worth. -/
noncomputable def Try.pinned : Pinned := { name := "ytllkgieajoiiaaa", sum := "830d63eadb82bc0ac72503a407ce7a0f25c8dc220e36557074de101d1b3bf328", checked := Try.checked }
namespace Rows
def none {H : Type} : Left H := { results := [], args := [] }

/-- 'laws.FnExactShareVector': WHATEVER THE INPUT: true; the input reads as it did. -/
def fnExactShareVectorSpec : ChangeSpec := { name := "fnExactShareVector", fn := fun _ => fun
  | [d1, d2] => { results := [.lit (.bool true)], args := [d1, d2] }
  | _ => none }
def fnExactShareVectorRow : OpenClaim := { program := "ytllkgieajoiiaaa", sum := "830d63eadb82bc0ac72503a407ce7a0f25c8dc220e36557074de101d1b3bf328", func := "loop.example/g00516/laws.FnExactShareVector", spec := "fnExactShareVector", apart := false }
def FnExactShareVectorSaid : Prop := fnExactShareVectorRow.holds Try.pinned (OpenSpec.ofChange fnExactShareVectorSpec)

/-- ITS FALSE NEIGHBOUR: 'it returns false'. Refute it at one input. -/
def fnExactShareVectorWrong : ChangeSpec := { name := "fnExactShareVector", fn := fun _ => fun
  | [d1, d2] => { results := [.lit (.bool false)], args := [d1, d2] }
  | _ => none }
def FnExactShareVectorWrongFalsely : Prop := fnExactShareVectorRow.holds Try.pinned (OpenSpec.ofChange fnExactShareVectorWrong)

/-- 'laws.FnExactSketchShare': WHATEVER THE INPUT: true; the input reads as it did. -/
def fnExactSketchShareSpec : ChangeSpec := { name := "fnExactSketchShare", fn := fun _ => fun
  | [d1, d2] => { results := [.lit (.bool true)], args := [d1, d2] }
  | _ => none }
def fnExactSketchShareRow : OpenClaim := { program := "ytllkgieajoiiaaa", sum := "830d63eadb82bc0ac72503a407ce7a0f25c8dc220e36557074de101d1b3bf328", func := "loop.example/g00516/laws.FnExactSketchShare", spec := "fnExactSketchShare", unfollowed := true, recurses := true, apart := false }
def FnExactSketchShareSaid : Prop := fnExactSketchShareRow.holds Try.pinned (OpenSpec.ofChange fnExactSketchShareSpec)

/-- ITS FALSE NEIGHBOUR: 'it returns false'. Refute it at one input. -/
def fnExactSketchShareWrong : ChangeSpec := { name := "fnExactSketchShare", fn := fun _ => fun
  | [d1, d2] => { results := [.lit (.bool false)], args := [d1, d2] }
  | _ => none }
def FnExactSketchShareWrongFalsely : Prop := fnExactSketchShareRow.holds Try.pinned (OpenSpec.ofChange fnExactSketchShareWrong)

/-- 'laws.FnSketchesDetect': WHATEVER THE INPUT: true; the input reads as it did. -/
def fnSketchesDetectSpec : ChangeSpec := { name := "fnSketchesDetect", fn := fun _ => fun
  | [d] => { results := [.lit (.bool true)], args := [d] }
  | _ => none }
def fnSketchesDetectRow : OpenClaim := { program := "ytllkgieajoiiaaa", sum := "830d63eadb82bc0ac72503a407ce7a0f25c8dc220e36557074de101d1b3bf328", func := "loop.example/g00516/laws.FnSketchesDetect", spec := "fnSketchesDetect", unfollowed := true, recurses := true, apart := false }
def FnSketchesDetectSaid : Prop := fnSketchesDetectRow.holds Try.pinned (OpenSpec.ofChange fnSketchesDetectSpec)

/-- ITS FALSE NEIGHBOUR: 'it returns false'. Refute it at one input. -/
def fnSketchesDetectWrong : ChangeSpec := { name := "fnSketchesDetect", fn := fun _ => fun
  | [d] => { results := [.lit (.bool false)], args := [d] }
  | _ => none }
def FnSketchesDetectWrongFalsely : Prop := fnSketchesDetectRow.holds Try.pinned (OpenSpec.ofChange fnSketchesDetectWrong)

/-- 'laws.FnExactCountAccepting': WHATEVER THE INPUT: true; the input reads as it did. -/
def fnExactCountAcceptingSpec : ChangeSpec := { name := "fnExactCountAccepting", fn := fun _ => fun
  | [d1, d2, d3] => { results := [.lit (.bool true)], args := [d1, d2, d3] }
  | _ => none }
def fnExactCountAcceptingRow : OpenClaim := { program := "ytllkgieajoiiaaa", sum := "830d63eadb82bc0ac72503a407ce7a0f25c8dc220e36557074de101d1b3bf328", func := "loop.example/g00516/laws.FnExactCountAccepting", spec := "fnExactCountAccepting", unfollowed := true, recurses := true, apart := false }
def FnExactCountAcceptingSaid : Prop := fnExactCountAcceptingRow.holds Try.pinned (OpenSpec.ofChange fnExactCountAcceptingSpec)

/-- ITS FALSE NEIGHBOUR: 'it returns false'. Refute it at one input. -/
def fnExactCountAcceptingWrong : ChangeSpec := { name := "fnExactCountAccepting", fn := fun _ => fun
  | [d1, d2, d3] => { results := [.lit (.bool false)], args := [d1, d2, d3] }
  | _ => none }
def FnExactCountAcceptingWrongFalsely : Prop := fnExactCountAcceptingRow.holds Try.pinned (OpenSpec.ofChange fnExactCountAcceptingWrong)

/-- 'laws.FnExactJoinSketches': WHATEVER THE INPUT: true; the input reads as it did. -/
def fnExactJoinSketchesSpec : ChangeSpec := { name := "fnExactJoinSketches", fn := fun _ => fun
  | [d1, d2] => { results := [.lit (.bool true)], args := [d1, d2] }
  | _ => none }
def fnExactJoinSketchesRow : OpenClaim := { program := "ytllkgieajoiiaaa", sum := "830d63eadb82bc0ac72503a407ce7a0f25c8dc220e36557074de101d1b3bf328", func := "loop.example/g00516/laws.FnExactJoinSketches", spec := "fnExactJoinSketches", unfollowed := true, recurses := true, apart := false }
def FnExactJoinSketchesSaid : Prop := fnExactJoinSketchesRow.holds Try.pinned (OpenSpec.ofChange fnExactJoinSketchesSpec)

/-- ITS FALSE NEIGHBOUR: 'it returns false'. Refute it at one input. -/
def fnExactJoinSketchesWrong : ChangeSpec := { name := "fnExactJoinSketches", fn := fun _ => fun
  | [d1, d2] => { results := [.lit (.bool false)], args := [d1, d2] }
  | _ => none }
def FnExactJoinSketchesWrongFalsely : Prop := fnExactJoinSketchesRow.holds Try.pinned (OpenSpec.ofChange fnExactJoinSketchesWrong)

/-- 'laws.FnPointReading': WHATEVER THE INPUT: true; the input reads as it did. -/
def fnPointReadingSpec : ChangeSpec := { name := "fnPointReading", fn := fun _ => fun
  | [d] => { results := [.lit (.bool true)], args := [d] }
  | _ => none }
def fnPointReadingRow : OpenClaim := { program := "ytllkgieajoiiaaa", sum := "830d63eadb82bc0ac72503a407ce7a0f25c8dc220e36557074de101d1b3bf328", func := "loop.example/g00516/laws.FnPointReading", spec := "fnPointReading", unfollowed := true, recurses := true, apart := false }
def FnPointReadingSaid : Prop := fnPointReadingRow.holds Try.pinned (OpenSpec.ofChange fnPointReadingSpec)

/-- ITS FALSE NEIGHBOUR: 'it returns false'. Refute it at one input. -/
def fnPointReadingWrong : ChangeSpec := { name := "fnPointReading", fn := fun _ => fun
  | [d] => { results := [.lit (.bool false)], args := [d] }
  | _ => none }
def FnPointReadingWrongFalsely : Prop := fnPointReadingRow.holds Try.pinned (OpenSpec.ofChange fnPointReadingWrong)

/-- 'laws.FnExactEvaluatePoint': WHATEVER THE INPUT: true; the input reads as it did. -/
def fnExactEvaluatePointSpec : ChangeSpec := { name := "fnExactEvaluatePoint", fn := fun _ => fun
  | [d1, d2] => { results := [.lit (.bool true)], args := [d1, d2] }
  | _ => none }
def fnExactEvaluatePointRow : OpenClaim := { program := "ytllkgieajoiiaaa", sum := "830d63eadb82bc0ac72503a407ce7a0f25c8dc220e36557074de101d1b3bf328", func := "loop.example/g00516/laws.FnExactEvaluatePoint", spec := "fnExactEvaluatePoint", apart := false }
def FnExactEvaluatePointSaid : Prop := fnExactEvaluatePointRow.holds Try.pinned (OpenSpec.ofChange fnExactEvaluatePointSpec)

/-- ITS FALSE NEIGHBOUR: 'it returns false'. Refute it at one input. -/
def fnExactEvaluatePointWrong : ChangeSpec := { name := "fnExactEvaluatePoint", fn := fun _ => fun
  | [d1, d2] => { results := [.lit (.bool false)], args := [d1, d2] }
  | _ => none }
def FnExactEvaluatePointWrongFalsely : Prop := fnExactEvaluatePointRow.holds Try.pinned (OpenSpec.ofChange fnExactEvaluatePointWrong)

/-- 'laws.FnPointKeys': WHATEVER THE INPUT: true; the input reads as it did. -/
def fnPointKeysSpec : ChangeSpec := { name := "fnPointKeys", fn := fun _ => fun
  | [d] => { results := [.lit (.bool true)], args := [d] }
  | _ => none }
def fnPointKeysRow : OpenClaim := { program := "ytllkgieajoiiaaa", sum := "830d63eadb82bc0ac72503a407ce7a0f25c8dc220e36557074de101d1b3bf328", func := "loop.example/g00516/laws.FnPointKeys", spec := "fnPointKeys", apart := false }
def FnPointKeysSaid : Prop := fnPointKeysRow.holds Try.pinned (OpenSpec.ofChange fnPointKeysSpec)

/-- ITS FALSE NEIGHBOUR: 'it returns false'. Refute it at one input. -/
def fnPointKeysWrong : ChangeSpec := { name := "fnPointKeys", fn := fun _ => fun
  | [d] => { results := [.lit (.bool false)], args := [d] }
  | _ => none }
def FnPointKeysWrongFalsely : Prop := fnPointKeysRow.holds Try.pinned (OpenSpec.ofChange fnPointKeysWrong)

/-- 'laws.FnExactMakePointKeys': WHATEVER THE INPUT: true; the input reads as it did. -/
def fnExactMakePointKeysSpec : ChangeSpec := { name := "fnExactMakePointKeys", fn := fun _ => fun
  | [d1, d2, d3, d4] => { results := [.lit (.bool true)], args := [d1, d2, d3, d4] }
  | _ => none }
def fnExactMakePointKeysRow : OpenClaim := { program := "ytllkgieajoiiaaa", sum := "830d63eadb82bc0ac72503a407ce7a0f25c8dc220e36557074de101d1b3bf328", func := "loop.example/g00516/laws.FnExactMakePointKeys", spec := "fnExactMakePointKeys", apart := false }
def FnExactMakePointKeysSaid : Prop := fnExactMakePointKeysRow.holds Try.pinned (OpenSpec.ofChange fnExactMakePointKeysSpec)

/-- ITS FALSE NEIGHBOUR: 'it returns false'. Refute it at one input. -/
def fnExactMakePointKeysWrong : ChangeSpec := { name := "fnExactMakePointKeys", fn := fun _ => fun
  | [d1, d2, d3, d4] => { results := [.lit (.bool false)], args := [d1, d2, d3, d4] }
  | _ => none }
def FnExactMakePointKeysWrongFalsely : Prop := fnExactMakePointKeysRow.holds Try.pinned (OpenSpec.ofChange fnExactMakePointKeysWrong)

/-- 'laws.FnExactCheckShares': WHATEVER THE INPUT: true; the input reads as it did. -/
def fnExactCheckSharesSpec : ChangeSpec := { name := "fnExactCheckShares", fn := fun _ => fun
  | [d1, d2] => { results := [.lit (.bool true)], args := [d1, d2] }
  | _ => none }
def fnExactCheckSharesRow : OpenClaim := { program := "ytllkgieajoiiaaa", sum := "830d63eadb82bc0ac72503a407ce7a0f25c8dc220e36557074de101d1b3bf328", func := "loop.example/g00516/laws.FnExactCheckShares", spec := "fnExactCheckShares", unfollowed := true, recurses := true, apart := false }
def FnExactCheckSharesSaid : Prop := fnExactCheckSharesRow.holds Try.pinned (OpenSpec.ofChange fnExactCheckSharesSpec)

/-- ITS FALSE NEIGHBOUR: 'it returns false'. Refute it at one input. -/
def fnExactCheckSharesWrong : ChangeSpec := { name := "fnExactCheckShares", fn := fun _ => fun
  | [d1, d2] => { results := [.lit (.bool false)], args := [d1, d2] }
  | _ => none }
def FnExactCheckSharesWrongFalsely : Prop := fnExactCheckSharesRow.holds Try.pinned (OpenSpec.ofChange fnExactCheckSharesWrong)

/-- 'laws.FnExactEvaluateAll': WHATEVER THE INPUT: true; the input reads as it did. -/
def fnExactEvaluateAllSpec : ChangeSpec := { name := "fnExactEvaluateAll", fn := fun _ => fun
  | [d] => { results := [.lit (.bool true)], args := [d] }
  | _ => none }
def fnExactEvaluateAllRow : OpenClaim := { program := "ytllkgieajoiiaaa", sum := "830d63eadb82bc0ac72503a407ce7a0f25c8dc220e36557074de101d1b3bf328", func := "loop.example/g00516/laws.FnExactEvaluateAll", spec := "fnExactEvaluateAll", apart := false }
def FnExactEvaluateAllSaid : Prop := fnExactEvaluateAllRow.holds Try.pinned (OpenSpec.ofChange fnExactEvaluateAllSpec)

/-- ITS FALSE NEIGHBOUR: 'it returns false'. Refute it at one input. -/
def fnExactEvaluateAllWrong : ChangeSpec := { name := "fnExactEvaluateAll", fn := fun _ => fun
  | [d] => { results := [.lit (.bool false)], args := [d] }
  | _ => none }
def FnExactEvaluateAllWrongFalsely : Prop := fnExactEvaluateAllRow.holds Try.pinned (OpenSpec.ofChange fnExactEvaluateAllWrong)

/-- 'laws.FnSketches': WHATEVER THE INPUT: true; the input reads as it did. -/
def fnSketchesSpec : ChangeSpec := { name := "fnSketches", fn := fun _ => fun
  | [d] => { results := [.lit (.bool true)], args := [d] }
  | _ => none }
def fnSketchesRow : OpenClaim := { program := "ytllkgieajoiiaaa", sum := "830d63eadb82bc0ac72503a407ce7a0f25c8dc220e36557074de101d1b3bf328", func := "loop.example/g00516/laws.FnSketches", spec := "fnSketches", unfollowed := true, recurses := true, apart := false }
def FnSketchesSaid : Prop := fnSketchesRow.holds Try.pinned (OpenSpec.ofChange fnSketchesSpec)

/-- ITS FALSE NEIGHBOUR: 'it returns false'. Refute it at one input. -/
def fnSketchesWrong : ChangeSpec := { name := "fnSketches", fn := fun _ => fun
  | [d] => { results := [.lit (.bool false)], args := [d] }
  | _ => none }
def FnSketchesWrongFalsely : Prop := fnSketchesRow.holds Try.pinned (OpenSpec.ofChange fnSketchesWrong)

/- THE SECOND FORM. 'bulk': how many values and letters a reading holds, each counted each time it is reached (what is shared counts as often as it is met; a slice's spare places count too). A statement '..UptoSaid' is the law's where the arguments, and the package variables that the reading takes, are together of bulk at most 1048576: NARROWER than '..Said'. Prove '..Said' where nothing that the law and all that it calls make is longer than what came in: it says more and counts as full. Else prove '..UptoSaid'. A law counts once. -/
mutual
def uptoBulk {H : Type} : DataW H → Nat
  | .lit (.string bytes) => bytes.length + 1
  | .lit _ => 1
  | .nil => 1
  | .ptr d => uptoBulk d + 1
  | .slice elems spare => uptoBulkAll elems + uptoBulkAll spare + 1
  | .agg parts => uptoBulkAll parts + 1
  | .iface _ d => uptoBulk d + 1
  | .map entries => uptoBulkEntries entries + 1
  | .held _ => 1
def uptoBulkAll {H : Type} : List (DataW H) → Nat
  | [] => 0
  | d :: r => uptoBulk d + uptoBulkAll r
def uptoBulkEntries {H : Type} : List (Lit × DataW H) → Nat
  | [] => 0
  | x :: r => uptoBulkEntry x + uptoBulkEntries r
def uptoBulkEntry {H : Type} : Lit × DataW H → Nat
  | (.string bytes, d) => bytes.length + uptoBulk d + 1
  | (_, d) => uptoBulk d + 1
 end
def uptoSmall : (H : Type) → List (DataW H) → Bool := fun _ ds => decide (uptoBulkAll ds ≤ 1048576)
def OpenSpec.upto (s : _root_.Go.ChangeSpec) : _root_.Go.OpenSpec := { _root_.Go.OpenSpec.ofChange s with cond := some uptoSmall }

/-- 'laws.FnExactShareVector', WHERE WHAT IT READS IS OF BULK AT MOST 1048576: true; the input reads as it did. -/
def fnExactShareVectorUptoRow : OpenClaim := { program := "ytllkgieajoiiaaa", sum := "830d63eadb82bc0ac72503a407ce7a0f25c8dc220e36557074de101d1b3bf328", func := "loop.example/g00516/laws.FnExactShareVector", spec := "fnExactShareVector", apart := false, narrowed := true }
def FnExactShareVectorUptoSaid : Prop := fnExactShareVectorUptoRow.holds Try.pinned (OpenSpec.upto fnExactShareVectorSpec)

/-- 'laws.FnExactSketchShare', WHERE WHAT IT READS IS OF BULK AT MOST 1048576: true; the input reads as it did. -/
def fnExactSketchShareUptoRow : OpenClaim := { program := "ytllkgieajoiiaaa", sum := "830d63eadb82bc0ac72503a407ce7a0f25c8dc220e36557074de101d1b3bf328", func := "loop.example/g00516/laws.FnExactSketchShare", spec := "fnExactSketchShare", unfollowed := true, recurses := true, apart := false, narrowed := true }
def FnExactSketchShareUptoSaid : Prop := fnExactSketchShareUptoRow.holds Try.pinned (OpenSpec.upto fnExactSketchShareSpec)

/-- 'laws.FnSketchesDetect', WHERE WHAT IT READS IS OF BULK AT MOST 1048576: true; the input reads as it did. -/
def fnSketchesDetectUptoRow : OpenClaim := { program := "ytllkgieajoiiaaa", sum := "830d63eadb82bc0ac72503a407ce7a0f25c8dc220e36557074de101d1b3bf328", func := "loop.example/g00516/laws.FnSketchesDetect", spec := "fnSketchesDetect", unfollowed := true, recurses := true, apart := false, narrowed := true }
def FnSketchesDetectUptoSaid : Prop := fnSketchesDetectUptoRow.holds Try.pinned (OpenSpec.upto fnSketchesDetectSpec)

/-- 'laws.FnExactCountAccepting', WHERE WHAT IT READS IS OF BULK AT MOST 1048576: true; the input reads as it did. -/
def fnExactCountAcceptingUptoRow : OpenClaim := { program := "ytllkgieajoiiaaa", sum := "830d63eadb82bc0ac72503a407ce7a0f25c8dc220e36557074de101d1b3bf328", func := "loop.example/g00516/laws.FnExactCountAccepting", spec := "fnExactCountAccepting", unfollowed := true, recurses := true, apart := false, narrowed := true }
def FnExactCountAcceptingUptoSaid : Prop := fnExactCountAcceptingUptoRow.holds Try.pinned (OpenSpec.upto fnExactCountAcceptingSpec)

/-- 'laws.FnExactJoinSketches', WHERE WHAT IT READS IS OF BULK AT MOST 1048576: true; the input reads as it did. -/
def fnExactJoinSketchesUptoRow : OpenClaim := { program := "ytllkgieajoiiaaa", sum := "830d63eadb82bc0ac72503a407ce7a0f25c8dc220e36557074de101d1b3bf328", func := "loop.example/g00516/laws.FnExactJoinSketches", spec := "fnExactJoinSketches", unfollowed := true, recurses := true, apart := false, narrowed := true }
def FnExactJoinSketchesUptoSaid : Prop := fnExactJoinSketchesUptoRow.holds Try.pinned (OpenSpec.upto fnExactJoinSketchesSpec)

/-- 'laws.FnPointReading', WHERE WHAT IT READS IS OF BULK AT MOST 1048576: true; the input reads as it did. -/
def fnPointReadingUptoRow : OpenClaim := { program := "ytllkgieajoiiaaa", sum := "830d63eadb82bc0ac72503a407ce7a0f25c8dc220e36557074de101d1b3bf328", func := "loop.example/g00516/laws.FnPointReading", spec := "fnPointReading", unfollowed := true, recurses := true, apart := false, narrowed := true }
def FnPointReadingUptoSaid : Prop := fnPointReadingUptoRow.holds Try.pinned (OpenSpec.upto fnPointReadingSpec)

/-- 'laws.FnExactEvaluatePoint', WHERE WHAT IT READS IS OF BULK AT MOST 1048576: true; the input reads as it did. -/
def fnExactEvaluatePointUptoRow : OpenClaim := { program := "ytllkgieajoiiaaa", sum := "830d63eadb82bc0ac72503a407ce7a0f25c8dc220e36557074de101d1b3bf328", func := "loop.example/g00516/laws.FnExactEvaluatePoint", spec := "fnExactEvaluatePoint", apart := false, narrowed := true }
def FnExactEvaluatePointUptoSaid : Prop := fnExactEvaluatePointUptoRow.holds Try.pinned (OpenSpec.upto fnExactEvaluatePointSpec)

/-- 'laws.FnPointKeys', WHERE WHAT IT READS IS OF BULK AT MOST 1048576: true; the input reads as it did. -/
def fnPointKeysUptoRow : OpenClaim := { program := "ytllkgieajoiiaaa", sum := "830d63eadb82bc0ac72503a407ce7a0f25c8dc220e36557074de101d1b3bf328", func := "loop.example/g00516/laws.FnPointKeys", spec := "fnPointKeys", apart := false, narrowed := true }
def FnPointKeysUptoSaid : Prop := fnPointKeysUptoRow.holds Try.pinned (OpenSpec.upto fnPointKeysSpec)

/-- 'laws.FnExactMakePointKeys', WHERE WHAT IT READS IS OF BULK AT MOST 1048576: true; the input reads as it did. -/
def fnExactMakePointKeysUptoRow : OpenClaim := { program := "ytllkgieajoiiaaa", sum := "830d63eadb82bc0ac72503a407ce7a0f25c8dc220e36557074de101d1b3bf328", func := "loop.example/g00516/laws.FnExactMakePointKeys", spec := "fnExactMakePointKeys", apart := false, narrowed := true }
def FnExactMakePointKeysUptoSaid : Prop := fnExactMakePointKeysUptoRow.holds Try.pinned (OpenSpec.upto fnExactMakePointKeysSpec)

/-- 'laws.FnExactCheckShares', WHERE WHAT IT READS IS OF BULK AT MOST 1048576: true; the input reads as it did. -/
def fnExactCheckSharesUptoRow : OpenClaim := { program := "ytllkgieajoiiaaa", sum := "830d63eadb82bc0ac72503a407ce7a0f25c8dc220e36557074de101d1b3bf328", func := "loop.example/g00516/laws.FnExactCheckShares", spec := "fnExactCheckShares", unfollowed := true, recurses := true, apart := false, narrowed := true }
def FnExactCheckSharesUptoSaid : Prop := fnExactCheckSharesUptoRow.holds Try.pinned (OpenSpec.upto fnExactCheckSharesSpec)

/-- 'laws.FnExactEvaluateAll', WHERE WHAT IT READS IS OF BULK AT MOST 1048576: true; the input reads as it did. -/
def fnExactEvaluateAllUptoRow : OpenClaim := { program := "ytllkgieajoiiaaa", sum := "830d63eadb82bc0ac72503a407ce7a0f25c8dc220e36557074de101d1b3bf328", func := "loop.example/g00516/laws.FnExactEvaluateAll", spec := "fnExactEvaluateAll", apart := false, narrowed := true }
def FnExactEvaluateAllUptoSaid : Prop := fnExactEvaluateAllUptoRow.holds Try.pinned (OpenSpec.upto fnExactEvaluateAllSpec)

/-- 'laws.FnSketches', WHERE WHAT IT READS IS OF BULK AT MOST 1048576: true; the input reads as it did. -/
def fnSketchesUptoRow : OpenClaim := { program := "ytllkgieajoiiaaa", sum := "830d63eadb82bc0ac72503a407ce7a0f25c8dc220e36557074de101d1b3bf328", func := "loop.example/g00516/laws.FnSketches", spec := "fnSketches", unfollowed := true, recurses := true, apart := false, narrowed := true }
def FnSketchesUptoSaid : Prop := fnSketchesUptoRow.holds Try.pinned (OpenSpec.upto fnSketchesSpec)

end Rows
end Go.Proofs.Ytllkgieajoiiaaa
