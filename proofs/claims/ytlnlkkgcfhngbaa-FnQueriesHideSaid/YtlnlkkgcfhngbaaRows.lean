/-
  No cell of these rows narrows 'for every input' (looked for: loops, veiled, ifaces, maps, wideKeys, modest, calm, conditions, laid).
  DERIVED. THE GIVEN ROWS OF THIS SEAT. 12 by the template 'for every input the law returns true; each argument reads behind the call as it read before'; 0 by the template 'total and deterministic' (their statements: YtlnlkkgcfhngbaaTotals.lean).
  GIVEN WITH THE SEED: the statements are not yours to turn. If you find one false, say at which input.
  Laid BY PROGRAM, IN A SANDBOX (cutbox-rows.mjs): the forced cells as the released guide's own fill.sh prints them over the translation fd1f0d60dc73aea2… (all of the seat's roots in one cut). By AI agents, Wed Nov 11 2026. No macro, syntax, notation, axiom, sorry.
-/
import Derived.Test.YtlnlkkgcfhngbaaChecked
import GoSem.Claim
import GoSem.ClaimJoined
import GoSem.ClaimMapViews
import Derived.JoinedTies
import Derived.KernelRfl
namespace Go.Proofs.Ytlnlkkgcfhngbaa
/- THE CELL 'sum', in the pinned program and in every row, IS THE sha256 OF THE DUMP (.gsa) THAT YtlnlkkgcfhngbaaProg.lean LOADS. Nothing in Lean hashes anything: it is a label: what it is worth is what the hold of that sum in a sandbox is worth. -/
noncomputable def Try.pinned : Pinned := { name := "ytlnlkkgcfhngbaa", sum := "fd1f0d60dc73aea2e33beeecba0bee7b5f11ffc52530c4904f301886fe716a71", checked := Try.checked }
namespace Rows
def none {H : Type} : Left H := { results := [], args := [] }

/-- 'laws.FnPrivateReading': WHATEVER THE INPUT: true; the input reads as it did. -/
def fnPrivateReadingSpec : ChangeSpec := { name := "fnPrivateReading", fn := fun _ => fun
  | [d] => { results := [.lit (.bool true)], args := [d] }
  | _ => none }
def fnPrivateReadingRow : OpenClaim := { program := "ytlnlkkgcfhngbaa", sum := "fd1f0d60dc73aea2e33beeecba0bee7b5f11ffc52530c4904f301886fe716a71", func := "loop.example/g00516/laws.FnPrivateReading", spec := "fnPrivateReading", unfollowed := true, recurses := true, apart := false }
def FnPrivateReadingSaid : Prop := fnPrivateReadingRow.holds Try.pinned (OpenSpec.ofChange fnPrivateReadingSpec)

/-- ITS FALSE NEIGHBOUR: 'it returns false'. Refute it at one input. -/
def fnPrivateReadingWrong : ChangeSpec := { name := "fnPrivateReading", fn := fun _ => fun
  | [d] => { results := [.lit (.bool false)], args := [d] }
  | _ => none }
def FnPrivateReadingWrongFalsely : Prop := fnPrivateReadingRow.holds Try.pinned (OpenSpec.ofChange fnPrivateReadingWrong)

/-- 'laws.FnExactReadPrivately': WHATEVER THE INPUT: true; the input reads as it did. -/
def fnExactReadPrivatelySpec : ChangeSpec := { name := "fnExactReadPrivately", fn := fun _ => fun
  | [d1, d2, d3] => { results := [.lit (.bool true)], args := [d1, d2, d3] }
  | _ => none }
def fnExactReadPrivatelyRow : OpenClaim := { program := "ytlnlkkgcfhngbaa", sum := "fd1f0d60dc73aea2e33beeecba0bee7b5f11ffc52530c4904f301886fe716a71", func := "loop.example/g00516/laws.FnExactReadPrivately", spec := "fnExactReadPrivately", unfollowed := true, recurses := true, apart := false }
def FnExactReadPrivatelySaid : Prop := fnExactReadPrivatelyRow.holds Try.pinned (OpenSpec.ofChange fnExactReadPrivatelySpec)

/-- ITS FALSE NEIGHBOUR: 'it returns false'. Refute it at one input. -/
def fnExactReadPrivatelyWrong : ChangeSpec := { name := "fnExactReadPrivately", fn := fun _ => fun
  | [d1, d2, d3] => { results := [.lit (.bool false)], args := [d1, d2, d3] }
  | _ => none }
def FnExactReadPrivatelyWrongFalsely : Prop := fnExactReadPrivatelyRow.holds Try.pinned (OpenSpec.ofChange fnExactReadPrivatelyWrong)

/-- 'laws.FnExactCombineAnswers': WHATEVER THE INPUT: true; the input reads as it did. -/
def fnExactCombineAnswersSpec : ChangeSpec := { name := "fnExactCombineAnswers", fn := fun _ => fun
  | [d] => { results := [.lit (.bool true)], args := [d] }
  | _ => none }
def fnExactCombineAnswersRow : OpenClaim := { program := "ytlnlkkgcfhngbaa", sum := "fd1f0d60dc73aea2e33beeecba0bee7b5f11ffc52530c4904f301886fe716a71", func := "loop.example/g00516/laws.FnExactCombineAnswers", spec := "fnExactCombineAnswers", unfollowed := true, recurses := true, apart := false }
def FnExactCombineAnswersSaid : Prop := fnExactCombineAnswersRow.holds Try.pinned (OpenSpec.ofChange fnExactCombineAnswersSpec)

/-- ITS FALSE NEIGHBOUR: 'it returns false'. Refute it at one input. -/
def fnExactCombineAnswersWrong : ChangeSpec := { name := "fnExactCombineAnswers", fn := fun _ => fun
  | [d] => { results := [.lit (.bool false)], args := [d] }
  | _ => none }
def FnExactCombineAnswersWrongFalsely : Prop := fnExactCombineAnswersRow.holds Try.pinned (OpenSpec.ofChange fnExactCombineAnswersWrong)

/-- 'laws.FnExactJoinQuery': WHATEVER THE INPUT: true; the input reads as it did. -/
def fnExactJoinQuerySpec : ChangeSpec := { name := "fnExactJoinQuery", fn := fun _ => fun
  | [d] => { results := [.lit (.bool true)], args := [d] }
  | _ => none }
def fnExactJoinQueryRow : OpenClaim := { program := "ytlnlkkgcfhngbaa", sum := "fd1f0d60dc73aea2e33beeecba0bee7b5f11ffc52530c4904f301886fe716a71", func := "loop.example/g00516/laws.FnExactJoinQuery", spec := "fnExactJoinQuery", unfollowed := true, recurses := true, apart := false }
def FnExactJoinQuerySaid : Prop := fnExactJoinQueryRow.holds Try.pinned (OpenSpec.ofChange fnExactJoinQuerySpec)

/-- ITS FALSE NEIGHBOUR: 'it returns false'. Refute it at one input. -/
def fnExactJoinQueryWrong : ChangeSpec := { name := "fnExactJoinQuery", fn := fun _ => fun
  | [d] => { results := [.lit (.bool false)], args := [d] }
  | _ => none }
def FnExactJoinQueryWrongFalsely : Prop := fnExactJoinQueryRow.holds Try.pinned (OpenSpec.ofChange fnExactJoinQueryWrong)

/-- 'laws.FnExactJoinShares': WHATEVER THE INPUT: true; the input reads as it did. -/
def fnExactJoinSharesSpec : ChangeSpec := { name := "fnExactJoinShares", fn := fun _ => fun
  | [d] => { results := [.lit (.bool true)], args := [d] }
  | _ => none }
def fnExactJoinSharesRow : OpenClaim := { program := "ytlnlkkgcfhngbaa", sum := "fd1f0d60dc73aea2e33beeecba0bee7b5f11ffc52530c4904f301886fe716a71", func := "loop.example/g00516/laws.FnExactJoinShares", spec := "fnExactJoinShares", unfollowed := true, recurses := true, apart := false }
def FnExactJoinSharesSaid : Prop := fnExactJoinSharesRow.holds Try.pinned (OpenSpec.ofChange fnExactJoinSharesSpec)

/-- ITS FALSE NEIGHBOUR: 'it returns false'. Refute it at one input. -/
def fnExactJoinSharesWrong : ChangeSpec := { name := "fnExactJoinShares", fn := fun _ => fun
  | [d] => { results := [.lit (.bool false)], args := [d] }
  | _ => none }
def FnExactJoinSharesWrongFalsely : Prop := fnExactJoinSharesRow.holds Try.pinned (OpenSpec.ofChange fnExactJoinSharesWrong)

/-- 'laws.FnQueriesHide': WHATEVER THE INPUT: true; the input reads as it did. -/
def fnQueriesHideSpec : ChangeSpec := { name := "fnQueriesHide", fn := fun _ => fun
  | [d] => { results := [.lit (.bool true)], args := [d] }
  | _ => none }
def fnQueriesHideRow : OpenClaim := { program := "ytlnlkkgcfhngbaa", sum := "fd1f0d60dc73aea2e33beeecba0bee7b5f11ffc52530c4904f301886fe716a71", func := "loop.example/g00516/laws.FnQueriesHide", spec := "fnQueriesHide", unfollowed := true, recurses := true, apart := false }
def FnQueriesHideSaid : Prop := fnQueriesHideRow.holds Try.pinned (OpenSpec.ofChange fnQueriesHideSpec)

/-- ITS FALSE NEIGHBOUR: 'it returns false'. Refute it at one input. -/
def fnQueriesHideWrong : ChangeSpec := { name := "fnQueriesHide", fn := fun _ => fun
  | [d] => { results := [.lit (.bool false)], args := [d] }
  | _ => none }
def FnQueriesHideWrongFalsely : Prop := fnQueriesHideRow.holds Try.pinned (OpenSpec.ofChange fnQueriesHideWrong)

/-- 'laws.FnExactExplainSelections': WHATEVER THE INPUT: true; the input reads as it did. -/
def fnExactExplainSelectionsSpec : ChangeSpec := { name := "fnExactExplainSelections", fn := fun _ => fun
  | [d1, d2, d3] => { results := [.lit (.bool true)], args := [d1, d2, d3] }
  | _ => none }
def fnExactExplainSelectionsRow : OpenClaim := { program := "ytlnlkkgcfhngbaa", sum := "fd1f0d60dc73aea2e33beeecba0bee7b5f11ffc52530c4904f301886fe716a71", func := "loop.example/g00516/laws.FnExactExplainSelections", spec := "fnExactExplainSelections", unfollowed := true, recurses := true, apart := false }
def FnExactExplainSelectionsSaid : Prop := fnExactExplainSelectionsRow.holds Try.pinned (OpenSpec.ofChange fnExactExplainSelectionsSpec)

/-- ITS FALSE NEIGHBOUR: 'it returns false'. Refute it at one input. -/
def fnExactExplainSelectionsWrong : ChangeSpec := { name := "fnExactExplainSelections", fn := fun _ => fun
  | [d1, d2, d3] => { results := [.lit (.bool false)], args := [d1, d2, d3] }
  | _ => none }
def FnExactExplainSelectionsWrongFalsely : Prop := fnExactExplainSelectionsRow.holds Try.pinned (OpenSpec.ofChange fnExactExplainSelectionsWrong)

/-- 'laws.FnShares': WHATEVER THE INPUT: true; the input reads as it did. -/
def fnSharesSpec : ChangeSpec := { name := "fnShares", fn := fun _ => fun
  | [d] => { results := [.lit (.bool true)], args := [d] }
  | _ => none }
def fnSharesRow : OpenClaim := { program := "ytlnlkkgcfhngbaa", sum := "fd1f0d60dc73aea2e33beeecba0bee7b5f11ffc52530c4904f301886fe716a71", func := "loop.example/g00516/laws.FnShares", spec := "fnShares", unfollowed := true, recurses := true, apart := false }
def FnSharesSaid : Prop := fnSharesRow.holds Try.pinned (OpenSpec.ofChange fnSharesSpec)

/-- ITS FALSE NEIGHBOUR: 'it returns false'. Refute it at one input. -/
def fnSharesWrong : ChangeSpec := { name := "fnShares", fn := fun _ => fun
  | [d] => { results := [.lit (.bool false)], args := [d] }
  | _ => none }
def FnSharesWrongFalsely : Prop := fnSharesRow.holds Try.pinned (OpenSpec.ofChange fnSharesWrong)

/-- 'laws.FnExactAnswerQuery': WHATEVER THE INPUT: true; the input reads as it did. -/
def fnExactAnswerQuerySpec : ChangeSpec := { name := "fnExactAnswerQuery", fn := fun _ => fun
  | [d1, d2] => { results := [.lit (.bool true)], args := [d1, d2] }
  | _ => none }
def fnExactAnswerQueryRow : OpenClaim := { program := "ytlnlkkgcfhngbaa", sum := "fd1f0d60dc73aea2e33beeecba0bee7b5f11ffc52530c4904f301886fe716a71", func := "loop.example/g00516/laws.FnExactAnswerQuery", spec := "fnExactAnswerQuery", unfollowed := true, recurses := true, apart := false }
def FnExactAnswerQuerySaid : Prop := fnExactAnswerQueryRow.holds Try.pinned (OpenSpec.ofChange fnExactAnswerQuerySpec)

/-- ITS FALSE NEIGHBOUR: 'it returns false'. Refute it at one input. -/
def fnExactAnswerQueryWrong : ChangeSpec := { name := "fnExactAnswerQuery", fn := fun _ => fun
  | [d1, d2] => { results := [.lit (.bool false)], args := [d1, d2] }
  | _ => none }
def FnExactAnswerQueryWrongFalsely : Prop := fnExactAnswerQueryRow.holds Try.pinned (OpenSpec.ofChange fnExactAnswerQueryWrong)

/-- 'laws.FnExactShareBytes': WHATEVER THE INPUT: true; the input reads as it did. -/
def fnExactShareBytesSpec : ChangeSpec := { name := "fnExactShareBytes", fn := fun _ => fun
  | [d1, d2] => { results := [.lit (.bool true)], args := [d1, d2] }
  | _ => none }
def fnExactShareBytesRow : OpenClaim := { program := "ytlnlkkgcfhngbaa", sum := "fd1f0d60dc73aea2e33beeecba0bee7b5f11ffc52530c4904f301886fe716a71", func := "loop.example/g00516/laws.FnExactShareBytes", spec := "fnExactShareBytes", apart := false }
def FnExactShareBytesSaid : Prop := fnExactShareBytesRow.holds Try.pinned (OpenSpec.ofChange fnExactShareBytesSpec)

/-- ITS FALSE NEIGHBOUR: 'it returns false'. Refute it at one input. -/
def fnExactShareBytesWrong : ChangeSpec := { name := "fnExactShareBytes", fn := fun _ => fun
  | [d1, d2] => { results := [.lit (.bool false)], args := [d1, d2] }
  | _ => none }
def FnExactShareBytesWrongFalsely : Prop := fnExactShareBytesRow.holds Try.pinned (OpenSpec.ofChange fnExactShareBytesWrong)

/-- 'laws.FnExactMakeQuery': WHATEVER THE INPUT: true; the input reads as it did. -/
def fnExactMakeQuerySpec : ChangeSpec := { name := "fnExactMakeQuery", fn := fun _ => fun
  | [d1, d2, d3] => { results := [.lit (.bool true)], args := [d1, d2, d3] }
  | _ => none }
def fnExactMakeQueryRow : OpenClaim := { program := "ytlnlkkgcfhngbaa", sum := "fd1f0d60dc73aea2e33beeecba0bee7b5f11ffc52530c4904f301886fe716a71", func := "loop.example/g00516/laws.FnExactMakeQuery", spec := "fnExactMakeQuery", unfollowed := true, recurses := true, apart := false }
def FnExactMakeQuerySaid : Prop := fnExactMakeQueryRow.holds Try.pinned (OpenSpec.ofChange fnExactMakeQuerySpec)

/-- ITS FALSE NEIGHBOUR: 'it returns false'. Refute it at one input. -/
def fnExactMakeQueryWrong : ChangeSpec := { name := "fnExactMakeQuery", fn := fun _ => fun
  | [d1, d2, d3] => { results := [.lit (.bool false)], args := [d1, d2, d3] }
  | _ => none }
def FnExactMakeQueryWrongFalsely : Prop := fnExactMakeQueryRow.holds Try.pinned (OpenSpec.ofChange fnExactMakeQueryWrong)

/-- 'laws.FnExactRefreshShares': WHATEVER THE INPUT: true; the input reads as it did. -/
def fnExactRefreshSharesSpec : ChangeSpec := { name := "fnExactRefreshShares", fn := fun _ => fun
  | [d1, d2] => { results := [.lit (.bool true)], args := [d1, d2] }
  | _ => none }
def fnExactRefreshSharesRow : OpenClaim := { program := "ytlnlkkgcfhngbaa", sum := "fd1f0d60dc73aea2e33beeecba0bee7b5f11ffc52530c4904f301886fe716a71", func := "loop.example/g00516/laws.FnExactRefreshShares", spec := "fnExactRefreshShares", unfollowed := true, recurses := true, apart := false }
def FnExactRefreshSharesSaid : Prop := fnExactRefreshSharesRow.holds Try.pinned (OpenSpec.ofChange fnExactRefreshSharesSpec)

/-- ITS FALSE NEIGHBOUR: 'it returns false'. Refute it at one input. -/
def fnExactRefreshSharesWrong : ChangeSpec := { name := "fnExactRefreshShares", fn := fun _ => fun
  | [d1, d2] => { results := [.lit (.bool false)], args := [d1, d2] }
  | _ => none }
def FnExactRefreshSharesWrongFalsely : Prop := fnExactRefreshSharesRow.holds Try.pinned (OpenSpec.ofChange fnExactRefreshSharesWrong)

/- THE SECOND FORM. 'bulk': how many values and letters a reading holds, each counted each time it is reached (what is shared counts as often as it is met; a slice's spare places count too). A statement '..UptoSaid' is the law's where the arguments, and the package variables that the reading takes, are together of bulk at most 1048576: NARROWER than '..Said'. Prove '..Said' where nothing that the law and all that it calls make is longer than what came in: it says more and counts as full. Else prove '..UptoSaid'. A law counts once. -/
mutual
def uptoBulk {H : Type} : DataW H → Nat
  | .lit (.string bytes) => bytes.length + 1
  | .lit _ => 1
  | .nil => 1
  | .ptr d => uptoBulk d + 1
  | .slice elems spare => uptoBulkAll elems + uptoBulkAll spare + 1
  | .agg parts => uptoBulkAll parts + 1
  | .iface _ d => uptoBulk d + 1
  | .map entries => uptoBulkEntries entries + 1
  | .held _ => 1
def uptoBulkAll {H : Type} : List (DataW H) → Nat
  | [] => 0
  | d :: r => uptoBulk d + uptoBulkAll r
def uptoBulkEntries {H : Type} : List (Lit × DataW H) → Nat
  | [] => 0
  | x :: r => uptoBulkEntry x + uptoBulkEntries r
def uptoBulkEntry {H : Type} : Lit × DataW H → Nat
  | (.string bytes, d) => bytes.length + uptoBulk d + 1
  | (_, d) => uptoBulk d + 1
 end
def uptoSmall : (H : Type) → List (DataW H) → Bool := fun _ ds => decide (uptoBulkAll ds ≤ 1048576)
def OpenSpec.upto (s : _root_.Go.ChangeSpec) : _root_.Go.OpenSpec := { _root_.Go.OpenSpec.ofChange s with cond := some uptoSmall }

/-- 'laws.FnPrivateReading', WHERE WHAT IT READS IS OF BULK AT MOST 1048576: true; the input reads as it did. -/
def fnPrivateReadingUptoRow : OpenClaim := { program := "ytlnlkkgcfhngbaa", sum := "fd1f0d60dc73aea2e33beeecba0bee7b5f11ffc52530c4904f301886fe716a71", func := "loop.example/g00516/laws.FnPrivateReading", spec := "fnPrivateReading", unfollowed := true, recurses := true, apart := false, narrowed := true }
def FnPrivateReadingUptoSaid : Prop := fnPrivateReadingUptoRow.holds Try.pinned (OpenSpec.upto fnPrivateReadingSpec)

/-- 'laws.FnExactReadPrivately', WHERE WHAT IT READS IS OF BULK AT MOST 1048576: true; the input reads as it did. -/
def fnExactReadPrivatelyUptoRow : OpenClaim := { program := "ytlnlkkgcfhngbaa", sum := "fd1f0d60dc73aea2e33beeecba0bee7b5f11ffc52530c4904f301886fe716a71", func := "loop.example/g00516/laws.FnExactReadPrivately", spec := "fnExactReadPrivately", unfollowed := true, recurses := true, apart := false, narrowed := true }
def FnExactReadPrivatelyUptoSaid : Prop := fnExactReadPrivatelyUptoRow.holds Try.pinned (OpenSpec.upto fnExactReadPrivatelySpec)

/-- 'laws.FnExactCombineAnswers', WHERE WHAT IT READS IS OF BULK AT MOST 1048576: true; the input reads as it did. -/
def fnExactCombineAnswersUptoRow : OpenClaim := { program := "ytlnlkkgcfhngbaa", sum := "fd1f0d60dc73aea2e33beeecba0bee7b5f11ffc52530c4904f301886fe716a71", func := "loop.example/g00516/laws.FnExactCombineAnswers", spec := "fnExactCombineAnswers", unfollowed := true, recurses := true, apart := false, narrowed := true }
def FnExactCombineAnswersUptoSaid : Prop := fnExactCombineAnswersUptoRow.holds Try.pinned (OpenSpec.upto fnExactCombineAnswersSpec)

/-- 'laws.FnExactJoinQuery', WHERE WHAT IT READS IS OF BULK AT MOST 1048576: true; the input reads as it did. -/
def fnExactJoinQueryUptoRow : OpenClaim := { program := "ytlnlkkgcfhngbaa", sum := "fd1f0d60dc73aea2e33beeecba0bee7b5f11ffc52530c4904f301886fe716a71", func := "loop.example/g00516/laws.FnExactJoinQuery", spec := "fnExactJoinQuery", unfollowed := true, recurses := true, apart := false, narrowed := true }
def FnExactJoinQueryUptoSaid : Prop := fnExactJoinQueryUptoRow.holds Try.pinned (OpenSpec.upto fnExactJoinQuerySpec)

/-- 'laws.FnExactJoinShares', WHERE WHAT IT READS IS OF BULK AT MOST 1048576: true; the input reads as it did. -/
def fnExactJoinSharesUptoRow : OpenClaim := { program := "ytlnlkkgcfhngbaa", sum := "fd1f0d60dc73aea2e33beeecba0bee7b5f11ffc52530c4904f301886fe716a71", func := "loop.example/g00516/laws.FnExactJoinShares", spec := "fnExactJoinShares", unfollowed := true, recurses := true, apart := false, narrowed := true }
def FnExactJoinSharesUptoSaid : Prop := fnExactJoinSharesUptoRow.holds Try.pinned (OpenSpec.upto fnExactJoinSharesSpec)

/-- 'laws.FnQueriesHide', WHERE WHAT IT READS IS OF BULK AT MOST 1048576: true; the input reads as it did. -/
def fnQueriesHideUptoRow : OpenClaim := { program := "ytlnlkkgcfhngbaa", sum := "fd1f0d60dc73aea2e33beeecba0bee7b5f11ffc52530c4904f301886fe716a71", func := "loop.example/g00516/laws.FnQueriesHide", spec := "fnQueriesHide", unfollowed := true, recurses := true, apart := false, narrowed := true }
def FnQueriesHideUptoSaid : Prop := fnQueriesHideUptoRow.holds Try.pinned (OpenSpec.upto fnQueriesHideSpec)

/-- 'laws.FnExactExplainSelections', WHERE WHAT IT READS IS OF BULK AT MOST 1048576: true; the input reads as it did. -/
def fnExactExplainSelectionsUptoRow : OpenClaim := { program := "ytlnlkkgcfhngbaa", sum := "fd1f0d60dc73aea2e33beeecba0bee7b5f11ffc52530c4904f301886fe716a71", func := "loop.example/g00516/laws.FnExactExplainSelections", spec := "fnExactExplainSelections", unfollowed := true, recurses := true, apart := false, narrowed := true }
def FnExactExplainSelectionsUptoSaid : Prop := fnExactExplainSelectionsUptoRow.holds Try.pinned (OpenSpec.upto fnExactExplainSelectionsSpec)

/-- 'laws.FnShares', WHERE WHAT IT READS IS OF BULK AT MOST 1048576: true; the input reads as it did. -/
def fnSharesUptoRow : OpenClaim := { program := "ytlnlkkgcfhngbaa", sum := "fd1f0d60dc73aea2e33beeecba0bee7b5f11ffc52530c4904f301886fe716a71", func := "loop.example/g00516/laws.FnShares", spec := "fnShares", unfollowed := true, recurses := true, apart := false, narrowed := true }
def FnSharesUptoSaid : Prop := fnSharesUptoRow.holds Try.pinned (OpenSpec.upto fnSharesSpec)

/-- 'laws.FnExactAnswerQuery', WHERE WHAT IT READS IS OF BULK AT MOST 1048576: true; the input reads as it did. -/
def fnExactAnswerQueryUptoRow : OpenClaim := { program := "ytlnlkkgcfhngbaa", sum := "fd1f0d60dc73aea2e33beeecba0bee7b5f11ffc52530c4904f301886fe716a71", func := "loop.example/g00516/laws.FnExactAnswerQuery", spec := "fnExactAnswerQuery", unfollowed := true, recurses := true, apart := false, narrowed := true }
def FnExactAnswerQueryUptoSaid : Prop := fnExactAnswerQueryUptoRow.holds Try.pinned (OpenSpec.upto fnExactAnswerQuerySpec)

/-- 'laws.FnExactShareBytes', WHERE WHAT IT READS IS OF BULK AT MOST 1048576: true; the input reads as it did. -/
def fnExactShareBytesUptoRow : OpenClaim := { program := "ytlnlkkgcfhngbaa", sum := "fd1f0d60dc73aea2e33beeecba0bee7b5f11ffc52530c4904f301886fe716a71", func := "loop.example/g00516/laws.FnExactShareBytes", spec := "fnExactShareBytes", apart := false, narrowed := true }
def FnExactShareBytesUptoSaid : Prop := fnExactShareBytesUptoRow.holds Try.pinned (OpenSpec.upto fnExactShareBytesSpec)

/-- 'laws.FnExactMakeQuery', WHERE WHAT IT READS IS OF BULK AT MOST 1048576: true; the input reads as it did. -/
def fnExactMakeQueryUptoRow : OpenClaim := { program := "ytlnlkkgcfhngbaa", sum := "fd1f0d60dc73aea2e33beeecba0bee7b5f11ffc52530c4904f301886fe716a71", func := "loop.example/g00516/laws.FnExactMakeQuery", spec := "fnExactMakeQuery", unfollowed := true, recurses := true, apart := false, narrowed := true }
def FnExactMakeQueryUptoSaid : Prop := fnExactMakeQueryUptoRow.holds Try.pinned (OpenSpec.upto fnExactMakeQuerySpec)

/-- 'laws.FnExactRefreshShares', WHERE WHAT IT READS IS OF BULK AT MOST 1048576: true; the input reads as it did. -/
def fnExactRefreshSharesUptoRow : OpenClaim := { program := "ytlnlkkgcfhngbaa", sum := "fd1f0d60dc73aea2e33beeecba0bee7b5f11ffc52530c4904f301886fe716a71", func := "loop.example/g00516/laws.FnExactRefreshShares", spec := "fnExactRefreshShares", unfollowed := true, recurses := true, apart := false, narrowed := true }
def FnExactRefreshSharesUptoSaid : Prop := fnExactRefreshSharesUptoRow.holds Try.pinned (OpenSpec.upto fnExactRefreshSharesSpec)

end Rows
end Go.Proofs.Ytlnlkkgcfhngbaa
