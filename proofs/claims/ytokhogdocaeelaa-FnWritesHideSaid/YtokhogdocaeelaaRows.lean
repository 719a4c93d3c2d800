/-
  No cell of these rows narrows 'for every input' (looked for: loops, veiled, ifaces, maps, wideKeys, modest, calm, conditions, laid).
  DERIVED. THE GIVEN ROWS OF THIS SEAT. 9 by the template 'for every input the law returns true; each argument reads behind the call as it read before'; 0 by the template 'total and deterministic' (their statements: YtokhogdocaeelaaTotals.lean).
  GIVEN WITH THE SEED: the statements are not yours to turn. If you find one false, say at which input.
  Laid BY PROGRAM, IN A SANDBOX (cutbox-rows.mjs): the forced cells as the released guide's own fill.sh prints them over the translation 93844f9a68875645… (all of the seat's roots in one cut). By AI agents, Wed Nov 11 2026. No macro, syntax, notation, axiom, sorry.
-/
import Derived.Test.YtokhogdocaeelaaChecked
import GoSem.Claim
import GoSem.ClaimJoined
import GoSem.ClaimMapViews
import Derived.JoinedTies
import Derived.KernelRfl
namespace Go.Proofs.Ytokhogdocaeelaa
/- THE CELL 'sum', in the pinned program and in every row, IS THE sha256 OF THE DUMP (.gsa) THAT YtokhogdocaeelaaProg.lean LOADS. Nothing in Lean hashes anything: it is a label: what it is worth is what the hold of that sum in a sandbox is worth. -/
noncomputable def Try.pinned : Pinned := { name := "ytokhogdocaeelaa", sum := "93844f9a68875645caedffa76cf154be564b5a329f94fd9a890ae00a64d17ba2", checked := Try.checked }
namespace Rows
def none {H : Type} : Left H := { results := [], args := [] }

/-- 'laws.FnPrivateWriting': WHATEVER THE INPUT: true; the input reads as it did. -/
def fnPrivateWritingSpec : ChangeSpec := { name := "fnPrivateWriting", fn := fun _ => fun
  | [d] => { results := [.lit (.bool true)], args := [d] }
  | _ => none }
def fnPrivateWritingRow : OpenClaim := { program := "ytokhogdocaeelaa", sum := "93844f9a68875645caedffa76cf154be564b5a329f94fd9a890ae00a64d17ba2", func := "loop.example/g00516/laws.FnPrivateWriting", spec := "fnPrivateWriting", unfollowed := true, recurses := true, apart := false }
def FnPrivateWritingSaid : Prop := fnPrivateWritingRow.holds Try.pinned (OpenSpec.ofChange fnPrivateWritingSpec)

/-- ITS FALSE NEIGHBOUR: 'it returns false'. Refute it at one input. -/
def fnPrivateWritingWrong : ChangeSpec := { name := "fnPrivateWriting", fn := fun _ => fun
  | [d] => { results := [.lit (.bool false)], args := [d] }
  | _ => none }
def FnPrivateWritingWrongFalsely : Prop := fnPrivateWritingRow.holds Try.pinned (OpenSpec.ofChange fnPrivateWritingWrong)

/-- 'laws.FnWritesHide': WHATEVER THE INPUT: true; the input reads as it did. -/
def fnWritesHideSpec : ChangeSpec := { name := "fnWritesHide", fn := fun _ => fun
  | [d] => { results := [.lit (.bool true)], args := [d] }
  | _ => none }
def fnWritesHideRow : OpenClaim := { program := "ytokhogdocaeelaa", sum := "93844f9a68875645caedffa76cf154be564b5a329f94fd9a890ae00a64d17ba2", func := "loop.example/g00516/laws.FnWritesHide", spec := "fnWritesHide", unfollowed := true, recurses := true, apart := false }
def FnWritesHideSaid : Prop := fnWritesHideRow.holds Try.pinned (OpenSpec.ofChange fnWritesHideSpec)

/-- ITS FALSE NEIGHBOUR: 'it returns false'. Refute it at one input. -/
def fnWritesHideWrong : ChangeSpec := { name := "fnWritesHide", fn := fun _ => fun
  | [d] => { results := [.lit (.bool false)], args := [d] }
  | _ => none }
def FnWritesHideWrongFalsely : Prop := fnWritesHideRow.holds Try.pinned (OpenSpec.ofChange fnWritesHideWrong)

/-- 'laws.FnExactJoinWrites': WHATEVER THE INPUT: true; the input reads as it did. -/
def fnExactJoinWritesSpec : ChangeSpec := { name := "fnExactJoinWrites", fn := fun _ => fun
  | [d] => { results := [.lit (.bool true)], args := [d] }
  | _ => none }
def fnExactJoinWritesRow : OpenClaim := { program := "ytokhogdocaeelaa", sum := "93844f9a68875645caedffa76cf154be564b5a329f94fd9a890ae00a64d17ba2", func := "loop.example/g00516/laws.FnExactJoinWrites", spec := "fnExactJoinWrites", unfollowed := true, recurses := true, apart := false }
def FnExactJoinWritesSaid : Prop := fnExactJoinWritesRow.holds Try.pinned (OpenSpec.ofChange fnExactJoinWritesSpec)

/-- ITS FALSE NEIGHBOUR: 'it returns false'. Refute it at one input. -/
def fnExactJoinWritesWrong : ChangeSpec := { name := "fnExactJoinWrites", fn := fun _ => fun
  | [d] => { results := [.lit (.bool false)], args := [d] }
  | _ => none }
def FnExactJoinWritesWrongFalsely : Prop := fnExactJoinWritesRow.holds Try.pinned (OpenSpec.ofChange fnExactJoinWritesWrong)

/-- 'laws.FnExactExplainWrite': WHATEVER THE INPUT: true; the input reads as it did. -/
def fnExactExplainWriteSpec : ChangeSpec := { name := "fnExactExplainWrite", fn := fun _ => fun
  | [d1, d2, d3, d4] => { results := [.lit (.bool true)], args := [d1, d2, d3, d4] }
  | _ => none }
def fnExactExplainWriteRow : OpenClaim := { program := "ytokhogdocaeelaa", sum := "93844f9a68875645caedffa76cf154be564b5a329f94fd9a890ae00a64d17ba2", func := "loop.example/g00516/laws.FnExactExplainWrite", spec := "fnExactExplainWrite", unfollowed := true, recurses := true, apart := false }
def FnExactExplainWriteSaid : Prop := fnExactExplainWriteRow.holds Try.pinned (OpenSpec.ofChange fnExactExplainWriteSpec)

/-- ITS FALSE NEIGHBOUR: 'it returns false'. Refute it at one input. -/
def fnExactExplainWriteWrong : ChangeSpec := { name := "fnExactExplainWrite", fn := fun _ => fun
  | [d1, d2, d3, d4] => { results := [.lit (.bool false)], args := [d1, d2, d3, d4] }
  | _ => none }
def FnExactExplainWriteWrongFalsely : Prop := fnExactExplainWriteRow.holds Try.pinned (OpenSpec.ofChange fnExactExplainWriteWrong)

/-- 'laws.FnExactMakeWrite': WHATEVER THE INPUT: true; the input reads as it did. -/
def fnExactMakeWriteSpec : ChangeSpec := { name := "fnExactMakeWrite", fn := fun _ => fun
  | [d1, d2, d3, d4] => { results := [.lit (.bool true)], args := [d1, d2, d3, d4] }
  | _ => none }
def fnExactMakeWriteRow : OpenClaim := { program := "ytokhogdocaeelaa", sum := "93844f9a68875645caedffa76cf154be564b5a329f94fd9a890ae00a64d17ba2", func := "loop.example/g00516/laws.FnExactMakeWrite", spec := "fnExactMakeWrite", unfollowed := true, recurses := true, apart := false }
def FnExactMakeWriteSaid : Prop := fnExactMakeWriteRow.holds Try.pinned (OpenSpec.ofChange fnExactMakeWriteSpec)

/-- ITS FALSE NEIGHBOUR: 'it returns false'. Refute it at one input. -/
def fnExactMakeWriteWrong : ChangeSpec := { name := "fnExactMakeWrite", fn := fun _ => fun
  | [d1, d2, d3, d4] => { results := [.lit (.bool false)], args := [d1, d2, d3, d4] }
  | _ => none }
def FnExactMakeWriteWrongFalsely : Prop := fnExactMakeWriteRow.holds Try.pinned (OpenSpec.ofChange fnExactMakeWriteWrong)

/-- 'laws.FnExactFindCounter': WHATEVER THE INPUT: true; the input reads as it did. -/
def fnExactFindCounterSpec : ChangeSpec := { name := "fnExactFindCounter", fn := fun _ => fun
  | [d1, d2, d3, d4] => { results := [.lit (.bool true)], args := [d1, d2, d3, d4] }
  | _ => none }
def fnExactFindCounterRow : OpenClaim := { program := "ytokhogdocaeelaa", sum := "93844f9a68875645caedffa76cf154be564b5a329f94fd9a890ae00a64d17ba2", func := "loop.example/g00516/laws.FnExactFindCounter", spec := "fnExactFindCounter", apart := false }
def FnExactFindCounterSaid : Prop := fnExactFindCounterRow.holds Try.pinned (OpenSpec.ofChange fnExactFindCounterSpec)

/-- ITS FALSE NEIGHBOUR: 'it returns false'. Refute it at one input. -/
def fnExactFindCounterWrong : ChangeSpec := { name := "fnExactFindCounter", fn := fun _ => fun
  | [d1, d2, d3, d4] => { results := [.lit (.bool false)], args := [d1, d2, d3, d4] }
  | _ => none }
def FnExactFindCounterWrongFalsely : Prop := fnExactFindCounterRow.holds Try.pinned (OpenSpec.ofChange fnExactFindCounterWrong)

/-- 'laws.FnExactOpenCell': WHATEVER THE INPUT: true; the input reads as it did. -/
def fnExactOpenCellSpec : ChangeSpec := { name := "fnExactOpenCell", fn := fun _ => fun
  | [d1, d2, d3] => { results := [.lit (.bool true)], args := [d1, d2, d3] }
  | _ => none }
def fnExactOpenCellRow : OpenClaim := { program := "ytokhogdocaeelaa", sum := "93844f9a68875645caedffa76cf154be564b5a329f94fd9a890ae00a64d17ba2", func := "loop.example/g00516/laws.FnExactOpenCell", spec := "fnExactOpenCell", apart := false }
def FnExactOpenCellSaid : Prop := fnExactOpenCellRow.holds Try.pinned (OpenSpec.ofChange fnExactOpenCellSpec)

/-- ITS FALSE NEIGHBOUR: 'it returns false'. Refute it at one input. -/
def fnExactOpenCellWrong : ChangeSpec := { name := "fnExactOpenCell", fn := fun _ => fun
  | [d1, d2, d3] => { results := [.lit (.bool false)], args := [d1, d2, d3] }
  | _ => none }
def FnExactOpenCellWrongFalsely : Prop := fnExactOpenCellRow.holds Try.pinned (OpenSpec.ofChange fnExactOpenCellWrong)

/-- 'laws.FnExactSealCell': WHATEVER THE INPUT: true; the input reads as it did. -/
def fnExactSealCellSpec : ChangeSpec := { name := "fnExactSealCell", fn := fun _ => fun
  | [d1, d2, d3] => { results := [.lit (.bool true)], args := [d1, d2, d3] }
  | _ => none }
def fnExactSealCellRow : OpenClaim := { program := "ytokhogdocaeelaa", sum := "93844f9a68875645caedffa76cf154be564b5a329f94fd9a890ae00a64d17ba2", func := "loop.example/g00516/laws.FnExactSealCell", spec := "fnExactSealCell", apart := false }
def FnExactSealCellSaid : Prop := fnExactSealCellRow.holds Try.pinned (OpenSpec.ofChange fnExactSealCellSpec)

/-- ITS FALSE NEIGHBOUR: 'it returns false'. Refute it at one input. -/
def fnExactSealCellWrong : ChangeSpec := { name := "fnExactSealCell", fn := fun _ => fun
  | [d1, d2, d3] => { results := [.lit (.bool false)], args := [d1, d2, d3] }
  | _ => none }
def FnExactSealCellWrongFalsely : Prop := fnExactSealCellRow.holds Try.pinned (OpenSpec.ofChange fnExactSealCellWrong)

/-- 'laws.FnCells': WHATEVER THE INPUT: true; the input reads as it did. -/
def fnCellsSpec : ChangeSpec := { name := "fnCells", fn := fun _ => fun
  | [d] => { results := [.lit (.bool true)], args := [d] }
  | _ => none }
def fnCellsRow : OpenClaim := { program := "ytokhogdocaeelaa", sum := "93844f9a68875645caedffa76cf154be564b5a329f94fd9a890ae00a64d17ba2", func := "loop.example/g00516/laws.FnCells", spec := "fnCells", apart := false }
def FnCellsSaid : Prop := fnCellsRow.holds Try.pinned (OpenSpec.ofChange fnCellsSpec)

/-- ITS FALSE NEIGHBOUR: 'it returns false'. Refute it at one input. -/
def fnCellsWrong : ChangeSpec := { name := "fnCells", fn := fun _ => fun
  | [d] => { results := [.lit (.bool false)], args := [d] }
  | _ => none }
def FnCellsWrongFalsely : Prop := fnCellsRow.holds Try.pinned (OpenSpec.ofChange fnCellsWrong)

/- THE SECOND FORM. 'bulk': how many values and letters a reading holds, each counted each time it is reached (what is shared counts as often as it is met; a slice's spare places count too). A statement '..UptoSaid' is the law's where the arguments, and the package variables that the reading takes, are together of bulk at most 1048576: NARROWER than '..Said'. Prove '..Said' where nothing that the law and all that it calls make is longer than what came in: it says more and counts as full. Else prove '..UptoSaid'. A law counts once. -/
mutual
def uptoBulk {H : Type} : DataW H → Nat
  | .lit (.string bytes) => bytes.length + 1
  | .lit _ => 1
  | .nil => 1
  | .ptr d => uptoBulk d + 1
  | .slice elems spare => uptoBulkAll elems + uptoBulkAll spare + 1
  | .agg parts => uptoBulkAll parts + 1
  | .iface _ d => uptoBulk d + 1
  | .map entries => uptoBulkEntries entries + 1
  | .held _ => 1
def uptoBulkAll {H : Type} : List (DataW H) → Nat
  | [] => 0
  | d :: r => uptoBulk d + uptoBulkAll r
def uptoBulkEntries {H : Type} : List (Lit × DataW H) → Nat
  | [] => 0
  | x :: r => uptoBulkEntry x + uptoBulkEntries r
def uptoBulkEntry {H : Type} : Lit × DataW H → Nat
  | (.string bytes, d) => bytes.length + uptoBulk d + 1
  | (_, d) => uptoBulk d + 1
 end
def uptoSmall : (H : Type) → List (DataW H) → Bool := fun _ ds => decide (uptoBulkAll ds ≤ 1048576)
def OpenSpec.upto (s : _root_.Go.ChangeSpec) : _root_.Go.OpenSpec := { _root_.Go.OpenSpec.ofChange s with cond := some uptoSmall }

/-- 'laws.FnPrivateWriting', WHERE WHAT IT READS IS OF BULK AT MOST 1048576: true; the input reads as it did. -/
def fnPrivateWritingUptoRow : OpenClaim := { program := "ytokhogdocaeelaa", sum := "93844f9a68875645caedffa76cf154be564b5a329f94fd9a890ae00a64d17ba2", func := "loop.example/g00516/laws.FnPrivateWriting", spec := "fnPrivateWriting", unfollowed := true, recurses := true, apart := false, narrowed := true }
def FnPrivateWritingUptoSaid : Prop := fnPrivateWritingUptoRow.holds Try.pinned (OpenSpec.upto fnPrivateWritingSpec)

/-- 'laws.FnWritesHide', WHERE WHAT IT READS IS OF BULK AT MOST 1048576: true; the input reads as it did. -/
def fnWritesHideUptoRow : OpenClaim := { program := "ytokhogdocaeelaa", sum := "93844f9a68875645caedffa76cf154be564b5a329f94fd9a890ae00a64d17ba2", func := "loop.example/g00516/laws.FnWritesHide", spec := "fnWritesHide", unfollowed := true, recurses := true, apart := false, narrowed := true }
def FnWritesHideUptoSaid : Prop := fnWritesHideUptoRow.holds Try.pinned (OpenSpec.upto fnWritesHideSpec)

/-- 'laws.FnExactJoinWrites', WHERE WHAT IT READS IS OF BULK AT MOST 1048576: true; the input reads as it did. -/
def fnExactJoinWritesUptoRow : OpenClaim := { program := "ytokhogdocaeelaa", sum := "93844f9a68875645caedffa76cf154be564b5a329f94fd9a890ae00a64d17ba2", func := "loop.example/g00516/laws.FnExactJoinWrites", spec := "fnExactJoinWrites", unfollowed := true, recurses := true, apart := false, narrowed := true }
def FnExactJoinWritesUptoSaid : Prop := fnExactJoinWritesUptoRow.holds Try.pinned (OpenSpec.upto fnExactJoinWritesSpec)

/-- 'laws.FnExactExplainWrite', WHERE WHAT IT READS IS OF BULK AT MOST 1048576: true; the input reads as it did. -/
def fnExactExplainWriteUptoRow : OpenClaim := { program := "ytokhogdocaeelaa", sum := "93844f9a68875645caedffa76cf154be564b5a329f94fd9a890ae00a64d17ba2", func := "loop.example/g00516/laws.FnExactExplainWrite", spec := "fnExactExplainWrite", unfollowed := true, recurses := true, apart := false, narrowed := true }
def FnExactExplainWriteUptoSaid : Prop := fnExactExplainWriteUptoRow.holds Try.pinned (OpenSpec.upto fnExactExplainWriteSpec)

/-- 'laws.FnExactMakeWrite', WHERE WHAT IT READS IS OF BULK AT MOST 1048576: true; the input reads as it did. -/
def fnExactMakeWriteUptoRow : OpenClaim := { program := "ytokhogdocaeelaa", sum := "93844f9a68875645caedffa76cf154be564b5a329f94fd9a890ae00a64d17ba2", func := "loop.example/g00516/laws.FnExactMakeWrite", spec := "fnExactMakeWrite", unfollowed := true, recurses := true, apart := false, narrowed := true }
def FnExactMakeWriteUptoSaid : Prop := fnExactMakeWriteUptoRow.holds Try.pinned (OpenSpec.upto fnExactMakeWriteSpec)

/-- 'laws.FnExactFindCounter', WHERE WHAT IT READS IS OF BULK AT MOST 1048576: true; the input reads as it did. -/
def fnExactFindCounterUptoRow : OpenClaim := { program := "ytokhogdocaeelaa", sum := "93844f9a68875645caedffa76cf154be564b5a329f94fd9a890ae00a64d17ba2", func := "loop.example/g00516/laws.FnExactFindCounter", spec := "fnExactFindCounter", apart := false, narrowed := true }
def FnExactFindCounterUptoSaid : Prop := fnExactFindCounterUptoRow.holds Try.pinned (OpenSpec.upto fnExactFindCounterSpec)

/-- 'laws.FnExactOpenCell', WHERE WHAT IT READS IS OF BULK AT MOST 1048576: true; the input reads as it did. -/
def fnExactOpenCellUptoRow : OpenClaim := { program := "ytokhogdocaeelaa", sum := "93844f9a68875645caedffa76cf154be564b5a329f94fd9a890ae00a64d17ba2", func := "loop.example/g00516/laws.FnExactOpenCell", spec := "fnExactOpenCell", apart := false, narrowed := true }
def FnExactOpenCellUptoSaid : Prop := fnExactOpenCellUptoRow.holds Try.pinned (OpenSpec.upto fnExactOpenCellSpec)

/-- 'laws.FnExactSealCell', WHERE WHAT IT READS IS OF BULK AT MOST 1048576: true; the input reads as it did. -/
def fnExactSealCellUptoRow : OpenClaim := { program := "ytokhogdocaeelaa", sum := "93844f9a68875645caedffa76cf154be564b5a329f94fd9a890ae00a64d17ba2", func := "loop.example/g00516/laws.FnExactSealCell", spec := "fnExactSealCell", apart := false, narrowed := true }
def FnExactSealCellUptoSaid : Prop := fnExactSealCellUptoRow.holds Try.pinned (OpenSpec.upto fnExactSealCellSpec)

/-- 'laws.FnCells', WHERE WHAT IT READS IS OF BULK AT MOST 1048576: true; the input reads as it did. -/
def fnCellsUptoRow : OpenClaim := { program := "ytokhogdocaeelaa", sum := "93844f9a68875645caedffa76cf154be564b5a329f94fd9a890ae00a64d17ba2", func := "loop.example/g00516/laws.FnCells", spec := "fnCells", apart := false, narrowed := true }
def FnCellsUptoSaid : Prop := fnCellsUptoRow.holds Try.pinned (OpenSpec.upto fnCellsSpec)

end Rows
end Go.Proofs.Ytokhogdocaeelaa
