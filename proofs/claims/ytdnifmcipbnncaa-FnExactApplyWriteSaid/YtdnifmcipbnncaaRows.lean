/-
  No cell of these rows narrows 'for every input' (looked for: loops, veiled, ifaces, maps, wideKeys, modest, calm, conditions, laid).
  DERIVED. THE GIVEN ROWS OF THIS SEAT. 12 by the template 'for every input the law returns true; each argument reads behind the call as it read before'; 0 by the template 'total and deterministic' (their statements: YtdnifmcipbnncaaTotals.lean).
  GIVEN WITH THE SEED: the statements are not yours to turn. If you find one false, say at which input.
  Laid BY PROGRAM, IN A SANDBOX (cutbox-rows.mjs): the forced cells as the released guide's own fill.sh prints them over the translation 8d6cd4b244ec598d… (all of the seat's roots in one cut). By AI agents, Wed Nov 11 2026. No macro, syntax, notation, axiom, sorry.
-/
import Derived.Test.YtdnifmcipbnncaaChecked
import GoSem.Claim
import GoSem.ClaimJoined
import GoSem.ClaimMapViews
import Derived.JoinedTies
import Derived.KernelRfl
namespace Go.Proofs.Ytdnifmcipbnncaa
/- THE CELL 'sum', in the pinned program and in every row, IS THE sha256 OF THE DUMP (.gsa) THAT YtdnifmcipbnncaaProg.lean LOADS. Nothing in Lean hashes anything: it is a label: what it is worth is what the hold of that sum in a sandbox is worth. -/
noncomputable def Try.pinned : Pinned := { name := "ytdnifmcipbnncaa", sum := "8d6cd4b244ec598d7e0e4bb59dc49169c10ce353faf956f3de53d7f29d840c4a", checked := Try.checked }
namespace Rows
def none {H : Type} : Left H := { results := [], args := [] }

/-- 'laws.FnExactIsValidDatabase': WHATEVER THE INPUT: true; the input reads as it did. -/
def fnExactIsValidDatabaseSpec : ChangeSpec := { name := "fnExactIsValidDatabase", fn := fun _ => fun
  | [d] => { results := [.lit (.bool true)], args := [d] }
  | _ => none }
def fnExactIsValidDatabaseRow : OpenClaim := { program := "ytdnifmcipbnncaa", sum := "8d6cd4b244ec598d7e0e4bb59dc49169c10ce353faf956f3de53d7f29d840c4a", func := "loop.example/g00516/laws.FnExactIsValidDatabase", spec := "fnExactIsValidDatabase", unfollowed := true, recurses := true, apart := false }
def FnExactIsValidDatabaseSaid : Prop := fnExactIsValidDatabaseRow.holds Try.pinned (OpenSpec.ofChange fnExactIsValidDatabaseSpec)

/-- ITS FALSE NEIGHBOUR: 'it returns false'. Refute it at one input. -/
def fnExactIsValidDatabaseWrong : ChangeSpec := { name := "fnExactIsValidDatabase", fn := fun _ => fun
  | [d] => { results := [.lit (.bool false)], args := [d] }
  | _ => none }
def FnExactIsValidDatabaseWrongFalsely : Prop := fnExactIsValidDatabaseRow.holds Try.pinned (OpenSpec.ofChange fnExactIsValidDatabaseWrong)

/-- 'laws.FnExactCountRowsWritten': WHATEVER THE INPUT: true; the input reads as it did. -/
def fnExactCountRowsWrittenSpec : ChangeSpec := { name := "fnExactCountRowsWritten", fn := fun _ => fun
  | [d] => { results := [.lit (.bool true)], args := [d] }
  | _ => none }
def fnExactCountRowsWrittenRow : OpenClaim := { program := "ytdnifmcipbnncaa", sum := "8d6cd4b244ec598d7e0e4bb59dc49169c10ce353faf956f3de53d7f29d840c4a", func := "loop.example/g00516/laws.FnExactCountRowsWritten", spec := "fnExactCountRowsWritten", unfollowed := true, recurses := true, apart := false }
def FnExactCountRowsWrittenSaid : Prop := fnExactCountRowsWrittenRow.holds Try.pinned (OpenSpec.ofChange fnExactCountRowsWrittenSpec)

/-- ITS FALSE NEIGHBOUR: 'it returns false'. Refute it at one input. -/
def fnExactCountRowsWrittenWrong : ChangeSpec := { name := "fnExactCountRowsWritten", fn := fun _ => fun
  | [d] => { results := [.lit (.bool false)], args := [d] }
  | _ => none }
def FnExactCountRowsWrittenWrongFalsely : Prop := fnExactCountRowsWrittenRow.holds Try.pinned (OpenSpec.ofChange fnExactCountRowsWrittenWrong)

/-- 'laws.FnExactEvaluateNode': WHATEVER THE INPUT: true; the input reads as it did. -/
def fnExactEvaluateNodeSpec : ChangeSpec := { name := "fnExactEvaluateNode", fn := fun _ => fun
  | [d1, d2, d3, d4] => { results := [.lit (.bool true)], args := [d1, d2, d3, d4] }
  | _ => none }
def fnExactEvaluateNodeRow : OpenClaim := { program := "ytdnifmcipbnncaa", sum := "8d6cd4b244ec598d7e0e4bb59dc49169c10ce353faf956f3de53d7f29d840c4a", func := "loop.example/g00516/laws.FnExactEvaluateNode", spec := "fnExactEvaluateNode", apart := false }
def FnExactEvaluateNodeSaid : Prop := fnExactEvaluateNodeRow.holds Try.pinned (OpenSpec.ofChange fnExactEvaluateNodeSpec)

/-- ITS FALSE NEIGHBOUR: 'it returns false'. Refute it at one input. -/
def fnExactEvaluateNodeWrong : ChangeSpec := { name := "fnExactEvaluateNode", fn := fun _ => fun
  | [d1, d2, d3, d4] => { results := [.lit (.bool false)], args := [d1, d2, d3, d4] }
  | _ => none }
def FnExactEvaluateNodeWrongFalsely : Prop := fnExactEvaluateNodeRow.holds Try.pinned (OpenSpec.ofChange fnExactEvaluateNodeWrong)

/-- 'laws.FnExactCoverCell': WHATEVER THE INPUT: true; the input reads as it did. -/
def fnExactCoverCellSpec : ChangeSpec := { name := "fnExactCoverCell", fn := fun _ => fun
  | [d] => { results := [.lit (.bool true)], args := [d] }
  | _ => none }
def fnExactCoverCellRow : OpenClaim := { program := "ytdnifmcipbnncaa", sum := "8d6cd4b244ec598d7e0e4bb59dc49169c10ce353faf956f3de53d7f29d840c4a", func := "loop.example/g00516/laws.FnExactCoverCell", spec := "fnExactCoverCell", apart := false }
def FnExactCoverCellSaid : Prop := fnExactCoverCellRow.holds Try.pinned (OpenSpec.ofChange fnExactCoverCellSpec)

/-- ITS FALSE NEIGHBOUR: 'it returns false'. Refute it at one input. -/
def fnExactCoverCellWrong : ChangeSpec := { name := "fnExactCoverCell", fn := fun _ => fun
  | [d] => { results := [.lit (.bool false)], args := [d] }
  | _ => none }
def FnExactCoverCellWrongFalsely : Prop := fnExactCoverCellRow.holds Try.pinned (OpenSpec.ofChange fnExactCoverCellWrong)

/-- 'laws.FnExactEqualDatabases': WHATEVER THE INPUT: true; the input reads as it did. -/
def fnExactEqualDatabasesSpec : ChangeSpec := { name := "fnExactEqualDatabases", fn := fun _ => fun
  | [d1, d2] => { results := [.lit (.bool true)], args := [d1, d2] }
  | _ => none }
def fnExactEqualDatabasesRow : OpenClaim := { program := "ytdnifmcipbnncaa", sum := "8d6cd4b244ec598d7e0e4bb59dc49169c10ce353faf956f3de53d7f29d840c4a", func := "loop.example/g00516/laws.FnExactEqualDatabases", spec := "fnExactEqualDatabases", unfollowed := true, recurses := true, apart := false }
def FnExactEqualDatabasesSaid : Prop := fnExactEqualDatabasesRow.holds Try.pinned (OpenSpec.ofChange fnExactEqualDatabasesSpec)

/-- ITS FALSE NEIGHBOUR: 'it returns false'. Refute it at one input. -/
def fnExactEqualDatabasesWrong : ChangeSpec := { name := "fnExactEqualDatabases", fn := fun _ => fun
  | [d1, d2] => { results := [.lit (.bool false)], args := [d1, d2] }
  | _ => none }
def FnExactEqualDatabasesWrongFalsely : Prop := fnExactEqualDatabasesRow.holds Try.pinned (OpenSpec.ofChange fnExactEqualDatabasesWrong)

/-- 'laws.FnExactReadRow': WHATEVER THE INPUT: true; the input reads as it did. -/
def fnExactReadRowSpec : ChangeSpec := { name := "fnExactReadRow", fn := fun _ => fun
  | [d1, d2] => { results := [.lit (.bool true)], args := [d1, d2] }
  | _ => none }
def fnExactReadRowRow : OpenClaim := { program := "ytdnifmcipbnncaa", sum := "8d6cd4b244ec598d7e0e4bb59dc49169c10ce353faf956f3de53d7f29d840c4a", func := "loop.example/g00516/laws.FnExactReadRow", spec := "fnExactReadRow", apart := false }
def FnExactReadRowSaid : Prop := fnExactReadRowRow.holds Try.pinned (OpenSpec.ofChange fnExactReadRowSpec)

/-- ITS FALSE NEIGHBOUR: 'it returns false'. Refute it at one input. -/
def fnExactReadRowWrong : ChangeSpec := { name := "fnExactReadRow", fn := fun _ => fun
  | [d1, d2] => { results := [.lit (.bool false)], args := [d1, d2] }
  | _ => none }
def FnExactReadRowWrongFalsely : Prop := fnExactReadRowRow.holds Try.pinned (OpenSpec.ofChange fnExactReadRowWrong)

/-- 'laws.FnExactDatabaseDigest': WHATEVER THE INPUT: true; the input reads as it did. -/
def fnExactDatabaseDigestSpec : ChangeSpec := { name := "fnExactDatabaseDigest", fn := fun _ => fun
  | [d] => { results := [.lit (.bool true)], args := [d] }
  | _ => none }
def fnExactDatabaseDigestRow : OpenClaim := { program := "ytdnifmcipbnncaa", sum := "8d6cd4b244ec598d7e0e4bb59dc49169c10ce353faf956f3de53d7f29d840c4a", func := "loop.example/g00516/laws.FnExactDatabaseDigest", spec := "fnExactDatabaseDigest", apart := false }
def FnExactDatabaseDigestSaid : Prop := fnExactDatabaseDigestRow.holds Try.pinned (OpenSpec.ofChange fnExactDatabaseDigestSpec)

/-- ITS FALSE NEIGHBOUR: 'it returns false'. Refute it at one input. -/
def fnExactDatabaseDigestWrong : ChangeSpec := { name := "fnExactDatabaseDigest", fn := fun _ => fun
  | [d] => { results := [.lit (.bool false)], args := [d] }
  | _ => none }
def FnExactDatabaseDigestWrongFalsely : Prop := fnExactDatabaseDigestRow.holds Try.pinned (OpenSpec.ofChange fnExactDatabaseDigestWrong)

/-- 'laws.FnExactReplaceRow': WHATEVER THE INPUT: true; the input reads as it did. -/
def fnExactReplaceRowSpec : ChangeSpec := { name := "fnExactReplaceRow", fn := fun _ => fun
  | [d1, d2, d3] => { results := [.lit (.bool true)], args := [d1, d2, d3] }
  | _ => none }
def fnExactReplaceRowRow : OpenClaim := { program := "ytdnifmcipbnncaa", sum := "8d6cd4b244ec598d7e0e4bb59dc49169c10ce353faf956f3de53d7f29d840c4a", func := "loop.example/g00516/laws.FnExactReplaceRow", spec := "fnExactReplaceRow", apart := false }
def FnExactReplaceRowSaid : Prop := fnExactReplaceRowRow.holds Try.pinned (OpenSpec.ofChange fnExactReplaceRowSpec)

/-- ITS FALSE NEIGHBOUR: 'it returns false'. Refute it at one input. -/
def fnExactReplaceRowWrong : ChangeSpec := { name := "fnExactReplaceRow", fn := fun _ => fun
  | [d1, d2, d3] => { results := [.lit (.bool false)], args := [d1, d2, d3] }
  | _ => none }
def FnExactReplaceRowWrongFalsely : Prop := fnExactReplaceRowRow.holds Try.pinned (OpenSpec.ofChange fnExactReplaceRowWrong)

/-- 'laws.FnExactXorRow': WHATEVER THE INPUT: true; the input reads as it did. -/
def fnExactXorRowSpec : ChangeSpec := { name := "fnExactXorRow", fn := fun _ => fun
  | [d1, d2, d3] => { results := [.lit (.bool true)], args := [d1, d2, d3] }
  | _ => none }
def fnExactXorRowRow : OpenClaim := { program := "ytdnifmcipbnncaa", sum := "8d6cd4b244ec598d7e0e4bb59dc49169c10ce353faf956f3de53d7f29d840c4a", func := "loop.example/g00516/laws.FnExactXorRow", spec := "fnExactXorRow", apart := false }
def FnExactXorRowSaid : Prop := fnExactXorRowRow.holds Try.pinned (OpenSpec.ofChange fnExactXorRowSpec)

/-- ITS FALSE NEIGHBOUR: 'it returns false'. Refute it at one input. -/
def fnExactXorRowWrong : ChangeSpec := { name := "fnExactXorRow", fn := fun _ => fun
  | [d1, d2, d3] => { results := [.lit (.bool false)], args := [d1, d2, d3] }
  | _ => none }
def FnExactXorRowWrongFalsely : Prop := fnExactXorRowRow.holds Try.pinned (OpenSpec.ofChange fnExactXorRowWrong)

/-- 'laws.FnExactXorDatabases': WHATEVER THE INPUT: true; the input reads as it did. -/
def fnExactXorDatabasesSpec : ChangeSpec := { name := "fnExactXorDatabases", fn := fun _ => fun
  | [d1, d2] => { results := [.lit (.bool true)], args := [d1, d2] }
  | _ => none }
def fnExactXorDatabasesRow : OpenClaim := { program := "ytdnifmcipbnncaa", sum := "8d6cd4b244ec598d7e0e4bb59dc49169c10ce353faf956f3de53d7f29d840c4a", func := "loop.example/g00516/laws.FnExactXorDatabases", spec := "fnExactXorDatabases", unfollowed := true, recurses := true, apart := false }
def FnExactXorDatabasesSaid : Prop := fnExactXorDatabasesRow.holds Try.pinned (OpenSpec.ofChange fnExactXorDatabasesSpec)

/-- ITS FALSE NEIGHBOUR: 'it returns false'. Refute it at one input. -/
def fnExactXorDatabasesWrong : ChangeSpec := { name := "fnExactXorDatabases", fn := fun _ => fun
  | [d1, d2] => { results := [.lit (.bool false)], args := [d1, d2] }
  | _ => none }
def FnExactXorDatabasesWrongFalsely : Prop := fnExactXorDatabasesRow.holds Try.pinned (OpenSpec.ofChange fnExactXorDatabasesWrong)

/-- 'laws.FnExactApplyWrite': WHATEVER THE INPUT: true; the input reads as it did. -/
def fnExactApplyWriteSpec : ChangeSpec := { name := "fnExactApplyWrite", fn := fun _ => fun
  | [d1, d2] => { results := [.lit (.bool true)], args := [d1, d2] }
  | _ => none }
def fnExactApplyWriteRow : OpenClaim := { program := "ytdnifmcipbnncaa", sum := "8d6cd4b244ec598d7e0e4bb59dc49169c10ce353faf956f3de53d7f29d840c4a", func := "loop.example/g00516/laws.FnExactApplyWrite", spec := "fnExactApplyWrite", unfollowed := true, recurses := true, apart := false }
def FnExactApplyWriteSaid : Prop := fnExactApplyWriteRow.holds Try.pinned (OpenSpec.ofChange fnExactApplyWriteSpec)

/-- ITS FALSE NEIGHBOUR: 'it returns false'. Refute it at one input. -/
def fnExactApplyWriteWrong : ChangeSpec := { name := "fnExactApplyWrite", fn := fun _ => fun
  | [d1, d2] => { results := [.lit (.bool false)], args := [d1, d2] }
  | _ => none }
def FnExactApplyWriteWrongFalsely : Prop := fnExactApplyWriteRow.holds Try.pinned (OpenSpec.ofChange fnExactApplyWriteWrong)

/-- 'laws.FnDatabases': WHATEVER THE INPUT: true; the input reads as it did. -/
def fnDatabasesSpec : ChangeSpec := { name := "fnDatabases", fn := fun _ => fun
  | [d] => { results := [.lit (.bool true)], args := [d] }
  | _ => none }
def fnDatabasesRow : OpenClaim := { program := "ytdnifmcipbnncaa", sum := "8d6cd4b244ec598d7e0e4bb59dc49169c10ce353faf956f3de53d7f29d840c4a", func := "loop.example/g00516/laws.FnDatabases", spec := "fnDatabases", unfollowed := true, recurses := true, apart := false }
def FnDatabasesSaid : Prop := fnDatabasesRow.holds Try.pinned (OpenSpec.ofChange fnDatabasesSpec)

/-- ITS FALSE NEIGHBOUR: 'it returns false'. Refute it at one input. -/
def fnDatabasesWrong : ChangeSpec := { name := "fnDatabases", fn := fun _ => fun
  | [d] => { results := [.lit (.bool false)], args := [d] }
  | _ => none }
def FnDatabasesWrongFalsely : Prop := fnDatabasesRow.holds Try.pinned (OpenSpec.ofChange fnDatabasesWrong)

/- THE SECOND FORM. 'bulk': how many values and letters a reading holds, each counted each time it is reached (what is shared counts as often as it is met; a slice's spare places count too). A statement '..UptoSaid' is the law's where the arguments, and the package variables that the reading takes, are together of bulk at most 1048576: NARROWER than '..Said'. Prove '..Said' where nothing that the law and all that it calls make is longer than what came in: it says more and counts as full. Else prove '..UptoSaid'. A law counts once. -/
mutual
def uptoBulk {H : Type} : DataW H → Nat
  | .lit (.string bytes) => bytes.length + 1
  | .lit _ => 1
  | .nil => 1
  | .ptr d => uptoBulk d + 1
  | .slice elems spare => uptoBulkAll elems + uptoBulkAll spare + 1
  | .agg parts => uptoBulkAll parts + 1
  | .iface _ d => uptoBulk d + 1
  | .map entries => uptoBulkEntries entries + 1
  | .held _ => 1
def uptoBulkAll {H : Type} : List (DataW H) → Nat
  | [] => 0
  | d :: r => uptoBulk d + uptoBulkAll r
def uptoBulkEntries {H : Type} : List (Lit × DataW H) → Nat
  | [] => 0
  | x :: r => uptoBulkEntry x + uptoBulkEntries r
def uptoBulkEntry {H : Type} : Lit × DataW H → Nat
  | (.string bytes, d) => bytes.length + uptoBulk d + 1
  | (_, d) => uptoBulk d + 1
 end
def uptoSmall : (H : Type) → List (DataW H) → Bool := fun _ ds => decide (uptoBulkAll ds ≤ 1048576)
def OpenSpec.upto (s : _root_.Go.ChangeSpec) : _root_.Go.OpenSpec := { _root_.Go.OpenSpec.ofChange s with cond := some uptoSmall }

/-- 'laws.FnExactIsValidDatabase', WHERE WHAT IT READS IS OF BULK AT MOST 1048576: true; the input reads as it did. -/
def fnExactIsValidDatabaseUptoRow : OpenClaim := { program := "ytdnifmcipbnncaa", sum := "8d6cd4b244ec598d7e0e4bb59dc49169c10ce353faf956f3de53d7f29d840c4a", func := "loop.example/g00516/laws.FnExactIsValidDatabase", spec := "fnExactIsValidDatabase", unfollowed := true, recurses := true, apart := false, narrowed := true }
def FnExactIsValidDatabaseUptoSaid : Prop := fnExactIsValidDatabaseUptoRow.holds Try.pinned (OpenSpec.upto fnExactIsValidDatabaseSpec)

/-- 'laws.FnExactCountRowsWritten', WHERE WHAT IT READS IS OF BULK AT MOST 1048576: true; the input reads as it did. -/
def fnExactCountRowsWrittenUptoRow : OpenClaim := { program := "ytdnifmcipbnncaa", sum := "8d6cd4b244ec598d7e0e4bb59dc49169c10ce353faf956f3de53d7f29d840c4a", func := "loop.example/g00516/laws.FnExactCountRowsWritten", spec := "fnExactCountRowsWritten", unfollowed := true, recurses := true, apart := false, narrowed := true }
def FnExactCountRowsWrittenUptoSaid : Prop := fnExactCountRowsWrittenUptoRow.holds Try.pinned (OpenSpec.upto fnExactCountRowsWrittenSpec)

/-- 'laws.FnExactEvaluateNode', WHERE WHAT IT READS IS OF BULK AT MOST 1048576: true; the input reads as it did. -/
def fnExactEvaluateNodeUptoRow : OpenClaim := { program := "ytdnifmcipbnncaa", sum := "8d6cd4b244ec598d7e0e4bb59dc49169c10ce353faf956f3de53d7f29d840c4a", func := "loop.example/g00516/laws.FnExactEvaluateNode", spec := "fnExactEvaluateNode", apart := false, narrowed := true }
def FnExactEvaluateNodeUptoSaid : Prop := fnExactEvaluateNodeUptoRow.holds Try.pinned (OpenSpec.upto fnExactEvaluateNodeSpec)

/-- 'laws.FnExactCoverCell', WHERE WHAT IT READS IS OF BULK AT MOST 1048576: true; the input reads as it did. -/
def fnExactCoverCellUptoRow : OpenClaim := { program := "ytdnifmcipbnncaa", sum := "8d6cd4b244ec598d7e0e4bb59dc49169c10ce353faf956f3de53d7f29d840c4a", func := "loop.example/g00516/laws.FnExactCoverCell", spec := "fnExactCoverCell", apart := false, narrowed := true }
def FnExactCoverCellUptoSaid : Prop := fnExactCoverCellUptoRow.holds Try.pinned (OpenSpec.upto fnExactCoverCellSpec)

/-- 'laws.FnExactEqualDatabases', WHERE WHAT IT READS IS OF BULK AT MOST 1048576: true; the input reads as it did. -/
def fnExactEqualDatabasesUptoRow : OpenClaim := { program := "ytdnifmcipbnncaa", sum := "8d6cd4b244ec598d7e0e4bb59dc49169c10ce353faf956f3de53d7f29d840c4a", func := "loop.example/g00516/laws.FnExactEqualDatabases", spec := "fnExactEqualDatabases", unfollowed := true, recurses := true, apart := false, narrowed := true }
def FnExactEqualDatabasesUptoSaid : Prop := fnExactEqualDatabasesUptoRow.holds Try.pinned (OpenSpec.upto fnExactEqualDatabasesSpec)

/-- 'laws.FnExactReadRow', WHERE WHAT IT READS IS OF BULK AT MOST 1048576: true; the input reads as it did. -/
def fnExactReadRowUptoRow : OpenClaim := { program := "ytdnifmcipbnncaa", sum := "8d6cd4b244ec598d7e0e4bb59dc49169c10ce353faf956f3de53d7f29d840c4a", func := "loop.example/g00516/laws.FnExactReadRow", spec := "fnExactReadRow", apart := false, narrowed := true }
def FnExactReadRowUptoSaid : Prop := fnExactReadRowUptoRow.holds Try.pinned (OpenSpec.upto fnExactReadRowSpec)

/-- 'laws.FnExactDatabaseDigest', WHERE WHAT IT READS IS OF BULK AT MOST 1048576: true; the input reads as it did. -/
def fnExactDatabaseDigestUptoRow : OpenClaim := { program := "ytdnifmcipbnncaa", sum := "8d6cd4b244ec598d7e0e4bb59dc49169c10ce353faf956f3de53d7f29d840c4a", func := "loop.example/g00516/laws.FnExactDatabaseDigest", spec := "fnExactDatabaseDigest", apart := false, narrowed := true }
def FnExactDatabaseDigestUptoSaid : Prop := fnExactDatabaseDigestUptoRow.holds Try.pinned (OpenSpec.upto fnExactDatabaseDigestSpec)

/-- 'laws.FnExactReplaceRow', WHERE WHAT IT READS IS OF BULK AT MOST 1048576: true; the input reads as it did. -/
def fnExactReplaceRowUptoRow : OpenClaim := { program := "ytdnifmcipbnncaa", sum := "8d6cd4b244ec598d7e0e4bb59dc49169c10ce353faf956f3de53d7f29d840c4a", func := "loop.example/g00516/laws.FnExactReplaceRow", spec := "fnExactReplaceRow", apart := false, narrowed := true }
def FnExactReplaceRowUptoSaid : Prop := fnExactReplaceRowUptoRow.holds Try.pinned (OpenSpec.upto fnExactReplaceRowSpec)

/-- 'laws.FnExactXorRow', WHERE WHAT IT READS IS OF BULK AT MOST 1048576: true; the input reads as it did. -/
def fnExactXorRowUptoRow : OpenClaim := { program := "ytdnifmcipbnncaa", sum := "8d6cd4b244ec598d7e0e4bb59dc49169c10ce353faf956f3de53d7f29d840c4a", func := "loop.example/g00516/laws.FnExactXorRow", spec := "fnExactXorRow", apart := false, narrowed := true }
def FnExactXorRowUptoSaid : Prop := fnExactXorRowUptoRow.holds Try.pinned (OpenSpec.upto fnExactXorRowSpec)

/-- 'laws.FnExactXorDatabases', WHERE WHAT IT READS IS OF BULK AT MOST 1048576: true; the input reads as it did. -/
def fnExactXorDatabasesUptoRow : OpenClaim := { program := "ytdnifmcipbnncaa", sum := "8d6cd4b244ec598d7e0e4bb59dc49169c10ce353faf956f3de53d7f29d840c4a", func := "loop.example/g00516/laws.FnExactXorDatabases", spec := "fnExactXorDatabases", unfollowed := true, recurses := true, apart := false, narrowed := true }
def FnExactXorDatabasesUptoSaid : Prop := fnExactXorDatabasesUptoRow.holds Try.pinned (OpenSpec.upto fnExactXorDatabasesSpec)

/-- 'laws.FnExactApplyWrite', WHERE WHAT IT READS IS OF BULK AT MOST 1048576: true; the input reads as it did. -/
def fnExactApplyWriteUptoRow : OpenClaim := { program := "ytdnifmcipbnncaa", sum := "8d6cd4b244ec598d7e0e4bb59dc49169c10ce353faf956f3de53d7f29d840c4a", func := "loop.example/g00516/laws.FnExactApplyWrite", spec := "fnExactApplyWrite", unfollowed := true, recurses := true, apart := false, narrowed := true }
def FnExactApplyWriteUptoSaid : Prop := fnExactApplyWriteUptoRow.holds Try.pinned (OpenSpec.upto fnExactApplyWriteSpec)

/-- 'laws.FnDatabases', WHERE WHAT IT READS IS OF BULK AT MOST 1048576: true; the input reads as it did. -/
def fnDatabasesUptoRow : OpenClaim := { program := "ytdnifmcipbnncaa", sum := "8d6cd4b244ec598d7e0e4bb59dc49169c10ce353faf956f3de53d7f29d840c4a", func := "loop.example/g00516/laws.FnDatabases", spec := "fnDatabases", unfollowed := true, recurses := true, apart := false, narrowed := true }
def FnDatabasesUptoSaid : Prop := fnDatabasesUptoRow.holds Try.pinned (OpenSpec.upto fnDatabasesSpec)

end Rows
end Go.Proofs.Ytdnifmcipbnncaa
