/- Closed facts about the element types of this translation. -/
import Derived.Test.YtllkgieajoiiaaaRows
import Derived.Test.YtllkgieajoiiaaaBase
import Derived.Test.YtllkgieajoiiaaaOpen
import Derived.ShutString
import Derived.ChangeOld
namespace Go.Proofs.Ytllkgieajoiiaaa
set_option linter.unusedVariables false
open Go.RowKit

theorem own_ : ownKnob Try.prog.godebug = none := by kernel_rfl
theorem laid_ : laidOutB Try.prog = true := by kernel_rfl

theorem elB : ElT Try.prog 33 5 (.int .u8 0) 1 := ⟨Try.underlying33, by kernel_rfl, rfl⟩
theorem elI : ElT Try.prog 22 3 (.int .i64 0) 8 := ⟨Try.underlying22, by kernel_rfl, rfl⟩
theorem elBB : ElT Try.prog 41 33 (.slice none 0 0) 24 := ⟨Try.underlying41, by kernel_rfl, rfl⟩
theorem elII : ElT Try.prog 23 22 (.slice none 0 0) 24 := ⟨Try.underlying23, by kernel_rfl, rfl⟩
end Go.Proofs.Ytllkgieajoiiaaa
