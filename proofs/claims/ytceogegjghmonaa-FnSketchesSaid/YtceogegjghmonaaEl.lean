/- Closed facts about the element types of this translation. -/
import Derived.Test.YtceogegjghmonaaRows
import Derived.Test.YtceogegjghmonaaBase
import Derived.Test.YtceogegjghmonaaOpen
import Derived.ShutString
import Derived.ChangeOld
namespace Go.Proofs.Ytceogegjghmonaa
set_option linter.unusedVariables false
open Go.RowKit

theorem own_ : ownKnob Try.prog.godebug = none := by kernel_rfl
theorem laid_ : laidOutB Try.prog = true := by kernel_rfl

theorem elB : ElT Try.prog 22 5 (.int .u8 0) 1 := ⟨Try.underlying22, by kernel_rfl, rfl⟩
theorem elI : ElT Try.prog 27 3 (.int .i64 0) 8 := ⟨Try.underlying27, by kernel_rfl, rfl⟩
theorem elBB : ElT Try.prog 24 22 (.slice none 0 0) 24 := ⟨Try.underlying24, by kernel_rfl, rfl⟩
theorem elII : ElT Try.prog 32 27 (.slice none 0 0) 24 := ⟨Try.underlying32, by kernel_rfl, rfl⟩
end Go.Proofs.Ytceogegjghmonaa
