/- Closed facts about the element types of this translation. -/
import Derived.Test.YtokhogdocaeelaaRows
import Derived.Test.YtokhogdocaeelaaBase
import Derived.Test.YtokhogdocaeelaaOpen
import Derived.ShutString
import Derived.ChangeOld
namespace Go.Proofs.Ytokhogdocaeelaa
set_option linter.unusedVariables false
open Go.RowKit

theorem own_ : ownKnob Try.prog.godebug = none := by kernel_rfl
theorem laid_ : laidOutB Try.prog = true := by kernel_rfl

theorem elB : ElT Try.prog 22 5 (.int .u8 0) 1 := ⟨Try.underlying22, by kernel_rfl, rfl⟩
theorem elI : ElT Try.prog 24 3 (.int .i64 0) 8 := ⟨Try.underlying24, by kernel_rfl, rfl⟩
theorem elBB : ElT Try.prog 29 22 (.slice none 0 0) 24 := ⟨Try.underlying29, by kernel_rfl, rfl⟩
theorem elII : ElT Try.prog 113 24 (.slice none 0 0) 24 := ⟨Try.underlying113, by kernel_rfl, rfl⟩
end Go.Proofs.Ytokhogdocaeelaa
