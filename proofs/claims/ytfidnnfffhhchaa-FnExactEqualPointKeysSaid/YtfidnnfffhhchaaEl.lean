/- Closed facts about the element types of this translation. -/
import Derived.Test.YtfidnnfffhhchaaRows
import Derived.Test.YtfidnnfffhhchaaBase
import Derived.Test.YtfidnnfffhhchaaOpen
import Derived.ShutString
import Derived.ChangeOld
namespace Go.Proofs.Ytfidnnfffhhchaa
set_option linter.unusedVariables false
open Go.RowKit

theorem own_ : ownKnob Try.prog.godebug = none := by kernel_rfl
theorem laid_ : laidOutB Try.prog = true := by kernel_rfl

theorem elB : ElT Try.prog 36 5 (.int .u8 0) 1 := ⟨Try.underlying36, by kernel_rfl, rfl⟩
theorem elI : ElT Try.prog 31 3 (.int .i64 0) 8 := ⟨Try.underlying31, by kernel_rfl, rfl⟩
theorem elBB : ElT Try.prog 51 36 (.slice none 0 0) 24 := ⟨Try.underlying51, by kernel_rfl, rfl⟩
theorem elII : ElT Try.prog 97 31 (.slice none 0 0) 24 := ⟨Try.underlying97, by kernel_rfl, rfl⟩
end Go.Proofs.Ytfidnnfffhhchaa
