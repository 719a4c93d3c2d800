/- Closed facts about the element types of this translation. -/
import Derived.Test.YtdnifmcipbnncaaRows
import Derived.Test.YtdnifmcipbnncaaBase
import Derived.Test.YtdnifmcipbnncaaOpen
import Derived.ShutString
import Derived.ChangeOld
namespace Go.Proofs.Ytdnifmcipbnncaa
set_option linter.unusedVariables false
open Go.RowKit

theorem own_ : ownKnob Try.prog.godebug = none := by kernel_rfl
theorem laid_ : laidOutB Try.prog = true := by kernel_rfl

theorem elB : ElT Try.prog 39 5 (.int .u8 0) 1 := ⟨Try.underlying39, by kernel_rfl, rfl⟩
theorem elI : ElT Try.prog 66 3 (.int .i64 0) 8 := ⟨Try.underlying66, by kernel_rfl, rfl⟩
theorem elBB : ElT Try.prog 22 39 (.slice none 0 0) 24 := ⟨Try.underlying22, by kernel_rfl, rfl⟩
theorem elII : ElT Try.prog 89 66 (.slice none 0 0) 24 := ⟨Try.underlying89, by kernel_rfl, rfl⟩
end Go.Proofs.Ytdnifmcipbnncaa
