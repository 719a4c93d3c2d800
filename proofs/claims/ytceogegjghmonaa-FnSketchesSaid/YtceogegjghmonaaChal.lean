/- Contracts of Challenge, in the program and in the reference. -/
import Derived.Test.YtceogegjghmonaaHash
namespace Go.Proofs.Ytceogegjghmonaa
set_option linter.unusedVariables false
open Go.RowKit

def chal (s i : Int) : Int := 1 + childS s (wrap64 (7000 + i)) % 1018
theorem chal_range (s i : Int) : 1 ≤ chal s i ∧ chal s i ≤ 1018 := by unfold chal; omega

set_option maxHeartbeats 1000000 in
theorem specChallenge_c (s i : Int) (w : World) :
    Calls Try.prog 165 #[.int .i64 s, .int .i64 i] w fun e w' => e = .returned (.int .i64 (chal s i)) ∧ Below w.heap.size w w' := by
  go_enter Try.func165, Try.ntmps165
  go_wp2_with fail
  refine (specChildSeed_c _ _ _).mono ?_
  rintro e w1 ⟨rfl, b⟩
  have hr := childS_range s (wrap64 (7000 + i))
  have HC : Hid (chal s i = 1 + childS s (wrap64 (7000 + i)) % 1018) := Lib.hid rfl
  generalize childS s (wrap64 (7000 + i)) = c at *
  have hm : 0 ≤ c % 1018 ∧ c % 1018 < 1018 := by omega
  go_wp2
  go_ret
  exact ⟨ret_int HC.out.symm, b⟩
set_option maxHeartbeats 1000000 in
theorem implChallenge_c (s i : Int) (w : World) :
    Calls Try.prog 74 #[.int .i64 s, .int .i64 i] w fun e w' => e = .returned (.int .i64 (chal s i)) ∧ Below w.heap.size w w' := by
  go_enter Try.func74, Try.ntmps74
  go_wp2_with fail
  refine (implChildSeed_c _ _ _).mono ?_
  rintro e w1 ⟨rfl, b⟩
  have hr := childS_range s (wrap64 (7000 + i))
  have HC : Hid (chal s i = 1 + childS s (wrap64 (7000 + i)) % 1018) := Lib.hid rfl
  generalize childS s (wrap64 (7000 + i)) = c at *
  have hm : 0 ≤ c % 1018 ∧ c % 1018 < 1018 := by omega
  go_wp2
  go_ret
  exact ⟨ret_int HC.out.symm, b⟩
end Go.Proofs.Ytceogegjghmonaa
