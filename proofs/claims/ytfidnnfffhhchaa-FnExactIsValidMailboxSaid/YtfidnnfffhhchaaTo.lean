/- Contracts of the copies of structs in the laws: Mailbox, Plain, Correction. -/
import Derived.Test.YtfidnnfffhhchaaFlat
namespace Go.Proofs.Ytfidnnfffhhchaa
set_option linter.unusedVariables false
open Go.RowKit

set_option maxHeartbeats 1000000 in
theorem toMailbox_c (k s r : Int) (w : World) :
    Calls Try.prog 18 #[.agg #[.int .i64 k, .int .i64 s, .int .i64 r]] w fun e w' => e = .returned (.agg #[.int .i64 k, .int .i64 s, .int .i64 r]) ∧ Below w.heap.size w w' := by
  go_enter Try.func18, Try.ntmps18
  go_wp2
  refine bodyPost_ret (v := .agg #[.int .i64 k, .int .i64 s, .int .i64 r]) (by simp [results, Try.results18, go_sem]) rfl ⟨rfl, ?_⟩
  repeat (first | exact Below.refl _ _ | refine Below.alloc ?_ (by simp; try omega) _ | refine Below.setCell ?_ (by simp; try omega) _)
def mboxOk (k s r : Int) : Bool := decide (1 ≤ k ∧ k ≤ 2147483646 ∧ 0 ≤ s ∧ s ≤ 1000000000000 ∧ 0 ≤ r ∧ r ≤ 1000000000000)
set_option maxHeartbeats 2000000 in
theorem specIsValidMailbox_c (k s r : Int) (w : World) :
    Calls Try.prog 17 #[.agg #[.int .i64 k, .int .i64 s, .int .i64 r]] w fun e w' => e = .returned (.bool (mboxOk k s r)) ∧ Below w.heap.size w w' := by
  have HB := below_alloc w (.cells #[.int .i64 k, .int .i64 s, .int .i64 r] 27)
  obtain ⟨o, ho⟩ : ∃ o, o = mboxOk k s r := ⟨_, rfl⟩
  have HO := Lib.hid ho
  rw [← ho]
  clear ho
  unfold mboxOk at HO
  by_cases h1 : 1 ≤ k ∧ k ≤ 2147483646
  · by_cases h2 : 0 ≤ s ∧ s ≤ 1000000000000
    · by_cases h3 : 0 ≤ r ∧ r ≤ 1000000000000
      · go_enter Try.func17, Try.ntmps17
        go_wp2
        go_ret
        exact ⟨ret_bool (by rw [HO.out, Bool.eq_iff_iff]; simp; try omega), HB⟩
      · go_enter Try.func17, Try.ntmps17
        go_wp2
        all_goals
          go_ret
          exact ⟨ret_bool (by rw [HO.out, Bool.eq_iff_iff]; simp; try omega), HB⟩
    · go_enter Try.func17, Try.ntmps17
      go_wp2
      all_goals
        go_ret
        exact ⟨ret_bool (by rw [HO.out, Bool.eq_iff_iff]; simp; try omega), HB⟩
  · go_enter Try.func17, Try.ntmps17
    go_wp2
    all_goals
      go_ret
      exact ⟨ret_bool (by rw [HO.out, Bool.eq_iff_iff]; simp; try omega), HB⟩
set_option maxHeartbeats 2000000 in
theorem implIsValidMailbox_c (k s r : Int) (w : World) :
    Calls Try.prog 19 #[.agg #[.int .i64 k, .int .i64 s, .int .i64 r]] w fun e w' => e = .returned (.bool (mboxOk k s r)) ∧ Below w.heap.size w w' := by
  have HB := below_alloc w (.cells #[.int .i64 k, .int .i64 s, .int .i64 r] 27)
  obtain ⟨o, ho⟩ : ∃ o, o = mboxOk k s r := ⟨_, rfl⟩
  have HO := Lib.hid ho
  rw [← ho]
  clear ho
  unfold mboxOk at HO
  by_cases h1 : 1 ≤ k ∧ k ≤ 2147483646
  · by_cases h2 : 0 ≤ s ∧ s ≤ 1000000000000
    · by_cases h3 : 0 ≤ r ∧ r ≤ 1000000000000
      · go_enter Try.func19, Try.ntmps19
        go_wp2
        go_ret
        exact ⟨ret_bool (by rw [HO.out, Bool.eq_iff_iff]; simp; try omega), HB⟩
      · go_enter Try.func19, Try.ntmps19
        go_wp2
        all_goals
          go_ret
          exact ⟨ret_bool (by rw [HO.out, Bool.eq_iff_iff]; simp; try omega), HB⟩
    · go_enter Try.func19, Try.ntmps19
      go_wp2
      all_goals
        go_ret
        exact ⟨ret_bool (by rw [HO.out, Bool.eq_iff_iff]; simp; try omega), HB⟩
  · go_enter Try.func19, Try.ntmps19
    go_wp2
    all_goals
      go_ret
      exact ⟨ret_bool (by rw [HO.out, Bool.eq_iff_iff]; simp; try omega), HB⟩
end Go.Proofs.Ytfidnnfffhhchaa
