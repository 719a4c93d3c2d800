/- FnExactAcceptsSketch, for every argument, no condition: the program's AcceptsSketch returns what the reference's returns. -/
import Derived.Test.YtceogegjghmonaaHash
namespace Go.Proofs.Ytceogegjghmonaa
set_option linter.unusedVariables false
open Go.RowKit

def acc (a b m : Int) : Bool := (a % 1019) * (a % 1019) % 1019 == (b % 1019) * (m % 1019) % 1019

theorem mul_range (x y : Int) (hx : 0 ≤ x ∧ x < 1019) (hy : 0 ≤ y ∧ y < 1019) : 0 ≤ x * y ∧ x * y < 1038361 := by
  refine ⟨Int.mul_nonneg hx.1 hy.1, ?_⟩
  have h2 : x * y ≤ 1018 * 1018 := Int.mul_le_mul (by omega) (by omega) hy.1 (by omega)
  omega

set_option maxHeartbeats 1000000 in
theorem specAcceptsSketch_c (a b m : Int) (w : World) :
    Calls Try.prog 132 #[.int .i64 a, .int .i64 b, .int .i64 m] w fun e w' => e = .returned (.bool (acc a b m)) ∧ w = w' := by
  go_enter Try.func132, Try.ntmps132
  go_wp2_with fail
  refine (specMod_c _ _ _ (by omega) (by omega)).mono ?_
  rintro e w' ⟨rfl, rfl⟩
  have ha : 0 ≤ a % 1019 ∧ a % 1019 < 1019 := by omega
  have hb : 0 ≤ b % 1019 ∧ b % 1019 < 1019 := by omega
  have hm : 0 ≤ m % 1019 ∧ m % 1019 < 1019 := by omega
  have HA : Hid (acc a b m = ((a % 1019) * (a % 1019) % 1019 == (b % 1019) * (m % 1019) % 1019)) := Lib.hid rfl
  generalize hxa : a % 1019 = x at *
  have p1 := mul_range x x ha ha
  obtain ⟨t1, ht1⟩ : ∃ t, x * x = t := ⟨_, rfl⟩
  rw [ht1] at p1 HA
  go_wp2_with fail
  refine (specMod_c _ _ _ (by omega) (by omega)).mono ?_
  rintro e w' ⟨rfl, rfl⟩
  generalize hxb : b % 1019 = y at *
  go_wp2_with fail
  refine (specMod_c _ _ _ (by omega) (by omega)).mono ?_
  rintro e w' ⟨rfl, rfl⟩
  generalize hxm : m % 1019 = z at *
  have p2 := mul_range y z hb hm
  clear hxa hxb hxm
  obtain ⟨t2, ht2⟩ : ∃ t, y * z = t := ⟨_, rfl⟩
  rw [ht2] at p2 HA
  go_wp2
  go_ret
  exact ⟨ret_bool HA.out.symm, rfl⟩

set_option maxHeartbeats 1000000 in
theorem implAcceptsSketch_c (a b m : Int) (w : World) :
    Calls Try.prog 128 #[.int .i64 a, .int .i64 b, .int .i64 m] w fun e w' => e = .returned (.bool (acc a b m)) ∧ w = w' := by
  go_enter Try.func128, Try.ntmps128
  go_wp2_with fail
  refine (implMod_c _ _ _ (by omega) (by omega)).mono ?_
  rintro e w' ⟨rfl, rfl⟩
  have ha : 0 ≤ a % 1019 ∧ a % 1019 < 1019 := by omega
  have hb : 0 ≤ b % 1019 ∧ b % 1019 < 1019 := by omega
  have hm : 0 ≤ m % 1019 ∧ m % 1019 < 1019 := by omega
  have HA : Hid (acc a b m = ((a % 1019) * (a % 1019) % 1019 == (b % 1019) * (m % 1019) % 1019)) := Lib.hid rfl
  generalize hxa : a % 1019 = x at *
  have p1 := mul_range x x ha ha
  obtain ⟨t1, ht1⟩ : ∃ t, x * x = t := ⟨_, rfl⟩
  rw [ht1] at p1 HA
  go_wp2_with fail
  refine (implMod_c _ _ _ (by omega) (by omega)).mono ?_
  rintro e w' ⟨rfl, rfl⟩
  generalize hxb : b % 1019 = y at *
  go_wp2_with fail
  refine (implMod_c _ _ _ (by omega) (by omega)).mono ?_
  rintro e w' ⟨rfl, rfl⟩
  generalize hxm : m % 1019 = z at *
  have p2 := mul_range y z hb hm
  clear hxa hxb hxm
  obtain ⟨t2, ht2⟩ : ∃ t, y * z = t := ⟨_, rfl⟩
  rw [ht2] at p2 HA
  go_wp2
  go_ret
  exact ⟨ret_bool HA.out.symm, rfl⟩
end Go.Proofs.Ytceogegjghmonaa
