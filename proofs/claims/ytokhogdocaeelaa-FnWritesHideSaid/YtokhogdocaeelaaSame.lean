/- laws.sameBytes, laws.sameInts of two equal lists. -/
import Derived.Test.YtokhogdocaeelaaEl
import Derived.Deep.QuietTactic
import Derived.BigQuiet
namespace Go.Proofs.Ytokhogdocaeelaa
set_option linter.unusedVariables false
open Go.RowKit

set_option maxHeartbeats 1000000 in
theorem sameB_c (v1 v2 : Value) (a : List UInt8) (w : World) (h1 : Rd RB w v1 a) (h2 : Rd RB w v2 a) :
    Calls Try.prog 17 #[v1, v2] w fun e w' => e = .returned (.bool true) ∧ Below w.heap.size w w' := by
  obtain ⟨A, n, c, rfl, k1⟩ := h1
  obtain ⟨B, m, d, rfl, k2⟩ := h2
  obtain rfl := k1.1
  obtain rfl := k2.1
  have hca := Nat.le_trans k1.2.1 k1.2.2.1
  unfold maxLen at hca
  have HA := Lib.hid k1
  have HB := Lib.hid k2
  clear k1 k2
  go_enter Try.func17, Try.ntmps17
  go_wp2
  go_loopw [5] (fun i wr => ∃ k : Nat, k ≤ a.length ∧ i = .int .i64 k ∧ Below w.heap.size w wr) (fun i _ => a.length - (intOf i).toNat)
  case atStart => exact ⟨0, Nat.zero_le _, rfl, Below.refl _ _⟩
  case round =>
    obtain ⟨k, hk, rfl, hb⟩ := hrel
    by_cases hlt : k < a.length
    · obtain ⟨b, off, x, u, rfl, hbb, hx, hu, hr⟩ := HA.out.at_ hlt
      obtain ⟨b', off', x', u', rfl, hbb', hx', hu', hr'⟩ := HB.out.at_ hlt
      rw [hx] at hx'
      injection hx' with hx'
      subst hx'
      unfold RB at hr hr'
      subst hr hr'
      have g1 := (hb.cell (p := ⟨b, off + k, none⟩) hbb).trans hu
      have g2 := (hb.cell (p := ⟨b', off' + k, none⟩) hbb').trans hu'
      have hk0 : (0 : Int) ≤ (k : Int) := by omega
      have hkn : (k : Int) < (a.length : Int) := by omega
      clear hu hu' hx
      go_wp2_with fail
      go_quiet (fail)
      go_wp2
      go_roundw
      case rel => exact ⟨k + 1, by omega, by go_num, below_drewN hb _⟩
      case measure => simp [intOf]; omega
    · have hkn : k = a.length := by omega
      subst hkn
      go_wp2
      go_ret
      exact ⟨rfl, hb⟩
end Go.Proofs.Ytokhogdocaeelaa
