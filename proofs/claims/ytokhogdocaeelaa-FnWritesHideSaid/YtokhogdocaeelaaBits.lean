/- Bit operations on int: the lowest bit, exclusive or. Plain theorems about the model's integers. -/
import Derived.Test.YtokhogdocaeelaaBase
import Derived.Laws.BitsLemmas
import Derived.Laws.BitsAllLaws
namespace Go.Proofs.Ytokhogdocaeelaa
set_option linter.unusedVariables false
open Go.RowKit

theorem i64_and1 (n : Int) : bits .and .i64 n 1 = n % 2 := by
  have h1 : (BitVec.ofInt 64 1).toNat = 2 ^ 1 - 1 := by decide
  have key : (BitVec.ofInt 64 n &&& BitVec.ofInt 64 1).toNat = (n % ((2 ^ 64 : Nat) : Int)).toNat % 2 ^ 1 := by
    rw [BitVec.toNat_and, BitVec.toNat_ofInt, h1, Nat.and_two_pow_sub_one_eq_mod]
  show IntKind.i64.wrap ((BitVec.ofInt 64 n &&& BitVec.ofInt 64 1).toNat : Nat) = n % 2
  rw [key, IntKind.wrap_i64]
  omega

/-- Go's ^ on int. -/
def xorI (a b : Int) : Int := bits .xor .i64 a b

theorem ofInt_i64 (a : Nat) (ha : a < 18446744073709551616) : (BitVec.ofInt 64 (a : Int)).toNat = a := by
  rw [BitVec.ofInt_natCast, BitVec.toNat_ofNat]; exact Nat.mod_eq_of_lt (by omega)

theorem i64_xor_nat (a b : Nat) (ha : a < 9223372036854775808) (hb : b < 9223372036854775808) : bits .xor .i64 (a : Int) (b : Int) = ((a ^^^ b : Nat) : Int) := by
  have hx : a ^^^ b < 2 ^ 63 := Nat.xor_lt_two_pow (by omega) (by omega)
  show IntKind.i64.wrap ((BitVec.ofInt 64 (a : Int) ^^^ BitVec.ofInt 64 (b : Int)).toNat : Int) = _
  rw [BitVec.toNat_xor, ofInt_i64 a (by omega), ofInt_i64 b (by omega), IntKind.wrap_i64]
  omega

theorem xorI_nat (a b : Nat) (ha : a < 9223372036854775808) (hb : b < 9223372036854775808) : xorI (a : Int) (b : Int) = ((a ^^^ b : Nat) : Int) := i64_xor_nat a b ha hb
theorem xorI_lt (a b : Int) (k : Nat) (hk : k ≤ 63) (h0 : 0 ≤ a) (h1 : a < ((2 ^ k : Nat) : Int)) (h2 : 0 ≤ b) (h3 : b < ((2 ^ k : Nat) : Int)) : 0 ≤ xorI a b ∧ xorI a b < ((2 ^ k : Nat) : Int) := by
  obtain ⟨A, rfl⟩ := Int.eq_ofNat_of_zero_le h0
  obtain ⟨B, rfl⟩ := Int.eq_ofNat_of_zero_le h2
  have hp : 2 ^ k ≤ 2 ^ 63 := Nat.pow_le_pow_right (by omega) hk
  have ha : A < 2 ^ k := by omega
  have hb : B < 2 ^ k := by omega
  have hx := Nat.xor_lt_two_pow ha hb
  rw [xorI_nat A B (by omega) (by omega)]
  omega
end Go.Proofs.Ytokhogdocaeelaa
