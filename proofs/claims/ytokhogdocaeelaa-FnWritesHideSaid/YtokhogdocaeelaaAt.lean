/- The laws' own small helpers: big, at. -/
import Derived.Test.YtokhogdocaeelaaEl
namespace Go.Proofs.Ytokhogdocaeelaa
set_option linter.unusedVariables false
open Go.RowKit

def atI (xs : List UInt8) (i : Int) : Int := if i < (xs.length : Nat) then ((xs.getD i.toNat 0).toNat : Int) else (i * 31 + (xs.length : Nat) * 7) % 256
theorem atI_bd (xs : List UInt8) (i : Int) : 0 ≤ atI xs i ∧ atI xs i ≤ 255 := by
  unfold atI
  split
  · have := (xs.getD i.toNat 0).toNat_lt; omega
  · omega
set_option maxHeartbeats 400000 in
theorem at_c (v : Value) (xs : List UInt8) (i : Int) (w : World) (h : Rd RB w v xs) (hn : xs.length ≤ 1048576) (h0 : 0 ≤ i) (h1 : i ≤ 1000000) :
    Calls Try.prog 19 #[v, .int .i64 i] w fun e w' => e = .returned (.int .i64 (atI xs i)) ∧ w = w' := by
  obtain ⟨A, n, c, rfl, h⟩ := h
  obtain ⟨k, rfl⟩ := Int.eq_ofNat_of_zero_le h0
  have hnn : n ≤ 1048576 := h.1 ▸ hn
  have H := Lib.hid h
  clear h hn
  by_cases hlt : k < n
  · obtain ⟨b, off, x, u, rfl, hbb, hx, g1, hr⟩ := H.out.at_ hlt
    unfold RB at hr
    subst hr
    have hv : atI xs (k : Int) = (x.toNat : Int) := by
      unfold atI
      have hl := (List.getElem?_eq_some_iff.1 hx).1
      rw [if_pos (by omega)]
      simp [List.getD, hx]
    have HV := Lib.hid hv
    have hx1 := x.toNat_lt
    clear hx hv
    go_enter Try.func19, Try.ntmps19
    go_wp2
    go_ret
    exact ⟨ret_int HV.out.symm, rfl⟩
  · have hv : atI xs (k : Int) = ((k : Int) * 31 + (n : Int) * 7) % 256 := by
      unfold atI
      rw [if_neg (by have := H.out.1; omega), H.out.1]
    have HV := Lib.hid hv
    clear hv
    go_enter Try.func19, Try.ntmps19
    go_wp2
    go_ret
    exact ⟨ret_int HV.out.symm, rfl⟩
theorem big_f (v : Value) (xs : List UInt8) (w : World) (h : Rd RB w v xs) (hn : xs.length ≤ 1048576) : Calls Try.prog 12 #[v] w fun e w' => e = .returned (.bool false) ∧ w = w' := by
  obtain ⟨A, n, c, rfl, h⟩ := h
  have hnn : n ≤ 1048576 := h.1 ▸ hn
  clear h hn
  go_enter Try.func12, Try.ntmps12
  go_wp2
  go_ret
  exact ⟨congrArg (fun b => Ending.returned (.bool b)) (by simp; omega), rfl⟩
theorem big_t (v : Value) (xs : List UInt8) (w : World) (h : Rd RB w v xs) (hn : ¬ xs.length ≤ 1048576) : Calls Try.prog 12 #[v] w fun e w' => e = .returned (.bool true) ∧ w = w' := by
  obtain ⟨A, n, c, rfl, h⟩ := h
  have hnn : 1048576 < n := by have := h.1; omega
  clear h hn
  go_enter Try.func12, Try.ntmps12
  go_wp2
  go_ret
  exact ⟨congrArg (fun b => Ending.returned (.bool b)) (by simp; omega), rfl⟩
end Go.Proofs.Ytokhogdocaeelaa
