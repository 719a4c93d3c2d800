/- SealCell of both sides: the two branches joined; the laws' marks over Plain. -/
import Derived.Test.YtokhogdocaeelaaSealS
import Derived.Test.YtokhogdocaeelaaSealN
import Derived.Test.YtokhogdocaeelaaSealNS
import Derived.Test.YtokhogdocaeelaaRead
namespace Go.Proofs.Ytokhogdocaeelaa
set_option linter.unusedVariables false
open Go.RowKit

theorem sealC_no {k c m : Int} {body : List UInt8} (h : sealOk k c m body = false) : sealC k c m body = [] := by unfold sealC; rw [h]; rfl
theorem sealC_le (k c m : Int) (body : List UInt8) : (sealC k c m body).length ≤ 24 := by
  cases h : sealOk k c m body with
  | false => rw [sealC_no h]; simp
  | true => rw [sealC_len k c m body h]; omega
theorem implSealCell_c (k c m : Int) (v : Value) (body : List UInt8) (ok : Bool) (w : World) (h : Rd RB w v body) (hok : Hid (sealOk k c m body = ok)) :
    Calls Try.prog 52 #[.int .i64 k, .int .i64 c, .agg #[.int .i64 m, v]] w fun e w' => ∃ v', e = .returned (.tuple #[v', .bool ok]) ∧ Fresh (Own 5 FB) w w' v' (sealC k c m body) := by
  cases ok with
  | true => exact implSealY_c k c m v body w h hok.out
  | false =>
    rw [sealC_no hok.out]
    refine (implSealN_c k c m v body w h hok.out).mono ?_
    rintro e w' ⟨rfl, b⟩
    exact ⟨_, rfl, fresh_nilB _ _ b⟩
theorem specSealCell_c (k c m : Int) (v : Value) (body : List UInt8) (ok : Bool) (w : World) (h : Rd RB w v body) (hok : Hid (sealOk k c m body = ok)) :
    Calls Try.prog 50 #[.int .i64 k, .int .i64 c, .agg #[.int .i64 m, v]] w fun e w' => ∃ v', e = .returned (.tuple #[v', .bool ok]) ∧ Fresh (Own 5 FB) w w' v' (sealC k c m body) := by
  cases ok with
  | true => exact specSealY_c k c m v body w h hok.out
  | false =>
    rw [sealC_no hok.out]
    exact specSealN_c k c m v body w h hok.out
set_option maxHeartbeats 1000000 in
theorem mark_plain (lo hi : Nat) (m : Int) (v : Value) (xs : List UInt8) (k0 : Int) (w : World) (h : Iv (Own 5 FB) lo hi w v xs) (hk0 : 0 ≤ k0) (hk : k0 + (xs.length : Nat) ≤ 4611686018427387904) :
    Calls Try.prog 47 #[.agg #[.int .i64 m, v], .int .i64 k0] w fun e w' => e = .returned (.int .i64 (k0 + (xs.length : Nat))) ∧ Iv (Own 5 FB) lo hi w' v (markB k0 xs.length) ∧ Chg lo hi w w' := by
  obtain ⟨A, l, c, rfl, q⟩ := rd_plain h
  clear q
  go_enter Try.func47, Try.ntmps47
  go_wp2_with fail
  have b0 := below_alloc w (.cells #[.int .i64 m, .slice A l c] 58)
  refine (markByteS_c lo hi _ xs _ _ (h.below (Own_good FB_good) b0) hk0 hk).mono ?_
  rintro e w1 ⟨rfl, f, ch⟩
  go_wp2
  go_ret
  exact ⟨rfl, f, (Chg.of_below b0).trans ch⟩
set_option maxHeartbeats 1000000 in
theorem held_plain (m : Int) (v : Value) (xs : List UInt8) (k0 : Int) (w : World) (h : Rd RB w v (markB k0 xs.length)) (hk0 : 0 ≤ k0) (hk : k0 + (xs.length : Nat) ≤ 4611686018427387904) :
    Calls Try.prog 48 #[.agg #[.int .i64 m, v], .int .i64 k0] w fun e w' => e = .returned (.int .i64 (k0 + (xs.length : Nat))) ∧ Below w.heap.size w w' := by
  obtain ⟨A, l, c, rfl, h'⟩ := h
  have h : Rd RB w (.slice A l c) (markB k0 xs.length) := ⟨_, _, _, rfl, h'⟩
  clear h'
  go_enter Try.func48, Try.ntmps48
  go_wp2_with fail
  have b0 := below_alloc w (.cells #[.int .i64 m, .slice A l c] 58)
  refine (heldByteS_c _ xs.length _ _ (Rd_reads RB_reads _ _ _ _ h b0) hk0 hk).mono ?_
  rintro e w1 ⟨rfl, b⟩
  go_wp2
  go_ret
  exact ⟨rfl, b0.trans (b.mono (by simp))⟩
end Go.Proofs.Ytokhogdocaeelaa
