/- SealCell of the program: the failing branch. -/
import Derived.Test.YtokhogdocaeelaaSeal
namespace Go.Proofs.Ytokhogdocaeelaa
set_option linter.unusedVariables false
open Go.RowKit

set_option maxHeartbeats 1000000 in
theorem implSealN_c (k c m : Int) (v : Value) (body : List UInt8) (w : World) (h : Rd RB w v body) (hok : sealOk k c m body = false) :
    Calls Try.prog 52 #[.int .i64 k, .int .i64 c, .agg #[.int .i64 m, v]] w fun e w' => e = .returned (.tuple #[.slice none 0 0, .bool false]) ∧ Below w.heap.size w w' := by
  obtain ⟨A, n, cc, rfl, h'⟩ := h
  have h : Rd RB w (.slice A n cc) body := ⟨_, _, _, rfl, h'⟩
  clear h'
  have bx := below_alloc w (.cells #[.int .i64 m, .slice A n cc] 58)
  have IK := Lib.hid (fun W => implKey_c k W)
  have IP := Lib.hid (implIsValidPlain_c m _ body _ (Rd_reads RB_reads _ _ _ _ h bx))
  clear h
  cases hk : keyOk k with
  | false =>
    rw [hk] at IK
    go_enter Try.func52, Try.ntmps52
    go_wp2_with fail
    refine (IK.out _).mono ?_
    rintro e w' ⟨rfl, rfl⟩
    go_wp2
    refine bodyPost_ret (v := .tuple #[.slice none 0 0, .bool false]) (by simp [results, Try.results52, go_sem]) rfl ⟨rfl, bx⟩
  | true =>
    rw [hk] at IK
    by_cases hc : 0 ≤ c ∧ c ≤ 1000000000000
    · have hp : plainOk m body = false := by
        unfold sealOk cntOk at hok
        rw [hk, decide_eq_true hc] at hok
        simpa using hok
      rw [hp] at IP
      clear hok hp hk
      go_enter Try.func52, Try.ntmps52
      go_wp2_with fail
      refine (IK.out _).mono ?_
      rintro e w' ⟨rfl, rfl⟩
      go_wp2_with fail
      refine (implIn_t _ _ _ _ hc.1 hc.2).mono ?_
      rintro e w' ⟨rfl, rfl⟩
      go_wp2_with fail
      refine IP.out.mono ?_
      rintro e w1 ⟨rfl, b1⟩
      have T1 := bx.trans (b1.mono bx.size)
      go_wp2
      refine bodyPost_ret (v := .tuple #[.slice none 0 0, .bool false]) (by simp [results, Try.results52, go_sem]) rfl ⟨rfl, T1⟩
    · have HC := Lib.hid hc
      clear hc hok hk
      go_enter Try.func52, Try.ntmps52
      go_wp2_with fail
      refine (IK.out _).mono ?_
      rintro e w' ⟨rfl, rfl⟩
      go_wp2_with fail
      refine (implIn_f _ _ _ _ HC.out).mono ?_
      rintro e w' ⟨rfl, rfl⟩
      go_wp2
      refine bodyPost_ret (v := .tuple #[.slice none 0 0, .bool false]) (by simp [results, Try.results52, go_sem]) rfl ⟨rfl, bx⟩
end Go.Proofs.Ytokhogdocaeelaa
