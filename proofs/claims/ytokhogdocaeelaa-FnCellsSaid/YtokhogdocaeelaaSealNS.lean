/- SealCell of the reference: the failing branch. -/
import Derived.Test.YtokhogdocaeelaaSeal
namespace Go.Proofs.Ytokhogdocaeelaa
set_option linter.unusedVariables false
open Go.RowKit

set_option maxHeartbeats 1000000 in
theorem specSealN_c (k c m : Int) (v : Value) (body : List UInt8) (w : World) (h : Rd RB w v body) (hok : sealOk k c m body = false) :
    Calls Try.prog 50 #[.int .i64 k, .int .i64 c, .agg #[.int .i64 m, v]] w fun e w' => ∃ v', e = .returned (.tuple #[v', .bool false]) ∧ Fresh (Own 5 FB) w w' v' ([] : List UInt8) := by
  obtain ⟨A, n, cc, rfl, h'⟩ := h
  have h : Rd RB w (.slice A n cc) body := ⟨_, _, _, rfl, h'⟩
  clear h'
  have bx := below_alloc w (.cells #[.int .i64 m, .slice A n cc] 58)
  have IK := Lib.hid (fun W => specKey_c k W)
  have IP := Lib.hid (specIsValidPlain_c m _ body _ (Rd_reads RB_reads _ _ _ _ h bx))
  clear h
  cases hk : keyOk k with
  | false =>
    rw [hk] at IK
    go_enter Try.func50, Try.ntmps50
    go_wp2_with fail
    refine (IK.out _).mono ?_
    rintro e w' ⟨rfl, rfl⟩
    go_wp2
    refine bodyPost_ret (by simp [results, Try.results50, go_sem]) rfl ⟨_, rfl, (Row_lit (E := 5) (B := w.heap.size) _ #[] bx.size (by simp)).freshB (bx.alloc bx.size _) rfl⟩
  | true =>
    rw [hk] at IK
    by_cases hc : 0 ≤ c ∧ c ≤ 1000000000000
    · have hp : plainOk m body = false := by
        unfold sealOk cntOk at hok
        rw [hk, decide_eq_true hc] at hok
        simpa using hok
      rw [hp] at IP
      clear hok hp hk
      go_enter Try.func50, Try.ntmps50
      go_wp2_with fail
      refine (IK.out _).mono ?_
      rintro e w' ⟨rfl, rfl⟩
      go_wp2_with fail
      refine (specIn_t _ _ _ _ hc.1 hc.2).mono ?_
      rintro e w' ⟨rfl, rfl⟩
      go_wp2_with fail
      refine IP.out.mono ?_
      rintro e w1 ⟨rfl, b1⟩
      have T1 := bx.trans (b1.mono bx.size)
      go_wp2
      refine bodyPost_ret (by simp [results, Try.results50, go_sem]) rfl ⟨_, rfl, (Row_lit (E := 5) (B := w.heap.size) _ #[] T1.size (by simp)).freshB (T1.alloc T1.size _) rfl⟩
    · have HC := Lib.hid hc
      clear hc hok hk
      go_enter Try.func50, Try.ntmps50
      go_wp2_with fail
      refine (IK.out _).mono ?_
      rintro e w' ⟨rfl, rfl⟩
      go_wp2_with fail
      refine (specIn_f _ _ _ _ HC.out).mono ?_
      rintro e w' ⟨rfl, rfl⟩
      go_wp2
      refine bodyPost_ret (by simp [results, Try.results50, go_sem]) rfl ⟨_, rfl, (Row_lit (E := 5) (B := w.heap.size) _ #[] bx.size (by simp)).freshB (bx.alloc bx.size _) rfl⟩
end Go.Proofs.Ytokhogdocaeelaa
