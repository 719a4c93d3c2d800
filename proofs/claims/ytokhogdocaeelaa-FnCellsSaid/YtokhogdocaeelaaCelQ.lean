/- Cells: what a sealed cell opens to. Plain. -/
import Derived.Test.YtokhogdocaeelaaCelP
namespace Go.Proofs.Ytokhogdocaeelaa
set_option linter.unusedVariables false
open Go.RowKit

theorem chk_no {k c : Int} {cell : List UInt8} (h : chkOk k c cell = false) : openOk k c cell = false := by rw [openOk_eq, h]; simp
theorem seal_parts {k c m : Int} {body : List UInt8} (h : sealOk k c m body = true) : (sealC k c m body).take 20 = sealD k c m body ∧ (sealC k c m body).drop 20 = ckB (cellCk k c (sealD k c m body)) ∧ (sealD k c m body).length = 20 := by
  have hh := h
  unfold sealOk plainOk at hh
  simp only [Bool.and_eq_true, decide_eq_true_eq] at hh
  have hl := sealD_len k c m body hh.2.2.2
  have hs : sealC k c m body = sealD k c m body ++ ckB (cellCk k c (sealD k c m body)) := by unfold sealC; rw [if_pos h]
  refine ⟨?_, ?_, hl⟩
  · rw [hs, List.take_append_of_le_length (by omega), List.take_of_length_le (by omega)]
  · rw [hs, List.drop_append_of_le_length (by omega), List.drop_of_length_le (by omega), List.nil_append]
theorem cellCk_range (k c : Int) (d : List UInt8) : 0 ≤ cellCk k c d ∧ cellCk k c d < 2147483647 := khash_range k _
theorem seal_other {k c c' m : Int} {body : List UInt8} (h : sealOk k c m body = true) (hc : c % 2147483647 ≠ c' % 2147483647) : openOk k c' (sealC k c m body) = false := by
  refine chk_no ?_
  obtain ⟨h1, h2, h3⟩ := seal_parts h
  unfold chkOk
  rw [h1, h2]
  exact decide_eq_false (fun e => hc (cellCk_c (ckB_inj (cellCk_range _ _ _) (cellCk_range _ _ _) e)))
theorem seal_stranger {k k' c m : Int} {body : List UInt8} (h : sealOk k c m body = true) (h1 : 1 ≤ k') (h2 : k' ≤ 2147483646) (hk : k ≠ k') : openOk k' c (sealC k c m body) = false := by
  refine chk_no ?_
  have hh := h
  unfold sealOk keyOk at hh
  simp only [Bool.and_eq_true, decide_eq_true_eq] at hh
  obtain ⟨p1, p2, p3⟩ := seal_parts h
  unfold chkOk
  rw [p1, p2]
  exact decide_eq_false (fun e => hk (cellCk_k p3 hh.1.1 ⟨h1, h2⟩ (ckB_inj (cellCk_range _ _ _) (cellCk_range _ _ _) e)))
theorem seal_bad {k c m : Int} {body : List UInt8} {i : Nat} {x y : UInt8} (h : sealOk k c m body = true) (hx : (sealC k c m body)[i]? = some x) (hy : y ≠ x) : openOk k c ((sealC k c m body).set i y) = false := by
  refine chk_no ?_
  obtain ⟨p1, p2, p3⟩ := seal_parts h
  have hs : sealC k c m body = sealD k c m body ++ ckB (cellCk k c (sealD k c m body)) := by unfold sealC; rw [if_pos h]
  unfold chkOk
  by_cases hi : i < 20
  · have e1 : ((sealC k c m body).set i y).take 20 = (sealD k c m body).set i y := by rw [List.take_set, p1]
    have e2 : ((sealC k c m body).set i y).drop 20 = ckB (cellCk k c (sealD k c m body)) := by rw [List.drop_set, if_pos hi, p2]
    have e3 : (sealD k c m body)[i]? = some x := by
      rw [hs, List.getElem?_append_left (by omega)] at hx
      exact hx
    rw [e1, e2]
    exact decide_eq_false (fun e => hy (cellCk_set e3 (ckB_inj (cellCk_range _ _ _) (cellCk_range _ _ _) e).symm))
  · have e1 : ((sealC k c m body).set i y).take 20 = sealD k c m body := by rw [List.take_set, p1, List.set_eq_of_length_le (by omega)]
    have e2 : ((sealC k c m body).set i y).drop 20 = (ckB (cellCk k c (sealD k c m body))).set (i - 20) y := by rw [List.drop_set, if_neg hi, p2]
    have e3 : (ckB (cellCk k c (sealD k c m body)))[i - 20]? = some x := by
      rw [hs, List.getElem?_append_right (by omega), p3] at hx
      exact hx
    rw [e1, e2]
    refine decide_eq_false (fun e => hy ?_)
    have e4 := congrArg (fun l => l[i - 20]?) e
    simp only [List.getElem?_set_self (List.getElem?_eq_some_iff.1 e3).1] at e4
    rw [e3] at e4
    exact Option.some.inj e4
theorem seal_find {k c m : Int} {body : List UInt8} (h : sealOk k c m body = true) (h1 : 3 < c) (h2 : c < 900) : fcV k (sealC k c m body) (c - 2) 5 = c := by
  have f0 : fcAt (c - 2) 0 = c - 2 := by unfold fcAt; rw [IntWalk.i64_in _ (by omega)]; omega
  have f1 : fcAt (c - 2) 1 = c - 1 := by unfold fcAt; rw [IntWalk.i64_in _ (by omega)]; omega
  have f2 : fcAt (c - 2) 2 = c := by unfold fcAt; rw [IntWalk.i64_in _ (by omega)]; omega
  have := fcV_some (k := k) (cell := sealC k c m body) (first := c - 2) (n := 5) (j := 2) (fun i hi => by
    match i, hi with
    | 0, _ => rw [f0]; exact seal_other h (by omega)
    | 1, _ => rw [f1]; exact seal_other h (by omega)) (by omega) (by rw [f2]; exact (open_seal k c m body h).1)
  rw [this, f2]
end Go.Proofs.Ytokhogdocaeelaa
