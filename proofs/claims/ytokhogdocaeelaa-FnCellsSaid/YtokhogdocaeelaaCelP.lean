/- Cells: another counter, another key or a changed byte opens nothing. Plain. -/
import Derived.Test.YtokhogdocaeelaaFc
namespace Go.Proofs.Ytokhogdocaeelaa
set_option linter.unusedVariables false
open Go.RowKit

theorem unit_zero {a A u q t : Int} (h : a * A = 2147483647 * t) (hu : A * u = 1 + 2147483647 * q) (h1 : -2147483647 < a) (h2 : a < 2147483647) : a = 0 := by
  have e : a * A * u = 2147483647 * t * u := by rw [h]
  rw [Int.mul_assoc, hu, Int.mul_add, Int.mul_one, Int.mul_assoc, Int.mul_left_comm] at e
  generalize a * q = X at e
  generalize t * u = Y at e
  omega
theorem sub0 {a b : Int} (h : a - b = 0) : a = b := by omega
theorem hstep_q (h v : Int) : ∃ q, hstep h v + 2147483647 * q = h * 1000003 + v % 2147483647 + 13 := ⟨_, Int.emod_add_mul_ediv _ _⟩
theorem hstep_inj {h h' v : Int} (a : 0 ≤ h ∧ h < 2147483647) (b : 0 ≤ h' ∧ h' < 2147483647) (e : hstep h v = hstep h' v) : h = h' := by
  have hA : -2147483647 < h - h' := by clear e; omega
  have hB : h - h' < 2147483647 := by clear e; omega
  obtain ⟨q1, h1⟩ := hstep_q h v
  obtain ⟨q2, h2⟩ := hstep_q h' v
  rw [e] at h1
  clear e a b
  generalize hstep h' v = r at h1 h2
  generalize v % 2147483647 = w at h1 h2
  have h0 : (h - h') * 1000003 = 2147483647 * (q1 - q2) := by
    clear hA hB
    rw [Int.sub_mul, Int.mul_sub]
    generalize h * 1000003 = x at *
    generalize h' * 1000003 = x' at *
    generalize 2147483647 * q1 = y at *
    generalize 2147483647 * q2 = y' at *
    omega
  have hu : (1000003 : Int) * 1523789695 = 1 + 2147483647 * 709572 := by omega
  exact sub0 (unit_zero h0 hu hA hB)
theorem hstep_val {h v v' : Int} (e : hstep h v = hstep h v') : v % 2147483647 = v' % 2147483647 := by
  unfold hstep at e
  omega
theorem foldl_inj {l : List Int} {h h' : Int} (a : 0 ≤ h ∧ h < 2147483647) (b : 0 ≤ h' ∧ h' < 2147483647) (e : l.foldl hstep h = l.foldl hstep h') : h = h' := by
  induction l generalizing h h' with
  | nil => exact e
  | cons v l ih =>
    rw [List.foldl_cons, List.foldl_cons] at e
    exact hstep_inj a b (ih (hstep_range h v) (hstep_range h' v) e)
theorem foldl_lin (n : Nat) (l : List Int) (hl : l.length = n) (h : Int) (a : 0 ≤ h ∧ h < 2147483647) : l.foldl hstep h = (h * 1000003 ^ n + l.foldl hstep 0) % 2147483647 := by
  induction n generalizing l with
  | zero =>
    obtain rfl := List.eq_nil_of_length_eq_zero hl
    simp
    omega
  | succ n ih =>
    rcases List.eq_nil_or_concat l with rfl | ⟨m, v, rfl⟩
    · simp at hl
    · rw [List.concat_eq_append] at hl ⊢
      rw [List.length_append, List.length_singleton] at hl
      rw [List.foldl_append, List.foldl_append, List.foldl_cons, List.foldl_nil, List.foldl_cons, List.foldl_nil, Int.pow_succ, ← Int.mul_assoc, ih m (by omega)]
      generalize h * 1000003 ^ n = X
      generalize m.foldl hstep 0 = F
      unfold hstep
      have e1 := Int.emod_add_mul_ediv (X + F) 2147483647
      have e2 := Int.emod_add_mul_ediv (F * 1000003 + v % 2147483647 + 13) 2147483647
      generalize (X + F) / 2147483647 = q1 at *
      generalize (X + F) % 2147483647 = r1 at *
      generalize (F * 1000003 + v % 2147483647 + 13) / 2147483647 = q2 at *
      generalize (F * 1000003 + v % 2147483647 + 13) % 2147483647 = r2 at *
      generalize v % 2147483647 = w at *
      have e3 : r1 * 1000003 + w + 13 = X * 1000003 + r2 + 2147483647 * (q2 - q1 * 1000003) := by omega
      rw [e3, Int.add_mul_emod_self_left]
theorem ckB_inj {n n' : Int} (h : 0 ≤ n ∧ n < 2147483647) (h' : 0 ≤ n' ∧ n' < 2147483647) (e : ckB n = ckB n') : n = n' := by
  have := (le4 (UInt8.ofInt n) (UInt8.ofInt (n / 256)) (UInt8.ofInt (n / 65536)) (UInt8.ofInt (n / 16777216)) n h.1 h.2).1 rfl
  have h2 := (le4 (UInt8.ofInt n) (UInt8.ofInt (n / 256)) (UInt8.ofInt (n / 65536)) (UInt8.ofInt (n / 16777216)) n' h'.1 h'.2).1 e
  omega
theorem cellCk_eq (k c : Int) (d : List UInt8) : cellCk k c d = hstep ((d.map fun x => (x.toNat : Int)).foldl hstep (hstep (hstep (hstep 11 k) 71) c)) k := by
  unfold cellCk khash hash cellInts
  rw [List.foldl_cons, List.foldl_append, List.foldl_cons, List.foldl_cons, List.foldl_cons, List.foldl_nil]
theorem fold_range (d : List UInt8) (h v : Int) : 0 ≤ (d.map fun x => (x.toNat : Int)).foldl hstep (hstep h v) ∧ (d.map fun x => (x.toNat : Int)).foldl hstep (hstep h v) < 2147483647 := foldl_range _ _ (hstep_range h v)
theorem cellCk_c {k c c' : Int} {d : List UInt8} (e : cellCk k c d = cellCk k c' d) : c % 2147483647 = c' % 2147483647 := by
  rw [cellCk_eq, cellCk_eq] at e
  exact hstep_val (foldl_inj (hstep_range _ _) (hstep_range _ _) (hstep_inj (fold_range _ _ _) (fold_range _ _ _) e))
theorem cellCk_set {k c : Int} {d : List UInt8} {i : Nat} {x y : UInt8} (hx : d[i]? = some x) (e : cellCk k c (d.set i y) = cellCk k c d) : y = x := by
  rw [cellCk_eq, cellCk_eq] at e
  have e1 := hstep_inj (fold_range _ _ _) (fold_range _ _ _) e
  obtain ⟨hi, hxx⟩ := List.getElem?_eq_some_iff.1 hx
  have s1 : d.set i y = d.take i ++ y :: d.drop (i + 1) := by rw [List.set_eq_take_append_cons_drop, if_pos hi]
  have s2 : d = d.take i ++ x :: d.drop (i + 1) := by rw [← hxx, ← List.drop_eq_getElem_cons hi, List.take_append_drop]
  rw [s1] at e1
  conv at e1 => rhs; rw [s2]
  rw [List.map_append, List.map_append, List.foldl_append, List.foldl_append, List.map_cons, List.map_cons, List.foldl_cons, List.foldl_cons] at e1
  have e2 := hstep_val (foldl_inj (hstep_range _ _) (hstep_range _ _) e1)
  have h1 := x.toNat_lt
  have h2 := y.toNat_lt
  apply UInt8.toNat_inj.1
  omega
theorem ck_lin (c : Int) (d : List UInt8) (hd : d.length = 20) : ∃ G : Int, ∀ k : Int, 1 ≤ k → k ≤ 2147483646 → ∃ t : Int, cellCk k c d = k * 1135911820725240 + G - 2147483647 * t := by
  obtain ⟨F, hF⟩ : ∃ F, (71 :: c :: d.map fun x => (x.toNat : Int)).foldl hstep 0 = F := ⟨_, rfl⟩
  refine ⟨11000046 * 1135908413 * 1000003 + F * 1000003 + 13, fun k h1 h2 => ?_⟩
  have l1 : (d.map fun x => (x.toNat : Int)).foldl hstep (hstep (hstep (hstep 11 k) 71) c) = (71 :: c :: d.map fun x => (x.toNat : Int)).foldl hstep (hstep 11 k) := rfl
  rw [cellCk_eq, l1, foldl_lin 22 _ (by simp [hd]) _ (hstep_range 11 k), hF]
  obtain ⟨y0, hy0⟩ : ∃ y0, hstep 11 k = y0 := ⟨_, rfl⟩
  have e0 : ∃ t1, y0 = 11000046 + k - 2147483647 * t1 := ⟨(11000046 + k) / 2147483647, by rw [← hy0]; unfold hstep; omega⟩
  rw [hy0]
  obtain ⟨t1, e0⟩ := e0
  have hp : (1000003 : Int) ^ 22 = 2147483647 * 465692022137685493906124910862426348423702814236496974789126068795153873260722643469427665632302198585574104008358684725668 + 1135908413 := by decide +kernel
  have e1 : ∃ t2, (y0 * 1000003 ^ 22 + F) % 2147483647 = y0 * 1135908413 + F - 2147483647 * t2 := by
    rw [hp, Int.mul_add]
    refine ⟨(y0 * (2147483647 * 465692022137685493906124910862426348423702814236496974789126068795153873260722643469427665632302198585574104008358684725668) + y0 * 1135908413 + F) / 2147483647 - y0 * 465692022137685493906124910862426348423702814236496974789126068795153873260722643469427665632302198585574104008358684725668, ?_⟩
    have := Int.emod_add_mul_ediv (y0 * (2147483647 * 465692022137685493906124910862426348423702814236496974789126068795153873260722643469427665632302198585574104008358684725668) + y0 * 1135908413 + F) 2147483647
    generalize (y0 * (2147483647 * 465692022137685493906124910862426348423702814236496974789126068795153873260722643469427665632302198585574104008358684725668) + y0 * 1135908413 + F) / 2147483647 = q at *
    generalize (y0 * (2147483647 * 465692022137685493906124910862426348423702814236496974789126068795153873260722643469427665632302198585574104008358684725668) + y0 * 1135908413 + F) % 2147483647 = r at *
    omega
  obtain ⟨t2, e1⟩ := e1
  rw [e1]
  clear e1 hp hy0 l1 hF
  have e2 : ∃ t3, hstep (y0 * 1135908413 + F - 2147483647 * t2) k = (y0 * 1135908413 + F - 2147483647 * t2) * 1000003 + k + 13 - 2147483647 * t3 := by
    unfold hstep
    refine ⟨((y0 * 1135908413 + F - 2147483647 * t2) * 1000003 + k % 2147483647 + 13) / 2147483647, ?_⟩
    have := Int.emod_add_mul_ediv ((y0 * 1135908413 + F - 2147483647 * t2) * 1000003 + k % 2147483647 + 13) 2147483647
    have hk : k % 2147483647 = k := Int.emod_eq_of_lt (by omega) (by omega)
    rw [hk] at this ⊢
    generalize ((y0 * 1135908413 + F - 2147483647 * t2) * 1000003 + k + 13) / 2147483647 = q at *
    generalize ((y0 * 1135908413 + F - 2147483647 * t2) * 1000003 + k + 13) % 2147483647 = r at *
    omega
  obtain ⟨t3, e2⟩ := e2
  refine ⟨t1 * 1135911820725239 + t2 * 1000003 + t3, ?_⟩
  rw [e2, e0]
  omega
theorem cellCk_k {k k' c : Int} {d : List UInt8} (hd : d.length = 20) (h : 1 ≤ k ∧ k ≤ 2147483646) (h' : 1 ≤ k' ∧ k' ≤ 2147483646) (e : cellCk k c d = cellCk k' c d) : k = k' := by
  obtain ⟨G, hG⟩ := ck_lin c d hd
  obtain ⟨t, ht⟩ := hG k h.1 h.2
  obtain ⟨t', ht'⟩ := hG k' h'.1 h'.2
  have hA : -2147483647 < k - k' := by clear e ht ht' hG; omega
  have hB : k - k' < 2147483647 := by clear e ht ht' hG; omega
  have e2 := ht.symm.trans (e.trans ht')
  clear ht ht' hG e
  have h0 : (k - k') * 1135911820725240 = 2147483647 * (t - t') := by
    clear hA hB h h'
    rw [Int.sub_mul, Int.mul_sub]
    generalize k * 1135911820725240 = x at *
    generalize k' * 1135911820725240 = x' at *
    generalize 2147483647 * t = y at *
    generalize 2147483647 * t' = y' at *
    omega
  have hu : (1135911820725240 : Int) * 927054385 = 1 + 2147483647 * 490365566158217 := by omega
  exact sub0 (unit_zero h0 hu hA hB)
end Go.Proofs.Ytokhogdocaeelaa
