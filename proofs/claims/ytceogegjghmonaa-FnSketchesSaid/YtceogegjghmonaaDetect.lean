/- Two nonzero components are rejected but for few challenges: plain integers, with a finite check by the kernel. -/
import Derived.Test.YtceogegjghmonaaSketch
import Derived.IntWalk
namespace Go.Proofs.Ytceogegjghmonaa
set_option linter.unusedVariables false
open Go.RowKit

def stepN (h v : Nat) : Nat := (h * 1000003 + v + 13) % 2147483647
def chalN (s i : Nat) : Nat :=
  let h := stepN (stepN (stepN (stepN 11 s) 47) (7000 + i)) s
  1 + (h * h + 5) % 2147483647 % 1018
theorem hstepN (h v : Nat) (hv : v < 2147483647) : hstep (h : Int) (v : Int) = (stepN h v : Int) := by
  unfold hstep stepN
  omega
theorem chalN_eq (s i : Nat) (hs : s < 2147483647) (hi : i < 1000000) : chal (s : Int) (i : Int) = (chalN s i : Int) := by
  have e : wrap64 (7000 + (i : Int)) = ((7000 + i : Nat) : Int) := by rw [IntWalk.wrap64_in _ (by omega)]; omega
  have h1 : khash (s : Int) [47, ((7000 + i : Nat) : Int)] = ((stepN (stepN (stepN (stepN 11 s) 47) (7000 + i)) s : Nat) : Int) := by
    show hstep (hstep (hstep (hstep 11 (s : Int)) 47) ((7000 + i : Nat) : Int)) (s : Int) = _
    rw [show (11 : Int) = ((11 : Nat) : Int) from rfl, show (47 : Int) = ((47 : Nat) : Int) from rfl, hstepN _ _ hs, hstepN _ _ (by omega), hstepN _ _ (by omega), hstepN _ _ hs]
  unfold chal childS chalN
  rw [e, h1]
  dsimp only
  generalize stepN (stepN (stepN (stepN 11 s) 47) (7000 + i)) s = h
  have e2 : (h : Int) * (h : Int) = ((h * h : Nat) : Int) := by simp
  rw [e2]
  generalize h * h = q
  omega
def eqS (i k s : Nat) : Bool := Nat.beq (chalN s i) (chalN s k)
def fewAll : Bool := (List.range 21).all fun k => (List.range k).all fun i => Nat.ble ((List.range 296).countP (eqS i k)) 4
theorem few_ok : fewAll = true := by decide +kernel

theorem few (i k : Nat) (hik : i < k) (hk : k < 21) : (List.range 296).countP (eqS i k) ≤ 4 := by
  have h := few_ok
  unfold fewAll at h
  rw [List.all_eq_true] at h
  have h2 := h k (List.mem_range.2 hk)
  rw [List.all_eq_true] at h2
  exact Nat.le_of_ble_eq_true (h2 i (List.mem_range.2 hik))

theorem cop (z : Nat) (h0 : 0 < z) (h1 : z < 1019) : Nat.gcd 1019 z = 1 := by
  have h : (List.range 1019).all (fun z => z == 0 || Nat.gcd 1019 z == 1) = true := by decide +kernel
  rw [List.all_eq_true] at h
  have := h z (List.mem_range.2 h1)
  simp at this
  omega
theorem cancel (z t : Nat) (h0 : 0 < z) (h1 : z < 1019) (h : 1019 ∣ z * t) : 1019 ∣ t := Nat.Coprime.dvd_of_dvd_mul_left (cop z h0 h1) h

/-- The sum of f k * xs[k]. -/
def wsum (f : Nat → Int) (xs : List Int) : Nat → Int
  | 0 => 0
  | k + 1 => wsum f xs k + f k * xs.getD k 0
theorem skA_w (s : Int) (xs : List Int) (m : Nat) : skA s xs m = wsum (fun k => chal s (k : Int)) xs m := by
  induction m with
  | zero => rfl
  | succ m ih => simp only [skA, wsum, ih]
theorem skB_w (s : Int) (xs : List Int) (m : Nat) : skB s xs m = wsum (fun k => chal s (k : Int) * chal s (k : Int)) xs m := by
  induction m with
  | zero => rfl
  | succ m ih => simp only [skB, wsum, ih]
theorem skM_w (xs : List Int) (m : Nat) : skM xs m = wsum (fun _ => 1) xs m := by
  induction m with
  | zero => rfl
  | succ m ih => simp only [skM, wsum, ih]; omega
/-- Two components. -/
def two (n i k : Nat) (x y : Int) : List Int := ((List.replicate n 0).set i x).set k y
theorem two_len (n i k : Nat) (x y : Int) : (two n i k x y).length = n := by simp [two]
theorem two_get (n i k : Nat) (x y : Int) (hik : i ≠ k) (m : Nat) (hm : m < n) : (two n i k x y)[m]? = some (if m = k then y else if m = i then x else 0) := by
  unfold two
  rw [List.getElem?_set]
  by_cases h : k = m
  · subst h; simp [hm]
  · rw [if_neg h, if_neg (fun e => h e.symm), List.getElem?_set]
    by_cases h' : i = m
    · subst h'; simp [hm]
    · rw [if_neg h', if_neg (fun e => h' e.symm), List.getElem?_replicate, if_pos hm]
theorem wsum_two (f : Nat → Int) (n i k : Nat) (x y : Int) (hik : i ≠ k) (m : Nat) (hm : m ≤ n) : wsum f (two n i k x y) m = (if i < m then f i * x else 0) + (if k < m then f k * y else 0) := by
  induction m with
  | zero => simp [wsum]
  | succ m ih =>
    rw [wsum, ih (by omega)]
    have e : (two n i k x y).getD m 0 = if m = k then y else if m = i then x else 0 := by
      rw [List.getD_eq_getElem?_getD, two_get n i k x y hik m (by omega)]; rfl
    rw [e]
    by_cases h1 : m = k
    · subst h1
      rw [if_pos rfl, if_neg (Nat.lt_irrefl m), if_pos (Nat.lt_succ_self m)]
      by_cases h2 : i < m
      · rw [if_pos h2, if_pos (by omega)]; omega
      · rw [if_neg h2, if_neg (by omega)]; omega
    · rw [if_neg h1]
      by_cases h2 : m = i
      · subst h2
        rw [if_pos rfl, if_neg (Nat.lt_irrefl m), if_pos (Nat.lt_succ_self m)]
        by_cases h3 : k < m
        · rw [if_pos h3, if_pos (by omega)]; omega
        · rw [if_neg h3, if_neg (by omega)]; omega
      · rw [if_neg h2, Int.mul_zero, Int.add_zero]
        have c3 : (i < m + 1) = (i < m) := by apply propext; omega
        have c4 : (k < m + 1) = (k < m) := by apply propext; omega
        simp only [c3, c4]
theorem two_ok (n i k : Nat) (x y : Int) (hik : i ≠ k) (hn : n ≤ 64) (hx : 0 ≤ x ∧ x ≤ 1018) (hy : 0 ≤ y ∧ y ≤ 1018) : skOk (two n i k x y) = true := by
  unfold skOk allIn
  rw [two_len, decide_eq_true hn]
  have : (two n i k x y).any (notIn 0 1018) = false := by
    rw [List.any_eq_false]
    intro z hz
    obtain ⟨m, hm⟩ := List.mem_iff_getElem?.1 hz
    have hl : m < n := by have := (List.getElem?_eq_some_iff.1 hm).1; rwa [two_len] at this
    rw [two_get n i k x y hik m hl] at hm
    injection hm with hm
    have : 0 ≤ z ∧ z ≤ 1018 := by
      rw [← hm]
      split
      · exact hy
      · split
        · exact hx
        · omega
    simp [notIn_f this]
  rw [this]
  rfl
theorem key_id (p q x y : Int) : (p * x + q * y) * (p * x + q * y) = (p * p * x + q * q * y) * (x + y) - x * (y * ((p - q) * (p - q))) := by
  have e1 : (p * x + q * y) * (p * x + q * y) = p * p * (x * x) + 2 * (p * q * (x * y)) + q * q * (y * y) := by
    simp only [Int.add_mul, Int.mul_add, Int.two_mul]
    have a1 : p * x * (p * x) = p * p * (x * x) := by rw [Int.mul_assoc, Int.mul_left_comm x p x, ← Int.mul_assoc]
    have a2 : q * y * (p * x) = p * q * (x * y) := by rw [Int.mul_comm (q * y) (p * x), Int.mul_assoc, Int.mul_left_comm x q y, ← Int.mul_assoc]
    have a3 : p * x * (q * y) = p * q * (x * y) := by rw [Int.mul_assoc, Int.mul_left_comm x q y, ← Int.mul_assoc]
    have a4 : q * y * (q * y) = q * q * (y * y) := by rw [Int.mul_assoc, Int.mul_left_comm y q y, ← Int.mul_assoc]
    rw [a1, a2, a3, a4]
    omega
  have e2 : (p * p * x + q * q * y) * (x + y) = p * p * (x * x) + p * p * (x * y) + q * q * (x * y) + q * q * (y * y) := by
    simp only [Int.add_mul, Int.mul_add]
    rw [Int.mul_assoc (p * p) x x, Int.mul_assoc (p * p) x y, Int.mul_assoc (q * q) y x, Int.mul_assoc (q * q) y y, Int.mul_comm y x]
    omega
  have e3 : x * (y * ((p - q) * (p - q))) = p * p * (x * y) - 2 * (p * q * (x * y)) + q * q * (x * y) := by
    have : (p - q) * (p - q) = p * p - 2 * (p * q) + q * q := by
      rw [Int.sub_mul, Int.mul_sub, Int.mul_sub, Int.mul_comm q p, Int.two_mul]; omega
    rw [this, ← Int.mul_assoc, Int.mul_add, Int.mul_sub]
    rw [Int.mul_comm (x * y) (p * p), Int.mul_comm (x * y) (q * q), Int.mul_left_comm (x * y) 2 (p * q), Int.mul_comm (x * y) (p * q)]
  rw [e1, e2, e3]
  omega
/-- Accepted only where both challenges are the same. -/
theorem acc_two (n i k : Nat) (x y s : Int) (hik : i ≠ k) (hi : i < n) (hk : k < n) (hn : n ≤ 64) (hx : 1 ≤ x ∧ x ≤ 1018) (hy : 1 ≤ y ∧ y ≤ 1018)
    (h : acc (sk1 (two n i k x y) s) (sk2 (two n i k x y) s) (sk3 (two n i k x y) s) = true) : chal s (i : Int) = chal s (k : Int) := by
  have hok := two_ok n i k x y hik hn ⟨by omega, hx.2⟩ ⟨by omega, hy.2⟩
  have ri := chal_range s i
  have rk := chal_range s k
  unfold acc sk1 sk2 sk3 at h
  rw [hok] at h
  simp only [if_true, skA_w, skB_w, skM_w, two_len] at h
  rw [wsum_two _ n i k x y hik n (Nat.le_refl _), wsum_two _ n i k x y hik n (Nat.le_refl _), wsum_two _ n i k x y hik n (Nat.le_refl _)] at h
  simp only [if_pos hi, if_pos hk, Int.one_mul, Int.emod_emod] at h
  have h2 := eq_of_beq h
  rw [← Int.mul_emod, ← Int.mul_emod, key_id] at h2
  generalize chal s (i : Int) = p at *
  generalize chal s (k : Int) = q at *
  generalize (p * p * x + q * q * y) * (x + y) = t at *
  have hd : (1019 : Int) ∣ x * (y * ((p - q) * (p - q))) := by
    generalize x * (y * ((p - q) * (p - q))) = u at *
    omega
  have hn2 : 1019 ∣ x.natAbs * (y.natAbs * ((p - q).natAbs * (p - q).natAbs)) := by
    have := Int.natAbs_dvd_natAbs.2 hd
    simpa [Int.natAbs_mul] using this
  have h3 := cancel _ _ (by omega) (by omega) hn2
  have h4 := cancel _ _ (by omega) (by omega) h3
  by_cases hpq : p = q
  · exact hpq
  · exfalso
    have h5 := cancel _ _ (by omega) (by omega) h4
    have := Nat.le_of_dvd (by omega) h5
    omega
theorem countP_le_of {p q : Nat → Bool} {l : List Nat} (h : ∀ x, x ∈ l → p x = true → q x = true) : l.countP p ≤ l.countP q := by
  induction l with
  | nil => simp
  | cons a l ih =>
    have ih := ih (fun x hx => h x (List.mem_cons_of_mem _ hx))
    rw [List.countP_cons, List.countP_cons]
    by_cases ha : p a = true
    · rw [if_pos ha, if_pos (h a (List.mem_cons_self ..) ha)]; omega
    · rw [if_neg ha]; omega
/-- At most four of forty challenges accept. -/
theorem detect (n i k f : Nat) (x y : Int) (hik : i ≠ k) (hi : i < n) (hk : k < n) (hn : n ≤ 21) (hf : f ≤ 255) (hx : 1 ≤ x ∧ x ≤ 1018) (hy : 1 ≤ y ∧ y ≤ 1018) : cntA (two n i k x y) (f : Int) 40 ≤ 4 := by
  have key : ∀ i' k' : Nat, i' < k' → k' < 21 → (∀ s : Nat, s < 296 → chal (s : Int) (i' : Int) = chal (s : Int) (k' : Int) → eqS i' k' s = true) := by
    intro i' k' h1 h2 s hs h
    rw [chalN_eq s i' (by omega) (by omega), chalN_eq s k' (by omega) (by omega)] at h
    unfold eqS
    have e : chalN s i' = chalN s k' := by omega
    rw [e]
    exact Nat.beq_refl _
  obtain ⟨i', k', hlt, hk', hp⟩ : ∃ i' k', i' < k' ∧ k' < 21 ∧ ∀ j, j < 40 → accAt (two n i k x y) (f : Int) j = true → eqS i' k' (f + j) = true := by
    have base : ∀ j, j < 40 → accAt (two n i k x y) (f : Int) j = true → chal ((f + j : Nat) : Int) (i : Int) = chal ((f + j : Nat) : Int) (k : Int) := by
      intro j hj ha
      unfold accAt at ha
      have e : wrap64 ((f : Int) + (j : Int)) = ((f + j : Nat) : Int) := by rw [IntWalk.wrap64_in _ (by omega)]; omega
      rw [e] at ha
      exact acc_two n i k x y _ hik hi hk (by omega) hx hy ha
    rcases Nat.lt_or_gt_of_ne hik with h | h
    · exact ⟨i, k, h, by omega, fun j hj ha => key i k h (by omega) _ (by omega) (base j hj ha)⟩
    · exact ⟨k, i, h, by omega, fun j hj ha => key k i h (by omega) _ (by omega) (base j hj ha).symm⟩
  have h4 := few i' k' hlt hk'
  unfold cntA
  have e1 : ((List.range 40).filter (accAt (two n i k x y) (f : Int))).length ≤ (List.range 40).countP (fun j => eqS i' k' (f + j)) := by
    rw [← List.countP_eq_length_filter]
    exact countP_le_of (fun j hj ha => hp j (List.mem_range.1 hj) ha)
  have e2 : (List.range 40).countP (fun j => eqS i' k' (f + j)) ≤ (List.range 296).countP (eqS i' k') := by
    have es : List.range 296 = List.range f ++ ((List.range 40).map (f + ·) ++ (List.range (256 - f)).map (f + 40 + ·)) := by
      apply List.ext_getElem?
      intro m
      by_cases hm : m < f
      · rw [List.getElem?_append_left (by simpa using hm)]; simp [hm, show m < 296 by omega]
      · rw [List.getElem?_append_right (by simp; omega)]
        by_cases hm2 : m - f < 40
        · rw [List.getElem?_append_left (by simp; omega)]
          simp [show m < 296 by omega, hm2]
          omega
        · rw [List.getElem?_append_right (by simp; omega)]
          by_cases hm3 : m < 296
          · simp [hm3, show m - f - 40 < 256 - f by omega]
            omega
          · rw [List.getElem?_eq_none (by simp; omega), List.getElem?_eq_none (by simp; omega)]
    rw [es, List.countP_append, List.countP_append, List.countP_map]
    have : List.countP (eqS i' k' ∘ fun x => f + x) (List.range 40) = List.countP (fun j => eqS i' k' (f + j)) (List.range 40) := rfl
    omega
  omega
end Go.Proofs.Ytceogegjghmonaa
