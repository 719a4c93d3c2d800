/- Sketches: the shares of a vector with at most one nonzero component are accepted. Plain law. -/
import Derived.Test.YtceogegjghmonaaDetect
import Derived.Test.YtceogegjghmonaaShVP
import Derived.Test.YtceogegjghmonaaCheck
namespace Go.Proofs.Ytceogegjghmonaa
set_option linter.unusedVariables false
open Go.RowKit

theorem skOk_of {xs : List Int} (h1 : xs.length ≤ 64) (h2 : ∀ x ∈ xs, 0 ≤ x ∧ x ≤ 1018) : skOk xs = true := by
  unfold skOk allIn
  rw [decide_eq_true h1]
  have : xs.any (notIn 0 1018) = false := by
    rw [List.any_eq_false]
    intro z hz
    simp [notIn_f (h2 z hz)]
  rw [this]
  rfl
theorem getD_at {l : List Int} {k : Nat} (h : k < l.length) : l[k]? = some (l.getD k 0) := by
  simp [List.getD, List.getElem?_eq_getElem h]
def sumR (f : Nat → Int) : Nat → Int
  | 0 => 0
  | k + 1 => sumR f k + f k
theorem sumR_map (f : Nat → Int) (K : Nat) : ((List.range K).map f).sum = sumR f K := by
  induction K with
  | zero => rfl
  | succ K ih => rw [List.range_succ, List.map_append, sum_append, ih]; simp [sumR]
theorem sumR_add (f g : Nat → Int) (K : Nat) : sumR (fun k => f k + g k) K = sumR f K + sumR g K := by
  induction K with
  | zero => rfl
  | succ K ih => simp only [sumR, ih]; omega
theorem sumR_mul (c : Int) (g : Nat → Int) (K : Nat) : sumR (fun k => c * g k) K = c * sumR g K := by
  induction K with
  | zero => simp [sumR]
  | succ K ih => simp only [sumR, ih, Int.mul_add]
theorem sumR_mod (f : Nat → Int) (K : Nat) : sumR (fun k => f k % 1019) K % 1019 = sumR f K % 1019 := by
  induction K with
  | zero => rfl
  | succ K ih => simp only [sumR]; omega
theorem sumR_congr {f g : Nat → Int} {K : Nat} (h : ∀ k, k < K → f k = g k) : sumR f K = sumR g K := by
  induction K with
  | zero => rfl
  | succ K ih => simp only [sumR]; rw [ih (fun k hk => h k (by omega)), h K (by omega)]
theorem sumR_zero (K : Nat) : sumR (fun _ => 0) K = 0 := by
  induction K with
  | zero => rfl
  | succ K ih => simp only [sumR, ih]; rfl
theorem js_sum (f : List Int → Int) (l : List (List Int)) (a : Int) (ha : 0 ≤ a ∧ a < 1019) : l.foldl (jsF f) a = (a + (l.map f).sum) % 1019 := by
  induction l generalizing a with
  | nil => simp; omega
  | cons x l ih =>
    rw [List.foldl_cons, ih _ (by unfold jsF; omega), List.map_cons, List.sum_cons]
    unfold jsF
    omega
theorem col_sum (v seeds : List Int) (i : Nat) : sumR (fun k => shAt v seeds k i) (seeds.length + 1) % 1019 = v.getD i 0 % 1019 := by
  rw [← shV_sum (v.getD i 0) (svS seeds (i : Int)), ← sumR_map]
  congr 2
  refine List.ext_getElem? (fun k => ?_)
  have hl : (shV (v.getD i 0) (svS seeds (i : Int))).length = seeds.length + 1 := by rw [shV_len, svS_len]
  by_cases hk : k < seeds.length + 1
  · have e : (shV (v.getD i 0) (svS seeds (i : Int)))[k]? = some (shAt v seeds k i) := by
      have hk' : k < (shV (v.getD i 0) (svS seeds (i : Int))).length := by rw [hl]; exact hk
      exact getD_at hk'
    rw [e]
    simp [hk]
  · rw [List.getElem?_eq_none (by simp; omega), List.getElem?_eq_none (by rw [hl]; omega)]
theorem shRow_get (v seeds : List Int) (m k i : Nat) (h : i < m) : (shRow v seeds m k).getD i 0 = shAt v seeds k i := by
  simp [shRow, List.getD, h]
theorem rows_sum (c : Nat → Int) (v seeds : List Int) (n m : Nat) (hm : m ≤ n) : sumR (fun k => wsum c (shRow v seeds n k) m) (seeds.length + 1) % 1019 = wsum c v m % 1019 := by
  induction m with
  | zero =>
    show sumR (fun _ => 0) _ % 1019 = 0 % 1019
    rw [sumR_zero]
  | succ m ih =>
    have ih := ih (by omega)
    have e : sumR (fun k => wsum c (shRow v seeds n k) (m + 1)) (seeds.length + 1) = sumR (fun k => wsum c (shRow v seeds n k) m) (seeds.length + 1) + c m * sumR (fun k => shAt v seeds k m) (seeds.length + 1) := by
      rw [← sumR_mul, ← sumR_add]
      refine sumR_congr (fun k _ => ?_)
      show wsum c _ m + c m * _ = _
      rw [shRow_get v seeds n k m (by omega)]
    have hc := col_sum v seeds m
    rw [e]
    show _ = (wsum c v m + c m * v.getD m 0) % 1019
    rw [Int.add_emod, ih, Int.mul_emod, hc, ← Int.mul_emod, ← Int.add_emod]
theorem shRow_ok (v seeds : List Int) (n k : Nat) (hn : n ≤ 64) (hk : k < seeds.length + 1) : skOk (shRow v seeds n k) = true := by
  refine skOk_of (by rw [shRow_len]; exact hn) (fun x hx => ?_)
  simp only [shRow, List.mem_map, List.mem_range] at hx
  obtain ⟨i, _, rfl⟩ := hx
  unfold shAt
  have hl : k < (shV (v.getD i 0) (svS seeds (i : Int))).length := by rw [shV_len, svS_len]; exact hk
  have hm : (shV (v.getD i 0) (svS seeds (i : Int))).getD k 0 ∈ shV (v.getD i 0) (svS seeds (i : Int)) := List.mem_of_getElem? (getD_at hl)
  exact shV_range _ _ _ hm
/-- The joined sketches are the vector's sketch. -/
theorem js_law (v seeds : List Int) (g : List Int → Int) (c : Nat → Int) (hg : ∀ xs, skOk xs = true → g xs = wsum c xs xs.length % 1019) (hv : vecOk v seeds = true) (hok : skOk v = true) : js g (shVec v seeds) = g v := by
  have h := of_decide_eq_true hv
  unfold js
  rw [js_sum _ _ 0 (by omega), Int.zero_add, hg v hok]
  unfold shVec
  rw [if_pos hv, List.map_map, sumR_map]
  have e : sumR (g ∘ shRow v seeds v.length) (seeds.length + 1) = sumR (fun k => wsum c (shRow v seeds v.length k) v.length % 1019) (seeds.length + 1) := sumR_congr (fun k hk => by
    show g (shRow v seeds v.length k) = _
    rw [hg _ (shRow_ok v seeds _ k h.1 hk), shRow_len])
  rw [e, sumR_mod, rows_sum c v seeds v.length v.length (Nat.le_refl _)]
theorem s1_w (s : Int) (xs : List Int) (h : skOk xs = true) : s1 s xs = wsum (fun k => chal s (k : Int)) xs xs.length % 1019 := by unfold s1 sk1; rw [if_pos h, skA_w]
theorem s2_w (s : Int) (xs : List Int) (h : skOk xs = true) : s2 s xs = wsum (fun k => chal s (k : Int) * chal s (k : Int)) xs xs.length % 1019 := by unfold s2 sk2; rw [if_pos h, skB_w]
theorem s3_w (s : Int) (xs : List Int) (h : skOk xs = true) : s3 s xs = wsum (fun _ => 1) xs xs.length % 1019 := by unfold s3 sk3; rw [if_pos h, skM_w]
/-- One component. -/
def one (n i : Nat) (x : Int) : List Int := (List.replicate n 0).set i x
theorem one_len (n i : Nat) (x : Int) : (one n i x).length = n := by simp [one]
theorem one_get (n i : Nat) (x : Int) (m : Nat) (hm : m < n) : (one n i x)[m]? = some (if m = i then x else 0) := by
  unfold one
  rw [List.getElem?_set, List.length_replicate]
  by_cases h : i = m
  · rw [if_pos h, if_pos (by omega), if_pos h.symm]
  · rw [if_neg h, if_neg (fun e => h e.symm), List.getElem?_replicate, if_pos hm]
theorem one_ok (n i : Nat) (x : Int) (hn : n ≤ 64) (hx : 0 ≤ x ∧ x ≤ 1018) : skOk (one n i x) = true := skOk_of (by rw [one_len]; exact hn) (fun z hz => by
  obtain ⟨m, hm⟩ := List.mem_iff_getElem?.1 hz
  have hl : m < n := by have := (List.getElem?_eq_some_iff.1 hm).1; rwa [one_len] at this
  rw [one_get n i x m hl] at hm
  injection hm with hm
  rw [← hm]
  split <;> omega)
theorem wsum_one (c : Nat → Int) (n i : Nat) (x : Int) (m : Nat) (hm : m ≤ n) : wsum c (one n i x) m = if i < m then c i * x else 0 := by
  induction m with
  | zero => simp [wsum]
  | succ m ih =>
    show wsum c _ m + c m * _ = _
    rw [ih (by omega), List.getD, one_get n i x m (by omega), Option.getD_some]
    by_cases h : m = i
    · subst h
      rw [if_neg (by omega), if_pos rfl, if_pos (by omega), Int.zero_add]
    · rw [if_neg h, Int.mul_zero, Int.add_zero]
      by_cases h2 : i < m
      · rw [if_pos h2, if_pos (by omega)]
      · rw [if_neg h2, if_neg (by omega)]
theorem acc_one (n i : Nat) (x s : Int) (hi : i < n) (hn : n ≤ 64) (hx : 0 ≤ x ∧ x ≤ 1018) : acc (sk1 (one n i x) s) (sk2 (one n i x) s) (sk3 (one n i x) s) = true := by
  have ok := one_ok n i x hn hx
  have e1 := s1_w s _ ok
  have e2 := s2_w s _ ok
  have e3 := s3_w s _ ok
  rw [one_len, wsum_one _ n i x n (Nat.le_refl _), if_pos hi] at e1 e2 e3
  unfold s1 at e1
  unfold s2 at e2
  unfold s3 at e3
  unfold acc
  rw [e1, e2, e3, beq_iff_eq]
  simp only [Int.emod_emod_of_dvd _ (Int.dvd_refl 1019), Int.one_mul]
  rw [← Int.mul_emod, ← Int.mul_emod]
  congr 1
  generalize chal s (i : Int) = c
  rw [Int.mul_assoc, Int.mul_assoc, Int.mul_assoc, Int.mul_left_comm x c x]
theorem chk_one (n i : Nat) (x s : Int) (seeds : List Int) (hi : i < n) (hn : n ≤ 64) (hx : 0 ≤ x ∧ x ≤ 1018) (h1 : 1 ≤ seeds.length) (h2 : seeds.length ≤ 3) :
    (shVec (one n i x) seeds).length = seeds.length + 1 ∧ chk (shVec (one n i x) seeds) s = true ∧ js (s1 s) (shVec (one n i x) seeds) = sk1 (one n i x) s ∧ js (s2 s) (shVec (one n i x) seeds) = sk2 (one n i x) s ∧ js (s3 s) (shVec (one n i x) seeds) = sk3 (one n i x) s := by
  have hv : vecOk (one n i x) seeds = true := decide_eq_true ⟨by rw [one_len]; exact hn, h1, h2⟩
  have ok := one_ok n i x hn hx
  have j1 : js (s1 s) (shVec (one n i x) seeds) = sk1 (one n i x) s := js_law _ seeds (s1 s) _ (s1_w s) hv ok
  have j2 : js (s2 s) (shVec (one n i x) seeds) = sk2 (one n i x) s := js_law _ seeds (s2 s) _ (s2_w s) hv ok
  have j3 : js (s3 s) (shVec (one n i x) seeds) = sk3 (one n i x) s := js_law _ seeds (s3 s) _ (s3_w s) hv ok
  have hl : (shVec (one n i x) seeds).length = seeds.length + 1 := by unfold shVec; rw [if_pos hv]; simp
  have hall : ∀ y ∈ shVec (one n i x) seeds, skOk y = true ∧ y.length = n := fun y hy => by
    unfold shVec at hy
    rw [if_pos hv] at hy
    simp only [List.mem_map, List.mem_range] at hy
    obtain ⟨k, hk, rfl⟩ := hy
    exact ⟨shRow_ok _ _ _ k (by rw [one_len]; exact hn) hk, by rw [shRow_len, one_len]⟩
  refine ⟨hl, ?_, j1, j2, j3⟩
  obtain ⟨y, hy⟩ : ∃ y, (shVec (one n i x) seeds)[0]? = some y := ⟨_, List.getElem?_eq_getElem (by omega)⟩
  have hh : hdLen (shVec (one n i x) seeds) = n := by rw [hdLen_of hy]; exact (hall y (List.mem_of_getElem? hy)).2
  rw [chk_ok (by omega) (List.all_eq_true.2 (fun z hz => by rw [hh]; exact okS_t (hall z hz).1 (hall z hz).2)), j1, j2, j3]
  exact acc_one n i x s hi hn hx
theorem cntA_one (n i : Nat) (x f : Int) (m : Nat) (hi : i < n) (hn : n ≤ 64) (hx : 0 ≤ x ∧ x ≤ 1018) : cntA (one n i x) f m = (m : Int) := by
  have hf : ∀ j ∈ List.range m, accAt (one n i x) f j = true := fun j _ => acc_one n i x _ hi hn hx
  unfold cntA
  rw [List.filter_eq_self.2 hf, List.length_range]
end Go.Proofs.Ytceogegjghmonaa
