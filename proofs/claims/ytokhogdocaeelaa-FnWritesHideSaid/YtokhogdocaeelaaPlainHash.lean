/- The hash on lists of integers: plain integers. -/
namespace Go.Proofs.Ytokhogdocaeelaa
set_option linter.unusedVariables false

def hstep (h v : Int) : Int := (h * 1000003 + v % 2147483647 + 13) % 2147483647
def hash (l : List Int) : Int := l.foldl hstep 11
def khash (k : Int) (l : List Int) : Int := hash (k :: (l ++ [k]))
def childS (s d : Int) : Int := (khash s [47, d] * khash s [47, d] + 5) % 2147483647
def ctlBit (s d : Int) : Int := (khash s [53, d] * khash s [53, d] % 2147483647) / 128 % 2

theorem hstep_range (h v : Int) : 0 ≤ hstep h v ∧ hstep h v < 2147483647 := by unfold hstep; omega
theorem foldl_range (l : List Int) (h : Int) (h0 : 0 ≤ h ∧ h < 2147483647) : 0 ≤ l.foldl hstep h ∧ l.foldl hstep h < 2147483647 := by
  induction l generalizing h with
  | nil => exact h0
  | cons v l ih => exact ih _ (hstep_range h v)
theorem hash_range (l : List Int) : 0 ≤ hash l ∧ hash l < 2147483647 := foldl_range l 11 (by omega)
theorem khash_range (k : Int) (l : List Int) : 0 ≤ khash k l ∧ khash k l < 2147483647 := hash_range _
theorem childS_range (s d : Int) : 0 ≤ childS s d ∧ childS s d < 2147483647 := by unfold childS; omega
theorem ctlBit_range (s d : Int) : 0 ≤ ctlBit s d ∧ ctlBit s d < 2 := by unfold ctlBit; omega
theorem hash_snoc (l : List Int) (v : Int) : hash (l ++ [v]) = hstep (hash l) v := by simp [hash]

theorem mod_spell (p q : Int) (h1 : 1 ≤ q) : (p.tmod q + q).tmod q = p % q := by
  have hb : 0 ≤ p % q ∧ p % q < q := ⟨Int.emod_nonneg _ (by omega), Int.emod_lt_of_pos _ (by omega)⟩
  by_cases hp : 0 ≤ p
  · rw [Int.tmod_eq_emod_of_nonneg hp, Int.tmod_eq_emod_of_nonneg (by omega), Int.add_emod_right, Int.emod_emod]
  · have h := Int.neg_tmod (-p) q
    rw [Int.neg_neg] at h
    have h2 : (-p).tmod q = (-p) % q := Int.tmod_eq_emod_of_nonneg (by omega)
    have hb2 : 0 ≤ (-p) % q ∧ (-p) % q < q := ⟨Int.emod_nonneg _ (by omega), Int.emod_lt_of_pos _ (by omega)⟩
    have e : -((-p) % q) + q = p + q * ((-p) / q + 1) := by
      have := Int.emod_add_mul_ediv (-p) q
      rw [Int.mul_add]; omega
    rw [h, h2, Int.tmod_eq_emod_of_nonneg (by omega), e, Int.add_mul_emod_self_left]

theorem tmod_range (p q : Int) (h1 : 1 ≤ q) : -q < p.tmod q ∧ p.tmod q < q := by
  have h := Int.tmod_lt_of_pos p (show 0 < q by omega)
  have h2 := Int.tmod_lt_of_pos (-p) (show 0 < q by omega)
  rw [Int.neg_tmod] at h2
  omega
theorem sq_range (h : Int) (h0 : 0 ≤ h) (h1 : h < 2147483647) : 0 ≤ h * h ∧ h * h < 4611686018427387904 := by
  refine ⟨Int.mul_nonneg h0 h0, ?_⟩
  have h2 : h * h ≤ 2147483647 * 2147483647 := Int.mul_le_mul (by omega) (by omega) h0 (by omega)
  omega
end Go.Proofs.Ytokhogdocaeelaa
