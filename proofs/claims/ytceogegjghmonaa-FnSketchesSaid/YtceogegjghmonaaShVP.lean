/- ShareNumber and ShareVector: plain. -/
import Derived.Test.YtceogegjghmonaaEl
namespace Go.Proofs.Ytceogegjghmonaa
set_option linter.unusedVariables false
open Go.RowKit

def modF (s : Int) : Int := s % 1019
def sumF (s : List Int) : Int := (s.map modF).sum
def shOk (s : List Int) : Bool := decide (1 ≤ s.length ∧ s.length ≤ 3)
def shV (n : Int) (s : List Int) : List Int := s.map modF ++ [(n - sumF s) % 1019]
def shN (n : Int) (s : List Int) : List Int := if shOk s then shV n s else []
def seedAt (i : Int) (s : Int) : Int := wrap64 (s + 77 * i)
def svS (seeds : List Int) (i : Int) : List Int := seeds.map (seedAt i)
theorem svS_len (seeds : List Int) (i : Int) : (svS seeds i).length = seeds.length := by simp [svS]
theorem shV_len (n : Int) (s : List Int) : (shV n s).length = s.length + 1 := by simp [shV]
theorem sumF_snoc (s : List Int) (x : Int) : sumF (s ++ [x]) = sumF s + x % 1019 := by simp [sumF, modF]
theorem sumF_bd (s : List Int) : 0 ≤ sumF s ∧ sumF s ≤ 1018 * (s.length : Nat) := by
  induction s with
  | nil => simp [sumF]
  | cons x s ih =>
    have : sumF (x :: s) = x % 1019 + sumF s := by simp [sumF, modF]
    rw [this]
    simp only [List.length_cons]
    omega
theorem shV_range (n : Int) (s : List Int) : ∀ x ∈ shV n s, 0 ≤ x ∧ x ≤ 1018 := by
  intro x hx
  rcases List.mem_append.1 hx with hx | hx
  · obtain ⟨y, _, rfl⟩ := List.mem_map.1 hx
    unfold modF
    omega
  · simp at hx
    omega
theorem sum_append (a b : List Int) : (a ++ b).sum = a.sum + b.sum := by
  induction a with
  | nil => simp
  | cons x a ih => simp only [List.cons_append, List.sum_cons, ih]; omega
theorem shV_sum (n : Int) (s : List Int) : (shV n s).sum % 1019 = n % 1019 := by
  unfold shV
  rw [sum_append]
  show (sumF s + ([(n - sumF s) % 1019] : List Int).sum) % 1019 = n % 1019
  simp
  omega
/-- What stands in row k at column i. -/
def shAt (v seeds : List Int) (k i : Nat) : Int := (shV (v.getD i 0) (svS seeds (i : Int))).getD k 0
/-- The first m columns of row k. -/
def shRow (v seeds : List Int) (m k : Nat) : List Int := (List.range m).map (shAt v seeds k)
def vecOk (v seeds : List Int) : Bool := decide (v.length ≤ 64 ∧ 1 ≤ seeds.length ∧ seeds.length ≤ 3)
def shVec (v seeds : List Int) : List (List Int) := if vecOk v seeds then (List.range (seeds.length + 1)).map (shRow v seeds v.length) else []
theorem shRow_succ (v seeds : List Int) (m k : Nat) : shRow v seeds (m + 1) k = shRow v seeds m k ++ [shAt v seeds k m] := by simp [shRow, List.range_succ]
theorem shRow_len (v seeds : List Int) (m k : Nat) : (shRow v seeds m k).length = m := by simp [shRow]
/-- The rows after i columns and k rows of the next one. -/
def shMix (v seeds : List Int) (i k : Nat) : List (List Int) := (List.range (seeds.length + 1)).map fun j => shRow v seeds (if j < k then i + 1 else i) j
theorem shMix_len (v seeds : List Int) (i k : Nat) : (shMix v seeds i k).length = seeds.length + 1 := by simp [shMix]
theorem shMix_get (v seeds : List Int) (i k : Nat) (h : k < seeds.length + 1) : (shMix v seeds i k)[k]? = some (shRow v seeds i k) := by simp [shMix, h]
theorem shMix_set (v seeds : List Int) (i k : Nat) (h : k < seeds.length + 1) : (shMix v seeds i k).set k (shRow v seeds i k ++ [shAt v seeds k i]) = shMix v seeds i (k + 1) := by
  refine List.ext_getElem? (fun j => ?_)
  rw [List.getElem?_set, shMix_len]
  by_cases hj : k = j
  · subst hj
    rw [if_pos rfl, if_pos h]
    simp [shMix, h, shRow_succ]
  · rw [if_neg hj]
    unfold shMix
    rw [List.getElem?_map, List.getElem?_map]
    by_cases hl : j < seeds.length + 1
    · rw [List.getElem?_range hl]
      simp only [Option.map_some]
      have e : (j < k) ↔ (j < k + 1) := by omega
      simp only [e]
    · rw [List.getElem?_eq_none (by simp; omega)]; rfl
theorem shMix_full (v seeds : List Int) (i : Nat) : shMix v seeds i (seeds.length + 1) = shMix v seeds (i + 1) 0 := by
  unfold shMix
  refine List.map_congr_left (fun j hj => ?_)
  have : j < seeds.length + 1 := List.mem_range.1 hj
  rw [if_pos this, if_neg (by omega)]
theorem shMix_zero (v seeds : List Int) : shMix v seeds 0 0 = List.replicate (seeds.length + 1) [] := by
  refine List.ext_getElem? (fun j => ?_)
  unfold shMix
  rw [List.getElem?_map, List.getElem?_replicate]
  by_cases hl : j < seeds.length + 1
  · rw [List.getElem?_range hl, if_pos hl]; simp [shRow]
  · rw [List.getElem?_eq_none (by simp; omega), if_neg hl]; rfl
theorem shMix_end {v seeds : List Int} (h : vecOk v seeds = true) : shMix v seeds v.length 0 = shVec v seeds := by
  unfold shVec shMix
  rw [if_pos h]
  refine List.map_congr_left (fun j _ => ?_)
  rw [if_neg (by omega)]
/-- The same with the columns to come as zeros. -/
def szRow (v seeds : List Int) (m k : Nat) : List Int := shRow v seeds m k ++ List.replicate (v.length - m) 0
def szMix (v seeds : List Int) (i k : Nat) : List (List Int) := (List.range (seeds.length + 1)).map fun j => szRow v seeds (if j < k then i + 1 else i) j
theorem szMix_len (v seeds : List Int) (i k : Nat) : (szMix v seeds i k).length = seeds.length + 1 := by simp [szMix]
theorem szMix_get (v seeds : List Int) (i k : Nat) (h : k < seeds.length + 1) : (szMix v seeds i k)[k]? = some (szRow v seeds i k) := by simp [szMix, h]
theorem szRow_len (v seeds : List Int) (m k : Nat) (h : m ≤ v.length) : (szRow v seeds m k).length = v.length := by simp [szRow, shRow_len]; omega
theorem szRow_set (v seeds : List Int) (i k : Nat) (h : i < v.length) : (szRow v seeds i k).set i (shAt v seeds k i) = szRow v seeds (i + 1) k := by
  unfold szRow
  have e : v.length - i = (v.length - (i + 1)) + 1 := by omega
  rw [e, List.replicate_succ, List.set_append, if_neg (by rw [shRow_len]; omega), shRow_len, Nat.sub_self, List.set_cons_zero, shRow_succ, List.append_assoc]
  rfl
theorem szMix_set (v seeds : List Int) (i k : Nat) (h : k < seeds.length + 1) (hi : i < v.length) : (szMix v seeds i k).set k ((szRow v seeds i k).set i (shAt v seeds k i)) = szMix v seeds i (k + 1) := by
  refine List.ext_getElem? (fun j => ?_)
  rw [List.getElem?_set, szMix_len, szRow_set v seeds i k hi]
  by_cases hj : k = j
  · subst hj
    rw [if_pos rfl, if_pos h]
    simp [szMix, h]
  · rw [if_neg hj]
    unfold szMix
    rw [List.getElem?_map, List.getElem?_map]
    by_cases hl : j < seeds.length + 1
    · rw [List.getElem?_range hl]
      simp only [Option.map_some]
      have e : (j < k) ↔ (j < k + 1) := by omega
      simp only [e]
    · rw [List.getElem?_eq_none (by simp; omega)]; rfl
theorem szMix_full (v seeds : List Int) (i : Nat) : szMix v seeds i (seeds.length + 1) = szMix v seeds (i + 1) 0 := by
  unfold szMix
  refine List.map_congr_left (fun j hj => ?_)
  have : j < seeds.length + 1 := List.mem_range.1 hj
  rw [if_pos this, if_neg (by omega)]
theorem szMix_zero (v seeds : List Int) : szMix v seeds 0 0 = List.replicate (seeds.length + 1) (List.replicate v.length 0) := by
  refine List.ext_getElem? (fun j => ?_)
  unfold szMix
  rw [List.getElem?_map, List.getElem?_replicate]
  by_cases hl : j < seeds.length + 1
  · rw [List.getElem?_range hl, if_pos hl]; simp [szRow, shRow]
  · rw [List.getElem?_eq_none (by simp; omega), if_neg hl]; rfl
theorem szMix_end {v seeds : List Int} (h : vecOk v seeds = true) : szMix v seeds v.length 0 = shVec v seeds := by
  unfold shVec szMix
  rw [if_pos h]
  refine List.map_congr_left (fun j _ => ?_)
  rw [if_neg (by omega)]
  simp [szRow]
theorem shVec_len (v seeds : List Int) : (shVec v seeds).length ≤ 4 := by
  unfold shVec
  split
  · rename_i h
    unfold vecOk at h
    have := of_decide_eq_true h
    simp
    omega
  · simp
theorem shVec_sum (v seeds : List Int) : ((shVec v seeds).map List.length).sum ≤ 256 := by
  unfold shVec
  split
  · rename_i h
    unfold vecOk at h
    have h2 := of_decide_eq_true h
    have : ∀ m : Nat, (((List.range m).map (shRow v seeds v.length)).map List.length).sum = m * v.length := fun m => by
      induction m with
      | zero => simp
      | succ m ih =>
        rw [List.range_succ, List.map_append, List.map_append, List.sum_append_nat, ih]
        simp [shRow_len, Nat.succ_mul]
    rw [this]
    have := Nat.mul_le_mul (show seeds.length + 1 ≤ 4 by omega) h2.1
    omega
  · simp
end Go.Proofs.Ytceogegjghmonaa
