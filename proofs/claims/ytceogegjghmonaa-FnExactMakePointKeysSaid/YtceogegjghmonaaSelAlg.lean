/- Selections add up: plain algebra of xorSel. -/
import Derived.Test.YtceogegjghmonaaMq
namespace Go.Proofs.Ytceogegjghmonaa
set_option linter.unusedVariables false
open Go.RowKit

theorem xorI01 (x y : Int) (hx : 0 ≤ x ∧ x ≤ 1) (hy : 0 ≤ y ∧ y ≤ 1) : xorI x y = (x + y) % 2 := by
  have h1 : x = 0 ∨ x = 1 := by omega
  have h2 : y = 0 ∨ y = 1 := by omega
  rcases h1 with rfl | rfl <;> rcases h2 with rfl | rfl <;> decide
/-- A selection of n rows. -/
def S (n : Nat) (a : List Int) : Prop := n ≤ 64 ∧ a.length = n ∧ ∀ (k : Nat) (x : Int), a[k]? = some x → 0 ≤ x ∧ x ≤ 1
theorem S.sel {n : Nat} {a : List Int} (h : S n a) : isSel a (n : Int) = true := by
  rw [isSel_ok ⟨by have := h.1; omega, by have := h.2.1; omega⟩]
  unfold allIn
  rw [Bool.not_eq_true', List.any_eq_false]
  intro x hx
  obtain ⟨k, hk⟩ := List.mem_iff_getElem?.1 hx
  simp [notIn_f (h.2.2 k x hk)]
theorem S.of {n : Nat} {a : List Int} (h : isSel a (n : Int) = true) : S n a := by
  have h1 := isSel_len h
  exact ⟨by omega, by omega, fun k x hx => isSel_get h hx⟩
theorem S.xor {n : Nat} {a b : List Int} (ha : S n a) (hb : S n b) : xorSel a b = List.zipWith xorI a b := by
  unfold xorSel
  have h1 := ha.sel
  have h2 := hb.sel
  rw [ha.2.1, h1, h2]
  rfl
theorem S.xor_len {n : Nat} {a b : List Int} (ha : S n a) (hb : S n b) : (xorSel a b).length = n := by
  rw [ha.xor hb, zipI_len a b (by rw [ha.2.1, hb.2.1])]
  exact ha.2.1
theorem S.xor_get {n : Nat} {a b : List Int} (ha : S n a) (hb : S n b) {k : Nat} {x y : Int} (hx : a[k]? = some x) (hy : b[k]? = some y) : (xorSel a b)[k]? = some ((x + y) % 2) := by
  rw [ha.xor hb, zipI_get hx hy, xorI01 x y (ha.2.2 k x hx) (hb.2.2 k y hy)]
theorem S.at {n : Nat} {a : List Int} (ha : S n a) {k : Nat} (hk : k < n) : ∃ x, a[k]? = some x ∧ (0 ≤ x ∧ x ≤ 1) := by
  have : k < a.length := by rw [ha.2.1]; exact hk
  exact ⟨a[k], List.getElem?_eq_getElem this, ha.2.2 k _ (List.getElem?_eq_getElem this)⟩
theorem S.add {n : Nat} {a b : List Int} (ha : S n a) (hb : S n b) : S n (xorSel a b) := by
  refine ⟨ha.1, ha.xor_len hb, fun k x hx => ?_⟩
  have hk : k < n := by have := (List.getElem?_eq_some_iff.1 hx).1; rw [ha.xor_len hb] at this; exact this
  obtain ⟨p, hp, _⟩ := ha.at hk
  obtain ⟨q, hq, _⟩ := hb.at hk
  rw [ha.xor_get hb hp hq] at hx
  injection hx with hx
  omega
theorem S.ext {n : Nat} {a b : List Int} (ha : S n a) (hb : S n b) (h : ∀ k x y, k < n → a[k]? = some x → b[k]? = some y → x = y) : a = b := by
  refine List.ext_getElem? (fun k => ?_)
  by_cases hk : k < n
  · obtain ⟨p, hp, _⟩ := ha.at hk
    obtain ⟨q, hq, _⟩ := hb.at hk
    rw [hp, hq, h k p q hk hp hq]
  · rw [List.getElem?_eq_none (by have := ha.2.1; omega), List.getElem?_eq_none (by have := hb.2.1; omega)]
theorem S.comm {n : Nat} {a b : List Int} (ha : S n a) (hb : S n b) : xorSel a b = xorSel b a := by
  refine (ha.add hb).ext (hb.add ha) (fun k x y hk hx hy => ?_)
  obtain ⟨p, hp, _⟩ := ha.at hk
  obtain ⟨q, hq, _⟩ := hb.at hk
  rw [ha.xor_get hb hp hq] at hx
  rw [hb.xor_get ha hq hp] at hy
  injection hx with hx
  injection hy with hy
  omega
theorem S.assoc {n : Nat} {a b c : List Int} (ha : S n a) (hb : S n b) (hc : S n c) : xorSel (xorSel a b) c = xorSel a (xorSel b c) := by
  refine ((ha.add hb).add hc).ext (ha.add (hb.add hc)) (fun k x y hk hx hy => ?_)
  obtain ⟨p, hp, _⟩ := ha.at hk
  obtain ⟨q, hq, _⟩ := hb.at hk
  obtain ⟨r, hr, _⟩ := hc.at hk
  rw [(ha.add hb).xor_get hc (ha.xor_get hb hp hq) hr] at hx
  rw [ha.xor_get (hb.add hc) hp (hb.xor_get hc hq hr)] at hy
  injection hx with hx
  injection hy with hy
  omega
theorem S.self {n : Nat} {a b : List Int} (ha : S n a) (hb : S n b) : xorSel a (xorSel a b) = b := by
  refine (ha.add (ha.add hb)).ext hb (fun k x y hk hx hy => ?_)
  obtain ⟨p, hp, _⟩ := ha.at hk
  obtain ⟨q, hq, _⟩ := hb.at hk
  rw [ha.xor_get (ha.add hb) hp (ha.xor_get hb hp hq)] at hx
  rw [hq] at hy
  injection hx with hx
  injection hy with hy
  omega
theorem S.zeros {n : Nat} (hn : n ≤ 64) : S n (List.replicate n 0) := by
  refine ⟨hn, List.length_replicate, fun k x hx => ?_⟩
  rw [List.getElem?_replicate] at hx
  split at hx
  · injection hx with hx; omega
  · cases hx
theorem S.zero {n : Nat} {a : List Int} (ha : S n a) : xorSel (List.replicate n 0) a = a := by
  have hz := S.zeros ha.1
  refine (hz.add ha).ext ha (fun k x y hk hx hy => ?_)
  have h0 : (List.replicate n (0 : Int))[k]? = some 0 := by rw [List.getElem?_replicate, if_pos hk]
  rw [hz.xor_get ha h0 hy] at hx
  injection hx with hx
  have := ha.2.2 k y hy
  omega
theorem S.fold {n : Nat} {a : List Int} {l : List (List Int)} (ha : S n a) (hl : ∀ x ∈ l, S n x) : S n (foldSel a l) := by
  induction l generalizing a with
  | nil => exact ha
  | cons x l ih => exact ih (ha.add (hl x (by simp))) (fun z hz => hl z (by simp [hz]))
theorem S.fold_eq {n : Nat} {a : List Int} {l : List (List Int)} (ha : S n a) (hl : ∀ x ∈ l, S n x) : foldSel a l = xorSel (foldSel (List.replicate n 0) l) a := by
  induction l generalizing a with
  | nil => exact ha.zero.symm
  | cons x l ih =>
    have hx := hl x (by simp)
    have hl' : ∀ z ∈ l, S n z := fun z hz => hl z (by simp [hz])
    have hz := S.zeros ha.1
    have e1 : foldSel a (x :: l) = foldSel (xorSel a x) l := rfl
    have e2 : foldSel (List.replicate n 0) (x :: l) = foldSel x l := by
      show foldSel (xorSel (List.replicate n 0) x) l = foldSel x l
      rw [hx.zero]
    rw [e1, e2, ih (ha.add hx) hl', ih hx hl', (hz.fold hl').assoc hx ha, ha.comm hx]
theorem S.unit {n : Nat} {i : Int} (h : unitOk (n : Int) i = true) : S n (unitSel (n : Int) i) := by
  have h' := h
  unfold unitOk at h'
  have h2 := of_decide_eq_true h'
  unfold unitSel
  rw [h]
  refine ⟨by omega, by simp, fun k x hx => ?_⟩
  simp only [if_true, Int.toNat_natCast] at hx
  rw [List.getElem?_set] at hx
  split at hx
  · split at hx
    · injection hx with hx; omega
    · cases hx
  · rw [List.getElem?_replicate] at hx
    split at hx
    · injection hx with hx; omega
    · cases hx
theorem S.rand {n : Nat} (s : Int) (hn : n ≤ 64) : S n (randSel s (n : Int)) := by
  unfold randSel
  rw [if_pos ⟨by omega, by omega⟩, Int.toNat_natCast]
  refine ⟨hn, randS_len s n, fun k x hx => ?_⟩
  unfold randS at hx
  rw [List.getElem?_map] at hx
  obtain ⟨j, _, hj⟩ := Option.map_eq_some_iff.1 hx
  rw [← hj]
  unfold rbit
  have := Int.emod_nonneg (khash s [(j : Int), 41] * khash s [(j : Int), 41] % 2147483647 / 512) (show (2 : Int) ≠ 0 by decide)
  have := Int.emod_lt_of_pos (khash s [(j : Int), 41] * khash s [(j : Int), 41] % 2147483647 / 512) (show (0 : Int) < 2 by decide)
  omega
theorem S.all {n : Nat} {l : List (List Int)} (h : ∀ x ∈ l, S n x) : selsOk (n : Int) l = true := List.all_eq_true.2 (fun x hx => (h x hx).sel)
/-- What explains the others, added to them, is the unit selection. -/
theorem explain_join {n : Nat} {i : Int} {l : List (List Int)} (hn : n ≤ 64) (hl : ∀ x ∈ l, S n x) (hu : unitOk (n : Int) i = true) : jq (l ++ [foldSel (unitSel (n : Int) i) l]) = unitSel (n : Int) i := by
  have hU := S.unit hu
  have hF := hU.fold hl
  have hall : ∀ x ∈ l ++ [foldSel (unitSel (n : Int) i) l], S n x := fun x hx => by
    rcases List.mem_append.1 hx with hx | hx
    · exact hl x hx
    · simp at hx
      rw [hx]
      exact hF
  have hd : hdL (l ++ [foldSel (unitSel (n : Int) i) l]) = n := by
    cases l with
    | nil => exact hF.2.1
    | cons x l => exact (hl x (by simp)).2.1
  unfold jq
  rw [hd, S.all hall, if_pos rfl, if_neg (by simp), foldSel_snoc]
  rw [hU.fold_eq hl]
  exact ((S.zeros hn).fold hl).self hU
end Go.Proofs.Ytceogegjghmonaa
