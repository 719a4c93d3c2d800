/- Rows whose elements are another's: what append builds out of parts of a list of lists, without a copy of the lists. Plain theorems about worlds. -/
import Derived.Test.YtokhogdocaeelaaBase
namespace Go.Proofs.Ytokhogdocaeelaa
set_option linter.unusedVariables false
open Go.RowKit

/-- The cells hold the elements, one by one. -/
def Zip {α : Type} (R : Rel α) (w : World) (cells : List Value) (xs : List α) : Prop := cells.length = xs.length ∧ ∀ (k : Nat) (u : Value) (x : α), cells[k]? = some u → xs[k]? = some x → R w u x

section
variable {α : Type} {R : Rel α} {w w' : World}

theorem Zip.nil : Zip R w [] [] := ⟨rfl, fun k u x h => by simp at h⟩
theorem Zip.one {u : Value} {x : α} (h : R w u x) : Zip R w [u] [x] := ⟨rfl, fun k u' x' h1 h2 => by
  cases k with
  | zero => simp at h1 h2; subst h1 h2; exact h
  | succ k => simp at h1⟩
theorem Zip.app {c1 c2 : List Value} {x1 x2 : List α} (h1 : Zip R w c1 x1) (h2 : Zip R w c2 x2) : Zip R w (c1 ++ c2) (x1 ++ x2) := by
  refine ⟨by simp [h1.1, h2.1], fun k u x hu hx => ?_⟩
  by_cases hk : k < c1.length
  · rw [List.getElem?_append_left hk] at hu
    rw [List.getElem?_append_left (by rw [← h1.1]; exact hk)] at hx
    exact h1.2 k u x hu hx
  · rw [List.getElem?_append_right (by omega)] at hu
    rw [List.getElem?_append_right (by rw [← h1.1]; omega), ← h1.1] at hx
    exact h2.2 _ u x hu hx
theorem Zip.take {c : List Value} {xs : List α} (h : Zip R w c xs) (n : Nat) : Zip R w (c.take n) (xs.take n) := by
  refine ⟨by simp [h.1], fun k u x hu hx => ?_⟩
  rw [List.getElem?_take] at hu hx
  split at hu
  · rename_i hk
    rw [if_pos hk] at hx
    exact h.2 k u x hu hx
  · cases hu
theorem Zip.drop {c : List Value} {xs : List α} (h : Zip R w c xs) (n : Nat) : Zip R w (c.drop n) (xs.drop n) := by
  refine ⟨by simp [h.1], fun k u x hu hx => ?_⟩
  rw [List.getElem?_drop] at hu hx
  exact h.2 _ u x hu hx
theorem Zip.below (hR : Reads R) {c : List Value} {xs : List α} (h : Zip R w c xs) (hb : Below w.heap.size w w') : Zip R w' c xs := ⟨h.1, fun k u x hu hx => hR _ _ _ _ (h.2 k u x hu hx) hb⟩

/-- A list that is read, as a source for append. -/
theorem RdAt.src_zip {A : Option Addr} {n c : Nat} {xs : List α} (h : RdAt R w A n c xs) : ∃ cells, Src w A n cells ∧ Zip R w cells xs := by
  by_cases hn : 0 < n
  · obtain ⟨b, off, hA, _, hc⟩ := h.2.2.2 hn
    refine ⟨(List.range n).map (fun k => (w.cell? ⟨b, off + k, none⟩).getD (Value.bool false)), ⟨by simp, fun _ => ⟨b, off, hA, fun j u hu => ?_⟩⟩, by simp [h.1], fun k u x hu hx => ?_⟩
    · rw [List.getElem?_map] at hu
      obtain ⟨i, hi, hu⟩ := Option.map_eq_some_iff.1 hu
      have hj := (List.getElem?_eq_some_iff.1 hi).1
      rw [List.getElem?_range (by simpa using hj)] at hi
      injection hi with hi
      subst hi
      have hl : j < xs.length := by have := h.1; simp at hj; omega
      obtain ⟨v, hv, _⟩ := hc j _ (List.getElem?_eq_getElem hl)
      rw [hv] at hu ⊢
      exact congrArg some hu
    · obtain ⟨v, hv, hr⟩ := hc k x hx
      rw [List.getElem?_map] at hu
      obtain ⟨i, hi, hu⟩ := Option.map_eq_some_iff.1 hu
      have hj := (List.getElem?_eq_some_iff.1 hi).1
      rw [List.getElem?_range (by simpa using hj)] at hi
      injection hi with hi
      subst hi
      rw [hv] at hu
      simp at hu
      rw [← hu]
      exact hr
  · have h0 : n = 0 := by omega
    have hx : xs = [] := List.length_eq_zero_iff.1 (by have := h.1; omega)
    subst h0 hx
    exact ⟨[], ⟨rfl, fun hn' => absurd hn' hn⟩, Zip.nil⟩
theorem Src.take_ {A : Option Addr} {n : Nat} {cells : List Value} (h : Src w A n cells) {m : Nat} (hm : m ≤ n) : Src w A m (cells.take m) := by
  refine ⟨by simp [h.1]; omega, fun h0 => ?_⟩
  obtain ⟨b, off, hA, hc⟩ := h.2 (by omega)
  refine ⟨b, off, hA, fun j u hu => hc j u ?_⟩
  rw [List.getElem?_take] at hu
  split at hu
  · exact hu
  · cases hu
theorem Src.drop_ {b off n : Nat} {cells : List Value} (h : Src w (some ⟨b, off, none⟩) n cells) {m : Nat} (hm : m ≤ n) : Src w (some ⟨b, off + m, none⟩) (n - m) (cells.drop m) := by
  refine ⟨by simp [h.1], fun h0 => ?_⟩
  obtain ⟨b', off', hA, hc⟩ := h.2 (by omega)
  injection hA with hA
  injection hA with h1 h2
  subst h1 h2
  refine ⟨b, off + m, rfl, fun j u hu => ?_⟩
  rw [List.getElem?_drop] at hu
  rw [Nat.add_assoc]
  exact hc _ u hu

theorem Src.below {A : Option Addr} {n : Nat} {cells : List Value} (h : Src w A n cells) (hA : n = 0 ∨ ∃ b off, A = some ⟨b, off, none⟩ ∧ b < w.heap.size) (hb : Below w.heap.size w w') : Src w' A n cells := by
  refine ⟨h.1, fun h0 => ?_⟩
  obtain ⟨b, off, hA', hc⟩ := h.2 h0
  rcases hA with hA | ⟨b2, off2, hA, hlt⟩
  · omega
  · rw [hA'] at hA
    injection hA with hA
    injection hA with h1 h2
    subst h1 h2
    exact ⟨b, off, hA', fun j u hu => (hb.cell (p := ⟨b, off + j, none⟩) hlt).trans (hc j u hu)⟩

/-- The tail of a list that is read, behind a call: its address as the model has it. -/
theorem src_cut {b off n c m : Nat} {cells : List Value} (h : Src w (some ⟨b, off, none⟩) n cells) (hm : m ≤ n) (hc : n ≤ c) (hb : b < w.heap.size) (hw : Below w.heap.size w w') :
    Src w' (if c = m then some ⟨b, off, none⟩ else some ⟨b, off + m, none⟩) (n - m) (cells.drop m) := by
  split
  · refine Src.below ⟨by simp [h.1], fun h0 => by omega⟩ (Or.inl (by omega)) hw
  · exact (h.drop_ hm).below (Or.inr ⟨_, _, rfl, hb⟩) hw

theorem src_cut2 {b off n c m l : Nat} {cells : List Value} (h : Src w (some ⟨b, off, none⟩) n cells) (hl : n - m = l) (hm : m ≤ n) (hc : n ≤ c) (hb : b < w.heap.size) (hw : Below w.heap.size w w') :
    Src w' (if c = m then some ⟨b, off, none⟩ else some ⟨b, off + m, none⟩) l (cells.drop m) := hl ▸ src_cut h hm hc hb hw

/-- What append has built reads as a list. -/
theorem rd_zip {E : TypeId} {v : Value} {n : Nat} {cells : List Value} {xs : List α} (h1 : w.ownsRow 0 E 1 v n cells) (hl : cells.length = n) (h : Zip R w cells xs) : Rd R w v xs := by
  have hx : xs.length = n := by rw [← h.1]; exact hl
  rcases h1.2 with ⟨rfl, h0⟩ | ⟨g, cap, cur, rfl, _, hg, hn, hc, hs, ht⟩
  · exact ⟨none, 0, 0, rfl, by omega, Nat.le_refl _, by simp [maxLen], fun h => by omega⟩
  · refine ⟨some ⟨g, 0, none⟩, xs.length, cap, by rw [hx], rfl, by omega, hc, fun _ => ⟨g, 0, rfl, (h1.lt g rfl).2, fun j x hj => ?_⟩⟩
    have hjl : j < cells.length := by rw [h.1]; exact (List.getElem?_eq_some_iff.1 hj).1
    have := h1.cellAt j (by omega)
    have hu := List.getElem?_eq_getElem hjl
    exact ⟨cells[j], by simpa using this.trans hu, h.2 j _ x hu hj⟩
end
end Go.Proofs.Ytokhogdocaeelaa
