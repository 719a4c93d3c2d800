/- Arguments opened: from the form's reading of an argument to the words of XBase. -/
import Derived.Test.YtokhogdocaeelaaBase
import Derived.ProofKit
import Derived.OpenShut
import Derived.Deep.Slices
import Derived.Lib.SmallJoins
namespace Go.Proofs.Ytokhogdocaeelaa
set_option linter.unusedVariables false
open Go.RowKit Go.ChangeShapes Go.WideShapes Go.Deep Go.Joins

section
variable {H : Type} {enc : TypeId × Value → H} {P : Program} {W : World} {base : Nat} {spare : Nat → Bool} {held : Bool}

/-- Whatever is read as a one-cell value of type e stands in the relation R to something. -/
def Opens {α : Type} (enc : TypeId × Value → H) (P : Program) (W : World) (base : Nat) (spare : Nat → Bool) (held : Bool) (e : TypeId) (R : Rel α) : Prop :=
  ∀ fuel u y, DataW.trod enc P W base spare held fuel e [u] = some y → ∃ x, R W u x

theorem opens_u8 {e : TypeId} (he : P.underlying e = some (.int .u8)) : Opens enc P W base spare held e RB := by
  intro fuel u y h
  obtain ⟨n, hn, _, hw⟩ := DataW.trod_int he h
  simp only [List.cons.injEq, and_true] at hn
  subst hn
  have hb : 0 ≤ n ∧ n ≤ 255 := by simpa [Lit.wf, IntKind.min, IntKind.max, IntKind.signed, IntKind.bits] using hw
  refine ⟨UInt8.ofNat n.toNat, ?_⟩
  unfold RB
  congr 1
  simp
  omega

theorem opens_i64 {e : TypeId} (he : P.underlying e = some (.int .i64)) : Opens enc P W base spare held e RI := by
  intro fuel u y h
  obtain ⟨n, hn, _, _⟩ := DataW.trod_int he h
  simp only [List.cons.injEq, and_true] at hn
  exact ⟨n, hn⟩

theorem choose_list {α : Type} (Q : Nat → α → Prop) (n : Nat) (h : ∀ i, i < n → ∃ x, Q i x) : ∃ xs : List α, xs.length = n ∧ ∀ i x, xs[i]? = some x → Q i x := by
  induction n with
  | zero => exact ⟨[], rfl, fun i x hx => by simp at hx⟩
  | succ n ih =>
    obtain ⟨xs, hl, hq⟩ := ih (fun i hi => h i (by omega))
    obtain ⟨x, hx⟩ := h n (by omega)
    refine ⟨xs ++ [x], by simp [hl], fun i y hy => ?_⟩
    by_cases hi : i < n
    · rw [List.getElem?_append_left (by omega)] at hy
      exact hq i y hy
    · rw [List.getElem?_append_right (by omega), List.getElem?_singleton] at hy
      split at hy
      · have : i = n := by omega
        subst this
        injection hy with e
        subst e
        exact hx
      · cases hy

theorem opens_slice {α : Type} {t e : TypeId} {R : Rel α} (ht : P.underlying t = some (.slice e)) (hc : P.cellsOf e = 1) (he : Opens enc P W base spare held e R) : Opens enc P W base spare held t (Rd R) := by
  intro fuel u y h
  rcases open_slice ht h with ⟨hcs, _⟩ | ⟨a, len, cap, m, n, D, Pl, hcs, _, hl, hm, hmm, _, hi⟩
  · simp only [List.cons.injEq, and_true] at hcs
    subst hcs
    exact ⟨[], none, 0, 0, rfl, rfl, Nat.le_refl _, by simp [maxLen], fun h => by omega⟩
  · simp only [List.cons.injEq, and_true] at hcs
    subst hcs
    have hle : len ≤ m := by rw [hmm]; split <;> omega
    have hcell : ∀ i, i < len → ∃ x, ∃ u, W.cell? (a.add i) = some u ∧ R W u x := by
      intro i hlt
      obtain ⟨cs', h1, h2⟩ := hi i (by omega)
      rw [hc, Nat.mul_one] at h1
      obtain ⟨_, h3, h4⟩ := World.cells?_some h1
      match cs', h3 with
      | [c0], _ =>
        obtain ⟨x, hx⟩ := he _ _ _ h2
        refine ⟨x, c0, ?_, hx⟩
        have h5 := h4 0 (by omega)
        simpa [Addr.add] using h5
    obtain ⟨xs, hxl, hxs⟩ := choose_list _ len hcell
    refine ⟨xs, some a, len, cap, rfl, hxl, hl, hm, fun hpos => ?_⟩
    obtain ⟨b, off, spot⟩ := a
    obtain ⟨u, hu, _⟩ := hxs 0 _ (List.getElem?_eq_getElem (by omega))
    have hspot : spot = none := by simpa [Addr.add] using World.cell?_spot hu
    subst hspot
    refine ⟨b, off, rfl, ?_, fun j x hx => ?_⟩
    · have := World.block_lt_of_cell? W _ hu
      rwa [addr_add] at this
    · obtain ⟨u, hu, hr⟩ := hxs j x hx
      rw [addr_add] at hu
      exact ⟨u, hu, hr⟩

/-- A struct of one one-cell field. -/
theorem opens_struct1 {α : Type} {t : TypeId} {f : Field} {R : Rel α} (ht : P.underlying t = some (.struct #[f])) (hone : oneCellFields P #[f] = true) (he : Opens enc P W base spare held f.type R) : Opens enc P W base spare held t R := by
  intro fuel u y h
  obtain ⟨xs, n, _, _, _, hlen, hg⟩ := DataW.trod_struct ht h
  obtain ⟨o0, k0⟩ := hone_of hone 0 f rfl
  match xs, hlen with
  | [y0], _ =>
    have h0 := hg 0 f rfl
    rw [o0, k0] at h0
    exact he n u y0 (by simpa using h0)

theorem open_val {α : Type} {t e : TypeId} {R : Rel α} {r : Reach} {b0 : Nat} {v : Value} {d : DataW H} {p : List MemPlace} (ht : P.underlying t = some (.slice e)) (ho : Opens enc P W base spare held t R)
    (hv : Value.okWide P W r b0 t v) (h : DataW.Trod enc P W base spare held t v d p) : ∃ x, R W v x := by
  obtain ⟨A, n, c, rfl⟩ := okWide_slice ht hv
  obtain ⟨fuel, hf⟩ := h
  exact ho fuel _ _ (by simpa [Value.cells] using hf)

theorem open_val1 {α : Type} {t : TypeId} {f : Field} {R : Rel α} {r : Reach} {b0 : Nat} {v : Value} {d : DataW H} {p : List MemPlace} (ht : P.underlying t = some (.struct #[f])) (hC : P.cellsOf t = 1) (ho : Opens enc P W base spare held t R)
    (hv : Value.okWide P W r b0 t v) (h : DataW.Trod enc P W base spare held t v d p) : ∃ u x, v = .agg #[u] ∧ R W u x := by
  obtain ⟨cs, rfl, hsz⟩ := okWide_struct ht hv
  obtain ⟨fuel, hf⟩ := h
  obtain ⟨l⟩ := cs
  match l, hsz.trans hC with
  | [u], _ =>
    obtain ⟨x, hx⟩ := ho fuel u _ (by simpa [Value.cells] using hf)
    exact ⟨u, x, rfl, hx⟩

theorem open_int3 {t : TypeId} {f0 f1 f2 : Field} {r : Reach} {b0 : Nat} {v : Value} {d : DataW H} {p : List MemPlace} (ht : P.underlying t = some (.struct #[f0, f1, f2])) (hone : oneCellFields P #[f0, f1, f2] = true) (hC : P.cellsOf t = 3)
    (h0 : P.underlying f0.type = some (.int .i64)) (h1 : P.underlying f1.type = some (.int .i64)) (h2 : P.underlying f2.type = some (.int .i64))
    (hv : Value.okWide P W r b0 t v) (h : DataW.Trod enc P W base spare held t v d p) : ∃ x0 x1 x2 : Int, v = .agg #[.int .i64 x0, .int .i64 x1, .int .i64 x2] := by
  obtain ⟨v0, v1, v2, y0, y1, y2, n, rfl, _, _, k0, k1, k2⟩ := open_agg3 ht hone hC hv h
  obtain ⟨x0, e0, _, _⟩ := DataW.trod_int h0 k0
  obtain ⟨x1, e1, _, _⟩ := DataW.trod_int h1 k1
  obtain ⟨x2, e2, _, _⟩ := DataW.trod_int h2 k2
  simp only [List.cons.injEq, and_true] at e0 e1 e2
  exact ⟨x0, x1, x2, by rw [e0, e1, e2]⟩

theorem open_int_slice {α : Type} {t : TypeId} {f0 f1 : Field} {R : Rel α} {r : Reach} {b0 : Nat} {v : Value} {d : DataW H} {p : List MemPlace} (ht : P.underlying t = some (.struct #[f0, f1])) (hone : oneCellFields P #[f0, f1] = true) (hC : P.cellsOf t = 2)
    (h0 : P.underlying f0.type = some (.int .i64)) (h1 : Opens enc P W base spare held f1.type R)
    (hv : Value.okWide P W r b0 t v) (h : DataW.Trod enc P W base spare held t v d p) : ∃ (x0 : Int) (u : Value) (x1 : α), v = .agg #[.int .i64 x0, u] ∧ R W u x1 ∧ (Lit.int .i64 x0).wf = true := by
  obtain ⟨v0, v1, y0, y1, n, rfl, _, _, k0, k1⟩ := open_agg2 ht hone hC hv h
  obtain ⟨x0, e0, _, w0⟩ := DataW.trod_int h0 k0
  obtain ⟨x1, hx⟩ := h1 _ _ _ k1
  simp only [List.cons.injEq, and_true] at e0
  exact ⟨x0, v1, x1, by rw [e0], hx, w0⟩
end

theorem wf_i64 {x : Int} (h : (Lit.int .i64 x).wf = true) : -9223372036854775808 ≤ x ∧ x ≤ 9223372036854775807 := by
  simpa [Lit.wf, IntKind.min, IntKind.max, IntKind.signed, IntKind.bits] using h
end Go.Proofs.Ytokhogdocaeelaa
