/- Contracts over PointKey: the laws' helpers, validity, equality. -/
import Derived.Test.YtceogegjghmonaaCorr
import Derived.Test.YtceogegjghmonaaInR
import Derived.Laws.StructEq
import Derived.Deep.Slices
namespace Go.Proofs.Ytceogegjghmonaa
set_option linter.unusedVariables false
open Go.RowKit Go.ChangeShapes Go.WideShapes Go.Deep Go.Joins

section
variable {H : Type} {enc : TypeId × Value → H} {P : Program} {W : World} {base : Nat} {spare : Nat → Bool} {held : Bool}
theorem opens_corrs {t e : TypeId} {f0 f1 f2 : Field} (ht : P.underlying t = some (.slice e)) (he : P.underlying e = some (.struct #[f0, f1, f2])) (hone : oneCellFields P #[f0, f1, f2] = true) (hc : P.cellsOf e = 3)
    (h0 : P.underlying f0.type = some (.int .i64)) (h1 : P.underlying f1.type = some (.int .i64)) (h2 : P.underlying f2.type = some (.int .i64)) : Opens enc P W base spare held t RdC := by
  intro fuel u y h
  rcases open_slice ht h with ⟨hcs, _⟩ | ⟨a, len, cap, m, n, D, Pl, hcs, _, hl, hm, hmm, _, hi⟩
  · simp only [List.cons.injEq, and_true] at hcs
    subst hcs
    exact ⟨[], none, 0, 0, rfl, rfl, Nat.le_refl _, by simp [maxLen], fun h => by omega⟩
  · simp only [List.cons.injEq, and_true] at hcs
    subst hcs
    have hle : len ≤ m := by rw [hmm]; split <;> omega
    have hcell : ∀ i, i < len → ∃ x : Corr, W.cell? (a.add (i * 3)) = some (.int .i64 x.1) ∧ W.cell? (a.add (i * 3 + 1)) = some (.int .i64 x.2.1) ∧ W.cell? (a.add (i * 3 + 2)) = some (.int .i64 x.2.2) := by
      intro i hlt
      obtain ⟨cs', k1, k2⟩ := hi i (by omega)
      rw [hc] at k1
      obtain ⟨_, k3, k4⟩ := World.cells?_some k1
      match cs', k3 with
      | [c0, c1, c2], _ =>
        obtain ⟨xs, n', _, _, _, hlen, hg⟩ := DataW.trod_struct he k2
        obtain ⟨o0, q0⟩ := hone_of hone 0 f0 rfl
        obtain ⟨o1, q1⟩ := hone_of hone 1 f1 rfl
        obtain ⟨o2, q2⟩ := hone_of hone 2 f2 rfl
        match xs, hlen with
        | [y0, y1, y2], _ =>
          have e0 := hg 0 f0 rfl
          have e1 := hg 1 f1 rfl
          have e2 := hg 2 f2 rfl
          rw [o0, q0] at e0
          rw [o1, q1] at e1
          rw [o2, q2] at e2
          obtain ⟨n0, z0, _, _⟩ := DataW.trod_int h0 e0
          obtain ⟨n1, z1, _, _⟩ := DataW.trod_int h1 e1
          obtain ⟨n2, z2, _, _⟩ := DataW.trod_int h2 e2
          simp at z0 z1 z2
          have g0 := k4 0 (by omega)
          have g1 := k4 1 (by omega)
          have g2 := k4 2 (by omega)
          rw [Go.Deep.add_add] at g0 g1 g2
          refine ⟨(n0, n1, n2), ?_, ?_, ?_⟩
          · simpa [z0] using g0
          · simpa [z1] using g1
          · simpa [z2] using g2
    obtain ⟨xs, hxl, hxs⟩ := choose_list _ len hcell
    refine ⟨xs, some a, len, cap, rfl, hxl, hl, hm, fun hpos => ?_⟩
    obtain ⟨b, off, spot⟩ := a
    obtain ⟨hu, _⟩ := hxs 0 _ (List.getElem?_eq_getElem (by omega))
    have hspot : spot = none := by simpa [Addr.add] using World.cell?_spot hu
    subst hspot
    refine ⟨b, off, rfl, ?_, fun j x hx => ?_⟩
    · have := World.block_lt_of_cell? W _ hu
      rwa [addr_add] at this
    · obtain ⟨u0, u1, u2⟩ := hxs j x hx
      rw [addr_add] at u0 u1 u2
      exact ⟨u0, by rwa [Nat.add_assoc], by rwa [Nat.add_assoc]⟩

theorem open_pk {t : TypeId} {f0 f1 f2 : Field} {r : Reach} {b0 : Nat} {v : Value} {d : DataW H} {p : List MemPlace} (ht : P.underlying t = some (.struct #[f0, f1, f2])) (hone : oneCellFields P #[f0, f1, f2] = true) (hC : P.cellsOf t = 3)
    (h0 : P.underlying f0.type = some (.int .i64)) (h1 : P.underlying f1.type = some (.int .i64)) (h2 : Opens enc P W base spare held f2.type RdC)
    (hv : Value.okWide P W r b0 t v) (h : DataW.Trod enc P W base spare held t v d p) : ∃ (x0 x1 : Int) (u : Value) (x2 : List Corr), v = .agg #[.int .i64 x0, .int .i64 x1, u] ∧ RdC W u x2 ∧ ((Lit.int .i64 x0).wf = true ∧ (Lit.int .i64 x1).wf = true) := by
  obtain ⟨v0, v1, v2, y0, y1, y2, n, rfl, _, _, k0, k1, k2⟩ := open_agg3 ht hone hC hv h
  obtain ⟨x0, e0, _, w0⟩ := DataW.trod_int h0 k0
  obtain ⟨x1, e1, _, w1⟩ := DataW.trod_int h1 k1
  obtain ⟨x2, hx⟩ := h2 _ _ _ k2
  simp only [List.cons.injEq, and_true] at e0 e1
  exact ⟨x0, x1, v2, x2, by rw [e0, e1], hx, w0, w1⟩
end

def corrOk (x : Corr) : Bool := decide (0 ≤ x.1 ∧ x.1 ≤ 4294967295 ∧ 0 ≤ x.2.1 ∧ x.2.1 ≤ 1 ∧ 0 ≤ x.2.2 ∧ x.2.2 ≤ 1)
def pkOk (r b : Int) (xs : List Corr) : Bool := xs.all corrOk && decide (1 ≤ xs.length ∧ xs.length ≤ 6 ∧ 0 ≤ r ∧ r ≤ 2147483646 ∧ 0 ≤ b ∧ b ≤ 1)
theorem pkOk_bad {r b : Int} {xs : List Corr} {k : Nat} {x : Corr} (hx : xs[k]? = some x) (h : corrOk x = false) : pkOk r b xs = false := by
  have : xs.all corrOk = false := by
    rw [List.all_eq_false]
    exact ⟨x, List.mem_of_getElem? hx, by simp [h]⟩
  simp [pkOk, this]
theorem all_take_succ {xs : List Corr} {k : Nat} {x : Corr} (hx : xs[k]? = some x) (h : corrOk x = true) (ha : (xs.take k).all corrOk = true) : (xs.take (k + 1)).all corrOk = true := by
  rw [take_succ_get xs k x hx, List.all_append, ha]
  simp [h]

set_option maxHeartbeats 1000000 in
theorem to_pk (m n : Int) (v : Value) (x : List Corr) (w : World) (h : RdC w v x) (hn : x.length ≤ 1099511627776) :
    Calls Try.prog 58 #[.agg #[.int .i64 m, .int .i64 n, v]] w fun e w' => ∃ A l c, e = .returned (.agg #[.int .i64 m, .int .i64 n, .slice A l c]) ∧ Fresh (OwnC 116) w w' (.slice A l c) x := by
  obtain ⟨A, l, c, rfl, h'⟩ := h
  have h : RdC w (.slice A l c) x := ⟨_, _, _, rfl, h'⟩
  clear h'
  go_enter Try.func58, Try.ntmps58
  go_wp2_with fail
  refine (toCorrS_c _ _ _ (RdC_reads _ _ _ _ h ?_) hn).mono ?_
  · (repeat (first | exact Below.refl _ _ | refine Below.alloc ?_ (by simp; try omega) _ | refine Below.setCell ?_ (by simp; try omega) _))
  rintro e w1 ⟨v1, rfl, F⟩
  obtain ⟨A1, l1, c1, hv⟩ : ∃ A l c, v1 = .slice A l c := by
    obtain ⟨F', ⟨h1, _⟩, _⟩ := F
    exact own_shape h1
  rw [hv] at F ⊢
  have G := Fresh.g (w := w) F (by (repeat (first | exact Below.refl _ _ | refine Below.alloc ?_ (by simp; try omega) _ | refine Below.setCell ?_ (by simp; try omega) _)))
  have hz := F.below.size
  obtain ⟨hc, hf⟩ := below_cells F.below
  simp at hz G
  clear F hv h
  go_wp2
  refine bodyPost_ret (v := .agg #[.int .i64 m, .int .i64 n, .slice A1 l1 c1]) (by simp [results, Try.results58, go_sem, hc]) rfl ⟨_, _, _, rfl, FreshG.fresh (lo := w.heap.size + 3) ?_ (by omega)⟩
  repeat (first | exact G | refine FreshG.set OwnC_good ?_ (by simp; try omega) (by simp; try omega) _ | refine FreshG.alloc OwnC_good ?_ _)
set_option maxHeartbeats 1000000 in
theorem eq_pk (m n : Int) (v1 v2 : Value) (x : List Corr) (w : World) (h1 : RdC w v1 x) (h2 : RdC w v2 x) :
    Calls Try.prog 53 #[.agg #[.int .i64 m, .int .i64 n, v1], .agg #[.int .i64 m, .int .i64 n, v2]] w fun e w' => e = .returned (.bool true) ∧ Below w.heap.size w w' := by
  obtain ⟨A, l, c, rfl, h1'⟩ := h1
  obtain ⟨B, k, d, rfl, h2'⟩ := h2
  have h1 : RdC w (.slice A l c) x := ⟨_, _, _, rfl, h1'⟩
  have h2 : RdC w (.slice B k d) x := ⟨_, _, _, rfl, h2'⟩
  clear h1' h2'
  go_enter Try.func53, Try.ntmps53
  go_wp2_with fail
  refine (eqCorrS_c _ _ _ _ (RdC_reads _ _ _ _ h1 ?_) (RdC_reads _ _ _ _ h2 ?_)).mono ?_
  · (repeat (first | exact Below.refl _ _ | refine Below.alloc ?_ (by simp; try omega) _ | refine Below.setCell ?_ (by simp; try omega) _))
  · (repeat (first | exact Below.refl _ _ | refine Below.alloc ?_ (by simp; try omega) _ | refine Below.setCell ?_ (by simp; try omega) _))
  rintro e w1 ⟨rfl, b⟩
  go_wp2
  go_ret
  exact ⟨rfl, Below.trans (b := (w.alloc (.cells #[.int .i64 m, .int .i64 n, .slice A l c] 63)).alloc (.cells #[.int .i64 m, .int .i64 n, .slice B k d] 63)) (by (repeat (first | exact Below.refl _ _ | refine Below.alloc ?_ (by simp; try omega) _ | refine Below.setCell ?_ (by simp; try omega) _))) (b.mono (by simp; omega))⟩
set_option maxHeartbeats 1000000 in
theorem sz_pk (m n : Int) (v : Value) (x : List Corr) (l : Int) (w : World) (h : RdC w v x) (hl : 0 ≤ l) (hl' : l ≤ 9223372036854775807) :
    Calls Try.prog 56 #[.agg #[.int .i64 m, .int .i64 n, v], .int .i64 l] w fun e w' => e = .returned (.int .i64 (if l < x.length then -1 else l - x.length)) ∧ Below w.heap.size w w' := by
  obtain ⟨A, k, c, rfl, h'⟩ := h
  have h : RdC w (.slice A k c) x := ⟨_, _, _, rfl, h'⟩
  clear h'
  by_cases hc : l < x.length
  · rw [if_pos hc]
    go_enter Try.func56, Try.ntmps56
    go_wp2_with fail
    refine (szCorrS_c _ _ _ _ (RdC_reads _ _ _ _ h ?_) hl hl').mono ?_
    · (repeat (first | exact Below.refl _ _ | refine Below.alloc ?_ (by simp; try omega) _ | refine Below.setCell ?_ (by simp; try omega) _))
    rintro e w1 ⟨rfl, rfl⟩
    rw [if_pos (by omega)]
    go_wp2
    go_ret
    exact ⟨rfl, by (repeat (first | exact Below.refl _ _ | refine Below.alloc ?_ (by simp; try omega) _ | refine Below.setCell ?_ (by simp; try omega) _))⟩
  · rw [if_neg hc]
    go_enter Try.func56, Try.ntmps56
    go_wp2_with fail
    refine (szCorrS_c _ _ _ _ (RdC_reads _ _ _ _ h ?_) hl hl').mono ?_
    · (repeat (first | exact Below.refl _ _ | refine Below.alloc ?_ (by simp; try omega) _ | refine Below.setCell ?_ (by simp; try omega) _))
    rintro e w1 ⟨rfl, rfl⟩
    rw [if_neg (by omega)]
    go_wp2
    go_ret
    exact ⟨rfl, by (repeat (first | exact Below.refl _ _ | refine Below.alloc ?_ (by simp; try omega) _ | refine Below.setCell ?_ (by simp; try omega) _))⟩
end Go.Proofs.Ytceogegjghmonaa
