/- Contracts of the copies of structs in the laws: Mailbox, Plain, Correction. -/
import Derived.Test.YtokhogdocaeelaaFlat
namespace Go.Proofs.Ytokhogdocaeelaa
set_option linter.unusedVariables false
open Go.RowKit

set_option maxHeartbeats 1000000 in
theorem to_plain (m : Int) (v : Value) (x : List UInt8) (w : World) (h : Rd RB w v x) (hn : x.length ≤ 17592186044416) :
    Calls Try.prog 51 #[.agg #[.int .i64 m, v]] w fun e w' => ∃ A l c, e = .returned (.agg #[.int .i64 m, .slice A l c]) ∧ Fresh (Own 5 FB) w w' (.slice A l c) x := by
  obtain ⟨A, l, c, rfl, h'⟩ := h
  have h : Rd RB w (.slice A l c) x := ⟨_, _, _, rfl, h'⟩
  clear h'
  go_enter Try.func51, Try.ntmps51
  go_wp2_with fail
  refine (to_bytes _ _ _ (Rd_reads RB_reads _ _ _ _ h ?_) hn).mono ?_
  · (repeat (first | exact Below.refl _ _ | refine Below.alloc ?_ (by simp; try omega) _ | refine Below.setCell ?_ (by simp; try omega) _))
  rintro e w1 ⟨v1, rfl, F⟩
  obtain ⟨A1, l1, c1, hv⟩ := fresh_slice F
  rw [hv] at F ⊢
  have G := Fresh.g (w := w) F (by (repeat (first | exact Below.refl _ _ | refine Below.alloc ?_ (by simp; try omega) _ | refine Below.setCell ?_ (by simp; try omega) _)))
  have hz := F.below.size
  obtain ⟨hc, hf⟩ := below_cells F.below
  simp at hz G
  clear F hv h
  go_wp2
  refine bodyPost_ret (v := .agg #[.int .i64 m, .slice A1 l1 c1]) (by simp [results, Try.results51, go_sem, hc]) rfl ⟨_, _, _, rfl, FreshG.fresh (lo := w.heap.size + 3) ?_ (by omega)⟩
  repeat (first | exact G | refine FreshG.set (Own_good FB_good) ?_ (by simp; try omega) (by simp; try omega) _ | refine FreshG.alloc (Own_good FB_good) ?_ _)
set_option maxHeartbeats 1000000 in
theorem eq_plain (m : Int) (v1 v2 : Value) (x : List UInt8) (w : World) (h1 : Rd RB w v1 x) (h2 : Rd RB w v2 x) :
    Calls Try.prog 46 #[.agg #[.int .i64 m, v1], .agg #[.int .i64 m, v2]] w fun e w' => e = .returned (.bool true) ∧ Below w.heap.size w w' := by
  obtain ⟨A, l, c, rfl, h1'⟩ := h1
  obtain ⟨B, k, d, rfl, h2'⟩ := h2
  have h1 : Rd RB w (.slice A l c) x := ⟨_, _, _, rfl, h1'⟩
  have h2 : Rd RB w (.slice B k d) x := ⟨_, _, _, rfl, h2'⟩
  clear h1' h2'
  go_enter Try.func46, Try.ntmps46
  go_wp2_with fail
  refine (eq_bytes _ _ _ _ (Rd_reads RB_reads _ _ _ _ h1 ?_) (Rd_reads RB_reads _ _ _ _ h2 ?_)).mono ?_
  · (repeat (first | exact Below.refl _ _ | refine Below.alloc ?_ (by simp; try omega) _ | refine Below.setCell ?_ (by simp; try omega) _))
  · (repeat (first | exact Below.refl _ _ | refine Below.alloc ?_ (by simp; try omega) _ | refine Below.setCell ?_ (by simp; try omega) _))
  rintro e w1 ⟨rfl, b⟩
  go_wp2
  go_ret
  exact ⟨rfl, Below.trans (b := (w.alloc (.cells #[.int .i64 m, .slice A l c] 58)).alloc (.cells #[.int .i64 m, .slice B k d] 58)) (by (repeat (first | exact Below.refl _ _ | refine Below.alloc ?_ (by simp; try omega) _ | refine Below.setCell ?_ (by simp; try omega) _))) (b.mono (by simp; omega))⟩
set_option maxHeartbeats 1000000 in
theorem sz_plain (m : Int) (v : Value) (x : List UInt8) (l : Int) (w : World) (h : Rd RB w v x) (hl : 0 ≤ l) (hl' : l ≤ 9223372036854775807) :
    Calls Try.prog 49 #[.agg #[.int .i64 m, v], .int .i64 l] w fun e w' => e = .returned (.int .i64 (if l < x.length then -1 else l - x.length)) ∧ Below w.heap.size w w' := by
  obtain ⟨A, n, c, rfl, h'⟩ := h
  have h : Rd RB w (.slice A n c) x := ⟨_, _, _, rfl, h'⟩
  clear h'
  by_cases hc : l < x.length
  · rw [if_pos hc]
    go_enter Try.func49, Try.ntmps49
    go_wp2_with fail
    refine (szByteS_c _ _ _ _ (Rd_reads RB_reads _ _ _ _ h ?_) hl hl').mono ?_
    · (repeat (first | exact Below.refl _ _ | refine Below.alloc ?_ (by simp; try omega) _ | refine Below.setCell ?_ (by simp; try omega) _))
    rintro e w1 ⟨rfl, rfl⟩
    rw [if_pos (by omega)]
    go_wp2
    go_ret
    exact ⟨rfl, by (repeat (first | exact Below.refl _ _ | refine Below.alloc ?_ (by simp; try omega) _ | refine Below.setCell ?_ (by simp; try omega) _))⟩
  · rw [if_neg hc]
    go_enter Try.func49, Try.ntmps49
    go_wp2_with fail
    refine (szByteS_c _ _ _ _ (Rd_reads RB_reads _ _ _ _ h ?_) hl hl').mono ?_
    · (repeat (first | exact Below.refl _ _ | refine Below.alloc ?_ (by simp; try omega) _ | refine Below.setCell ?_ (by simp; try omega) _))
    rintro e w1 ⟨rfl, rfl⟩
    rw [if_neg (by omega)]
    go_wp2
    go_ret
    exact ⟨rfl, by (repeat (first | exact Below.refl _ _ | refine Below.alloc ?_ (by simp; try omega) _ | refine Below.setCell ?_ (by simp; try omega) _))⟩
def plainOk (m : Int) (x : List UInt8) : Bool := decide (0 ≤ m ∧ m ≤ 3 ∧ x.length ≤ 14)
set_option maxHeartbeats 1000000 in
theorem specIsValidPlain_c (m : Int) (v : Value) (x : List UInt8) (w : World) (h : Rd RB w v x) :
    Calls Try.prog 56 #[.agg #[.int .i64 m, v]] w fun e w' => e = .returned (.bool (plainOk m x)) ∧ Below w.heap.size w w' := by
  obtain ⟨A, n, c, rfl, h⟩ := h
  have hn := h.1
  have hcm := Nat.le_trans h.2.1 h.2.2.1
  unfold maxLen at hcm
  subst hn
  clear h
  have HB := below_alloc w (.cells #[.int .i64 m, .slice A x.length c] 58)
  obtain ⟨o, ho⟩ : ∃ o, o = plainOk m x := ⟨_, rfl⟩
  have HO := Lib.hid ho
  rw [← ho]
  clear ho
  unfold plainOk at HO
  by_cases h1 : 0 ≤ m <;> by_cases h2 : m ≤ 3 <;> by_cases h3 : x.length ≤ 14
  all_goals (try (exfalso; omega))
  all_goals
    go_enter Try.func56, Try.ntmps56
    go_wp2
    go_ret
    exact ⟨ret_bool (by rw [HO.out, Bool.eq_iff_iff]; simp; try omega), HB⟩
set_option maxHeartbeats 1000000 in
theorem implIsValidPlain_c (m : Int) (v : Value) (x : List UInt8) (w : World) (h : Rd RB w v x) :
    Calls Try.prog 58 #[.agg #[.int .i64 m, v]] w fun e w' => e = .returned (.bool (plainOk m x)) ∧ Below w.heap.size w w' := by
  obtain ⟨A, n, c, rfl, h⟩ := h
  have hn := h.1
  have hcm := Nat.le_trans h.2.1 h.2.2.1
  unfold maxLen at hcm
  subst hn
  clear h
  have HB := below_alloc w (.cells #[.int .i64 m, .slice A x.length c] 58)
  obtain ⟨o, ho⟩ : ∃ o, o = plainOk m x := ⟨_, rfl⟩
  have HO := Lib.hid ho
  rw [← ho]
  clear ho
  unfold plainOk at HO
  by_cases h1 : 0 ≤ m <;> by_cases h2 : m ≤ 3 <;> by_cases h3 : x.length ≤ 14
  all_goals (try (exfalso; omega))
  all_goals
    go_enter Try.func58, Try.ntmps58
    go_wp2
    go_ret
    exact ⟨ret_bool (by rw [HO.out, Bool.eq_iff_iff]; simp; try omega), HB⟩
theorem rd_plain {lo hi : Nat} {w : World} {v : Value} {xs : List UInt8} (h : Iv (Own 5 FB) lo hi w v xs) : Rd RB w v xs := h.rd (fun k => k.rb)
end Go.Proofs.Ytokhogdocaeelaa
