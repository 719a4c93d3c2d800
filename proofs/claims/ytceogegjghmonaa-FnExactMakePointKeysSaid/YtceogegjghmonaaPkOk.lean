/- IsValidPointKey, in the program and in the reference. -/
import Derived.Test.YtceogegjghmonaaPk
namespace Go.Proofs.Ytceogegjghmonaa
set_option linter.unusedVariables false
open Go.RowKit

set_option maxHeartbeats 4000000 in
theorem specIsValidPointKey_c (r b : Int) (v : Value) (xs : List Corr) (w : World) (h : RdC w v xs) :
    Calls Try.prog 120 #[.agg #[.int .i64 r, .int .i64 b, v]] w fun e w' => e = .returned (.bool (pkOk r b xs)) ∧ Below w.heap.size w w' := by
  obtain ⟨A, n, c, rfl, h⟩ := h
  have hcm := h.2.2.1
  have hnc := h.2.1
  have HL := Lib.hid h.1
  unfold maxLen at hcm
  have H : Hid (RdC w (.slice A n c) xs) := Lib.hid ⟨_, _, _, rfl, h⟩
  clear h
  have bx : Box (w.alloc (.cells #[.int .i64 r, .int .i64 b, .slice A n c] 63)) w.heap.size 63 #[.int .i64 r, .int .i64 b, .slice A n c] := Box.new _ _ _
  have BX := Lib.hid bx
  clear bx
  go_enter Try.func120, Try.ntmps120
  go_wp2
  go_loopw [3] (fun i wr => ∃ k : Nat, k ≤ n ∧ i = .int .i64 k ∧ Hid ((xs.take k).all corrOk = true) ∧ Hid (Box wr w.heap.size 63 #[.int .i64 r, .int .i64 b, .slice A n c]) ∧ Below w.heap.size w wr) (fun i _ => n - (intOf i).toNat)
  case atStart => exact ⟨0, Nat.zero_le _, rfl, Lib.hid (by simp), BX, below_alloc w _⟩
  case round =>
    obtain ⟨k, hk, rfl, hall, hbx, hb⟩ := hrel
    have q0 : wr.cell? ⟨w.heap.size, 0, none⟩ = some (.int .i64 r) := hbx.out.cell 0
    have q1 : wr.cell? ⟨w.heap.size, 1, none⟩ = some (.int .i64 b) := hbx.out.cell 1
    have q2 : wr.cell? ⟨w.heap.size, 2, none⟩ = some (.slice A n c) := hbx.out.cell 2
    have hbl := hbx.out.lt
    by_cases hlt : k < n
    · obtain ⟨b0, off, x, rfl, hbb, hx, u0, u1, u2⟩ := H.out.at_ hlt
      obtain ⟨x0, x1, x2⟩ := x
      have g0 := (hb.cell (p := ⟨b0, off + k * 3, none⟩) hbb).trans u0
      have g1 := (hb.cell (p := ⟨b0, off + k * 3 + 1, none⟩) hbb).trans u1
      have g2 := (hb.cell (p := ⟨b0, off + k * 3 + 2, none⟩) hbb).trans u2
      have HX := Lib.hid hx
      have hbb2 := Nat.lt_of_lt_of_le hbb hb.size
      clear u0 u1 u2 hx
      by_cases c0 : 0 ≤ x0 ∧ x0 ≤ 4294967295
      · by_cases c1 : 0 ≤ x1 ∧ x1 ≤ 1
        · by_cases c2 : 0 ≤ x2 ∧ x2 ≤ 1
          · have HC : Hid (corrOk (x0, x1, x2) = true) := Lib.hid (by simp [corrOk]; omega)
            go_wp2_with (go_at_call 92; refine (specIn_t _ _ _ _ (by omega) (by omega)).mono ?_; rintro e w' ⟨rfl, rfl⟩)
            go_roundw
            case rel => exact ⟨k + 1, by omega, by go_num, Lib.hid (all_take_succ HX.out HC.out hall.out), Lib.hid (hbx.out.alloc _), hb.alloc (by omega) _⟩
            case measure => simp [intOf]; omega
          · have HC : Hid (corrOk (x0, x1, x2) = false) := Lib.hid (by simp [corrOk]; omega)
            go_wp2_with (go_at_call 92; first | (refine (specIn_t _ _ _ _ (by omega) (by omega)).mono ?_; rintro e w' ⟨rfl, rfl⟩) | (refine (specIn_f _ _ _ _ (by omega)).mono ?_; rintro e w' ⟨rfl, rfl⟩))
            go_ret
            exact ⟨ret_bool (pkOk_bad HX.out HC.out).symm, hb.alloc (by omega) _⟩
        · have HC : Hid (corrOk (x0, x1, x2) = false) := Lib.hid (by simp [corrOk]; omega)
          go_wp2_with (go_at_call 92; first | (refine (specIn_t _ _ _ _ (by omega) (by omega)).mono ?_; rintro e w' ⟨rfl, rfl⟩) | (refine (specIn_f _ _ _ _ (by omega)).mono ?_; rintro e w' ⟨rfl, rfl⟩))
          go_ret
          exact ⟨ret_bool (pkOk_bad HX.out HC.out).symm, hb.alloc (by omega) _⟩
      · have HC : Hid (corrOk (x0, x1, x2) = false) := Lib.hid (by simp [corrOk]; omega)
        go_wp2_with (go_at_call 92; first | (refine (specIn_t _ _ _ _ (by omega) (by omega)).mono ?_; rintro e w' ⟨rfl, rfl⟩) | (refine (specIn_f _ _ _ _ (by omega)).mono ?_; rintro e w' ⟨rfl, rfl⟩))
        go_ret
        exact ⟨ret_bool (pkOk_bad HX.out HC.out).symm, hb.alloc (by omega) _⟩
    · have hkn : k = n := by omega
      subst hkn
      have hal := hall.out
      rw [List.take_of_length_le (by have := HL.out; omega)] at hal
      have HO : Hid (pkOk r b xs = decide (1 ≤ k ∧ k ≤ 6 ∧ 0 ≤ r ∧ r ≤ 2147483646 ∧ 0 ≤ b ∧ b ≤ 1)) := Lib.hid (by unfold pkOk; rw [hal, HL.out]; rfl)
      clear hal
      by_cases c0 : 1 ≤ k ∧ k ≤ 6
      · by_cases c1 : 0 ≤ r ∧ r ≤ 2147483646
        · by_cases c2 : 0 ≤ b ∧ b ≤ 1
          · go_wp2_with (go_at_call 92; refine (specIn_t _ _ _ _ (by omega) (by omega)).mono ?_; rintro e w' ⟨rfl, rfl⟩)
            go_ret
            exact ⟨ret_bool (by rw [HO.out]; symm; exact decide_eq_true (by omega)), hb⟩
          · go_wp2_with (go_at_call 92; first | (refine (specIn_t _ _ _ _ (by omega) (by omega)).mono ?_; rintro e w' ⟨rfl, rfl⟩) | (refine (specIn_f _ _ _ _ (by omega)).mono ?_; rintro e w' ⟨rfl, rfl⟩))
            go_ret
            exact ⟨ret_bool (by rw [HO.out]; symm; exact decide_eq_false (by omega)), hb⟩
        · go_wp2_with (go_at_call 92; first | (refine (specIn_t _ _ _ _ (by omega) (by omega)).mono ?_; rintro e w' ⟨rfl, rfl⟩) | (refine (specIn_f _ _ _ _ (by omega)).mono ?_; rintro e w' ⟨rfl, rfl⟩))
          go_ret
          exact ⟨ret_bool (by rw [HO.out]; symm; exact decide_eq_false (by omega)), hb⟩
      · go_wp2_with (go_at_call 92; first | (refine (specIn_t _ _ _ _ (by omega) (by omega)).mono ?_; rintro e w' ⟨rfl, rfl⟩) | (refine (specIn_f _ _ _ _ (by omega)).mono ?_; rintro e w' ⟨rfl, rfl⟩))
        go_ret
        exact ⟨ret_bool (by rw [HO.out]; symm; exact decide_eq_false (by omega)), hb⟩
set_option maxHeartbeats 4000000 in
theorem implIsValidPointKey_c (r b : Int) (v : Value) (xs : List Corr) (w : World) (h : RdC w v xs) :
    Calls Try.prog 46 #[.agg #[.int .i64 r, .int .i64 b, v]] w fun e w' => e = .returned (.bool (pkOk r b xs)) ∧ Below w.heap.size w w' := by
  obtain ⟨A, n, c, rfl, h⟩ := h
  have hcm := h.2.2.1
  have hnc := h.2.1
  have HL := Lib.hid h.1
  unfold maxLen at hcm
  have H : Hid (RdC w (.slice A n c) xs) := Lib.hid ⟨_, _, _, rfl, h⟩
  clear h
  have bx : Box (w.alloc (.cells #[.int .i64 r, .int .i64 b, .slice A n c] 63)) w.heap.size 63 #[.int .i64 r, .int .i64 b, .slice A n c] := Box.new _ _ _
  have BX := Lib.hid bx
  clear bx
  go_enter Try.func46, Try.ntmps46
  go_wp2
  go_loopw [8] (fun i wr => ∃ k : Nat, k ≤ n ∧ i = .int .i64 k ∧ Hid ((xs.take k).all corrOk = true) ∧ Hid (Box wr w.heap.size 63 #[.int .i64 r, .int .i64 b, .slice A n c]) ∧ Below w.heap.size w wr) (fun i _ => n - (intOf i).toNat)
  case atStart => exact ⟨0, Nat.zero_le _, rfl, Lib.hid (by simp), BX, below_alloc w _⟩
  case round =>
    obtain ⟨k, hk, rfl, hall, hbx, hb⟩ := hrel
    have q0 : wr.cell? ⟨w.heap.size, 0, none⟩ = some (.int .i64 r) := hbx.out.cell 0
    have q1 : wr.cell? ⟨w.heap.size, 1, none⟩ = some (.int .i64 b) := hbx.out.cell 1
    have q2 : wr.cell? ⟨w.heap.size, 2, none⟩ = some (.slice A n c) := hbx.out.cell 2
    have hbl := hbx.out.lt
    by_cases hlt : k < n
    · obtain ⟨b0, off, x, rfl, hbb, hx, u0, u1, u2⟩ := H.out.at_ hlt
      obtain ⟨x0, x1, x2⟩ := x
      have g0 := (hb.cell (p := ⟨b0, off + k * 3, none⟩) hbb).trans u0
      have g1 := (hb.cell (p := ⟨b0, off + k * 3 + 1, none⟩) hbb).trans u1
      have g2 := (hb.cell (p := ⟨b0, off + k * 3 + 2, none⟩) hbb).trans u2
      have HX := Lib.hid hx
      have hbb2 := Nat.lt_of_lt_of_le hbb hb.size
      clear u0 u1 u2 hx
      by_cases c0 : 0 ≤ x0 ∧ x0 ≤ 4294967295
      · by_cases c1 : 0 ≤ x1 ∧ x1 ≤ 1
        · by_cases c2 : 0 ≤ x2 ∧ x2 ≤ 1
          · have HC : Hid (corrOk (x0, x1, x2) = true) := Lib.hid (by simp [corrOk]; omega)
            go_wp2_with (go_at_call 100; refine (implIn_t _ _ _ _ (by omega) (by omega)).mono ?_; rintro e w' ⟨rfl, rfl⟩)
            go_roundw
            case rel => exact ⟨k + 1, by omega, by go_num, Lib.hid (all_take_succ HX.out HC.out hall.out), Lib.hid (hbx.out.alloc _), hb.alloc (by omega) _⟩
            case measure => simp [intOf]; omega
          · have HC : Hid (corrOk (x0, x1, x2) = false) := Lib.hid (by simp [corrOk]; omega)
            go_wp2_with (go_at_call 100; first | (refine (implIn_t _ _ _ _ (by omega) (by omega)).mono ?_; rintro e w' ⟨rfl, rfl⟩) | (refine (implIn_f _ _ _ _ (by omega)).mono ?_; rintro e w' ⟨rfl, rfl⟩))
            go_ret
            exact ⟨ret_bool (pkOk_bad HX.out HC.out).symm, hb.alloc (by omega) _⟩
        · have HC : Hid (corrOk (x0, x1, x2) = false) := Lib.hid (by simp [corrOk]; omega)
          go_wp2_with (go_at_call 100; first | (refine (implIn_t _ _ _ _ (by omega) (by omega)).mono ?_; rintro e w' ⟨rfl, rfl⟩) | (refine (implIn_f _ _ _ _ (by omega)).mono ?_; rintro e w' ⟨rfl, rfl⟩))
          go_ret
          exact ⟨ret_bool (pkOk_bad HX.out HC.out).symm, hb.alloc (by omega) _⟩
      · have HC : Hid (corrOk (x0, x1, x2) = false) := Lib.hid (by simp [corrOk]; omega)
        go_wp2_with (go_at_call 100; first | (refine (implIn_t _ _ _ _ (by omega) (by omega)).mono ?_; rintro e w' ⟨rfl, rfl⟩) | (refine (implIn_f _ _ _ _ (by omega)).mono ?_; rintro e w' ⟨rfl, rfl⟩))
        go_ret
        exact ⟨ret_bool (pkOk_bad HX.out HC.out).symm, hb.alloc (by omega) _⟩
    · have hkn : k = n := by omega
      subst hkn
      have hal := hall.out
      rw [List.take_of_length_le (by have := HL.out; omega)] at hal
      have HO : Hid (pkOk r b xs = decide (1 ≤ k ∧ k ≤ 6 ∧ 0 ≤ r ∧ r ≤ 2147483646 ∧ 0 ≤ b ∧ b ≤ 1)) := Lib.hid (by unfold pkOk; rw [hal, HL.out]; rfl)
      clear hal
      by_cases c0 : 1 ≤ k ∧ k ≤ 6
      · by_cases c1 : 0 ≤ r ∧ r ≤ 2147483646
        · by_cases c2 : 0 ≤ b ∧ b ≤ 1
          · go_wp2_with (go_at_call 100; refine (implIn_t _ _ _ _ (by omega) (by omega)).mono ?_; rintro e w' ⟨rfl, rfl⟩)
            go_ret
            exact ⟨ret_bool (by rw [HO.out]; symm; exact decide_eq_true (by omega)), hb⟩
          · go_wp2_with (go_at_call 100; first | (refine (implIn_t _ _ _ _ (by omega) (by omega)).mono ?_; rintro e w' ⟨rfl, rfl⟩) | (refine (implIn_f _ _ _ _ (by omega)).mono ?_; rintro e w' ⟨rfl, rfl⟩))
            go_ret
            exact ⟨ret_bool (by rw [HO.out]; symm; exact decide_eq_false (by omega)), hb⟩
        · go_wp2_with (go_at_call 100; first | (refine (implIn_t _ _ _ _ (by omega) (by omega)).mono ?_; rintro e w' ⟨rfl, rfl⟩) | (refine (implIn_f _ _ _ _ (by omega)).mono ?_; rintro e w' ⟨rfl, rfl⟩))
          go_ret
          exact ⟨ret_bool (by rw [HO.out]; symm; exact decide_eq_false (by omega)), hb⟩
      · go_wp2_with (go_at_call 100; first | (refine (implIn_t _ _ _ _ (by omega) (by omega)).mono ?_; rintro e w' ⟨rfl, rfl⟩) | (refine (implIn_f _ _ _ _ (by omega)).mono ?_; rintro e w' ⟨rfl, rfl⟩))
        go_ret
        exact ⟨ret_bool (by rw [HO.out]; symm; exact decide_eq_false (by omega)), hb⟩
end Go.Proofs.Ytceogegjghmonaa
