/- slices.Index, slices.Contains at []int; CountCollisions in the program and in the reference. -/
import Derived.Test.YtfidnnfffhhchaaFlat
namespace Go.Proofs.Ytfidnnfffhhchaa
set_option linter.unusedVariables false
open Go.RowKit

/-- How many elements stand already before their place. -/
def cc (xs : List Int) : Nat → Nat
  | 0 => 0
  | k + 1 => cc xs k + if (xs.take k).contains (xs.getD k 0) then 1 else 0
theorem cc_le (xs : List Int) (k : Nat) : cc xs k ≤ k := by
  induction k with
  | zero => simp [cc]
  | succ k ih => unfold cc; split <;> omega

theorem not_mem_take_succ {xs : List Int} {k : Nat} {x y : Int} (hy : xs[k]? = some y) (h : x ∉ xs.take k) (hne : x ≠ y) : x ∉ xs.take (k + 1) := by
  rw [take_succ_get xs k y hy]
  simp [h, hne]
theorem mem_take_of_get {xs : List Int} {k n : Nat} {y : Int} (hy : xs[k]? = some y) (hk : k < n) : y ∈ xs.take n := by
  rw [List.mem_iff_getElem?]
  exact ⟨k, by rw [List.getElem?_take, if_pos hk, hy]⟩

theorem RdAt.take {α : Type} {R : Rel α} {w : World} {A : Option Addr} {n c k : Nat} {xs : List α} (h : RdAt R w A n c xs) (hk : k ≤ n) : RdAt R w A k c (xs.take k) := by
  refine ⟨by rw [List.length_take, h.1]; omega, Nat.le_trans hk h.2.1, h.2.2.1, fun hp => ?_⟩
  obtain ⟨b, off, hA, hb, hc⟩ := h.2.2.2 (by omega)
  refine ⟨b, off, hA, hb, fun j x hx => hc j x ?_⟩
  rw [List.getElem?_take] at hx
  split at hx
  · exact hx
  · cases hx

set_option maxHeartbeats 400000 in
theorem IndexI_c (v : Value) (xs : List Int) (x : Int) (w : World) (h : Rd RI w v xs) :
    Calls Try.prog 82 #[v, .int .i64 x] w fun e w' => ∃ r : Int, e = .returned (.int .i64 r) ∧ decide (0 ≤ r) = xs.contains x ∧ w = w' := by
  obtain ⟨A, n, c, rfl, h⟩ := h
  have hnc := h.2.1
  have hcm := h.2.2.1
  unfold maxLen at hcm
  have H := Lib.hid h
  clear h
  go_enter Try.func82, Try.ntmps82
  go_wp2
  go_loop [8] (fun i => ∃ k : Nat, k ≤ n ∧ i = .int .i64 k ∧ Hid (x ∉ xs.take k)) (fun i => n - (intOf i).toNat)
  case atStart => exact ⟨0, Nat.zero_le _, rfl, Lib.hid (by simp)⟩
  case round =>
    obtain ⟨k, hk, rfl, hne⟩ := hrel
    by_cases hlt : k < n
    · obtain ⟨b, off, y, u, rfl, hbb, hx, g1, hr⟩ := H.out.at_ hlt
      unfold RI at hr
      subst hr
      have HX := Lib.hid hx
      clear hx
      by_cases hxy : x = y
      · have ht : (x == y) = true := by simp [hxy]
        have HXY := Lib.hid hxy
        clear hxy
        go_wp2
        go_ret
        refine ⟨_, rfl, ?_, rfl⟩
        have hm : x ∈ xs := by rw [HXY.out]; exact List.mem_of_getElem? HX.out
        simp [hm]
      · have ht : (x == y) = false := by simp [hxy]
        have HXY := Lib.hid hxy
        clear hxy
        go_wp2
        go_round
        case rel => exact ⟨k + 1, by omega, by go_num, Lib.hid (not_mem_take_succ HX.out hne.out HXY.out)⟩
        case measure => simp [intOf]; omega
    · go_wp2
      go_ret
      refine ⟨_, rfl, ?_, rfl⟩
      have hne := hne.out
      rw [List.take_of_length_le (by have := H.out.1; omega)] at hne
      simp [hne]
set_option maxHeartbeats 400000 in
theorem ContainsI_c (v : Value) (xs : List Int) (x : Int) (w : World) (h : Rd RI w v xs) :
    Calls Try.prog 64 #[v, .int .i64 x] w fun e w' => e = .returned (.bool (xs.contains x)) ∧ w = w' := by
  go_enter Try.func64, Try.ntmps64
  go_wp2_with fail
  refine (IndexI_c _ _ _ _ h).mono ?_
  rintro e w' ⟨r, rfl, hr, rfl⟩
  have HR := Lib.hid hr
  clear hr
  go_wp2
  go_ret
  exact ⟨ret_bool HR.out, rfl⟩
set_option maxHeartbeats 400000 in
theorem implCountCollisions_c (v : Value) (xs : List Int) (w : World) (h : Rd RI w v xs) :
    Calls Try.prog 24 #[v] w fun e w' => e = .returned (.int .i64 (cc xs xs.length : Nat)) ∧ Below w.heap.size w w' := by
  obtain ⟨A, n, c, rfl, h⟩ := h
  have hnc := h.2.1
  have hcm := h.2.2.1
  unfold maxLen at hcm
  have H := Lib.hid h
  clear h
  go_enter Try.func24, Try.ntmps24
  go_wp2
  go_loop [3, 8] (fun d i => ∃ k : Nat, k ≤ n ∧ i = .int .i64 k ∧ d = .int .i64 (cc xs k : Nat)) (fun _ i => n - (intOf i).toNat)
  case atStart => exact ⟨0, Nat.zero_le _, rfl, rfl⟩
  case round =>
    obtain ⟨k, hk, rfl, rfl⟩ := hrel
    have hle := cc_le xs k
    by_cases hlt : k < n
    · obtain ⟨b, off, y, u, rfl, hbb, hx, g1, hr⟩ := H.out.at_ hlt
      unfold RI at hr
      subst hr
      have HC : Hid (cc xs (k + 1) = cc xs k + if (xs.take k).contains y then 1 else 0) := Lib.hid (by
        show cc xs k + (if (xs.take k).contains (xs.getD k 0) then 1 else 0) = _
        rw [List.getD_eq_getElem?_getD, hx]; rfl)
      generalize cc xs k = d at *
      clear hx
      cases hb : (xs.take k).contains y with
      | true =>
        have HB := Lib.hid hb
        clear hb
        go_wp2_with fail
        refine (ContainsI_c _ _ _ _ ⟨_, _, _, rfl, H.out.take (Nat.le_of_lt hlt)⟩).mono ?_
        rintro e w' ⟨rfl, rfl⟩
        rw [HB.out]
        go_wp2
        go_round
        case rel => exact ⟨k + 1, by omega, by go_num, by rw [HC.out, HB.out]; go_num⟩
        case measure => simp [intOf]; omega
      | false =>
        have HB := Lib.hid hb
        clear hb
        go_wp2_with fail
        refine (ContainsI_c _ _ _ _ ⟨_, _, _, rfl, H.out.take (Nat.le_of_lt hlt)⟩).mono ?_
        rintro e w' ⟨rfl, rfl⟩
        rw [HB.out]
        go_wp2
        go_round
        case rel => exact ⟨k + 1, by omega, by go_num, by rw [HC.out, HB.out]; rfl⟩
        case measure => simp [intOf]; omega
    · go_wp2
      go_ret
      have hkn : k = xs.length := by have := H.out.1; omega
      exact ⟨ret_int (by rw [hkn]), Below.refl _ _⟩
set_option maxHeartbeats 1000000 in
theorem specCountCollisions_c (v : Value) (xs : List Int) (w : World) (h : Rd RI w v xs) :
    Calls Try.prog 22 #[v] w fun e w' => e = .returned (.int .i64 (cc xs xs.length : Nat)) ∧ Below w.heap.size w w' := by
  obtain ⟨A, n, c, rfl, h⟩ := h
  have hnc := h.2.1
  have hcm := h.2.2.1
  unfold maxLen at hcm
  have H := Lib.hid h
  clear h
  go_enter Try.func22, Try.ntmps22
  go_wp2
  go_loopw [3, 4] (fun d i wr => ∃ k : Nat, k ≤ n ∧ i = .int .i64 k ∧ d = .int .i64 (cc xs k : Nat) ∧ Below w.heap.size w wr) (fun _ i _ => n - (intOf i).toNat)
  case atStart => exact ⟨0, Nat.zero_le _, rfl, rfl, Below.refl _ _⟩
  case round =>
    obtain ⟨k, hk, rfl, rfl, hb⟩ := hrel
    have hle := cc_le xs k
    by_cases hlt : k < n
    · obtain ⟨b, off, y, u, rfl, hbb, hx, g1, hr⟩ := H.out.at_ hlt
      unfold RI at hr
      subst hr
      have HC : Hid (cc xs (k + 1) = cc xs k + if (xs.take k).contains y then 1 else 0) := Lib.hid (by
        show cc xs k + (if (xs.take k).contains (xs.getD k 0) then 1 else 0) = _
        rw [List.getD_eq_getElem?_getD, hx]; rfl)
      generalize cc xs k = d at *
      clear hx
      obtain ⟨wo, rfl⟩ : ∃ wo : World, wo = wr := ⟨_, rfl⟩
      go_wp2
      go_loopw [3, 5] (fun dd i wr => ∃ j : Nat, j ≤ k ∧ i = .int .i64 j ∧ dd = .int .i64 (d : Nat) ∧ Hid (y ∉ xs.take j) ∧ Below w.heap.size w wr) (fun _ i _ => k - (intOf i).toNat)
      case atStart => exact ⟨0, Nat.zero_le _, rfl, rfl, Lib.hid (by simp), hb⟩
      case round =>
        obtain ⟨j, hj, rfl, rfl, hne, hb⟩ := hrel
        by_cases hjk : j < k
        · obtain ⟨b', off', z, u', e', _, hz, g2, hr'⟩ := H.out.at_ (show j < n by omega)
          injection e' with e'
          injection e' with e1 e2
          subst e1 e2
          unfold RI at hr'
          subst hr'
          have c1 := (hb.cell (p := ⟨b, off + k, none⟩) hbb).trans g1
          have c2 := (hb.cell (p := ⟨b, off + j, none⟩) hbb).trans g2
          have HZ := Lib.hid hz
          clear hz
          by_cases hzy : z = y
          · have ht : (z == y) = true := by simp [hzy]
            have HZY := Lib.hid hzy
            clear hzy
            go_wp2
            go_quiet (fail)
            go_wp2
            go_roundw
            case rel =>
              refine ⟨k + 1, by omega, by go_num, ?_, below_drewN hb _⟩
              have hm : y ∈ xs.take k := by rw [← HZY.out]; exact mem_take_of_get HZ.out hjk
              rw [HC.out, if_pos (by simpa using hm)]
              go_num
            case measure => simp [intOf]; omega
          · have ht : (z == y) = false := by simp [hzy]
            have HZY := Lib.hid hzy
            clear hzy
            go_wp2
            go_quiet (fail)
            go_wp2
            go_roundw
            case rel => exact ⟨j + 1, by omega, by go_num, rfl, Lib.hid (not_mem_take_succ HZ.out hne.out (fun e => HZY.out e.symm)), below_drewN hb _⟩
            case measure => simp [intOf]; omega
        · have hjk' : j = k := by omega
          subst hjk'
          go_wp2
          go_roundw
          case rel =>
            refine ⟨j + 1, by omega, by go_num, ?_, hb⟩
            rw [HC.out, if_neg (by simpa using hne.out)]
            rfl
          case measure => simp [intOf]; omega
    · go_wp2
      go_ret
      have hkn : k = xs.length := by have := H.out.1; omega
      exact ⟨ret_int (by rw [hkn]), hb⟩
end Go.Proofs.Ytfidnnfffhhchaa
