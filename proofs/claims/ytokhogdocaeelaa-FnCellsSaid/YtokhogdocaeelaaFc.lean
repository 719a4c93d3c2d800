/- FindCounter of both sides. -/
import Derived.Test.YtokhogdocaeelaaOpJ
namespace Go.Proofs.Ytokhogdocaeelaa
set_option linter.unusedVariables false
open Go.RowKit

def fcAt (first : Int) (i : Nat) : Int := IntKind.i64.wrap (first + (i : Int))
def fcV (k : Int) (cell : List UInt8) (first : Int) (n : Nat) : Int := match (List.range n).find? (fun i => openOk k (fcAt first i) cell) with
  | some i => fcAt first i
  | none => -1
theorem fcV_none {k : Int} {cell : List UInt8} {first : Int} {n : Nat} (h : ∀ i, i < n → openOk k (fcAt first i) cell = false) : fcV k cell first n = -1 := by
  unfold fcV
  have : (List.range n).find? (fun i => openOk k (fcAt first i) cell) = none := by
    rw [List.find?_eq_none]
    intro x hx
    rw [h x (by simpa using hx)]
    simp
  rw [this]
theorem fcV_some {k : Int} {cell : List UInt8} {first : Int} {n j : Nat} (h : ∀ i, i < j → openOk k (fcAt first i) cell = false) (hj : j < n) (hy : openOk k (fcAt first j) cell = true) : fcV k cell first n = fcAt first j := by
  unfold fcV
  have : (List.range n).find? (fun i => openOk k (fcAt first i) cell) = some j := by
    rw [List.find?_range_eq_some]
    refine ⟨hy, by simpa using hj, fun i hi => by rw [h i hi]; rfl⟩
  rw [this]
def fcN (count : Int) : Nat := (max 0 (min count 100)).toNat
set_option maxHeartbeats 1000000 in
theorem implFindCounter_c (k : Int) (v : Value) (cell : List UInt8) (first count : Int) (w : World) (h : Rd RB w v cell) :
    Calls Try.prog 43 #[.int .i64 k, v, .int .i64 first, .int .i64 count] w fun e w' => e = .returned (.int .i64 (fcV k cell first (fcN count))) ∧ Below w.heap.size w w' := by
  obtain ⟨A, n, cc, rfl, h'⟩ := h
  have H : Hid (∀ W, Below w.heap.size w W → Rd RB W (.slice A n cc) cell) := Lib.hid (fun W hW => Rd_reads RB_reads _ _ _ _ ⟨_, _, _, rfl, h'⟩ hW)
  clear h'
  by_cases hc1 : 100 < count
  · have hN : fcN count = 100 := by unfold fcN; omega
    rw [hN]
    clear hN
    have m1 : min count 100 = 100 := by omega
    have m2 : max (0 : Int) 100 = 100 := by omega
    go_enter Try.func43, Try.ntmps43
    go_wp2
    all_goals (try (exfalso; omega))
    go_loopw [15] (fun i wr => ∃ j : Nat, j ≤ 100 ∧ i = .int .i64 j ∧ Hid (∀ m, m < j → openOk k (fcAt first m) cell = false) ∧ Below w.heap.size w wr) (fun i _ => 100 - (intOf i).toNat)
    case atStart => exact ⟨0, Nat.zero_le _, rfl, Lib.hid (fun m hm => absurd hm (Nat.not_lt_zero _)), Below.refl _ _⟩
    case round =>
      obtain ⟨j, hj, rfl, hno, hb⟩ := hrel
      by_cases hlt : j < 100
      · have hw : IntKind.i64.wrap (first + (j : Int)) = fcAt first j := rfl
        have hj100 : (j : Int) < 100 := by omega
        obtain ⟨ok, hok⟩ : ∃ b : Bool, openOk k (fcAt first j) cell = b := ⟨_, rfl⟩
        have OC := Lib.hid (implOpenCell_c k (fcAt first j) _ cell ok wr (H.out _ hb) (Lib.hid hok))
        have HOK := Lib.hid hok
        clear hok
        go_wp2_with fail
        refine OC.out.mono ?_
        rintro e w2 ⟨A2, l2, c2, rfl, F2⟩
        have T2 := hb.trans (F2.below.mono hb.size)
        clear F2 OC
        have T3 := T2.alloc T2.size (.cells #[.int .i64 (opnM k (fcAt first j) cell), .slice A2 l2 c2] 58)
        cases ok with
        | true =>
          have e := fcV_some hno.out (n := 100) hlt HOK.out
          go_wp2
          go_ret
          exact ⟨ret_int e.symm, T3⟩
        | false =>
          have hno2 : Hid (∀ m, m < j + 1 → openOk k (fcAt first m) cell = false) := Lib.hid (fun m hm => by
            rcases Nat.lt_succ_iff_lt_or_eq.1 hm with h | h
            · exact hno.out m h
            · rw [h]; exact HOK.out)
          go_wp2
          go_roundw
          case rel => exact ⟨j + 1, by omega, by go_num, hno2, T3⟩
          case measure => simp [intOf]; omega
      · have hjn : j = 100 := by omega
        rw [hjn] at hno
        have e := fcV_none (first := first) hno.out
        go_wp2
        go_ret
        exact ⟨ret_int e.symm, hb⟩
  · by_cases hc0 : count ≤ 0
    · have hN : fcN count = 0 := by unfold fcN; omega
      rw [hN]
      clear hN
      have e := fcV_none (k := k) (cell := cell) (first := first) (n := 0) (fun i hi => absurd hi (Nat.not_lt_zero _))
      rw [e]
      go_enter Try.func43, Try.ntmps43
      go_wp2
      all_goals (try (exfalso; omega))
      refine wp_loop_rounds 1 ?_
      rw [rounds_succ]
      go_wp2
      go_ret
      exact ⟨rfl, Below.refl _ _⟩
    · obtain ⟨N, rfl⟩ := Int.eq_ofNat_of_zero_le (show 0 ≤ count by omega)
      have hN : fcN (N : Int) = N := by unfold fcN; omega
      rw [hN]
      have hN100 : N ≤ 100 := by omega
      have hN1 : (0 : Int) < (N : Int) := by omega
      clear hN hc1 hc0
      go_enter Try.func43, Try.ntmps43
      go_wp2
      all_goals (try (exfalso; omega))
      go_loopw [15] (fun i wr => ∃ j : Nat, j ≤ N ∧ i = .int .i64 j ∧ Hid (∀ m, m < j → openOk k (fcAt first m) cell = false) ∧ Below w.heap.size w wr) (fun i _ => N - (intOf i).toNat)
      case atStart => exact ⟨0, Nat.zero_le _, rfl, Lib.hid (fun m hm => absurd hm (Nat.not_lt_zero _)), Below.refl _ _⟩
      case round =>
        obtain ⟨j, hj, rfl, hno, hb⟩ := hrel
        by_cases hlt : j < N
        · have hw : IntKind.i64.wrap (first + (j : Int)) = fcAt first j := rfl
          have hj100 : (j : Int) < 100 := by omega
          obtain ⟨ok, hok⟩ : ∃ b : Bool, openOk k (fcAt first j) cell = b := ⟨_, rfl⟩
          have OC := Lib.hid (implOpenCell_c k (fcAt first j) _ cell ok wr (H.out _ hb) (Lib.hid hok))
          have HOK := Lib.hid hok
          clear hok
          go_wp2_with fail
          refine OC.out.mono ?_
          rintro e w2 ⟨A2, l2, c2, rfl, F2⟩
          have T2 := hb.trans (F2.below.mono hb.size)
          clear F2 OC
          have T3 := T2.alloc T2.size (.cells #[.int .i64 (opnM k (fcAt first j) cell), .slice A2 l2 c2] 58)
          cases ok with
          | true =>
            have e := fcV_some hno.out (n := N) hlt HOK.out
            go_wp2
            go_ret
            exact ⟨ret_int e.symm, T3⟩
          | false =>
            have hno2 : Hid (∀ m, m < j + 1 → openOk k (fcAt first m) cell = false) := Lib.hid (fun m hm => by
              rcases Nat.lt_succ_iff_lt_or_eq.1 hm with h | h
              · exact hno.out m h
              · rw [h]; exact HOK.out)
            go_wp2
            go_roundw
            case rel => exact ⟨j + 1, by omega, by go_num, hno2, T3⟩
            case measure => simp [intOf]; omega
        · have hjn : j = N := by omega
          subst hjn
          have e := fcV_none (first := first) hno.out
          go_wp2
          go_ret
          exact ⟨ret_int e.symm, hb⟩
set_option maxHeartbeats 1000000 in
theorem specFindCounter_c (k : Int) (v : Value) (cell : List UInt8) (first count : Int) (w : World) (h : Rd RB w v cell) :
    Calls Try.prog 42 #[.int .i64 k, v, .int .i64 first, .int .i64 count] w fun e w' => e = .returned (.int .i64 (fcV k cell first (fcN count))) ∧ Below w.heap.size w w' := by
  obtain ⟨A, n, cc, rfl, h'⟩ := h
  have H : Hid (∀ W, Below w.heap.size w W → Rd RB W (.slice A n cc) cell) := Lib.hid (fun W hW => Rd_reads RB_reads _ _ _ _ ⟨_, _, _, rfl, h'⟩ hW)
  clear h'
  by_cases hc1 : 100 < count
  · have hN : fcN count = 100 := by unfold fcN; omega
    rw [hN]
    clear hN
    have m1 : min count 100 = 100 := by omega
    have m2 : max (0 : Int) 100 = 100 := by omega
    go_enter Try.func42, Try.ntmps42
    go_wp2
    all_goals (try (exfalso; omega))
    go_loopw [9] (fun i wr => ∃ j : Nat, j ≤ 100 ∧ i = .int .i64 j ∧ Hid (∀ m, m < j → openOk k (fcAt first m) cell = false) ∧ Below w.heap.size w wr) (fun i _ => 100 - (intOf i).toNat)
    case atStart => exact ⟨0, Nat.zero_le _, rfl, Lib.hid (fun m hm => absurd hm (Nat.not_lt_zero _)), Below.refl _ _⟩
    case round =>
      obtain ⟨j, hj, rfl, hno, hb⟩ := hrel
      by_cases hlt : j < 100
      · have hw : IntKind.i64.wrap (first + (j : Int)) = fcAt first j := rfl
        have hj100 : (j : Int) < 100 := by omega
        obtain ⟨ok, hok⟩ : ∃ b : Bool, openOk k (fcAt first j) cell = b := ⟨_, rfl⟩
        have OC := Lib.hid (specOpenCell_c k (fcAt first j) _ cell ok wr (H.out _ hb) (Lib.hid hok))
        have HOK := Lib.hid hok
        clear hok
        go_wp2_with fail
        refine OC.out.mono ?_
        rintro e w2 ⟨A2, l2, c2, rfl, F2⟩
        have T2 := hb.trans (F2.below.mono hb.size)
        clear F2 OC
        have T3 := T2.alloc T2.size (.cells #[.int .i64 (opnM k (fcAt first j) cell), .slice A2 l2 c2] 58)
        cases ok with
        | true =>
          have e := fcV_some hno.out (n := 100) hlt HOK.out
          go_wp2
          go_ret
          exact ⟨ret_int e.symm, T3⟩
        | false =>
          have hno2 : Hid (∀ m, m < j + 1 → openOk k (fcAt first m) cell = false) := Lib.hid (fun m hm => by
            rcases Nat.lt_succ_iff_lt_or_eq.1 hm with h | h
            · exact hno.out m h
            · rw [h]; exact HOK.out)
          go_wp2
          go_roundw
          case rel => exact ⟨j + 1, by omega, by go_num, hno2, T3⟩
          case measure => simp [intOf]; omega
      · have hjn : j = 100 := by omega
        rw [hjn] at hno
        have e := fcV_none (first := first) hno.out
        go_wp2
        go_ret
        exact ⟨ret_int e.symm, hb⟩
  · by_cases hc0 : count ≤ 0
    · have hN : fcN count = 0 := by unfold fcN; omega
      rw [hN]
      clear hN
      have e := fcV_none (k := k) (cell := cell) (first := first) (n := 0) (fun i hi => absurd hi (Nat.not_lt_zero _))
      rw [e]
      go_enter Try.func42, Try.ntmps42
      go_wp2
      all_goals (try (exfalso; omega))
      refine wp_loop_rounds 1 ?_
      rw [rounds_succ]
      go_wp2
      go_ret
      exact ⟨rfl, Below.refl _ _⟩
    · obtain ⟨N, rfl⟩ := Int.eq_ofNat_of_zero_le (show 0 ≤ count by omega)
      have hN : fcN (N : Int) = N := by unfold fcN; omega
      rw [hN]
      have hN100 : N ≤ 100 := by omega
      have hN1 : (0 : Int) < (N : Int) := by omega
      clear hN hc1 hc0
      go_enter Try.func42, Try.ntmps42
      go_wp2
      all_goals (try (exfalso; omega))
      go_loopw [9] (fun i wr => ∃ j : Nat, j ≤ N ∧ i = .int .i64 j ∧ Hid (∀ m, m < j → openOk k (fcAt first m) cell = false) ∧ Below w.heap.size w wr) (fun i _ => N - (intOf i).toNat)
      case atStart => exact ⟨0, Nat.zero_le _, rfl, Lib.hid (fun m hm => absurd hm (Nat.not_lt_zero _)), Below.refl _ _⟩
      case round =>
        obtain ⟨j, hj, rfl, hno, hb⟩ := hrel
        by_cases hlt : j < N
        · have hw : IntKind.i64.wrap (first + (j : Int)) = fcAt first j := rfl
          have hj100 : (j : Int) < 100 := by omega
          obtain ⟨ok, hok⟩ : ∃ b : Bool, openOk k (fcAt first j) cell = b := ⟨_, rfl⟩
          have OC := Lib.hid (specOpenCell_c k (fcAt first j) _ cell ok wr (H.out _ hb) (Lib.hid hok))
          have HOK := Lib.hid hok
          clear hok
          go_wp2_with fail
          refine OC.out.mono ?_
          rintro e w2 ⟨A2, l2, c2, rfl, F2⟩
          have T2 := hb.trans (F2.below.mono hb.size)
          clear F2 OC
          have T3 := T2.alloc T2.size (.cells #[.int .i64 (opnM k (fcAt first j) cell), .slice A2 l2 c2] 58)
          cases ok with
          | true =>
            have e := fcV_some hno.out (n := N) hlt HOK.out
            go_wp2
            go_ret
            exact ⟨ret_int e.symm, T3⟩
          | false =>
            have hno2 : Hid (∀ m, m < j + 1 → openOk k (fcAt first m) cell = false) := Lib.hid (fun m hm => by
              rcases Nat.lt_succ_iff_lt_or_eq.1 hm with h | h
              · exact hno.out m h
              · rw [h]; exact HOK.out)
            go_wp2
            go_roundw
            case rel => exact ⟨j + 1, by omega, by go_num, hno2, T3⟩
            case measure => simp [intOf]; omega
        · have hjn : j = N := by omega
          subst hjn
          have e := fcV_none (first := first) hno.out
          go_wp2
          go_ret
          exact ⟨ret_int e.symm, hb⟩
end Go.Proofs.Ytokhogdocaeelaa
