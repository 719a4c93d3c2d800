/- EqualPointKeys, in the program and in the reference; slices.Equal at Correction. -/
import Derived.Test.YtceogegjghmonaaPk
namespace Go.Proofs.Ytceogegjghmonaa
set_option linter.unusedVariables false
open Go.RowKit

def pkEq (r r' b b' : Int) (xs ys : List Corr) : Bool := decide (r = r' ∧ b = b' ∧ xs = ys)

theorem not_eq_of_get {xs ys : List Corr} {k : Nat} {x y : Corr} (hx : xs[k]? = some x) (hy : ys[k]? = some y) (h : x ≠ y) : xs ≠ ys := by
  rintro rfl
  rw [hx] at hy
  injection hy with e
  exact h e
theorem pk_take_eq_succ {xs ys : List Corr} {k : Nat} {x : Corr} (hx : xs[k]? = some x) (hy : ys[k]? = some x) (h : xs.take k = ys.take k) : xs.take (k + 1) = ys.take (k + 1) := by
  rw [take_succ_get xs k x hx, take_succ_get ys k x hy, h]

set_option maxHeartbeats 4000000 in
theorem eqSlC_c (v1 v2 : Value) (xs ys : List Corr) (w : World) (h1 : RdC w v1 xs) (h2 : RdC w v2 ys) :
    Calls Try.prog 111 #[v1, v2] w fun e w' => e = .returned (.bool (decide (xs = ys))) ∧ Below w.heap.size w w' := by
  obtain ⟨A, n, c, rfl, h⟩ := h1
  obtain ⟨B, m, d, rfl, h'⟩ := h2
  have hcm := h.2.2.1
  have hnc := h.2.1
  have hcm' := h'.2.2.1
  have hnc' := h'.2.1
  unfold maxLen at hcm hcm'
  have HL := Lib.hid h.1
  have HL' := Lib.hid h'.1
  have H : Hid (RdC w (.slice A n c) xs) := Lib.hid ⟨_, _, _, rfl, h⟩
  have H' : Hid (RdC w (.slice B m d) ys) := Lib.hid ⟨_, _, _, rfl, h'⟩
  clear h h'
  by_cases hnm : n = m
  · subst hnm
    go_enter Try.func111, Try.ntmps111
    go_wp2
    go_loopw [13] (fun i wr => ∃ k : Nat, k ≤ n ∧ i = .int .i64 k ∧ Hid (xs.take k = ys.take k) ∧ Below w.heap.size w wr) (fun i _ => n - (intOf i).toNat)
    case atStart => exact ⟨0, Nat.zero_le _, rfl, Lib.hid (by simp), Below.refl _ _⟩
    case round =>
      obtain ⟨k, hk, rfl, hte, hb⟩ := hrel
      by_cases hlt : k < n
      · obtain ⟨b, off, x, rfl, hbb, hx, u0, u1, u2⟩ := H.out.at_ hlt
        obtain ⟨b', off', y, rfl, hbb', hy, v0, v1, v2⟩ := H'.out.at_ hlt
        obtain ⟨x0, x1, x2⟩ := x
        obtain ⟨y0, y1, y2⟩ := y
        have g0 := (hb.cell (p := ⟨b, off + k * 3, none⟩) hbb).trans u0
        have g1 := (hb.cell (p := ⟨b, off + k * 3 + 1, none⟩) hbb).trans u1
        have g2 := (hb.cell (p := ⟨b, off + k * 3 + 2, none⟩) hbb).trans u2
        have g3 := (hb.cell (p := ⟨b', off' + k * 3, none⟩) hbb').trans v0
        have g4 := (hb.cell (p := ⟨b', off' + k * 3 + 1, none⟩) hbb').trans v1
        have g5 := (hb.cell (p := ⟨b', off' + k * 3 + 2, none⟩) hbb').trans v2
        have HX := Lib.hid hx
        have HY := Lib.hid hy
        clear u0 u1 u2 v0 v1 v2 hx hy
        have hk0 : (0 : Int) ≤ (k : Int) := by omega
        have hkn : (k : Int) < (n : Int) := by omega
        by_cases e0 : x0 = y0
        · subst e0
          by_cases e1 : x1 = y1
          · subst e1
            by_cases e2 : x2 = y2
            · subst e2
              go_wp2
              go_quiet (fail)
              go_wp2
              go_roundw
              case rel => exact ⟨k + 1, by omega, by go_num, Lib.hid (pk_take_eq_succ HX.out HY.out hte.out), below_drewN hb _⟩
              case measure => simp [intOf]; omega
            · have hq : (x2 == y2) = false := by simp [e2]
              have HE := Lib.hid e2
              clear e2
              go_wp2
              go_quiet (fail)
              go_wp2
              go_ret
              refine ⟨ret_bool ?_, below_drewN hb _⟩
              have := not_eq_of_get HX.out HY.out (by simp [HE.out])
              simp [this]
          · have hq : (x1 == y1) = false := by simp [e1]
            have HE := Lib.hid e1
            clear e1
            go_wp2
            go_quiet (fail)
            go_wp2
            go_ret
            refine ⟨ret_bool ?_, below_drewN hb _⟩
            have := not_eq_of_get HX.out HY.out (by simp [HE.out])
            simp [this]
        · have hq : (x0 == y0) = false := by simp [e0]
          have HE := Lib.hid e0
          clear e0
          go_wp2
          go_quiet (fail)
          go_wp2
          go_ret
          refine ⟨ret_bool ?_, below_drewN hb _⟩
          have := not_eq_of_get HX.out HY.out (by simp [HE.out])
          simp [this]
      · go_wp2
        go_ret
        have hkn : k = n := by omega
        subst hkn
        have ht := hte.out
        rw [List.take_of_length_le (by have := HL.out; omega), List.take_of_length_le (by have := HL'.out; omega)] at ht
        exact ⟨ret_bool (by simp [ht]), hb⟩
  · have hd : ((n : Int) == (m : Int)) = false := by simp; omega
    go_enter Try.func111, Try.ntmps111
    go_wp2
    go_ret
    refine ⟨ret_bool ?_, Below.refl _ _⟩
    have : xs ≠ ys := fun e => hnm (by rw [← HL.out, ← HL'.out, e])
    simp [this]
set_option maxHeartbeats 4000000 in
theorem implEqualPointKeys_c (r b r' b' : Int) (v1 v2 : Value) (xs ys : List Corr) (w : World) (h1 : RdC w v1 xs) (h2 : RdC w v2 ys) :
    Calls Try.prog 49 #[.agg #[.int .i64 r, .int .i64 b, v1], .agg #[.int .i64 r', .int .i64 b', v2]] w fun e w' => e = .returned (.bool (pkEq r r' b b' xs ys)) ∧ Below w.heap.size w w' := by
  obtain ⟨A, n, c, rfl, h1'⟩ := h1
  obtain ⟨B, m, d, rfl, h2'⟩ := h2
  have h1 : RdC w (.slice A n c) xs := ⟨_, _, _, rfl, h1'⟩
  have h2 : RdC w (.slice B m d) ys := ⟨_, _, _, rfl, h2'⟩
  clear h1' h2'
  have BB : Below w.heap.size w ((w.alloc (.cells #[.int .i64 r, .int .i64 b, .slice A n c] 63)).alloc (.cells #[.int .i64 r', .int .i64 b', .slice B m d] 63)) := by (repeat (first | exact Below.refl _ _ | refine Below.alloc ?_ (by simp; try omega) _ | refine Below.setCell ?_ (by simp; try omega) _))
  obtain ⟨o, ho⟩ : ∃ o, o = pkEq r r' b b' xs ys := ⟨_, rfl⟩
  have HO := Lib.hid ho
  rw [← ho]
  clear ho
  unfold pkEq at HO
  by_cases e0 : r = r'
  · have q0 : (r == r') = true := by simp [e0]
    have E0 := Lib.hid e0
    clear e0
    by_cases e1 : b = b'
    · have q1 : (b == b') = true := by simp [e1]
      have E1 := Lib.hid e1
      clear e1
      go_enter Try.func49, Try.ntmps49
      go_wp2_with fail
      refine (eqSlC_c _ _ _ _ _ (RdC_reads _ _ _ _ h1 BB) (RdC_reads _ _ _ _ h2 BB)).mono ?_
      rintro e w1 ⟨rfl, bb⟩
      go_wp2
      go_ret
      exact ⟨ret_bool (by rw [HO.out, E0.out, E1.out]; simp), BB.trans (bb.mono (by simp; omega))⟩
    · have q1 : (b == b') = false := by simp [e1]
      have E1 := Lib.hid e1
      clear e1
      go_enter Try.func49, Try.ntmps49
      go_wp2
      go_ret
      exact ⟨ret_bool (by rw [HO.out]; simp [E1.out]), BB⟩
  · have q0 : (r == r') = false := by simp [e0]
    have E0 := Lib.hid e0
    clear e0
    go_enter Try.func49, Try.ntmps49
    go_wp2
    go_ret
    exact ⟨ret_bool (by rw [HO.out]; simp [E0.out]), BB⟩
end Go.Proofs.Ytceogegjghmonaa
