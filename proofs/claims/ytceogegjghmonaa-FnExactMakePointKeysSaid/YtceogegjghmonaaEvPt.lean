/- EvaluatePoint of both sides. -/
import Derived.Test.YtceogegjghmonaaPkOk
import Derived.Test.YtceogegjghmonaaNode
import Derived.Test.YtceogegjghmonaaBoxes
import Derived.IntWalk
import Derived.Deep.RegionHeld3
namespace Go.Proofs.Ytceogegjghmonaa
set_option linter.unusedVariables false
open Go.RowKit

/-- The side at level k of depth n. -/
def sideAt (idx : Int) (n k : Nat) : Int := idx / 2 ^ (n - 1 - k) % 2
theorem sideAt_bd (idx : Int) (n k : Nat) : 0 ≤ sideAt idx n k ∧ sideAt idx n k ≤ 1 := by unfold sideAt; omega
def evSt (r b : Int) (xs : List Corr) (idx : Int) (n : Nat) : Nat → Int × Int
  | 0 => (r, b)
  | k + 1 => (nodeS (evSt r b xs idx n k).1 (evSt r b xs idx n k).2 (sideAt idx n k) (xs.getD k (0, 0, 0)), nodeT (evSt r b xs idx n k).1 (evSt r b xs idx n k).2 (sideAt idx n k) (xs.getD k (0, 0, 0)))
def evS (r b : Int) (xs : List Corr) (idx : Int) (n k : Nat) : Int := (evSt r b xs idx n k).1
def evT (r b : Int) (xs : List Corr) (idx : Int) (n k : Nat) : Int := (evSt r b xs idx n k).2
theorem evS_succ (r b : Int) (xs : List Corr) (idx : Int) (n k : Nat) {x : Corr} (hx : xs[k]? = some x) : evS r b xs idx n (k + 1) = nodeS (evS r b xs idx n k) (evT r b xs idx n k) (sideAt idx n k) x := by
  simp [evS, evT, evSt, List.getD, hx]
theorem evT_succ (r b : Int) (xs : List Corr) (idx : Int) (n k : Nat) {x : Corr} (hx : xs[k]? = some x) : evT r b xs idx n (k + 1) = nodeT (evS r b xs idx n k) (evT r b xs idx n k) (sideAt idx n k) x := by
  simp [evS, evT, evSt, List.getD, hx]
def leafOk (n : Nat) (idx : Int) : Bool := decide (0 ≤ idx ∧ idx ≤ 2 ^ n - 1)
def evPt (r b : Int) (xs : List Corr) (idx : Int) : Int := if pkOk r b xs && leafOk xs.length idx then evT r b xs idx xs.length xs.length else 0
theorem pkOk_len {r b : Int} {xs : List Corr} (h : pkOk r b xs = true) : 1 ≤ xs.length ∧ xs.length ≤ 6 := by
  unfold pkOk at h
  simp at h
  omega
theorem pow_bd (n : Nat) (h : n ≤ 6) : ∃ p : Nat, (2 : Int) ^ n = (p : Int) ∧ 1 ≤ p ∧ p ≤ 64 := by
  refine ⟨2 ^ n, by simp, Nat.one_le_two_pow, ?_⟩
  have := Nat.pow_le_pow_right (n := 2) (by omega) h
  omega
set_option maxHeartbeats 1000000 in
theorem implLeaf_t (n : Nat) (idx : Int) (w : World) (hn : n ≤ 6) (h : leafOk n idx = true) : Calls Try.prog 106 #[.int .i64 (n : Int), .int .i64 idx] w fun e w' => e = .returned (.bool true) ∧ w = w' := by
  obtain ⟨p, hp, hp1, hp2⟩ := pow_bd n hn
  have h2 : 0 ≤ idx ∧ idx ≤ (p : Int) - 1 := by unfold leafOk at h; rw [hp] at h; simpa using h
  clear h
  go_enter Try.func106, Try.ntmps106
  go_wp2_with fail
  refine (implIn_t _ _ _ _ (by omega) (by omega)).mono ?_
  rintro e w' ⟨rfl, rfl⟩
  go_wp2_with fail
  refine (implIn_t _ _ _ _ (by omega) (by omega)).mono ?_
  rintro e w' ⟨rfl, rfl⟩
  go_wp2
  go_ret
  exact ⟨rfl, rfl⟩
theorem implLeaf_f (n : Nat) (idx : Int) (w : World) (hn : n ≤ 6) (h : leafOk n idx = false) : Calls Try.prog 106 #[.int .i64 (n : Int), .int .i64 idx] w fun e w' => e = .returned (.bool false) ∧ w = w' := by
  obtain ⟨p, hp, hp1, hp2⟩ := pow_bd n hn
  have h2 : ¬ (0 ≤ idx ∧ idx ≤ (p : Int) - 1) := by unfold leafOk at h; rw [hp] at h; simpa using h
  have H2 := Lib.hid h2
  clear h h2
  go_enter Try.func106, Try.ntmps106
  go_wp2_with fail
  refine (implIn_t _ _ _ _ (by omega) (by omega)).mono ?_
  rintro e w' ⟨rfl, rfl⟩
  go_wp2_with fail
  refine (implIn_f _ _ _ _ H2.out).mono ?_
  rintro e w' ⟨rfl, rfl⟩
  go_wp2
  go_ret
  exact ⟨rfl, rfl⟩
set_option maxHeartbeats 4000000 in
set_option maxRecDepth 100000 in
theorem implEvPt_c (r b : Int) (v : Value) (xs : List Corr) (idx : Int) (w : World) (h : RdC w v xs) (hi : -9223372036854775808 ≤ idx) (hi' : idx ≤ 9223372036854775807) :
    Calls Try.prog 48 #[.agg #[.int .i64 r, .int .i64 b, v], .int .i64 idx] w fun e w' => e = .returned (.int .i64 (evPt r b xs idx)) ∧ Below w.heap.size w w' := by
  obtain ⟨A, n, c, rfl, h'⟩ := h
  have hcm := h'.2.2.1
  have hnc := h'.2.1
  unfold maxLen at hcm
  obtain rfl := h'.1
  have h : RdC w (.slice A xs.length c) xs := ⟨_, _, _, rfl, h'⟩
  clear h'
  obtain ⟨B_k, T, hs_w0⟩ := boxes1 w 63 #[.int .i64 r, .int .i64 b, .slice A xs.length c]
  have R1 := RdC_reads _ _ _ _ h T
  have VP : Hid (∀ o, pkOk r b xs = o → ∀ W v, RdC W v xs → Calls Try.prog 46 #[.agg #[.int .i64 r, .int .i64 b, v]] W fun e w' => e = .returned (.bool o) ∧ Below W.heap.size W w') := Lib.hid (fun o ho W v h => by rw [← ho]; exact implIsValidPointKey_c r b v xs W h)
  have BK := Lib.hid B_k
  have HR := Lib.hid h
  clear B_k h
  cases hpk : pkOk r b xs with
  | false =>
    have HE := Lib.hid (show evPt r b xs idx = 0 by unfold evPt; rw [hpk]; rfl)
    have OP := Lib.hid hpk
    clear hpk
    go_enter Try.func48, Try.ntmps48
    go_wp2_with fail
    refine (VP.out _ OP.out _ _ R1).mono ?_
    rintro e w1 ⟨rfl, b1⟩
    have T1 := T.trans (b1.mono T.size)
    go_wp2
    go_ret
    exact ⟨by rw [HE.out]; rfl, T1⟩
  | true =>
    have hl := pkOk_len hpk
    obtain ⟨p, hp, hp1, hp2⟩ := pow_bd xs.length hl.2
    cases hlf : leafOk xs.length idx with
    | false =>
      have HE := Lib.hid (show evPt r b xs idx = 0 by unfold evPt; rw [hpk, hlf]; rfl)
      have OP := Lib.hid hpk
      have LF := Lib.hid hlf
      have h2 : ¬ (0 ≤ idx ∧ idx ≤ (p : Int) - 1) := by unfold leafOk at hlf; rw [hp] at hlf; simpa using hlf
      have H2 := Lib.hid h2
      clear hpk hlf h2
      go_enter Try.func48, Try.ntmps48
      go_wp2_with fail
      refine (VP.out _ OP.out _ _ R1).mono ?_
      rintro e w1 ⟨rfl, b1⟩
      have T1 := T.trans (b1.mono T.size)
      go_wp2_with fail
      refine (implLeaf_f _ _ _ hl.2 LF.out).mono ?_
      rintro e w2 ⟨rfl, rfl⟩
      go_wp2
      go_ret
      exact ⟨by rw [HE.out]; rfl, T1⟩
    | true =>
      have HE := Lib.hid (show evPt r b xs idx = evT r b xs idx xs.length xs.length by unfold evPt; rw [hpk, hlf]; rfl)
      rw [HE.out]
      have OP := Lib.hid hpk
      have LF := Lib.hid hlf
      have h2 : 0 ≤ idx ∧ idx ≤ (p : Int) - 1 := by unfold leafOk at hlf; rw [hp] at hlf; simpa using hlf
      clear hpk hlf HE
      go_enter Try.func48, Try.ntmps48
      go_wp2_with fail
      refine (VP.out _ OP.out _ _ R1).mono ?_
      rintro e w1 ⟨rfl, b1⟩
      have T1 := T.trans (b1.mono T.size)
      have B1 := Lib.hid (BK.out.below b1 BK.out.lt)
      have hs1 := b1.size
      have q0 : w1.cell? ⟨w.heap.size, 0, none⟩ = some (.int .i64 r) := B1.out.cell 0
      have q1 : w1.cell? ⟨w.heap.size, 1, none⟩ = some (.int .i64 b) := B1.out.cell 1
      have q2 : w1.cell? ⟨w.heap.size, 2, none⟩ = some (.slice A xs.length c) := B1.out.cell 2
      clear b1 T BK R1
      go_wp2_with fail
      refine (implLeaf_t _ _ _ hl.2 LF.out).mono ?_
      rintro e w2 ⟨rfl, rfl⟩
      go_wp2_with fail
      go_quiet (fail)
      have B2 : Hid (Box (w1.drewN nq) w.heap.size 63 #[.int .i64 r, .int .i64 b, .slice A xs.length c]) := B1
      have T2 := below_drewN T1 nq
      have q3 : (w1.drewN nq).cell? ⟨w.heap.size, 2, none⟩ = some (.slice A xs.length c) := B2.out.cell 2
      go_wp2
      go_loopw [6, 7, 29] (fun s t i wr => ∃ k : Nat, k ≤ xs.length ∧ i = .int .i64 k ∧ s = .int .i64 (evS r b xs idx xs.length k) ∧ t = .int .i64 (evT r b xs idx xs.length k) ∧ Below w.heap.size w wr) (fun _ _ i _ => xs.length - (intOf i).toNat)
      case atStart => exact ⟨0, Nat.zero_le _, rfl, rfl, rfl, T2⟩
      case round =>
        obtain ⟨k, hk, rfl, rfl, rfl, Tr⟩ := hrel
        clear B1 T1 q0 q1 q2 B2 T2 q3
        by_cases hlt : k < xs.length
        · obtain ⟨b0, off, x, rfl, hbb, hx, u0, u1, u2⟩ := HR.out.at_ hlt
          obtain ⟨x0, x1, x2⟩ := x
          have g0 : wr.cell? ⟨b0, off + k * 3, none⟩ = some (.int .i64 x0) := (Tr.cell (p := ⟨b0, off + k * 3, none⟩) hbb).trans u0
          have g1 : wr.cell? ⟨b0, off + k * 3 + 1, none⟩ = some (.int .i64 x1) := (Tr.cell (p := ⟨b0, off + k * 3 + 1, none⟩) hbb).trans u1
          have g2 : wr.cell? ⟨b0, off + k * 3 + 2, none⟩ = some (.int .i64 x2) := (Tr.cell (p := ⟨b0, off + k * 3 + 2, none⟩) hbb).trans u2
          have E1 := Lib.hid (evS_succ r b xs idx xs.length k hx)
          have E2 := Lib.hid (evT_succ r b xs idx xs.length k hx)
          have SD : Hid (sideAt idx xs.length k = idx / 2 ^ (xs.length - 1 - k) % 2) := Lib.hid rfl
          have hk0 : (0 : Int) ≤ (k : Int) := by omega
          have hkn : (k : Int) < (xs.length : Int) := by omega
          have wa : IntKind.i64.wrap ((xs.length : Int) - 1) = (xs.length : Int) - 1 := IntWalk.i64_in _ (by omega)
          have wb : IntKind.i64.wrap ((xs.length : Int) - 1 - (k : Int)) = (xs.length : Int) - 1 - (k : Int) := IntWalk.i64_in _ (by omega)
          have wc : (0 : Int) ≤ (xs.length : Int) - 1 - (k : Int) := by omega
          have wd : (xs.length : Int) - 1 - (k : Int) ≤ 64 := by omega
          have we : ((xs.length : Int) - 1 - (k : Int)).toNat = xs.length - 1 - k := by omega
          have C : Hid (Box (wr.alloc (.cells #[.int .i64 x0, .int .i64 x1, .int .i64 x2] 116)).drew wr.heap.size 116 #[.int .i64 x0, .int .i64 x1, .int .i64 x2]) := Lib.hid (Box.new wr 116 #[.int .i64 x0, .int .i64 x1, .int .i64 x2])
          have h0 := C.out.cell 0
          have h1 := C.out.cell 1
          have h2' := C.out.cell 2
          have Trd := Lib.hid ((Tr.alloc Tr.size (.cells #[.int .i64 x0, .int .i64 x1, .int .i64 x2] 116)).drew)
          generalize evS r b xs idx xs.length k = s0 at *
          generalize evT r b xs idx xs.length k = t0 at *
          clear u0 u1 u2 hx hp
          go_wp2_with fail
          go_region_held3 (fun w' => w'.cell? ⟨wr.heap.size, 0, none⟩ = some (.int .i64 x0) ∧ w'.cell? ⟨wr.heap.size, 1, none⟩ = some (.int .i64 x1) ∧ w'.cell? ⟨wr.heap.size, 2, none⟩ = some (.int .i64 x2))
            (first | (exact ⟨h0, h1, h2'⟩) | (exact ⟨d0, d1, d2⟩) | go_keep)
            (first | (go_at_call 109; rw [i64_and1, ← SD.out]; refine (implNode_c _ _ _ _ _ _ _).mono ?_; rintro e w3 ⟨rfl, b3⟩; have D := C.out.below b3 C.out.lt; have d0 := D.cell 0; have d1 := D.cell 1; have d2 := D.cell 2; have T3 := Trd.out.trans (b3.mono Trd.out.size); clear b3 D))
          go_wp2
          go_roundw
          case rel => exact ⟨k + 1, by omega, by go_num, by rw [E1.out], by rw [E2.out], T3⟩
          case measure => simp [intOf]; omega
        · have hkn : k = xs.length := by omega
          subst hkn
          go_wp2
          go_ret
          exact ⟨rfl, Tr⟩
end Go.Proofs.Ytceogegjghmonaa
