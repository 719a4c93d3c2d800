/- SketchShare, CountAccepting, JoinSketches of both sides. -/
import Derived.Test.YtceogegjghmonaaFuncI
import Derived.Test.YtceogegjghmonaaAccepts
import Derived.Test.YtceogegjghmonaaChal
import Derived.Test.YtceogegjghmonaaStream
import Derived.WalkLawsBesides
namespace Go.Proofs.Ytceogegjghmonaa
set_option linter.unusedVariables false
open Go.RowKit

def skA (s : Int) (xs : List Int) : Nat → Int
  | 0 => 0
  | k + 1 => skA s xs k + chal s (k : Int) * xs.getD k 0
def skB (s : Int) (xs : List Int) : Nat → Int
  | 0 => 0
  | k + 1 => skB s xs k + chal s (k : Int) * chal s (k : Int) * xs.getD k 0
def skM (xs : List Int) : Nat → Int
  | 0 => 0
  | k + 1 => skM xs k + xs.getD k 0
def sk1 (xs : List Int) (s : Int) : Int := if skOk xs then skA s xs xs.length % 1019 else 0
def sk2 (xs : List Int) (s : Int) : Int := if skOk xs then skB s xs xs.length % 1019 else 0
def sk3 (xs : List Int) (s : Int) : Int := if skOk xs then skM xs xs.length % 1019 else 0
theorem sk1_range (xs : List Int) (s : Int) : 0 ≤ sk1 xs s ∧ sk1 xs s < 1019 := by unfold sk1; split <;> omega
theorem sk2_range (xs : List Int) (s : Int) : 0 ≤ sk2 xs s ∧ sk2 xs s < 1019 := by unfold sk2; split <;> omega
theorem sk3_range (xs : List Int) (s : Int) : 0 ≤ sk3 xs s ∧ sk3 xs s < 1019 := by unfold sk3; split <;> omega
theorem mul_bd (a b A B : Int) (h1 : 0 ≤ a) (h2 : a ≤ A) (h3 : 0 ≤ b) (h4 : b ≤ B) : 0 ≤ a * b ∧ a * b ≤ A * B :=
  ⟨Int.mul_nonneg h1 h3, Int.mul_le_mul h2 h4 h3 (by omega)⟩
theorem ra_bd (r x : Int) (h : 1 ≤ r ∧ r ≤ 1018) (hx : 0 ≤ x ∧ x ≤ 1018) : 0 ≤ r * x ∧ r * x ≤ 1036324 := by
  have := mul_bd r x 1018 1018 (by omega) h.2 hx.1 hx.2
  omega
theorem rb_bd (r x : Int) (h : 1 ≤ r ∧ r ≤ 1018) (hx : 0 ≤ x ∧ x ≤ 1018) : 0 ≤ r * r * x ∧ r * r * x ≤ 1054977832 := by
  have h2 := mul_bd r r 1018 1018 (by omega) h.2 (by omega) h.2
  have := mul_bd (r * r) x 1036324 1018 h2.1 (by omega) hx.1 hx.2
  omega
theorem getD_of {xs : List Int} {k : Nat} {x : Int} (h : xs[k]? = some x) : xs.getD k 0 = x := by simp [List.getD, h]
theorem skOk_get {xs : List Int} (h : skOk xs = true) {k : Nat} {x : Int} (hx : xs[k]? = some x) : 0 ≤ x ∧ x ≤ 1018 := by
  unfold skOk at h
  rw [Bool.and_eq_true] at h
  exact allIn_get h.2 hx
theorem skOk_len {xs : List Int} (h : skOk xs = true) : xs.length ≤ 64 := by
  unfold skOk at h
  rw [Bool.and_eq_true] at h
  simpa using h.1
theorem sk_bd {xs : List Int} (h : skOk xs = true) (s : Int) (k : Nat) (hk : k ≤ xs.length) :
    (0 ≤ skA s xs k ∧ skA s xs k ≤ k * 1036324) ∧ (0 ≤ skB s xs k ∧ skB s xs k ≤ k * 1054977832) ∧ (0 ≤ skM xs k ∧ skM xs k ≤ k * 1018) := by
  induction k with
  | zero => simp [skA, skB, skM]
  | succ k ih =>
    have ih := ih (by omega)
    have hx := List.getElem?_eq_getElem (l := xs) (i := k) (by omega)
    have hb := skOk_get h hx
    have hg := getD_of hx
    have hr := chal_range s k
    have e1 := ra_bd _ _ hr hb
    have e2 := rb_bd _ _ hr hb
    simp only [skA, skB, skM, hg]
    omega
theorem modB (b rr x : Int) : (b % 1019 + rr % 1019 * x) % 1019 = (b + rr * x) % 1019 := by
  have e : rr * x = 1019 * (rr / 1019 * x) + rr % 1019 * x := by
    have h := Int.mul_ediv_add_emod rr 1019
    calc rr * x = (1019 * (rr / 1019) + rr % 1019) * x := by rw [h]
      _ = 1019 * (rr / 1019 * x) + rr % 1019 * x := by rw [Int.add_mul, Int.mul_assoc]
  rw [e]
  omega

set_option maxHeartbeats 2000000 in
theorem implSketch_c (v : Value) (xs : List Int) (s : Int) (w : World) (h : Rd RI w v xs) :
    Calls Try.prog 72 #[v, .int .i64 s] w fun e w' => e = .returned (.tuple #[.int .i64 (sk1 xs s), .int .i64 (sk2 xs s), .int .i64 (sk3 xs s)]) ∧ Below w.heap.size w w' := by
  have hfe := implFE_c v xs w h
  obtain ⟨A, n, c, rfl, h⟩ := h
  obtain rfl := h.1
  have hnc := h.2.1
  have hcm := h.2.2.1
  unfold maxLen at hcm
  have H := Lib.hid h
  clear h
  cases hok : skOk xs with
  | false =>
    have e1 : Hid (sk1 xs s = 0) := Lib.hid (by unfold sk1; rw [hok]; rfl)
    have e2 : Hid (sk2 xs s = 0) := Lib.hid (by unfold sk2; rw [hok]; rfl)
    have e3 : Hid (sk3 xs s = 0) := Lib.hid (by unfold sk3; rw [hok]; rfl)
    by_cases h64 : xs.length ≤ 64
    · have ha : allIn 0 1018 xs = false := by
        unfold skOk at hok
        rw [decide_eq_true h64] at hok
        exact hok
      rw [ha] at hfe
      have h64' : ¬ (xs.length : Int) > 64 := by omega
      have HF := Lib.hid hfe
      clear hok ha hfe h64
      go_enter Try.func72, Try.ntmps72
      go_wp2_with (go_at_call 127; refine HF.out.mono ?_; rintro e w' ⟨rfl, rfl⟩)
      refine bodyPost_ret (v := .tuple #[.int .i64 (sk1 xs s), .int .i64 (sk2 xs s), .int .i64 (sk3 xs s)]) ?_ rfl ⟨rfl, Below.refl _ _⟩
      rw [e1.out, e2.out, e3.out]
      simp [results, Try.results72, go_sem]
    · have h64' : (xs.length : Int) > 64 := by omega
      clear hok hfe h64
      go_enter Try.func72, Try.ntmps72
      go_wp2
      refine bodyPost_ret (v := .tuple #[.int .i64 (sk1 xs s), .int .i64 (sk2 xs s), .int .i64 (sk3 xs s)]) ?_ rfl ⟨rfl, Below.refl _ _⟩
      rw [e1.out, e2.out, e3.out]
      simp [results, Try.results72, go_sem]
  | true =>
    have e1 : Hid (sk1 xs s = skA s xs xs.length % 1019) := Lib.hid (by unfold sk1; rw [hok]; rfl)
    have e2 : Hid (sk2 xs s = skB s xs xs.length % 1019) := Lib.hid (by unfold sk2; rw [hok]; rfl)
    have e3 : Hid (sk3 xs s = skM xs xs.length % 1019) := Lib.hid (by unfold sk3; rw [hok]; rfl)
    have h64 := skOk_len hok
    have h64' : ¬ (xs.length : Int) > 64 := by omega
    have ha : allIn 0 1018 xs = true := by
      unfold skOk at hok
      rw [Bool.and_eq_true] at hok
      exact hok.2
    rw [ha] at hfe
    have HF := Lib.hid hfe
    have OK := Lib.hid hok
    clear hok ha hfe
    go_enter Try.func72, Try.ntmps72
    go_wp2_with (go_at_call 127; refine HF.out.mono ?_; rintro e w' ⟨rfl, rfl⟩)
    go_loopw [7, 8, 9, 23] (fun a b m i wr => ∃ k : Nat, k ≤ xs.length ∧ i = .int .i64 k ∧ a = .int .i64 (skA s xs k) ∧ b = .int .i64 (skB s xs k) ∧ m = .int .i64 (skM xs k) ∧ Below w.heap.size w wr) (fun _ _ _ i _ => xs.length - (intOf i).toNat)
    case atStart => exact ⟨0, Nat.zero_le _, rfl, rfl, rfl, rfl, Below.refl _ _⟩
    case round =>
      obtain ⟨k, hk, rfl, rfl, rfl, rfl, hb⟩ := hrel
      have bd := sk_bd OK.out s k hk
      by_cases hlt : k < xs.length
      · obtain ⟨b, off, x, u, rfl, hbb, hx, hu, hr⟩ := H.out.at_ hlt
        have g1 := (hb.cell (p := ⟨b, off + k, none⟩) hbb).trans hu
        unfold RI at hr
        subst hr
        have hxb := skOk_get OK.out hx
        have E1 : Hid (skA s xs (k + 1) = skA s xs k + chal s (k : Int) * x) := Lib.hid (by simp only [skA, getD_of hx])
        have E2 : Hid (skB s xs (k + 1) = skB s xs k + chal s (k : Int) * chal s (k : Int) * x) := Lib.hid (by simp only [skB, getD_of hx])
        have E3 : Hid (skM xs (k + 1) = skM xs k + x) := Lib.hid (by simp only [skM, getD_of hx])
        have hr := chal_range s k
        have p1 := ra_bd _ _ hr hxb
        have p2 := rb_bd _ _ hr hxb
        have p3 := mul_bd (chal s k) (chal s k) 1018 1018 (by omega) hr.2 (by omega) hr.2
        clear hx hu
        go_wp2_with fail
        refine (implChallenge_c s k _).mono ?_
        rintro e w1 ⟨rfl, b1⟩
        have hb1 := hb.trans (b1.mono hb.size)
        generalize chal s (k : Int) = r at *
        generalize skA s xs k = a0 at *
        generalize skB s xs k = b0 at *
        generalize skM xs k = m0 at *
        clear b1 hb g1
        go_wp2
        go_roundw
        case rel => exact ⟨k + 1, by omega, by go_num, by rw [E1.out], by rw [E2.out], by rw [E3.out], hb1⟩
        case measure => simp [intOf]; omega
      · have hkn : k = xs.length := by omega
        subst hkn
        generalize skA s xs xs.length = a0 at *
        generalize skB s xs xs.length = b0 at *
        generalize skM xs xs.length = m0 at *
        go_wp2
        refine bodyPost_ret (v := .tuple #[.int .i64 (sk1 xs s), .int .i64 (sk2 xs s), .int .i64 (sk3 xs s)]) ?_ rfl ⟨rfl, hb⟩
        rw [e1.out, e2.out, e3.out]
        simp [results, Try.results72, go_sem]
set_option maxHeartbeats 2000000 in
theorem specSketch_c (v : Value) (xs : List Int) (s : Int) (w : World) (h : Rd RI w v xs) :
    Calls Try.prog 158 #[v, .int .i64 s] w fun e w' => e = .returned (.tuple #[.int .i64 (sk1 xs s), .int .i64 (sk2 xs s), .int .i64 (sk3 xs s)]) ∧ Below w.heap.size w w' := by
  have hfe := specSkOk_c v xs w h
  obtain ⟨A, n, c, rfl, h⟩ := h
  obtain rfl := h.1
  have hnc := h.2.1
  have hcm := h.2.2.1
  unfold maxLen at hcm
  have H := Lib.hid h
  clear h
  cases hok : skOk xs with
  | false =>
    have e1 : Hid (sk1 xs s = 0) := Lib.hid (by unfold sk1; rw [hok]; rfl)
    have e2 : Hid (sk2 xs s = 0) := Lib.hid (by unfold sk2; rw [hok]; rfl)
    have e3 : Hid (sk3 xs s = 0) := Lib.hid (by unfold sk3; rw [hok]; rfl)
    rw [hok] at hfe
    have HF := Lib.hid hfe
    clear hok hfe
    go_enter Try.func158, Try.ntmps158
    go_wp2_with (go_at_call 130; refine HF.out.mono ?_; rintro e w' ⟨rfl, rfl⟩)
    refine bodyPost_ret (v := .tuple #[.int .i64 (sk1 xs s), .int .i64 (sk2 xs s), .int .i64 (sk3 xs s)]) ?_ rfl ⟨rfl, Below.refl _ _⟩
    rw [e1.out, e2.out, e3.out]
    simp [results, Try.results158, go_sem]
  | true =>
    have e1 : Hid (sk1 xs s = skA s xs xs.length % 1019) := Lib.hid (by unfold sk1; rw [hok]; rfl)
    have e2 : Hid (sk2 xs s = skB s xs xs.length % 1019) := Lib.hid (by unfold sk2; rw [hok]; rfl)
    have e3 : Hid (sk3 xs s = skM xs xs.length % 1019) := Lib.hid (by unfold sk3; rw [hok]; rfl)
    have h64 := skOk_len hok
    rw [hok] at hfe
    have HF := Lib.hid hfe
    have OK := Lib.hid hok
    clear hok hfe
    go_enter Try.func158, Try.ntmps158
    go_wp2_with (go_at_call 130; refine HF.out.mono ?_; rintro e w' ⟨rfl, rfl⟩)
    go_loopw [7, 8, 9, 10] (fun a b m i wr => ∃ k : Nat, k ≤ xs.length ∧ i = .int .i64 k ∧ a = .int .i64 (skA s xs k % 1019) ∧ b = .int .i64 (skB s xs k % 1019) ∧ m = .int .i64 (skM xs k % 1019) ∧ Below w.heap.size w wr) (fun _ _ _ i _ => xs.length - (intOf i).toNat)
    case atStart => exact ⟨0, Nat.zero_le _, rfl, rfl, rfl, rfl, Below.refl _ _⟩
    case round =>
      obtain ⟨k, hk, rfl, rfl, rfl, rfl, hb⟩ := hrel
      by_cases hlt : k < xs.length
      · obtain ⟨b, off, x, u, rfl, hbb, hx, hu, hr⟩ := H.out.at_ hlt
        unfold RI at hr
        subst hr
        have hxb := skOk_get OK.out hx
        have hr := chal_range s k
        have p1 := ra_bd _ _ hr hxb
        have p3 := mul_bd (chal s k) (chal s k) 1018 1018 (by omega) hr.2 (by omega) hr.2
        have p4 : 0 ≤ chal s k * chal s k % 1019 ∧ chal s k * chal s k % 1019 < 1019 := by omega
        have p5 := mul_bd (chal s k * chal s k % 1019) x 1018 1018 p4.1 (by omega) hxb.1 hxb.2
        have E1 : Hid (skA s xs (k + 1) % 1019 = (skA s xs k % 1019 + chal s (k : Int) * x) % 1019) := Lib.hid (by simp only [skA, getD_of hx]; omega)
        have E2 : Hid (skB s xs (k + 1) % 1019 = (skB s xs k % 1019 + chal s (k : Int) * chal s (k : Int) % 1019 * x) % 1019) := Lib.hid (by simp only [skB, getD_of hx]; rw [modB])
        have E3 : Hid (skM xs (k + 1) % 1019 = (skM xs k % 1019 + x) % 1019) := Lib.hid (by simp only [skM, getD_of hx]; omega)
        have q1 : 0 ≤ skA s xs k % 1019 ∧ skA s xs k % 1019 < 1019 := by omega
        have q2 : 0 ≤ skB s xs k % 1019 ∧ skB s xs k % 1019 < 1019 := by omega
        have q3 : 0 ≤ skM xs k % 1019 ∧ skM xs k % 1019 < 1019 := by omega
        generalize skA s xs k % 1019 = a0 at *
        generalize skB s xs k % 1019 = b0 at *
        generalize skM xs k % 1019 = m0 at *
        clear hx
        go_wp2_with fail
        refine (specChallenge_c s k _).mono ?_
        rintro e w1 ⟨rfl, b1⟩
        have hb1 := hb.trans (b1.mono hb.size)
        have g1 := (hb1.cell (p := ⟨b, off + k, none⟩) hbb).trans hu
        generalize chal s (k : Int) = r at *
        clear b1 hb hu
        go_wp2
        go_roundw
        case rel => exact ⟨k + 1, by omega, by go_num, by rw [E1.out], by rw [E2.out], by rw [E3.out], hb1⟩
        case measure => simp [intOf]; omega
      · have hkn : k = xs.length := by omega
        subst hkn
        go_wp2
        refine bodyPost_ret (v := .tuple #[.int .i64 (sk1 xs s), .int .i64 (sk2 xs s), .int .i64 (sk3 xs s)]) ?_ rfl ⟨rfl, hb⟩
        rw [e1.out, e2.out, e3.out]
        simp [results, Try.results158, go_sem]
def accAt (v : List Int) (f : Int) (i : Nat) : Bool := acc (sk1 v (wrap64 (f + (i : Int)))) (sk2 v (wrap64 (f + (i : Int)))) (sk3 v (wrap64 (f + (i : Int))))
def cntA (v : List Int) (f : Int) (n : Nat) : Int := (((List.range n).filter (accAt v f)).length : Nat)
def clampN (c m : Int) : Nat := (min c m).toNat
theorem cntA_bd (v : List Int) (f : Int) (n : Nat) : 0 ≤ cntA v f n ∧ cntA v f n ≤ n := by
  unfold cntA
  have := List.length_filter_le (accAt v f) (List.range n)
  rw [List.length_range] at this
  omega
theorem cntA_succ (v : List Int) (f : Int) (n : Nat) : cntA v f (n + 1) = cntA v f n + if accAt v f n then 1 else 0 := by
  unfold cntA
  rw [List.range_succ, List.filter_append]
  cases h : accAt v f n <;> simp [h]
set_option maxHeartbeats 2000000 in
theorem implCount_c (v : Value) (xs : List Int) (f c : Int) (w : World) (h : Rd RI w v xs) :
    Calls Try.prog 75 #[v, .int .i64 f, .int .i64 c] w fun e w' => e = .returned (.int .i64 (cntA xs f (clampN c 200))) ∧ Below w.heap.size w w' := by
  obtain ⟨A, n, cap, rfl, h'⟩ := h
  have h : Rd RI w (.slice A n cap) xs := ⟨_, _, _, rfl, h'⟩
  clear h'
  obtain ⟨N, hN⟩ : ∃ N, clampN c 200 = N := ⟨_, rfl⟩
  rw [hN]
  unfold clampN at hN
  have hN2 : N ≤ 200 ∧ ((N : Int) ≤ c ∨ N = 0) ∧ (c ≤ N ∨ N = 200) := by omega
  have HN := Lib.hid hN2
  have hN3 := hN2.1
  clear hN hN2
  by_cases c1 : 200 < c
  · have hN4 : 200 ≤ N := by have := HN.out; omega
    clear HN
    have c2 : ¬ c < 200 := by omega
    have c3 : ¬ c ≤ 200 := by omega
    go_enter Try.func75, Try.ntmps75
    go_wp2
    go_loopw [7, 12] (fun cnt i wr => ∃ k : Nat, k ≤ N ∧ i = .int .i64 k ∧ cnt = .int .i64 (cntA xs f k) ∧ Below w.heap.size w wr) (fun _ i _ => N - (intOf i).toNat)
    case atStart => exact ⟨0, Nat.zero_le _, rfl, rfl, Below.refl _ _⟩
    case round =>
      obtain ⟨k, hk, rfl, rfl, hb⟩ := hrel
      have bd := cntA_bd xs f k
      by_cases hlt : k < N
      · have hl2 : (k : Int) < 200 := by omega
        have hr := Rd_reads RI_reads _ _ _ _ h hb
        have HS := Lib.hid (cntA_succ xs f k)
        cases hac : accAt xs f k with
        | false =>
          rw [hac] at HS
          have HA := Lib.hid hac
          unfold accAt at HA
          clear hac
          go_wp2_with fail
          refine (implSketch_c _ xs (wrap64 (f + (k : Int))) _ hr).mono ?_
          rintro e w1 ⟨rfl, b1⟩
          have hb1 := hb.trans (b1.mono hb.size)
          clear b1 hr
          go_wp2_with fail
          refine (implAcceptsSketch_c _ _ _ _).mono ?_
          rintro e w2 ⟨rfl, rfl⟩
          rw [HA.out]
          go_wp2
          go_roundw
          case rel => exact ⟨k + 1, by omega, by go_num, by rw [HS.out]; simp, hb1⟩
          case measure => simp [intOf]; omega
        | true =>
          rw [hac] at HS
          have HA := Lib.hid hac
          unfold accAt at HA
          clear hac
          go_wp2_with fail
          refine (implSketch_c _ xs (wrap64 (f + (k : Int))) _ hr).mono ?_
          rintro e w1 ⟨rfl, b1⟩
          have hb1 := hb.trans (b1.mono hb.size)
          clear b1 hr
          go_wp2_with fail
          refine (implAcceptsSketch_c _ _ _ _).mono ?_
          rintro e w2 ⟨rfl, rfl⟩
          rw [HA.out]
          go_wp2
          go_roundw
          case rel => exact ⟨k + 1, by omega, by go_num, by rw [HS.out]; simp, hb1⟩
          case measure => simp [intOf]; omega
      · have hkn : k = N := by omega
        subst hkn
        have hl2 : ¬ (k : Int) < 200 := by omega
        clear hN3 hN4
        go_wp2
        go_ret
        exact ⟨rfl, hb⟩
  · by_cases c4 : 0 < c
    · obtain rfl : c = (N : Int) := by have := HN.out; omega
      clear HN
      have c5 : ¬ (N : Int) < 0 := by omega
      have c6 : 0 < N := by omega
      have c7 : ¬ 200 < N := by omega
      have c8 : N ≤ 200 := by omega
      go_enter Try.func75, Try.ntmps75
      go_wp2
      go_loopw [7, 12] (fun cnt i wr => ∃ k : Nat, k ≤ N ∧ i = .int .i64 k ∧ cnt = .int .i64 (cntA xs f k) ∧ Below w.heap.size w wr) (fun _ i _ => N - (intOf i).toNat)
      case atStart => exact ⟨0, Nat.zero_le _, rfl, rfl, Below.refl _ _⟩
      case round =>
        obtain ⟨k, hk, rfl, rfl, hb⟩ := hrel
        have bd := cntA_bd xs f k
        by_cases hlt : k < N
        · skip
          have hr := Rd_reads RI_reads _ _ _ _ h hb
          have HS := Lib.hid (cntA_succ xs f k)
          cases hac : accAt xs f k with
          | false =>
            rw [hac] at HS
            have HA := Lib.hid hac
            unfold accAt at HA
            clear hac
            go_wp2_with fail
            refine (implSketch_c _ xs (wrap64 (f + (k : Int))) _ hr).mono ?_
            rintro e w1 ⟨rfl, b1⟩
            have hb1 := hb.trans (b1.mono hb.size)
            clear b1 hr
            go_wp2_with fail
            refine (implAcceptsSketch_c _ _ _ _).mono ?_
            rintro e w2 ⟨rfl, rfl⟩
            rw [HA.out]
            go_wp2
            go_roundw
            case rel => exact ⟨k + 1, by omega, by go_num, by rw [HS.out]; simp, hb1⟩
            case measure => simp [intOf]; omega
          | true =>
            rw [hac] at HS
            have HA := Lib.hid hac
            unfold accAt at HA
            clear hac
            go_wp2_with fail
            refine (implSketch_c _ xs (wrap64 (f + (k : Int))) _ hr).mono ?_
            rintro e w1 ⟨rfl, b1⟩
            have hb1 := hb.trans (b1.mono hb.size)
            clear b1 hr
            go_wp2_with fail
            refine (implAcceptsSketch_c _ _ _ _).mono ?_
            rintro e w2 ⟨rfl, rfl⟩
            rw [HA.out]
            go_wp2
            go_roundw
            case rel => exact ⟨k + 1, by omega, by go_num, by rw [HS.out]; simp, hb1⟩
            case measure => simp [intOf]; omega
        · have hkn : k = N := by omega
          subst hkn
          go_wp2
          go_ret
          exact ⟨rfl, hb⟩
    · obtain rfl : N = 0 := by have := HN.out; omega
      clear HN hN3
      have c5 : c ≤ 0 := by omega
      have c6 : c < 200 := by omega
      go_enter Try.func75, Try.ntmps75
      go_wp2
      refine wp_loop_rounds 1 ?_
      rw [rounds_succ]
      go_wp2
      go_ret
      exact ⟨rfl, Below.refl _ _⟩
def jsF (f : List Int → Int) (a : Int) (x : List Int) : Int := (a + f x) % 1019
def js (f : List Int → Int) (l : List (List Int)) : Int := l.foldl (jsF f) 0
theorem js_snoc (f : List Int → Int) (l : List (List Int)) (x : List Int) : js f (l ++ [x]) = (js f l + f x) % 1019 := by simp [js, jsF]
theorem js_range (f : List Int → Int) (l : List (List Int)) : 0 ≤ js f l ∧ js f l < 1019 := by
  rcases List.eq_nil_or_concat l with rfl | ⟨l', x, rfl⟩
  · simp [js]
  · rw [List.concat_eq_append, js_snoc]; omega
def s1 (s : Int) (x : List Int) : Int := sk1 x s
def s2 (s : Int) (x : List Int) : Int := sk2 x s
def s3 (s : Int) (x : List Int) : Int := sk3 x s
set_option maxHeartbeats 2000000 in
theorem specJoinSk_c (v : Value) (l : List (List Int)) (s : Int) (w : World) (h : Rd (Rd RI) w v l) :
    Calls Try.prog 131 #[v, .int .i64 s] w fun e w' => e = .returned (.tuple #[.int .i64 (js (s1 s) l), .int .i64 (js (s2 s) l), .int .i64 (js (s3 s) l)]) ∧ Below w.heap.size w w' := by
  obtain ⟨A, n, c, rfl, h⟩ := h
  obtain rfl := h.1
  have hnc := h.2.1
  have hcm := h.2.2.1
  unfold maxLen at hcm
  have H := Lib.hid h
  clear h
  go_enter Try.func131, Try.ntmps131
  go_wp2
  go_loopw [7, 8, 9, 10] (fun a b m i wr => ∃ k : Nat, k ≤ l.length ∧ i = .int .i64 k ∧ a = .int .i64 (js (s1 s) (l.take k)) ∧ b = .int .i64 (js (s2 s) (l.take k)) ∧ m = .int .i64 (js (s3 s) (l.take k)) ∧ Below w.heap.size w wr) (fun _ _ _ i _ => l.length - (intOf i).toNat)
  case atStart => exact ⟨0, Nat.zero_le _, rfl, rfl, rfl, rfl, Below.refl _ _⟩
  case round =>
    obtain ⟨k, hk, rfl, rfl, rfl, rfl, hb⟩ := hrel
    have q1 := js_range (s1 s) (l.take k)
    have q2 := js_range (s2 s) (l.take k)
    have q3 := js_range (s3 s) (l.take k)
    by_cases hlt : k < l.length
    · obtain ⟨b, off, x, u, rfl, hbb, hx, hu, hr⟩ := H.out.at_ hlt
      have g1 := (hb.cell (p := ⟨b, off + k, none⟩) hbb).trans hu
      have hr1 := Rd_reads RI_reads _ _ _ _ hr hb
      have E1 : Hid (js (s1 s) (l.take (k + 1)) = (js (s1 s) (l.take k) + sk1 x s) % 1019) := Lib.hid (by rw [take_succ_get l k x hx, js_snoc]; rfl)
      have E2 : Hid (js (s2 s) (l.take (k + 1)) = (js (s2 s) (l.take k) + sk2 x s) % 1019) := Lib.hid (by rw [take_succ_get l k x hx, js_snoc]; rfl)
      have E3 : Hid (js (s3 s) (l.take (k + 1)) = (js (s3 s) (l.take k) + sk3 x s) % 1019) := Lib.hid (by rw [take_succ_get l k x hx, js_snoc]; rfl)
      have r1 := sk1_range x s
      have r2 := sk2_range x s
      have r3 := sk3_range x s
      clear hx hu hr
      go_wp2_with fail
      refine (specSketch_c _ x s _ hr1).mono ?_
      rintro e w1 ⟨rfl, b1⟩
      have hb1 := hb.trans (b1.mono hb.size)
      generalize sk1 x s = t1 at *
      generalize sk2 x s = t2 at *
      generalize sk3 x s = t3 at *
      generalize js (s1 s) (l.take k) = a0 at *
      generalize js (s2 s) (l.take k) = b0 at *
      generalize js (s3 s) (l.take k) = m0 at *
      clear b1 hb g1 hr1
      go_wp2
      go_roundw
      case rel => exact ⟨k + 1, by omega, by go_num, by rw [E1.out], by rw [E2.out], by rw [E3.out], hb1⟩
      case measure => simp [intOf]; omega
    · have hkn : k = l.length := by omega
      subst hkn
      rw [List.take_of_length_le (Nat.le_refl _)]
      go_wp2
      refine bodyPost_ret (v := .tuple #[.int .i64 (js (s1 s) l), .int .i64 (js (s2 s) l), .int .i64 (js (s3 s) l)]) (by simp [results, Try.results131, go_sem]) rfl ⟨rfl, hb⟩
set_option maxHeartbeats 2000000 in
theorem implJoinSk_c (v : Value) (l : List (List Int)) (s : Int) (w : World) (h : Rd (Rd RI) w v l) :
    Calls Try.prog 71 #[v, .int .i64 s] w fun e w' => e = .returned (.tuple #[.int .i64 (js (s1 s) l), .int .i64 (js (s2 s) l), .int .i64 (js (s3 s) l)]) ∧ Below w.heap.size w w' := by
  obtain ⟨A, n, c, rfl, h⟩ := h
  obtain rfl := h.1
  have hnc := h.2.1
  have hcm := h.2.2.1
  unfold maxLen at hcm
  have H := Lib.hid h
  clear h
  go_enter Try.func71, Try.ntmps71
  go_wp2
  go_loopw [7, 8, 9, 17] (fun a b m i wr => ∃ k : Nat, k ≤ l.length ∧ i = .int .i64 k ∧ a = .int .i64 (js (s1 s) (l.take k)) ∧ b = .int .i64 (js (s2 s) (l.take k)) ∧ m = .int .i64 (js (s3 s) (l.take k)) ∧ Below w.heap.size w wr) (fun _ _ _ i _ => l.length - (intOf i).toNat)
  case atStart => exact ⟨0, Nat.zero_le _, rfl, rfl, rfl, rfl, Below.refl _ _⟩
  case round =>
    obtain ⟨k, hk, rfl, rfl, rfl, rfl, hb⟩ := hrel
    have q1 := js_range (s1 s) (l.take k)
    have q2 := js_range (s2 s) (l.take k)
    have q3 := js_range (s3 s) (l.take k)
    by_cases hlt : k < l.length
    · obtain ⟨b, off, x, u, rfl, hbb, hx, hu, hr⟩ := H.out.at_ hlt
      have g1 := (hb.cell (p := ⟨b, off + k, none⟩) hbb).trans hu
      have hr1 := Rd_reads RI_reads _ _ _ _ hr hb
      have E1 : Hid (js (s1 s) (l.take (k + 1)) = (js (s1 s) (l.take k) + sk1 x s) % 1019) := Lib.hid (by rw [take_succ_get l k x hx, js_snoc]; rfl)
      have E2 : Hid (js (s2 s) (l.take (k + 1)) = (js (s2 s) (l.take k) + sk2 x s) % 1019) := Lib.hid (by rw [take_succ_get l k x hx, js_snoc]; rfl)
      have E3 : Hid (js (s3 s) (l.take (k + 1)) = (js (s3 s) (l.take k) + sk3 x s) % 1019) := Lib.hid (by rw [take_succ_get l k x hx, js_snoc]; rfl)
      have r1 := sk1_range x s
      have r2 := sk2_range x s
      have r3 := sk3_range x s
      clear hx hu hr
      go_wp2_with fail
      refine (implSketch_c _ x s _ hr1).mono ?_
      rintro e w1 ⟨rfl, b1⟩
      have hb1 := hb.trans (b1.mono hb.size)
      generalize sk1 x s = t1 at *
      generalize sk2 x s = t2 at *
      generalize sk3 x s = t3 at *
      generalize js (s1 s) (l.take k) = a0 at *
      generalize js (s2 s) (l.take k) = b0 at *
      generalize js (s3 s) (l.take k) = m0 at *
      clear b1 hb g1 hr1
      go_wp2
      go_roundw
      case rel => exact ⟨k + 1, by omega, by go_num, by rw [E1.out], by rw [E2.out], by rw [E3.out], hb1⟩
      case measure => simp [intOf]; omega
    · have hkn : k = l.length := by omega
      subst hkn
      rw [List.take_of_length_le (Nat.le_refl _)]
      go_wp2
      refine bodyPost_ret (v := .tuple #[.int .i64 (js (s1 s) l), .int .i64 (js (s2 s) l), .int .i64 (js (s3 s) l)]) (by simp [results, Try.results71, go_sem]) rfl ⟨rfl, hb⟩
end Go.Proofs.Ytceogegjghmonaa
