/- slices.IndexFunc, ContainsFunc over []int with closures that only read; tests of ranges over []int. -/
import Derived.Test.YtceogegjghmonaaInR
namespace Go.Proofs.Ytceogegjghmonaa
set_option linter.unusedVariables false
open Go.RowKit

theorem enters_fnI {P : Program} {f : FuncId} {fn : Func} {c : Code} (hf : P.funcs[f]? = some fn) (hname : (fn.name == "runtime.NumGoroutine") = false) (hb : fn.body = some c) : ∀ args w, (callFunc f args).run P w = .ok (.enter f args) w := by
  intro args w
  have h1 : fn.name ≠ "runtime.NumGoroutine" := by simpa using hname
  simp [callFunc, hf, h1, hb, mark]

def notIn (a b : Int) (x : Int) : Bool := !(decide (a ≤ x ∧ x ≤ b))
/-- All numbers lie between a and b. -/
def allIn (a b : Int) (xs : List Int) : Bool := !(xs.any (notIn a b))
theorem allIn_get {a b : Int} {xs : List Int} (h : allIn a b xs = true) {k : Nat} {x : Int} (hx : xs[k]? = some x) : a ≤ x ∧ x ≤ b := by
  unfold allIn at h
  have h1 : xs.any (notIn a b) = false := by simpa using h
  rw [List.any_eq_false] at h1
  have h2 := h1 x (List.mem_of_getElem? hx)
  unfold notIn at h2
  simpa using h2
theorem notIn_t {a b x : Int} (h : ¬ (a ≤ x ∧ x ≤ b)) : notIn a b x = true := by unfold notIn; rw [decide_eq_false h]; rfl
theorem notIn_f {a b x : Int} (h : a ≤ x ∧ x ≤ b) : notIn a b x = false := by unfold notIn; rw [decide_eq_true h]; rfl

set_option maxHeartbeats 400000 in
theorem IndexFuncI_c (p : Int → Bool) (g : Nat) (eg : ∀ args w, (callFunc g args).run Try.prog w = .ok (.enter g args) w) (hp : ∀ (W : World) (u : Value) (x : Int), RI W u x → Calls Try.prog g #[u] W fun e w' => e = .returned (.bool (p x)) ∧ W = w')
    (v : Value) (xs : List Int) (w : World) (h : Rd RI w v xs) :
    Calls Try.prog 162 #[v, .func (.func g) #[] #[]] w fun e w' => ∃ r : Int, e = .returned (.int .i64 r) ∧ decide (0 ≤ r) = xs.any p ∧ w = w' := by
  obtain ⟨A, n, c, rfl, h⟩ := h
  have hnc := h.2.1
  have hcm := h.2.2.1
  unfold maxLen at hcm
  have H := Lib.hid h
  have HP := Lib.hid hp
  clear h hp
  go_enter Try.func162, Try.ntmps162
  go_wp2
  go_loop [8] (fun i => ∃ k : Nat, k ≤ n ∧ i = .int .i64 k ∧ Hid ((xs.take k).any p = false)) (fun i => n - (intOf i).toNat)
  case atStart => exact ⟨0, Nat.zero_le _, rfl, Lib.hid (by simp)⟩
  case round =>
    obtain ⟨k, hk, rfl, hne⟩ := hrel
    by_cases hlt : k < n
    · obtain ⟨b, off, y, u, rfl, hbb, hx, g1, hr⟩ := H.out.at_ hlt
      have hc := HP.out _ _ _ hr
      clear hr
      have HX := Lib.hid hx
      clear hx
      cases hq : p y with
      | true =>
        rw [hq] at hc
        have hm : xs.any p = true := List.any_eq_true.2 ⟨y, List.mem_of_getElem? HX.out, hq⟩
        have HM := Lib.hid hm
        clear hm hq
        go_wp2_with (refine hc.mono ?_; rintro e w' ⟨rfl, rfl⟩)
        go_ret
        exact ⟨_, rfl, by rw [HM.out]; simp, rfl⟩
      | false =>
        rw [hq] at hc
        have hm : (xs.take (k + 1)).any p = false := by rw [take_succ_get xs k y HX.out, List.any_append, hne.out]; simp [hq]
        have HM := Lib.hid hm
        clear hm hq
        go_wp2_with (refine hc.mono ?_; rintro e w' ⟨rfl, rfl⟩)
        go_round
        case rel => exact ⟨k + 1, by omega, by go_num, HM⟩
        case measure => simp [intOf]; omega
    · have hkn : k = n := by omega
      subst hkn
      go_wp2
      go_ret
      refine ⟨_, rfl, ?_, rfl⟩
      have := hne.out
      rw [List.take_of_length_le (Nat.le_of_eq H.out.1)] at this
      rw [this]; simp
set_option maxHeartbeats 400000 in
theorem ContainsFuncI_c (p : Int → Bool) (g : Nat) (eg : ∀ args w, (callFunc g args).run Try.prog w = .ok (.enter g args) w) (hp : ∀ (W : World) (u : Value) (x : Int), RI W u x → Calls Try.prog g #[u] W fun e w' => e = .returned (.bool (p x)) ∧ W = w')
    (v : Value) (xs : List Int) (w : World) (h : Rd RI w v xs) :
    Calls Try.prog 143 #[v, .func (.func g) #[] #[]] w fun e w' => e = .returned (.bool (xs.any p)) ∧ w = w' := by
  have h' := h
  obtain ⟨A, n, c, rfl, _⟩ := h
  have hc := IndexFuncI_c p g eg hp _ _ _ h'
  clear h'
  go_enter Try.func143, Try.ntmps143
  go_wp2_with (refine hc.mono ?_; rintro e w1 ⟨r, rfl, hr, rfl⟩)
  go_ret
  exact ⟨by rw [← hr]; rfl, rfl⟩
theorem fe1_c (W : World) (u : Value) (x : Int) (h : RI W u x) : Calls Try.prog 155 #[u] W fun e w' => e = .returned (.bool (notIn 0 1018 x)) ∧ W = w' := by
  unfold RI at h
  subst h
  by_cases hx : 0 ≤ x ∧ x ≤ 1018
  · rw [notIn_f hx]
    go_enter Try.func155, Try.ntmps155
    go_wp2_with (go_at_call 100; refine (implIn_t _ _ _ _ hx.1 hx.2).mono ?_; rintro e w' ⟨rfl, rfl⟩)
    go_ret
    exact ⟨rfl, rfl⟩
  · rw [notIn_t hx]
    have HX := Lib.hid hx
    clear hx
    go_enter Try.func155, Try.ntmps155
    go_wp2_with (go_at_call 100; refine (implIn_f _ _ _ _ HX.out).mono ?_; rintro e w' ⟨rfl, rfl⟩)
    go_ret
    exact ⟨rfl, rfl⟩
theorem implFE_c (v : Value) (xs : List Int) (w : World) (h : Rd RI w v xs) : Calls Try.prog 127 #[v] w fun e w' => e = .returned (.bool (allIn 0 1018 xs)) ∧ w = w' := by
  have hc := ContainsFuncI_c (notIn 0 1018) 155 (enters_fnI Try.func155 (by kernel_rfl) rfl) fe1_c v xs w h
  obtain ⟨A, n, c, rfl, _⟩ := h
  go_enter Try.func127, Try.ntmps127
  go_wp2_with (refine hc.mono ?_; rintro e w1 ⟨rfl, rfl⟩)
  go_ret
  exact ⟨rfl, rfl⟩
def skOk (xs : List Int) : Bool := decide (xs.length ≤ 64) && allIn 0 1018 xs
set_option maxHeartbeats 400000 in
theorem specSkOk_c (v : Value) (xs : List Int) (w : World) (h : Rd RI w v xs) : Calls Try.prog 130 #[v] w fun e w' => e = .returned (.bool (skOk xs)) ∧ w = w' := by
  obtain ⟨A, n, c, rfl, h⟩ := h
  have hnc := h.2.1
  have hcm := h.2.2.1
  unfold maxLen at hcm
  have H := Lib.hid h
  clear h
  go_enter Try.func130, Try.ntmps130
  go_wp2
  go_loop [3] (fun i => ∃ k : Nat, k ≤ n ∧ i = .int .i64 k ∧ Hid ((xs.take k).any (notIn 0 1018) = false)) (fun i => n - (intOf i).toNat)
  case atStart => exact ⟨0, Nat.zero_le _, rfl, Lib.hid (by simp)⟩
  case round =>
    obtain ⟨k, hk, rfl, hne⟩ := hrel
    by_cases hlt : k < n
    · obtain ⟨b, off, y, u, rfl, hbb, hx, g1, hr⟩ := H.out.at_ hlt
      unfold RI at hr
      subst hr
      have HX := Lib.hid hx
      clear hx
      by_cases hy : 0 ≤ y ∧ y ≤ 1018
      · have hm : (xs.take (k + 1)).any (notIn 0 1018) = false := by rw [take_succ_get xs k y HX.out, List.any_append, hne.out]; simp [notIn_f hy]
        have HM := Lib.hid hm
        clear hm
        go_wp2_with (go_at_call 92; refine (specIn_t _ _ _ _ hy.1 hy.2).mono ?_; rintro e w' ⟨rfl, rfl⟩)
        go_round
        case rel => exact ⟨k + 1, by omega, by go_num, HM⟩
        case measure => simp [intOf]; omega
      · have hm : skOk xs = false := by
          unfold skOk allIn
          rw [List.any_eq_true.2 ⟨y, List.mem_of_getElem? HX.out, notIn_t hy⟩]; simp
        have HM := Lib.hid hm
        have HY := Lib.hid hy
        clear hm hy
        go_wp2_with (go_at_call 92; refine (specIn_f _ _ _ _ HY.out).mono ?_; rintro e w' ⟨rfl, rfl⟩)
        go_ret
        exact ⟨by rw [HM.out]; rfl, rfl⟩
    · have hkn : k = n := by omega
      subst hkn
      have hl := H.out.1
      have := hne.out
      rw [List.take_of_length_le (Nat.le_of_eq hl)] at this
      have e : skOk xs = decide (k ≤ 64) := by unfold skOk allIn; rw [this, hl]; simp
      have HE := Lib.hid e
      clear e this hl
      by_cases h64 : k ≤ 64
      · have e2 := Lib.hid (decide_eq_true h64)
        have h64' : (k : Int) ≤ 64 := by omega
        clear h64
        go_wp2
        go_ret
        exact ⟨by rw [HE.out, e2.out]; rfl, rfl⟩
      · have e2 := Lib.hid (decide_eq_false h64)
        have h64' : ¬ (k : Int) ≤ 64 := by omega
        clear h64
        go_wp2
        go_ret
        exact ⟨by rw [HE.out, e2.out]; rfl, rfl⟩
end Go.Proofs.Ytceogegjghmonaa
