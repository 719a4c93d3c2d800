/- slices.IndexFunc, ContainsFunc with closures that only read; IsZeroBytes, IsValidDatabase, CountRowsWritten of both sides. -/
import Derived.Test.YtokhogdocaeelaaDb
namespace Go.Proofs.Ytokhogdocaeelaa
set_option linter.unusedVariables false
open Go.RowKit

theorem enters_fn {P : Program} {f : FuncId} {fn : Func} {c : Code} (hf : P.funcs[f]? = some fn) (hname : (fn.name == "runtime.NumGoroutine") = false) (hb : fn.body = some c) : ∀ args w, (callFunc f args).run P w = .ok (.enter f args) w := by
  intro args w
  have h1 : fn.name ≠ "runtime.NumGoroutine" := by simpa using hname
  simp [callFunc, hf, h1, hb, mark]

set_option maxHeartbeats 400000 in
theorem IndexFuncBB_c (p : (List UInt8) → Bool) (g : Nat) (eg : ∀ args w, (callFunc g args).run Try.prog w = .ok (.enter g args) w) (hp : ∀ (W : World) (u : Value) (x : (List UInt8)), (Rd RB) W u x → Calls Try.prog g #[u] W fun e w' => e = .returned (.bool (p x)) ∧ W = w')
    (v : Value) (xs : List (List UInt8)) (w : World) (h : Rd (Rd RB) w v xs) :
    Calls Try.prog 134 #[v, .func (.func g) #[] #[]] w fun e w' => ∃ r : Int, e = .returned (.int .i64 r) ∧ decide (0 ≤ r) = xs.any p ∧ w = w' := by
  obtain ⟨A, n, c, rfl, h⟩ := h
  have hnc := h.2.1
  have hcm := h.2.2.1
  unfold maxLen at hcm
  have H := Lib.hid h
  have HP := Lib.hid hp
  clear h hp
  go_enter Try.func134, Try.ntmps134
  go_wp2
  go_loop [8] (fun i => ∃ k : Nat, k ≤ n ∧ i = .int .i64 k ∧ Hid ((xs.take k).any p = false)) (fun i => n - (intOf i).toNat)
  case atStart => exact ⟨0, Nat.zero_le _, rfl, Lib.hid (by simp)⟩
  case round =>
    obtain ⟨k, hk, rfl, hne⟩ := hrel
    by_cases hlt : k < n
    · obtain ⟨b, off, y, u, rfl, hbb, hx, g1, hr⟩ := H.out.at_ hlt
      have hc := HP.out _ _ _ hr
      clear hr
      have HX := Lib.hid hx
      clear hx
      cases hq : p y with
      | true =>
        rw [hq] at hc
        have hm : xs.any p = true := List.any_eq_true.2 ⟨y, List.mem_of_getElem? HX.out, hq⟩
        have HM := Lib.hid hm
        clear hm hq
        go_wp2_with (refine hc.mono ?_; rintro e w' ⟨rfl, rfl⟩)
        go_ret
        exact ⟨_, rfl, by rw [HM.out]; simp, rfl⟩
      | false =>
        rw [hq] at hc
        have hm : (xs.take (k + 1)).any p = false := by rw [take_succ_get xs k y HX.out, List.any_append, hne.out]; simp [hq]
        have HM := Lib.hid hm
        clear hm hq
        go_wp2_with (refine hc.mono ?_; rintro e w' ⟨rfl, rfl⟩)
        go_round
        case rel => exact ⟨k + 1, by omega, by go_num, HM⟩
        case measure => simp [intOf]; omega
    · have hkn : k = n := by omega
      subst hkn
      go_wp2
      go_ret
      refine ⟨_, rfl, ?_, rfl⟩
      have := hne.out
      rw [List.take_of_length_le (Nat.le_of_eq H.out.1)] at this
      rw [this]; simp
set_option maxHeartbeats 400000 in
theorem ContainsFuncBB_c (p : (List UInt8) → Bool) (g : Nat) (eg : ∀ args w, (callFunc g args).run Try.prog w = .ok (.enter g args) w) (hp : ∀ (W : World) (u : Value) (x : (List UInt8)), (Rd RB) W u x → Calls Try.prog g #[u] W fun e w' => e = .returned (.bool (p x)) ∧ W = w')
    (v : Value) (xs : List (List UInt8)) (w : World) (h : Rd (Rd RB) w v xs) :
    Calls Try.prog 129 #[v, .func (.func g) #[] #[]] w fun e w' => e = .returned (.bool (xs.any p)) ∧ w = w' := by
  have h' := h
  obtain ⟨A, n, c, rfl, _⟩ := h
  have hc := IndexFuncBB_c p g eg hp _ _ _ h'
  clear h'
  go_enter Try.func129, Try.ntmps129
  go_wp2_with (refine hc.mono ?_; rintro e w1 ⟨r, rfl, hr, rfl⟩)
  go_ret
  exact ⟨by rw [← hr]; rfl, rfl⟩
set_option maxHeartbeats 400000 in
theorem IndexFuncB_c (p : UInt8 → Bool) (g : Nat) (eg : ∀ args w, (callFunc g args).run Try.prog w = .ok (.enter g args) w) (hp : ∀ (W : World) (u : Value) (x : UInt8), RB W u x → Calls Try.prog g #[u] W fun e w' => e = .returned (.bool (p x)) ∧ W = w')
    (v : Value) (xs : List UInt8) (w : World) (h : Rd RB w v xs) :
    Calls Try.prog 131 #[v, .func (.func g) #[] #[]] w fun e w' => ∃ r : Int, e = .returned (.int .i64 r) ∧ decide (0 ≤ r) = xs.any p ∧ w = w' := by
  obtain ⟨A, n, c, rfl, h⟩ := h
  have hnc := h.2.1
  have hcm := h.2.2.1
  unfold maxLen at hcm
  have H := Lib.hid h
  have HP := Lib.hid hp
  clear h hp
  go_enter Try.func131, Try.ntmps131
  go_wp2
  go_loop [8] (fun i => ∃ k : Nat, k ≤ n ∧ i = .int .i64 k ∧ Hid ((xs.take k).any p = false)) (fun i => n - (intOf i).toNat)
  case atStart => exact ⟨0, Nat.zero_le _, rfl, Lib.hid (by simp)⟩
  case round =>
    obtain ⟨k, hk, rfl, hne⟩ := hrel
    by_cases hlt : k < n
    · obtain ⟨b, off, y, u, rfl, hbb, hx, g1, hr⟩ := H.out.at_ hlt
      have hc := HP.out _ _ _ hr
      clear hr
      have HX := Lib.hid hx
      clear hx
      cases hq : p y with
      | true =>
        rw [hq] at hc
        have hm : xs.any p = true := List.any_eq_true.2 ⟨y, List.mem_of_getElem? HX.out, hq⟩
        have HM := Lib.hid hm
        clear hm hq
        go_wp2_with (refine hc.mono ?_; rintro e w' ⟨rfl, rfl⟩)
        go_ret
        exact ⟨_, rfl, by rw [HM.out]; simp, rfl⟩
      | false =>
        rw [hq] at hc
        have hm : (xs.take (k + 1)).any p = false := by rw [take_succ_get xs k y HX.out, List.any_append, hne.out]; simp [hq]
        have HM := Lib.hid hm
        clear hm hq
        go_wp2_with (refine hc.mono ?_; rintro e w' ⟨rfl, rfl⟩)
        go_round
        case rel => exact ⟨k + 1, by omega, by go_num, HM⟩
        case measure => simp [intOf]; omega
    · have hkn : k = n := by omega
      subst hkn
      go_wp2
      go_ret
      refine ⟨_, rfl, ?_, rfl⟩
      have := hne.out
      rw [List.take_of_length_le (Nat.le_of_eq H.out.1)] at this
      rw [this]; simp
set_option maxHeartbeats 400000 in
theorem ContainsFuncB_c (p : UInt8 → Bool) (g : Nat) (eg : ∀ args w, (callFunc g args).run Try.prog w = .ok (.enter g args) w) (hp : ∀ (W : World) (u : Value) (x : UInt8), RB W u x → Calls Try.prog g #[u] W fun e w' => e = .returned (.bool (p x)) ∧ W = w')
    (v : Value) (xs : List UInt8) (w : World) (h : Rd RB w v xs) :
    Calls Try.prog 113 #[v, .func (.func g) #[] #[]] w fun e w' => e = .returned (.bool (xs.any p)) ∧ w = w' := by
  have h' := h
  obtain ⟨A, n, c, rfl, _⟩ := h
  have hc := IndexFuncB_c p g eg hp _ _ _ h'
  clear h'
  go_enter Try.func113, Try.ntmps113
  go_wp2_with (refine hc.mono ?_; rintro e w1 ⟨r, rfl, hr, rfl⟩)
  go_ret
  exact ⟨by rw [← hr]; rfl, rfl⟩
theorem zb1_c (W : World) (u : Value) (x : UInt8) (h : RB W u x) : Calls Try.prog 114 #[u] W fun e w' => e = .returned (.bool (x != 0)) ∧ W = w' := by
  unfold RB at h
  subst h
  have hn : ((x.toNat : Int) != 0) = (x != 0) := by
    by_cases hx : x = 0
    · subst hx; rfl
    · have hx2 : ¬ (x.toNat : Int) = 0 := fun e => hx (by apply UInt8.toNat_inj.1; simpa using e)
      exact (bne_iff_ne.2 hx2).trans (bne_iff_ne.2 hx).symm
  have HN := Lib.hid hn
  clear hn
  go_enter Try.func114, Try.ntmps114
  go_wp2
  go_ret
  exact ⟨congrArg (fun b => Ending.returned (.bool b)) HN.out, rfl⟩
def isZero (xs : List UInt8) : Bool := !(xs.any fun x => x != 0)
theorem implIsZeroBytes_c (v : Value) (xs : List UInt8) (w : World) (h : Rd RB w v xs) : Calls Try.prog 74 #[v] w fun e w' => e = .returned (.bool (isZero xs)) ∧ w = w' := by
  have hc := ContainsFuncB_c (fun x => x != 0) 114 (enters_fn Try.func114 (by kernel_rfl) rfl) zb1_c v xs w h
  obtain ⟨A, n, c, rfl, _⟩ := h
  go_enter Try.func74, Try.ntmps74
  go_wp2_with (refine hc.mono ?_; rintro e w1 ⟨rfl, rfl⟩)
  go_ret
  exact ⟨rfl, rfl⟩
def dbOk (d : List (List UInt8)) : Bool := decide (d.length ≤ 64) && !(d.any fun r => r.length != 24)
theorem vd1_c (W : World) (u : Value) (x : List UInt8) (h : Rd RB W u x) : Calls Try.prog 130 #[u] W fun e w' => e = .returned (.bool (x.length != 24)) ∧ W = w' := by
  obtain ⟨A, n, c, rfl, h⟩ := h
  obtain rfl := h.1
  have hnc := h.2.1
  have hcm := h.2.2.1
  unfold maxLen at hcm
  clear h
  have hn : ((x.length : Int) != 24) = (x.length != 24) := by
    by_cases hx : x.length = 24
    · simp [hx]
    · have hx2 : ¬ (x.length : Int) = 24 := by omega
      exact (bne_iff_ne.2 hx2).trans (bne_iff_ne.2 hx).symm
  have HN := Lib.hid hn
  clear hn
  go_enter Try.func130, Try.ntmps130
  go_wp2
  go_ret
  exact ⟨congrArg (fun b => Ending.returned (.bool b)) HN.out, rfl⟩
set_option maxHeartbeats 1000000 in
theorem implIsValidDatabase_c (v : Value) (xs : List (List UInt8)) (w : World) (h : Rd (Rd RB) w v xs) : Calls Try.prog 110 #[.agg #[v]] w fun e w' => e = .returned (.bool (dbOk xs)) ∧ Below w.heap.size w w' := by
  obtain ⟨A, n, c, rfl, h⟩ := h
  obtain rfl := h.1
  have hnc := h.2.1
  have hcm := h.2.2.1
  unfold maxLen at hcm
  have b0 := below_alloc w (.cells #[.slice A xs.length c] 31)
  have hc := ContainsFuncBB_c (fun x => x.length != 24) 130 (enters_fn Try.func130 (by kernel_rfl) rfl) vd1_c _ xs _ (Rd_reads (Rd_reads RB_reads) _ _ _ _ ⟨_, _, _, rfl, h⟩ b0)
  clear h
  unfold dbOk
  by_cases h64 : xs.length ≤ 64
  · have h64' : (xs.length : Int) ≤ 64 := by omega
    rw [decide_eq_true h64]
    clear h64
    go_enter Try.func110, Try.ntmps110
    go_wp2_with (go_at_call 129; refine hc.mono ?_; rintro e w1 ⟨rfl, rfl⟩)
    go_ret
    exact ⟨rfl, b0⟩
  · have h64' : ¬ (xs.length : Int) ≤ 64 := by omega
    rw [decide_eq_false h64]
    clear h64
    go_enter Try.func110, Try.ntmps110
    go_wp2
    go_ret
    exact ⟨rfl, b0⟩
set_option maxHeartbeats 1000000 in
theorem specIsValidDatabase_c (v : Value) (xs : List (List UInt8)) (w : World) (h : Rd (Rd RB) w v xs) : Calls Try.prog 75 #[.agg #[v]] w fun e w' => e = .returned (.bool (dbOk xs)) ∧ Below w.heap.size w w' := by
  obtain ⟨A, n, c, rfl, h⟩ := h
  have hnc := h.2.1
  have hcm := h.2.2.1
  unfold maxLen at hcm
  have b0 := below_alloc w (.cells #[.slice A n c] 31)
  have H := Lib.hid h
  clear h
  go_enter Try.func75, Try.ntmps75
  go_wp2
  go_loop [3] (fun i => ∃ k : Nat, k ≤ n ∧ i = .int .i64 k ∧ Hid ((xs.take k).any (fun x => x.length != 24) = false)) (fun i => n - (intOf i).toNat)
  case atStart => exact ⟨0, Nat.zero_le _, rfl, Lib.hid (by simp)⟩
  case round =>
    obtain ⟨k, hk, rfl, hne⟩ := hrel
    by_cases hlt : k < n
    · obtain ⟨b, off, y, u, rfl, hbb, hx, g1, hr⟩ := H.out.at_ hlt
      have g1' := (b0.cell (p := ⟨b, off + k, none⟩) hbb).trans g1
      obtain ⟨A1, n1, c1, rfl, h1⟩ := hr
      obtain rfl := h1.1
      have hnc1 := h1.2.1
      have hcm1 := h1.2.2.1
      unfold maxLen at hcm1
      have HX := Lib.hid hx
      clear hx h1
      by_cases hy : y.length = 24
      · have hm : (xs.take (k + 1)).any (fun x => x.length != 24) = false := by rw [take_succ_get xs k y HX.out, List.any_append, hne.out]; simp [hy]
        have HM := Lib.hid hm
        have hy2 : (y.length : Int) = 24 := by omega
        clear hm hy
        go_wp2
        go_round
        case rel => exact ⟨k + 1, by omega, by go_num, HM⟩
        case measure => simp [intOf]; omega
      · have hm : dbOk xs = false := by
          unfold dbOk
          rw [List.any_eq_true.2 ⟨y, List.mem_of_getElem? HX.out, by simp [hy]⟩]; simp
        have HM := Lib.hid hm
        have hy2 : ¬ (y.length : Int) = 24 := by omega
        clear hm hy
        go_wp2
        go_ret
        exact ⟨by rw [HM.out]; rfl, b0⟩
    · have hkn : k = n := by omega
      subst hkn
      have hl := H.out.1
      have := hne.out
      rw [List.take_of_length_le (Nat.le_of_eq hl)] at this
      have e : dbOk xs = decide (k ≤ 64) := by unfold dbOk; rw [this, hl]; simp
      have HE := Lib.hid e
      clear e this hl
      by_cases h64 : k ≤ 64
      · have e2 := Lib.hid (decide_eq_true h64)
        have h64' : (k : Int) ≤ 64 := by omega
        clear h64
        go_wp2
        go_ret
        exact ⟨by rw [HE.out, e2.out]; rfl, b0⟩
      · have e2 := Lib.hid (decide_eq_false h64)
        have h64' : ¬ (k : Int) ≤ 64 := by omega
        clear h64
        go_wp2
        go_ret
        exact ⟨by rw [HE.out, e2.out]; rfl, b0⟩
end Go.Proofs.Ytokhogdocaeelaa
