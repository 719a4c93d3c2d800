/- slices.IndexFunc, ContainsFunc with a closure that has captured a variable; JoinShares of both sides. -/
import Derived.Test.YtceogegjghmonaaComb
import Derived.Test.YtceogegjghmonaaBoxes
import Derived.Deep.QuietTactic
import Derived.BigQuiet
namespace Go.Proofs.Ytceogegjghmonaa
set_option linter.unusedVariables false
open Go.RowKit

set_option maxHeartbeats 400000 in
theorem IndexFuncBBp_c (p : (List UInt8) → Bool) (g : Nat) (eg : ∀ args w, (callFunc g args).run Try.prog w = .ok (.enter g args) w) (pv : Value)
    (v : Value) (xs : List (List UInt8)) (w : World) (h : Rd (Rd RB) w v xs) (hp : ∀ (u : Value) (x : List UInt8), Rd RB w u x → Calls Try.prog g #[u, pv] w fun e w' => e = .returned (.bool (p x)) ∧ w = w') :
    Calls Try.prog 145 #[v, .func (.func g) #[] #[pv]] w fun e w' => ∃ r : Int, e = .returned (.int .i64 r) ∧ decide (0 ≤ r) = xs.any p ∧ w = w' := by
  obtain ⟨A, n, c, rfl, h⟩ := h
  have hnc := h.2.1
  have hcm := h.2.2.1
  unfold maxLen at hcm
  have H := Lib.hid h
  have HP := Lib.hid hp
  clear h hp
  go_enter Try.func145, Try.ntmps145
  go_wp2
  go_loop [8] (fun i => ∃ k : Nat, k ≤ n ∧ i = .int .i64 k ∧ Hid ((xs.take k).any p = false)) (fun i => n - (intOf i).toNat)
  case atStart => exact ⟨0, Nat.zero_le _, rfl, Lib.hid (by simp)⟩
  case round =>
    obtain ⟨k, hk, rfl, hne⟩ := hrel
    by_cases hlt : k < n
    · obtain ⟨b, off, y, u, rfl, hbb, hx, g1, hr⟩ := H.out.at_ hlt
      have hc := HP.out _ _ hr
      clear hr
      have HX := Lib.hid hx
      clear hx
      cases hq : p y with
      | true =>
        rw [hq] at hc
        have hm : xs.any p = true := List.any_eq_true.2 ⟨y, List.mem_of_getElem? HX.out, hq⟩
        have HM := Lib.hid hm
        clear hm hq
        go_wp2_with (refine hc.mono ?_; rintro e w' ⟨rfl, rfl⟩)
        go_ret
        exact ⟨_, rfl, by rw [HM.out]; simp, rfl⟩
      | false =>
        rw [hq] at hc
        have hm : (xs.take (k + 1)).any p = false := by rw [take_succ_get xs k y HX.out, List.any_append, hne.out]; simp [hq]
        have HM := Lib.hid hm
        clear hm hq
        go_wp2_with (refine hc.mono ?_; rintro e w' ⟨rfl, rfl⟩)
        go_round
        case rel => exact ⟨k + 1, by omega, by go_num, HM⟩
        case measure => simp [intOf]; omega
    · have hkn : k = n := by omega
      subst hkn
      go_wp2
      go_ret
      refine ⟨_, rfl, ?_, rfl⟩
      have := hne.out
      rw [List.take_of_length_le (Nat.le_of_eq H.out.1)] at this
      rw [this]; simp
set_option maxHeartbeats 400000 in
theorem ContainsFuncBBp_c (p : (List UInt8) → Bool) (g : Nat) (eg : ∀ args w, (callFunc g args).run Try.prog w = .ok (.enter g args) w) (pv : Value)
    (v : Value) (xs : List (List UInt8)) (w : World) (h : Rd (Rd RB) w v xs) (hp : ∀ (u : Value) (x : List UInt8), Rd RB w u x → Calls Try.prog g #[u, pv] w fun e w' => e = .returned (.bool (p x)) ∧ w = w') :
    Calls Try.prog 89 #[v, .func (.func g) #[] #[pv]] w fun e w' => e = .returned (.bool (xs.any p)) ∧ w = w' := by
  have h' := h
  obtain ⟨A, n, c, rfl, _⟩ := h
  have hc := IndexFuncBBp_c p g eg pv _ _ _ h' hp
  clear h'
  go_enter Try.func89, Try.ntmps89
  go_wp2_with (refine hc.mono ?_; rintro e w1 ⟨r, rfl, hr, rfl⟩)
  go_ret
  exact ⟨by rw [← hr]; rfl, rfl⟩
def hdB (l : List (List UInt8)) : Nat := (l.headD []).length
theorem hdB_of {l : List (List UInt8)} {x : List UInt8} (h : l[0]? = some x) : hdB l = x.length := by
  cases l with
  | nil => simp at h
  | cons y l => simp at h; subst h; rfl
def neL (n : Nat) (x : List UInt8) : Bool := x.length != n
theorem neL_t {n : Nat} {x : List UInt8} (h : ¬ x.length = n) : neL n x = true := by unfold neL; exact bne_iff_ne.2 h
theorem neL_f {n : Nat} {x : List UInt8} (h : x.length = n) : neL n x = false := by unfold neL; rw [h]; simp
def jsOk (l : List (List UInt8)) : Bool := decide (2 ≤ l.length ∧ l.length ≤ 4) && !(l.any (neL (hdB l)))
def jsh (l : List (List UInt8)) : List UInt8 := if jsOk l then xorAll l else []
theorem jsh_len (l : List (List UInt8)) : (jsh l).length ≤ sumL l := by
  unfold jsh
  split
  · exact xorAll_len l
  · simp
theorem jsOk_cnt {l : List (List UInt8)} (h : ¬ (2 ≤ l.length ∧ l.length ≤ 4)) : jsOk l = false := by unfold jsOk; rw [decide_eq_false h]; rfl
theorem jsOk_of {l : List (List UInt8)} (h : 2 ≤ l.length ∧ l.length ≤ 4) : jsOk l = !(l.any (neL (hdB l))) := by unfold jsOk; rw [decide_eq_true h]; rfl
theorem jsh_no {l : List (List UInt8)} (h : jsOk l = false) : jsh l = [] := by unfold jsh; rw [h]; rfl
theorem jsh_yes {l : List (List UInt8)} (h : jsOk l = true) : jsh l = xorAll l := by unfold jsh; rw [h]; rfl
theorem jsOk_bad {l : List (List UInt8)} (h : l.any (neL (hdB l)) = true) : jsOk l = false := by unfold jsOk; rw [h]; simp
theorem js1_c (W : World) (u : Value) (x : List UInt8) (g : Nat) (b off n c : Nat) (Ay : Option Addr) (y : List UInt8) (cy : Nat) (h : Rd RB W u x) (hb : W.cell? ⟨g, 0, none⟩ = some (.slice (some ⟨b, off, none⟩) n c)) (h0 : W.cell? ⟨b, off, none⟩ = some (.slice Ay y.length cy)) (hn : 0 < n) (hn2 : n ≤ 9223372036854775807) (hy : y.length ≤ 9223372036854775807) :
    Calls Try.prog 96 #[u, .pointer (some ⟨g, 0, none⟩)] W fun e w' => e = .returned (.bool (neL y.length x)) ∧ W = w' := by
  obtain ⟨A, nx, cx, rfl, h⟩ := h
  obtain rfl := h.1
  have hcm := Nat.le_trans h.2.1 h.2.2.1
  unfold maxLen at hcm
  clear h
  by_cases hx : x.length = y.length
  · rw [neL_f hx]
    have hn : ((x.length : Int) != (y.length : Int)) = false := by rw [hx]; simp
    clear hx
    go_enter Try.func96, Try.ntmps96
    go_wp2
    go_ret
    exact ⟨rfl, rfl⟩
  · rw [neL_t hx]
    have hn : ((x.length : Int) != (y.length : Int)) = true := by rw [bne_iff_ne]; omega
    clear hx
    go_enter Try.func96, Try.ntmps96
    go_wp2
    go_ret
    exact ⟨rfl, rfl⟩
set_option maxHeartbeats 1000000 in
theorem implJoinSh_c (v : Value) (l : List (List UInt8)) (ok : Bool) (w : World) (h : Rd (Rd RB) w v l) (hok : Hid (jsOk l = ok)) (hn : tot l ≤ 1048576) :
    Calls Try.prog 26 #[v] w fun e w' => ∃ v', e = .returned (.tuple #[v', .bool ok]) ∧ Fresh (Own 5 FB) w w' v' (jsh l) := by
  obtain ⟨A, n, c, rfl, h'⟩ := h
  obtain rfl := h'.1
  have h : Rd (Rd RB) w (.slice A l.length c) l := ⟨_, _, _, rfl, h'⟩
  have hcm := Nat.le_trans h'.2.1 h'.2.2.1
  unfold maxLen at hcm
  have H := Lib.hid h'
  clear h'
  obtain ⟨B_s, T, hs_w0⟩ := boxes1 w 24 #[.slice A l.length c]
  have BS := Lib.hid B_s
  have RA := Rd_reads (Rd_reads RB_reads) _ _ _ _ h T
  clear h B_s
  by_cases hc : 2 ≤ l.length ∧ l.length ≤ 4
  · obtain ⟨b, off, x0, u0, rfl, hbb0, hx0, hu0, hr0⟩ := H.out.at_ (k := 0) (by omega)
    obtain ⟨Ay, ny, cy, rfl, hry⟩ := hr0
    obtain rfl := hry.1
    have hcy := Nat.le_trans hry.2.1 hry.2.2.1
    unfold maxLen at hcy
    have g0 : (w.alloc (.cells #[.slice (some ⟨b, off, none⟩) l.length c] 24)).cell? ⟨b, off, none⟩ = some (.slice Ay x0.length cy) := (T.cell (p := ⟨b, off, none⟩) hbb0).trans (by simpa using hu0)
    have HD := Lib.hid (hdB_of hx0)
    have HC := Lib.hid hc
    have cb : (w.alloc (.cells #[.slice (some ⟨b, off, none⟩) l.length c] 24)).cell? ⟨w.heap.size, 0, none⟩ = some (.slice (some ⟨b, off, none⟩) l.length c) := BS.out.cell 0
    have hcf := ContainsFuncBBp_c (neL x0.length) 96 (enters_fn Try.func96 (by kernel_rfl) rfl) (.pointer (some ⟨w.heap.size, 0, none⟩)) _ l _ RA (fun u x hu => js1_c _ u x w.heap.size b off l.length c Ay x0 cy hu cb g0 (by omega) (by omega) (by omega))
    clear hu0 hry hx0
    cases ha : l.any (neL x0.length) with
    | true =>
      have e : ok = false := by rw [← hok.out]; exact jsOk_bad (by rw [HD.out]; exact ha)
      subst e
      rw [jsh_no hok.out]
      rw [ha] at hcf
      have HF := Lib.hid hcf
      have FN := Lib.hid (fresh_nilB w _ T)
      clear hcf hok ha hc g0 cb
      go_enter Try.func26, Try.ntmps26
      go_wp2_with fail
      refine (iCnt_t _ _ (by have := HC.out; omega) (by have := HC.out; omega)).mono ?_
      rintro e w1 ⟨rfl, rfl⟩
      go_wp2_with fail
      refine HF.out.mono ?_
      rintro e w1 ⟨rfl, rfl⟩
      go_wp2
      refine bodyPost_ret (v := .tuple #[.slice none 0 0, .bool false]) (by simp [results, Try.results26, go_sem]) rfl ⟨_, rfl, FN.out⟩
    | false =>
      have e : ok = true := by rw [← hok.out, jsOk_of hc, HD.out, ha]; rfl
      subst e
      rw [jsh_yes hok.out]
      rw [ha] at hcf
      have HF := Lib.hid hcf
      clear hcf hok ha hc g0
      go_enter Try.func26, Try.ntmps26
      go_wp2_with fail
      refine (iCnt_t _ _ (by have := HC.out; omega) (by have := HC.out; omega)).mono ?_
      rintro e w1 ⟨rfl, rfl⟩
      go_wp2_with fail
      refine HF.out.mono ?_
      rintro e w1 ⟨rfl, rfl⟩
      go_wp2_with fail
      refine (implXorAll_c _ l _ RA hn).mono ?_
      rintro e w1 ⟨v1, rfl, F⟩
      have FH := Lib.hid (F.pre T)
      clear F RA
      go_wp2
      refine bodyPost_ret (v := .tuple #[v1, .bool true]) (by simp [results, Try.results26, go_sem]) rfl ⟨_, rfl, FH.out⟩
  · have e : ok = false := by rw [← hok.out]; exact jsOk_cnt hc
    subst e
    rw [jsh_no hok.out]
    have HC := Lib.hid hc
    have FN := Lib.hid (fresh_nilB w _ T)
    clear hok hc
    go_enter Try.func26, Try.ntmps26
    go_wp2_with fail
    refine (iCnt_f _ _ (fun q => HC.out (by omega))).mono ?_
    rintro e w1 ⟨rfl, rfl⟩
    go_wp2
    refine bodyPost_ret (v := .tuple #[.slice none 0 0, .bool false]) (by simp [results, Try.results26, go_sem]) rfl ⟨_, rfl, FN.out⟩
end Go.Proofs.Ytceogegjghmonaa
