/- CombineAnswers of both sides. -/
import Derived.Test.YtceogegjghmonaaXorAll
import Derived.Test.YtceogegjghmonaaFunc
import Derived.Test.YtceogegjghmonaaCnt
import Derived.Test.YtceogegjghmonaaRead
namespace Go.Proofs.Ytceogegjghmonaa
set_option linter.unusedVariables false
open Go.RowKit

def ne24 (r : List UInt8) : Bool := r.length != 24
theorem ne24_t {r : List UInt8} (h : ¬ r.length = 24) : ne24 r = true := by unfold ne24; exact bne_iff_ne.2 h
theorem ne24_f {r : List UInt8} (h : r.length = 24) : ne24 r = false := by unfold ne24; rw [h]; rfl
def cmbOk (l : List (List UInt8)) : Bool := decide (2 ≤ l.length ∧ l.length ≤ 4) && !(l.any ne24)
def cmb (l : List (List UInt8)) : List UInt8 := if cmbOk l then xorAll l else []
theorem cmb_len (l : List (List UInt8)) : (cmb l).length ≤ sumL l := by
  unfold cmb
  split
  · exact xorAll_len l
  · simp
theorem cmbOk_cnt {l : List (List UInt8)} (h : ¬ (2 ≤ l.length ∧ l.length ≤ 4)) : cmbOk l = false := by unfold cmbOk; rw [decide_eq_false h]; rfl
theorem cmbOk_of {l : List (List UInt8)} (h : 2 ≤ l.length ∧ l.length ≤ 4) : cmbOk l = !(l.any ne24) := by unfold cmbOk; rw [decide_eq_true h]; rfl
theorem cmb_no {l : List (List UInt8)} (h : cmbOk l = false) : cmb l = [] := by unfold cmb; rw [h]; rfl
theorem cmb_yes {l : List (List UInt8)} (h : cmbOk l = true) : cmb l = xorAll l := by unfold cmb; rw [h]; rfl
theorem cmbOk_bad {l : List (List UInt8)} (h : l.any ne24 = true) : cmbOk l = false := by unfold cmbOk; rw [h]; simp

theorem cmb1_c (W : World) (u : Value) (x : List UInt8) (h : Rd RB W u x) : Calls Try.prog 90 #[u] W fun e w' => e = .returned (.bool (ne24 x)) ∧ W = w' := by
  obtain ⟨A, n, c, rfl, h⟩ := h
  obtain rfl := h.1
  have hnc := h.2.1
  have hcm := h.2.2.1
  unfold maxLen at hcm
  clear h
  by_cases hx : x.length = 24
  · rw [ne24_f hx]
    have hn : ((x.length : Int) != 24) = false := by rw [hx]; rfl
    clear hx
    go_enter Try.func90, Try.ntmps90
    go_wp2
    go_ret
    exact ⟨rfl, rfl⟩
  · rw [ne24_t hx]
    have hn : ((x.length : Int) != 24) = true := by rw [bne_iff_ne]; omega
    clear hx
    go_enter Try.func90, Try.ntmps90
    go_wp2
    go_ret
    exact ⟨rfl, rfl⟩
set_option maxHeartbeats 1000000 in
theorem implComb_c (v : Value) (l : List (List UInt8)) (ok : Bool) (w : World) (h : Rd (Rd RB) w v l) (hok : Hid (cmbOk l = ok)) (hn : tot l ≤ 1048576) :
    Calls Try.prog 19 #[v] w fun e w' => ∃ v', e = .returned (.tuple #[v', .bool ok]) ∧ Fresh (Own 5 FB) w w' v' (cmb l) := by
  have hcf := ContainsFuncBB_c ne24 90 (enters_fn Try.func90 (by kernel_rfl) rfl) cmb1_c v l w h
  obtain ⟨A, n, c, rfl, h'⟩ := h
  obtain rfl := h'.1
  have h : Rd (Rd RB) w (.slice A l.length c) l := ⟨_, _, _, rfl, h'⟩
  have hcm := Nat.le_trans h'.2.1 h'.2.2.1
  unfold maxLen at hcm
  clear h'
  by_cases hc : 2 ≤ l.length ∧ l.length ≤ 4
  · cases ha : l.any ne24 with
    | true =>
      have e : ok = false := by rw [← hok.out]; exact cmbOk_bad ha
      subst e
      rw [cmb_no hok.out]
      rw [ha] at hcf
      have HF := Lib.hid hcf
      have HC := Lib.hid hc
      have FN := Lib.hid (fresh_nilB w w (Below.refl _ _))
      clear hcf hok ha h hc
      go_enter Try.func19, Try.ntmps19
      go_wp2_with fail
      refine (iCnt_t _ _ (by have := HC.out; omega) (by have := HC.out; omega)).mono ?_
      rintro e w1 ⟨rfl, rfl⟩
      go_wp2_with fail
      refine HF.out.mono ?_
      rintro e w1 ⟨rfl, rfl⟩
      go_wp2
      refine bodyPost_ret (v := .tuple #[.slice none 0 0, .bool false]) (by simp [results, Try.results19, go_sem]) rfl ⟨_, rfl, FN.out⟩
    | false =>
      have e : ok = true := by rw [← hok.out, cmbOk_of hc, ha]; rfl
      subst e
      rw [cmb_yes hok.out]
      rw [ha] at hcf
      have HF := Lib.hid hcf
      have HC := Lib.hid hc
      clear hcf hok ha hc
      go_enter Try.func19, Try.ntmps19
      go_wp2_with fail
      refine (iCnt_t _ _ (by have := HC.out; omega) (by have := HC.out; omega)).mono ?_
      rintro e w1 ⟨rfl, rfl⟩
      go_wp2_with fail
      refine HF.out.mono ?_
      rintro e w1 ⟨rfl, rfl⟩
      go_wp2_with fail
      refine (implXorAll_c _ l _ h hn).mono ?_
      rintro e w1 ⟨v1, rfl, F⟩
      have FH := Lib.hid F
      clear F h
      go_wp2
      refine bodyPost_ret (v := .tuple #[v1, .bool true]) (by simp [results, Try.results19, go_sem]) rfl ⟨_, rfl, FH.out⟩
  · have e : ok = false := by rw [← hok.out]; exact cmbOk_cnt hc
    subst e
    rw [cmb_no hok.out]
    have HC := Lib.hid hc
    have FN := Lib.hid (fresh_nilB w w (Below.refl _ _))
    clear hcf hok h hc
    go_enter Try.func19, Try.ntmps19
    go_wp2_with fail
    refine (iCnt_f _ _ (fun q => HC.out (by omega))).mono ?_
    rintro e w1 ⟨rfl, rfl⟩
    go_wp2
    refine bodyPost_ret (v := .tuple #[.slice none 0 0, .bool false]) (by simp [results, Try.results19, go_sem]) rfl ⟨_, rfl, FN.out⟩
theorem fresh_litB (w : World) : Fresh (Own 5 FB) w (w.alloc (.cells #[] 5)) (.slice (some ⟨w.heap.size, 0, none⟩) 0 0) ([] : List UInt8) := (Row_lit (E := 5) w #[] (Nat.le_refl _) (by simp)).freshB (below_alloc w _) rfl
set_option maxHeartbeats 1000000 in
theorem specComb_c (v : Value) (l : List (List UInt8)) (ok : Bool) (w : World) (h : Rd (Rd RB) w v l) (hok : Hid (cmbOk l = ok)) (hn : tot l ≤ 1048576) :
    Calls Try.prog 83 #[v] w fun e w' => ∃ v', e = .returned (.tuple #[v', .bool ok]) ∧ Fresh (Own 5 FB) w w' v' (cmb l) := by
  obtain ⟨A, n, c, rfl, h'⟩ := h
  obtain rfl := h'.1
  have h : Rd (Rd RB) w (.slice A l.length c) l := ⟨_, _, _, rfl, h'⟩
  have hcm := Nat.le_trans h'.2.1 h'.2.2.1
  unfold maxLen at hcm
  have H := Lib.hid h'
  have HH := Lib.hid h
  have FN := Lib.hid (fresh_litB w)
  clear h' h
  go_enter Try.func83, Try.ntmps83
  go_wp2
  go_loop [4] (fun i => ∃ k : Nat, k ≤ l.length ∧ i = .int .i64 k ∧ Hid ((l.take k).any ne24 = false)) (fun i => l.length - (intOf i).toNat)
  case atStart => exact ⟨0, Nat.zero_le _, rfl, Lib.hid (by simp)⟩
  case round =>
    obtain ⟨k, hk, rfl, hne⟩ := hrel
    by_cases hlt : k < l.length
    · obtain ⟨b, off, x, u, rfl, hbb, hx, g1, hr⟩ := H.out.at_ hlt
      obtain ⟨Ax, nx, cx, rfl, hrx⟩ := hr
      obtain rfl := hrx.1
      have hcx := Nat.le_trans hrx.2.1 hrx.2.2.1
      unfold maxLen at hcx
      have HX := Lib.hid hx
      clear hx hrx
      by_cases hy : x.length = 24
      · have hm : (l.take (k + 1)).any ne24 = false := by rw [take_succ_get l k x HX.out, List.any_append, hne.out]; simp [ne24_f hy]
        have HM := Lib.hid hm
        have hb : ((x.length : Int) != 24) = false := by rw [hy]; rfl
        clear hm hy
        go_wp2
        go_round
        case rel => exact ⟨k + 1, by omega, by go_num, HM⟩
        case measure => simp [intOf]; omega
      · have hm : l.any ne24 = true := List.any_eq_true.2 ⟨x, List.mem_of_getElem? HX.out, ne24_t hy⟩
        have e : ok = false := by rw [← hok.out]; exact cmbOk_bad hm
        have HE := Lib.hid e
        have HN := Lib.hid (cmb_no (cmbOk_bad hm))
        have hb : ((x.length : Int) != 24) = true := by rw [bne_iff_ne]; omega
        clear hm hy e
        go_wp2
        rw [HE.out, HN.out]
        refine bodyPost_ret (v := .tuple #[.slice (some ⟨w.heap.size, 0, none⟩) 0 0, .bool false]) (by simp [results, Try.results83, go_sem]) rfl ⟨_, rfl, FN.out⟩
    · have hkn : k = l.length := by omega
      subst hkn
      have hall := hne.out
      rw [List.take_of_length_le (Nat.le_refl _)] at hall
      by_cases hc : 2 ≤ l.length ∧ l.length ≤ 4
      · have e : ok = true := by rw [← hok.out, cmbOk_of hc, hall]; rfl
        subst e
        have HN := Lib.hid (cmb_yes hok.out)
        have HC := Lib.hid hc
        clear hall hc
        go_wp2_with fail
        refine (sCnt_t _ _ (by have := HC.out; omega) (by have := HC.out; omega)).mono ?_
        rintro e w1 ⟨rfl, rfl⟩
        go_wp2_with fail
        refine (specXorAll_c _ l _ HH.out hn).mono ?_
        rintro e w1 ⟨v1, rfl, F⟩
        have FH := Lib.hid F
        clear F
        go_wp2
        rw [HN.out]
        refine bodyPost_ret (v := .tuple #[v1, .bool true]) (by simp [results, Try.results83, go_sem]) rfl ⟨_, rfl, FH.out⟩
      · have e : ok = false := by rw [← hok.out]; exact cmbOk_cnt hc
        subst e
        have HN := Lib.hid (cmb_no hok.out)
        have HC := Lib.hid hc
        clear hall hc
        go_wp2_with fail
        refine (sCnt_f _ _ (fun q => HC.out (by omega))).mono ?_
        rintro e w1 ⟨rfl, rfl⟩
        go_wp2
        rw [HN.out]
        refine bodyPost_ret (v := .tuple #[.slice (some ⟨w.heap.size, 0, none⟩) 0 0, .bool false]) (by simp [results, Try.results83, go_sem]) rfl ⟨_, rfl, FN.out⟩
end Go.Proofs.Ytceogegjghmonaa
