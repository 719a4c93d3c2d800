/- ShareNumber of both sides. -/
import Derived.Test.YtceogegjghmonaaShVP
import Derived.Test.YtceogegjghmonaaHash
import Derived.Test.YtceogegjghmonaaCnt
import Derived.Test.YtceogegjghmonaaStream
import Derived.Test.YtceogegjghmonaaJq
namespace Go.Proofs.Ytceogegjghmonaa
set_option linter.unusedVariables false
open Go.RowKit

theorem shN_yes {n : Int} {s : List Int} (h : shOk s = true) : shN n s = shV n s := by unfold shN; rw [h]; rfl
theorem shN_no {n : Int} {s : List Int} (h : shOk s = false) : shN n s = [] := by unfold shN; rw [h]; rfl
theorem mod_take (s : List Int) (k : Nat) (x : Int) (h : s[k]? = some x) : (s.take (k + 1)).map modF = (s.take k).map modF ++ [x % 1019] := by
  rw [take_succ_get s k x h, List.map_append]; rfl
theorem sum_take (s : List Int) (k : Nat) (x : Int) (h : s[k]? = some x) : sumF (s.take (k + 1)) = sumF (s.take k) + x % 1019 := by
  rw [take_succ_get s k x h, sumF_snoc]
theorem shV_fin {n n0 z y : Int} {s : List Int} (h1 : n % 1019 = n0) (h2 : sumF s = z) (h3 : (n0 - z) % 1019 = y) : ((s.map modF).map fun x => Value.int .i64 x) ++ [.int .i64 y] = (shV n s).map fun x => Value.int .i64 x := by
  have e : (n - sumF s) % 1019 = y := by omega
  unfold shV
  rw [List.map_append, e]
  rfl
set_option maxHeartbeats 1000000 in
set_option maxRecDepth 100000 in
theorem implShN_c (n : Int) (v : Value) (s : List Int) (w : World) (h : Rd RI w v s) (hs : s.length ≤ 1048576) :
    Calls Try.prog 125 #[.int .i64 n, v] w fun e w' => ∃ v', e = .returned v' ∧ Fresh (Own 3 FI) w w' v' (shN n s) := by
  obtain ⟨A, m, c, rfl, h'⟩ := h
  obtain rfl := h'.1
  have H := Lib.hid h'
  clear h'
  by_cases hc : 1 ≤ s.length ∧ s.length ≤ 3
  · rw [shN_yes (show shOk s = true from decide_eq_true hc)]
    have hc1 := hc.1
    have hc3 := hc.2
    have R0 := Lib.hid (Row_lit (E := 3) (B := w.heap.size) w #[] (Nat.le_refl _) (by simp))
    have B0 := Lib.hid (below_alloc w (.cells #[] 3))
    clear hc
    go_enter Try.func125, Try.ntmps125
    go_wp2_with fail
    refine (iCnt_t _ _ (by omega) (by omega)).mono ?_
    rintro e w' ⟨rfl, rfl⟩
    go_wp2_with fail
    refine (implMod_c n 1019 _ (by omega) (by omega)).mono ?_
    rintro e w' ⟨rfl, rfl⟩
    have hn0 : 0 ≤ n % 1019 ∧ n % 1019 ≤ 1018 := by omega
    obtain ⟨n0, hn0e⟩ : ∃ x, n % 1019 = x := ⟨_, rfl⟩
    rw [hn0e] at hn0 ⊢
    have HN := Lib.hid hn0e
    clear hn0e
    go_wp2
    go_loopw [5, 6, 19] (fun o l i wr => ∃ k : Nat, k ≤ s.length ∧ i = .int .i64 k ∧ l = .int .i64 (n0 - sumF (s.take k)) ∧ Hid (Row 3 w.heap.size wr o k (((s.take k).map modF).map fun x => Value.int .i64 x) ∧ Below w.heap.size w wr)) (fun _ _ i _ => s.length - (intOf i).toNat)
    case atStart => exact ⟨0, Nat.zero_le _, rfl, by simp [sumF], Lib.hid ⟨R0.out, B0.out⟩⟩
    case round =>
      obtain ⟨k, hk, rfl, rfl, HH⟩ := hrel
      have hsb := sumF_bd (s.take k)
      have hlt3 : (s.take k).length ≤ 3 := by have := List.length_take_le k s; omega
      by_cases hlt : k < s.length
      · obtain ⟨b, off, x, u, rfl, hbb, hx, hu, hr⟩ := H.out.at_ hlt
        unfold RI at hr
        subst hr
        have g1 := (HH.out.2.cell (p := ⟨b, off + k, none⟩) hbb).trans hu
        have HM := Lib.hid (mod_take s k x hx)
        have HS := Lib.hid (sum_take s k x hx)
        have hxm : 0 ≤ x % 1019 ∧ x % 1019 ≤ 1018 := by omega
        obtain ⟨z, hz⟩ : ∃ z, sumF (s.take k) = z := ⟨_, rfl⟩
        rw [hz] at hsb ⊢
        have HZ := Lib.hid hz
        have hk0 : (0 : Int) ≤ (k : Int) := by omega
        have hkn : (k : Int) < (s.length : Int) := by omega
        clear hx hu hz
        go_wp2_with fail
        refine (implMod_c x 1019 _ (by omega) (by omega)).mono ?_
        rintro e w' ⟨rfl, rfl⟩
        obtain ⟨y, hy⟩ : ∃ y, x % 1019 = y := ⟨_, rfl⟩
        rw [hy] at hxm ⊢
        have HY := Lib.hid hy
        clear hy
        go_wp2_with (at_builtin; refine wpList_app elI rfl (.tmp 23) (.tmp 26) rfl _ k _ rfl (HH.out.1.1.alloc _) (some ⟨wr.heap.size, 0, none⟩) 1 1 [.int .i64 y] rfl (Src_one _ _ _) (one_single _ rfl) (by simp only [maxLen]; omega) (by omega) ?_; intro v2 w2 hown hg hat)
        have P := HH.out.1.app HH.out.2 HH.out.2.size hown hg hat
        have PH := Lib.hid P
        clear hown hg hat P
        refine (implMod_c x 1019 _ (by omega) (by omega)).mono ?_
        rintro e w' ⟨rfl, rfl⟩
        rw [HY.out]
        go_wp2
        go_roundw
        case rel => exact ⟨k + 1, by omega, by go_num, by rw [HS.out, HZ.out, HY.out]; congr 1; omega, Lib.hid (by rw [HM.out, HY.out, List.map_append]; exact PH.out)⟩
        case measure => simp [intOf]; omega
      · obtain rfl : s.length = k := by omega
        have HT : Hid (s.take s.length = s) := Lib.hid (List.take_length)
        rw [HT.out] at hsb hlt3 ⊢
        obtain ⟨z, hz⟩ : ∃ z, sumF s = z := ⟨_, rfl⟩
        rw [hz] at hsb ⊢
        have HZ := Lib.hid hz
        clear hz
        go_wp2_with fail
        refine (implMod_c (n0 - z) 1019 _ (by omega) (by omega)).mono ?_
        rintro e w' ⟨rfl, rfl⟩
        obtain ⟨y, hy⟩ : ∃ y, (n0 - z) % 1019 = y := ⟨_, rfl⟩
        rw [hy]
        have HY := Lib.hid hy
        clear hy
        go_wp2_with (at_builtin; refine wpList_app elI rfl (.tmp 33) (.tmp 36) rfl _ s.length _ rfl (HH.out.1.1.alloc _) (some ⟨wr.heap.size, 0, none⟩) 1 1 [.int .i64 y] rfl (Src_one _ _ _) (one_single _ rfl) (by simp only [maxLen]; omega) (by omega) ?_; intro v2 w2 hown hg hat)
        have P := HH.out.1.app HH.out.2 HH.out.2.size hown hg hat
        have F := Lib.hid (Row.freshI (xs := shV n s) P.1 P.2 (by rw [HT.out]; exact shV_fin HN.out HZ.out HY.out))
        clear hown hg hat P
        go_ret
        exact ⟨_, rfl, F.out⟩
  · rw [shN_no (show shOk s = false from decide_eq_false hc)]
    have HC : Hid (¬ (2 ≤ (s.length : Int) + 1 ∧ (s.length : Int) + 1 ≤ 4)) := Lib.hid (by omega)
    have FN := Lib.hid (fresh_nilI w w (Below.refl _ _))
    clear hc
    go_enter Try.func125, Try.ntmps125
    go_wp2_with fail
    refine (iCnt_f _ _ HC.out).mono ?_
    rintro e w' ⟨rfl, rfl⟩
    go_wp2
    go_ret
    exact ⟨_, rfl, FN.out⟩
set_option maxHeartbeats 1000000 in
set_option maxRecDepth 100000 in
theorem specShN_c (n : Int) (v : Value) (s : List Int) (w : World) (h : Rd RI w v s) (hs : s.length ≤ 1048576) :
    Calls Try.prog 124 #[.int .i64 n, v] w fun e w' => ∃ v', e = .returned v' ∧ Fresh (Own 3 FI) w w' v' (shN n s) := by
  obtain ⟨A, m, c, rfl, h'⟩ := h
  obtain rfl := h'.1
  have H := Lib.hid h'
  clear h'
  have R0 := Lib.hid (Row_lit (E := 3) (B := w.heap.size) w #[] (Nat.le_refl _) (by simp))
  have B0 := Lib.hid (below_alloc w (.cells #[] 3))
  by_cases hc : 1 ≤ s.length ∧ s.length ≤ 3
  · rw [shN_yes (show shOk s = true from decide_eq_true hc)]
    have hc1 := hc.1
    have hc3 := hc.2
    clear hc
    go_enter Try.func124, Try.ntmps124
    go_wp2_with fail
    refine (sCnt_t _ _ (by omega) (by omega)).mono ?_
    rintro e w' ⟨rfl, rfl⟩
    go_wp2_with fail
    refine (specMod_c n 1019 _ (by omega) (by omega)).mono ?_
    rintro e w' ⟨rfl, rfl⟩
    have hn0 : 0 ≤ n % 1019 ∧ n % 1019 ≤ 1018 := by omega
    obtain ⟨n0, hn0e⟩ : ∃ x, n % 1019 = x := ⟨_, rfl⟩
    rw [hn0e] at hn0 ⊢
    have HN := Lib.hid hn0e
    clear hn0e
    go_wp2
    go_loopw [5, 6, 7] (fun o l i wr => ∃ (k : Nat) (y : Int), k ≤ s.length ∧ i = .int .i64 k ∧ l = .int .i64 y ∧ (0 ≤ y ∧ y ≤ 1018) ∧ Hid ((n0 - sumF (s.take k)) % 1019 = y) ∧ Hid (Row 3 w.heap.size wr o k (((s.take k).map modF).map fun x => Value.int .i64 x) ∧ Below w.heap.size w wr)) (fun _ _ i _ => s.length - (intOf i).toNat)
    case atStart => exact ⟨0, n0, Nat.zero_le _, rfl, rfl, hn0, Lib.hid (by simp [sumF]; omega), Lib.hid ⟨R0.out, B0.out⟩⟩
    case round =>
      obtain ⟨k, y, hk, rfl, rfl, hy, HYY, HH⟩ := hrel
      by_cases hlt : k < s.length
      · obtain ⟨b, off, x, u, rfl, hbb, hx, hu, hr⟩ := H.out.at_ hlt
        unfold RI at hr
        subst hr
        have g1 := (HH.out.2.cell (p := ⟨b, off + k, none⟩) hbb).trans hu
        have HM := Lib.hid (mod_take s k x hx)
        have HS := Lib.hid (sum_take s k x hx)
        have hxm : 0 ≤ x % 1019 ∧ x % 1019 ≤ 1018 := by omega
        have hk0 : (0 : Int) ≤ (k : Int) := by omega
        have hkn : (k : Int) < (s.length : Int) := by omega
        clear hx hu
        go_wp2_with fail
        refine (specMod_c x 1019 _ (by omega) (by omega)).mono ?_
        rintro e w' ⟨rfl, rfl⟩
        obtain ⟨z, hz⟩ : ∃ z, x % 1019 = z := ⟨_, rfl⟩
        rw [hz] at hxm ⊢
        have HZ := Lib.hid hz
        clear hz
        go_wp2_with fail
        refine (specMod_c (y - z) 1019 _ (by omega) (by omega)).mono ?_
        rintro e w' ⟨rfl, rfl⟩
        have hym : 0 ≤ (y - z) % 1019 ∧ (y - z) % 1019 ≤ 1018 := by omega
        have HY2 : Hid ((n0 - sumF (s.take (k + 1))) % 1019 = (y - z) % 1019) := Lib.hid (by rw [HS.out, HZ.out]; have := HYY.out; omega)
        obtain ⟨y2, hy2⟩ : ∃ q, (y - z) % 1019 = q := ⟨_, rfl⟩
        rw [hy2] at hym HY2 ⊢
        clear hy2
        go_wp2_with (at_builtin; refine wpList_app elI rfl (.tmp 33) (.tmp 35) rfl _ k _ rfl (HH.out.1.1.alloc _) (some ⟨wr.heap.size, 0, none⟩) 1 1 [.int .i64 z] rfl (Src_one _ _ _) (one_single _ rfl) (by simp only [maxLen]; omega) (by omega) ?_; intro v2 w2 hown hg hat)
        have P := HH.out.1.app HH.out.2 HH.out.2.size hown hg hat
        have PH := Lib.hid P
        clear hown hg hat P
        go_roundw
        case rel => exact ⟨k + 1, y2, by omega, by go_num, rfl, hym, HY2, Lib.hid (by rw [HM.out, HZ.out, List.map_append]; exact PH.out)⟩
        case measure => simp [intOf]; omega
      · obtain rfl : s.length = k := by omega
        have HT : Hid (s.take s.length = s) := Lib.hid (List.take_length)
        rw [HT.out] at HYY
        go_wp2_with (at_builtin; refine wpList_app elI rfl (.tmp 37) (.tmp 39) rfl _ s.length _ rfl (HH.out.1.1.alloc _) (some ⟨wr.heap.size, 0, none⟩) 1 1 [.int .i64 y] rfl (Src_one _ _ _) (one_single _ rfl) (by simp only [maxLen]; omega) (by omega) ?_; intro v2 w2 hown hg hat)
        have P := HH.out.1.app HH.out.2 HH.out.2.size hown hg hat
        have F := Lib.hid (Row.freshI (xs := shV n s) P.1 P.2 (by rw [HT.out]; exact shV_fin HN.out rfl HYY.out))
        clear hown hg hat P
        go_ret
        exact ⟨_, rfl, F.out⟩
  · rw [shN_no (show shOk s = false from decide_eq_false hc)]
    have HC : Hid (¬ (2 ≤ (s.length : Int) + 1 ∧ (s.length : Int) + 1 ≤ 4)) := Lib.hid (by omega)
    have FN := Lib.hid (fresh_litI w)
    clear hc R0 B0
    go_enter Try.func124, Try.ntmps124
    go_wp2_with fail
    refine (sCnt_f _ _ HC.out).mono ?_
    rintro e w' ⟨rfl, rfl⟩
    go_wp2
    go_ret
    exact ⟨_, rfl, FN.out⟩
end Go.Proofs.Ytceogegjghmonaa
