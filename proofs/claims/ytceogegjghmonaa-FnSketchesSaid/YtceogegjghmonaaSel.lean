/- Selections: IsSelection, UnitSelection, XorSelections, RandomSelection, CountSelected of both sides. -/
import Derived.Test.YtceogegjghmonaaFuncI
import Derived.Test.YtceogegjghmonaaStream
import Derived.Test.YtceogegjghmonaaXor
import Derived.Test.YtceogegjghmonaaNest
import Derived.Deep.RegionLaw
import Derived.Deep.RegionHeld3
namespace Go.Proofs.Ytceogegjghmonaa
set_option linter.unusedVariables false
open Go.RowKit

def isSel (xs : List Int) (r : Int) : Bool := decide (r ≤ 64 ∧ (xs.length : Int) = r) && allIn 0 1 xs
theorem isSel_bad {xs : List Int} {r : Int} (h : ¬ (r ≤ 64 ∧ (xs.length : Int) = r)) : isSel xs r = false := by unfold isSel; rw [decide_eq_false h]; rfl
theorem isSel_ok {xs : List Int} {r : Int} (h : r ≤ 64 ∧ (xs.length : Int) = r) : isSel xs r = allIn 0 1 xs := by unfold isSel; rw [decide_eq_true h]; rfl
theorem isSel_len {xs : List Int} {r : Int} (h : isSel xs r = true) : r ≤ 64 ∧ (xs.length : Int) = r := by
  unfold isSel at h
  rw [Bool.and_eq_true] at h
  simpa using h.1
theorem isSel_get {xs : List Int} {r : Int} (h : isSel xs r = true) {k : Nat} {x : Int} (hx : xs[k]? = some x) : 0 ≤ x ∧ x ≤ 1 := by
  unfold isSel at h
  rw [Bool.and_eq_true] at h
  exact allIn_get h.2 hx
theorem sel1_c (W : World) (u : Value) (x : Int) (h : RI W u x) : Calls Try.prog 144 #[u] W fun e w' => e = .returned (.bool (notIn 0 1 x)) ∧ W = w' := by
  unfold RI at h
  subst h
  by_cases hx : 0 ≤ x ∧ x ≤ 1
  · rw [notIn_f hx]
    go_enter Try.func144, Try.ntmps144
    go_wp2_with (go_at_call 100; refine (implIn_t _ _ _ _ hx.1 hx.2).mono ?_; rintro e w' ⟨rfl, rfl⟩)
    go_ret
    exact ⟨rfl, rfl⟩
  · rw [notIn_t hx]
    have HX := Lib.hid hx
    clear hx
    go_enter Try.func144, Try.ntmps144
    go_wp2_with (go_at_call 100; refine (implIn_f _ _ _ _ HX.out).mono ?_; rintro e w' ⟨rfl, rfl⟩)
    go_ret
    exact ⟨rfl, rfl⟩
set_option maxHeartbeats 1000000 in
theorem implIsSel_c (v : Value) (xs : List Int) (r : Int) (w : World) (h : Rd RI w v xs) : Calls Try.prog 87 #[v, .int .i64 r] w fun e w' => e = .returned (.bool (isSel xs r)) ∧ w = w' := by
  have hc := ContainsFuncI_c (notIn 0 1) 144 (enters_fnI Try.func144 (by kernel_rfl) rfl) sel1_c v xs w h
  obtain ⟨A, n, c, rfl, h⟩ := h
  obtain rfl := h.1
  have hcm := Nat.le_trans h.2.1 h.2.2.1
  unfold maxLen at hcm
  clear h
  have HC := Lib.hid hc
  clear hc
  by_cases hr : 0 ≤ r ∧ r ≤ 64
  · by_cases hl : (xs.length : Int) = r
    · have e := isSel_ok (xs := xs) ⟨hr.2, hl⟩
      have hb : ((xs.length : Int) == r) = true := beq_iff_eq.2 hl
      unfold allIn at e
      cases ha : xs.any (notIn 0 1) with
      | true =>
        rw [ha] at e
        have HE := Lib.hid e
        have HF := HC.out
        rw [ha] at HF
        have HG := Lib.hid HF
        clear e HF ha HC
        subst hl
        go_enter Try.func87, Try.ntmps87
        go_wp2_with (first | (go_at_call 100; refine (implIn_t _ _ _ _ hr.1 hr.2).mono ?_; rintro e w' ⟨rfl, rfl⟩) | (refine HG.out.mono ?_; rintro e w' ⟨rfl, rfl⟩))
        go_ret
        exact ⟨by rw [HE.out]; rfl, rfl⟩
      | false =>
        rw [ha] at e
        have HE := Lib.hid e
        have HF := HC.out
        rw [ha] at HF
        have HG := Lib.hid HF
        clear e HF ha HC
        subst hl
        go_enter Try.func87, Try.ntmps87
        go_wp2_with (first | (go_at_call 100; refine (implIn_t _ _ _ _ hr.1 hr.2).mono ?_; rintro e w' ⟨rfl, rfl⟩) | (refine HG.out.mono ?_; rintro e w' ⟨rfl, rfl⟩))
        go_ret
        exact ⟨by rw [HE.out]; rfl, rfl⟩
    · have HE := Lib.hid (isSel_bad (xs := xs) (r := r) (fun q => hl q.2))
      have hb : ((xs.length : Int) == r) = false := beq_eq_false_iff_ne.2 hl
      clear hl
      go_enter Try.func87, Try.ntmps87
      go_wp2_with (go_at_call 100; refine (implIn_t _ _ _ _ hr.1 hr.2).mono ?_; rintro e w' ⟨rfl, rfl⟩)
      go_ret
      exact ⟨by rw [HE.out]; rfl, rfl⟩
  · have HE := Lib.hid (isSel_bad (xs := xs) (r := r) (fun q => hr (by omega)))
    have HR := Lib.hid hr
    clear hr
    go_enter Try.func87, Try.ntmps87
    go_wp2_with (go_at_call 100; refine (implIn_f _ _ _ _ HR.out).mono ?_; rintro e w' ⟨rfl, rfl⟩)
    go_ret
    exact ⟨by rw [HE.out]; rfl, rfl⟩
set_option maxHeartbeats 1000000 in
theorem specIsSel_c (v : Value) (xs : List Int) (r : Int) (w : World) (h : Rd RI w v xs) : Calls Try.prog 110 #[v, .int .i64 r] w fun e w' => e = .returned (.bool (isSel xs r)) ∧ w = w' := by
  obtain ⟨A, n, c, rfl, h⟩ := h
  have hnc := h.2.1
  have hcm := h.2.2.1
  unfold maxLen at hcm
  have H := Lib.hid h
  clear h
  go_enter Try.func110, Try.ntmps110
  go_wp2
  go_loop [5] (fun i => ∃ k : Nat, k ≤ n ∧ i = .int .i64 k ∧ Hid ((xs.take k).any (notIn 0 1) = false)) (fun i => n - (intOf i).toNat)
  case atStart => exact ⟨0, Nat.zero_le _, rfl, Lib.hid (by simp)⟩
  case round =>
    obtain ⟨k, hk, rfl, hne⟩ := hrel
    by_cases hlt : k < n
    · obtain ⟨b, off, y, u, rfl, hbb, hx, g1, hr⟩ := H.out.at_ hlt
      unfold RI at hr
      subst hr
      have HX := Lib.hid hx
      clear hx
      by_cases hy : 0 ≤ y ∧ y ≤ 1
      · have hm : (xs.take (k + 1)).any (notIn 0 1) = false := by rw [take_succ_get xs k y HX.out, List.any_append, hne.out]; simp [notIn_f hy]
        have HM := Lib.hid hm
        clear hm
        go_wp2_with (go_at_call 92; refine (specIn_t _ _ _ _ hy.1 hy.2).mono ?_; rintro e w' ⟨rfl, rfl⟩)
        go_round
        case rel => exact ⟨k + 1, by omega, by go_num, HM⟩
        case measure => simp [intOf]; omega
      · have hm : isSel xs r = false := by
          unfold isSel allIn
          rw [List.any_eq_true.2 ⟨y, List.mem_of_getElem? HX.out, notIn_t hy⟩]; simp
        have HM := Lib.hid hm
        have HY := Lib.hid hy
        clear hm hy
        go_wp2_with (go_at_call 92; refine (specIn_f _ _ _ _ HY.out).mono ?_; rintro e w' ⟨rfl, rfl⟩)
        go_ret
        exact ⟨by rw [HM.out]; rfl, rfl⟩
    · have hkn : k = n := by omega
      subst hkn
      have hl := H.out.1
      have := hne.out
      rw [List.take_of_length_le (Nat.le_of_eq hl)] at this
      have e : isSel xs r = decide (r ≤ 64 ∧ (k : Int) = r) := by unfold isSel allIn; rw [this, hl]; simp
      have HE := Lib.hid e
      clear e this hl
      by_cases hl : (k : Int) = r
      · have hb : ((k : Int) == r) = true := beq_iff_eq.2 hl
        by_cases h64 : r ≤ 64
        · have e2 := Lib.hid (decide_eq_true (p := r ≤ 64 ∧ (k : Int) = r) ⟨h64, hl⟩)
          subst hl
          go_wp2
          go_ret
          exact ⟨by rw [HE.out, e2.out]; rfl, rfl⟩
        · have e2 := Lib.hid (decide_eq_false (p := r ≤ 64 ∧ (k : Int) = r) (fun q => h64 q.1))
          subst hl
          go_wp2
          go_ret
          exact ⟨by rw [HE.out, e2.out]; rfl, rfl⟩
      · have hb : ((k : Int) == r) = false := beq_eq_false_iff_ne.2 hl
        have e2 := Lib.hid (decide_eq_false (p := r ≤ 64 ∧ (k : Int) = r) (fun q => hl q.2))
        clear hl
        go_wp2
        go_ret
        exact ⟨by rw [HE.out, e2.out]; rfl, rfl⟩
def unitOk (r i : Int) : Bool := decide ((1 ≤ r ∧ r ≤ 64) ∧ 0 ≤ i ∧ i ≤ r - 1)
def unitSel (r i : Int) : List Int := if unitOk r i then (List.replicate r.toNat 0).set i.toNat 1 else []
theorem unitSel_len (r i : Int) : (unitSel r i).length ≤ 64 := by
  unfold unitSel
  split
  · rename_i h
    unfold unitOk at h
    simp at h
    simp
    omega
  · simp
theorem set_own {w : World} {g n : Nat} {cells : List Value} (h : w.ownsRow 0 3 1 (.slice (some ⟨g, 0, none⟩) n n) n cells) (i : Nat) (u : Value) : (w.setCell ⟨g, i, none⟩ u).ownsRow 0 3 1 (.slice (some ⟨g, 0, none⟩) n n) n (cells.set i u) := (h.stored i u).1
set_option maxHeartbeats 1000000 in
theorem implUnit_c (r i : Int) (w : World) (h1 : -9223372036854775808 ≤ i) (h2 : i ≤ 9223372036854775807) (h3 : -9223372036854775808 ≤ r) (h4 : r ≤ 9223372036854775807) :
    Calls Try.prog 41 #[.int .i64 r, .int .i64 i] w fun e w' => ∃ v', e = .returned v' ∧ Fresh (Own 3 FI) w w' v' (unitSel r i) := by
  by_cases hr : 1 ≤ r ∧ r ≤ 64
  · by_cases hi : 0 ≤ i ∧ i ≤ r - 1
    · obtain ⟨n, rfl⟩ := Int.eq_ofNat_of_zero_le (show 0 ≤ r by omega)
      obtain ⟨k, rfl⟩ := Int.eq_ofNat_of_zero_le hi.1
      have e : unitSel (n : Int) (k : Int) = (List.replicate n 0).set k 1 := by unfold unitSel unitOk; rw [decide_eq_true ⟨hr, hi⟩]; simp
      rw [e]
      have hk : k < n := by omega
      have hk' : (k : Int) < (n : Int) := by omega
      have hk0 : (0 : Int) ≤ (k : Int) := by omega
      have hn : n ≤ 64 := by omega
      have hmk : ∀ W : World, (Instr.makeSlice 27 (.int .i64 n) (.int .i64 n)).run Try.prog W = .ok (.slice (some ⟨W.heap.size, 0, none⟩) n n) (W.alloc (.cells (madeCells #[.int .i64 0] n) 3)) := fun W => by
        simpa using run_mk elI .i64 .i64 n (by omega) (by omega) W
      have ho := own_made (E := 3) w (.int .i64 0) n (by simp only [maxLen]; omega)
      have c1 := (ho.cellAt k (by omega)).trans (show (List.replicate n (Value.int .i64 0))[k]? = some (.int .i64 0) by rw [List.getElem?_replicate, if_pos hk])
      have f1 := ho.frozenAt k
      have hcs : ((madeCells #[Value.int .i64 0] n).setIfInBounds k (.int .i64 1)).size = n := by simp [size_madeCells]
      have hl : ((madeCells #[Value.int .i64 0] n).setIfInBounds k (.int .i64 1)).toList = ((List.replicate n (0 : Int)).set k 1).map (fun x => Value.int .i64 x) := by
        rw [Array.toList_setIfInBounds, toList_madeCells_one, List.map_set, List.map_replicate]
      have rw0 := Row_lit (E := 3) (B := w.heap.size) w ((madeCells #[Value.int .i64 0] n).setIfInBounds k (.int .i64 1)) (Nat.le_refl _) (by rw [hcs]; simp only [maxLen]; omega)
      rw [hl, hcs] at rw0
      have FU := Lib.hid (rw0.freshI (below_alloc w _) rfl)
      clear rw0 hcs hl e hi ho
      go_enter Try.func41, Try.ntmps41
      go_wp2_with (go_at_call 100; first | (refine (implIn_t _ _ _ _ (by omega) (by omega)).mono ?_; rintro e w' ⟨rfl, rfl⟩))
      go_ret
      exact ⟨_, rfl, FU.out⟩
    · have e : unitSel r i = [] := by unfold unitSel unitOk; rw [decide_eq_false (fun q => hi q.2)]; rfl
      rw [e]
      have HI := Lib.hid hi
      have FN : Hid (Fresh (Own 3 FI) w w (.slice none 0 0) ([] : List Int)) := Lib.hid (fresh_flatI (World.ownsRow_nil _ _ _ _) rfl (by simp [Value.ownBlock]) (Below.refl _ _))
      clear e hi
      go_enter Try.func41, Try.ntmps41
      go_wp2_with fail
      refine (implIn_t _ _ _ _ hr.1 hr.2).mono ?_
      rintro e w' ⟨rfl, rfl⟩
      go_wp2_with fail
      refine (implIn_f _ _ _ _ HI.out).mono ?_
      rintro e w' ⟨rfl, rfl⟩
      go_wp2
      go_ret
      exact ⟨_, rfl, FN.out⟩
  · have e : unitSel r i = [] := by unfold unitSel unitOk; rw [decide_eq_false (fun q => hr q.1)]; rfl
    rw [e]
    have HR := Lib.hid hr
    have FN : Hid (Fresh (Own 3 FI) w w (.slice none 0 0) ([] : List Int)) := Lib.hid (fresh_flatI (World.ownsRow_nil _ _ _ _) rfl (by simp [Value.ownBlock]) (Below.refl _ _))
    clear e hr
    go_enter Try.func41, Try.ntmps41
    go_wp2_with fail
    refine (implIn_f _ _ _ _ HR.out).mono ?_
    rintro e w' ⟨rfl, rfl⟩
    go_wp2
    go_ret
    exact ⟨_, rfl, FN.out⟩
set_option maxHeartbeats 1000000 in
theorem specUnit_c (r i : Int) (w : World) (h1 : -9223372036854775808 ≤ i) (h2 : i ≤ 9223372036854775807) (h3 : -9223372036854775808 ≤ r) (h4 : r ≤ 9223372036854775807) :
    Calls Try.prog 23 #[.int .i64 r, .int .i64 i] w fun e w' => ∃ v', e = .returned v' ∧ Fresh (Own 3 FI) w w' v' (unitSel r i) := by
  by_cases hr : 1 ≤ r ∧ r ≤ 64
  · by_cases hi : 0 ≤ i ∧ i ≤ r - 1
    · obtain ⟨n, rfl⟩ := Int.eq_ofNat_of_zero_le (show 0 ≤ r by omega)
      obtain ⟨k, rfl⟩ := Int.eq_ofNat_of_zero_le hi.1
      have e : unitSel (n : Int) (k : Int) = (List.replicate n 0).set k 1 := by unfold unitSel unitOk; rw [decide_eq_true ⟨hr, hi⟩]; simp
      rw [e]
      have hk : k < n := by omega
      have hk' : (k : Int) < (n : Int) := by omega
      have hk0 : (0 : Int) ≤ (k : Int) := by omega
      have hn : n ≤ 64 := by omega
      have hmk : ∀ W : World, (Instr.makeSlice 27 (.int .i64 n) (.int .i64 n)).run Try.prog W = .ok (.slice (some ⟨W.heap.size, 0, none⟩) n n) (W.alloc (.cells (madeCells #[.int .i64 0] n) 3)) := fun W => by
        simpa using run_mk elI .i64 .i64 n (by omega) (by omega) W
      have ho := own_made (E := 3) w (.int .i64 0) n (by simp only [maxLen]; omega)
      have c1 := (ho.cellAt k (by omega)).trans (show (List.replicate n (Value.int .i64 0))[k]? = some (.int .i64 0) by rw [List.getElem?_replicate, if_pos hk])
      have f1 := ho.frozenAt k
      have hcs : ((madeCells #[Value.int .i64 0] n).setIfInBounds k (.int .i64 1)).size = n := by simp [size_madeCells]
      have hl : ((madeCells #[Value.int .i64 0] n).setIfInBounds k (.int .i64 1)).toList = ((List.replicate n (0 : Int)).set k 1).map (fun x => Value.int .i64 x) := by
        rw [Array.toList_setIfInBounds, toList_madeCells_one, List.map_set, List.map_replicate]
      have rw0 := Row_lit (E := 3) (B := w.heap.size) w ((madeCells #[Value.int .i64 0] n).setIfInBounds k (.int .i64 1)) (Nat.le_refl _) (by rw [hcs]; simp only [maxLen]; omega)
      rw [hl, hcs] at rw0
      have FU := Lib.hid (rw0.freshI (below_alloc w _) rfl)
      clear rw0 hcs hl e hi ho
      go_enter Try.func23, Try.ntmps23
      go_wp2_with (go_at_call 92; first | (refine (specIn_t _ _ _ _ (by omega) (by omega)).mono ?_; rintro e w' ⟨rfl, rfl⟩))
      go_ret
      exact ⟨_, rfl, FU.out⟩
    · have e : unitSel r i = [] := by unfold unitSel unitOk; rw [decide_eq_false (fun q => hi q.2)]; rfl
      rw [e]
      have HI := Lib.hid hi
      have FN : Hid (Fresh (Own 3 FI) w (w.alloc (.cells #[] 3)) (.slice (some ⟨w.heap.size, 0, none⟩) 0 0) ([] : List Int)) := Lib.hid ((Row_lit (E := 3) w #[] (Nat.le_refl _) (by simp)).freshI (below_alloc w _) rfl)
      clear e hi
      go_enter Try.func23, Try.ntmps23
      go_wp2_with fail
      refine (specIn_t _ _ _ _ hr.1 hr.2).mono ?_
      rintro e w' ⟨rfl, rfl⟩
      go_wp2_with fail
      refine (specIn_f _ _ _ _ HI.out).mono ?_
      rintro e w' ⟨rfl, rfl⟩
      go_wp2
      go_ret
      exact ⟨_, rfl, FN.out⟩
  · have e : unitSel r i = [] := by unfold unitSel unitOk; rw [decide_eq_false (fun q => hr q.1)]; rfl
    rw [e]
    have HR := Lib.hid hr
    have FN : Hid (Fresh (Own 3 FI) w (w.alloc (.cells #[] 3)) (.slice (some ⟨w.heap.size, 0, none⟩) 0 0) ([] : List Int)) := Lib.hid ((Row_lit (E := 3) w #[] (Nat.le_refl _) (by simp)).freshI (below_alloc w _) rfl)
    clear e hr
    go_enter Try.func23, Try.ntmps23
    go_wp2_with fail
    refine (specIn_f _ _ _ _ HR.out).mono ?_
    rintro e w' ⟨rfl, rfl⟩
    go_wp2
    go_ret
    exact ⟨_, rfl, FN.out⟩
/-- Two selections combined. -/
def xorSel (a b : List Int) : List Int := if isSel a a.length && isSel b a.length then List.zipWith xorI a b else []
theorem xorSel_len (a b : List Int) : (xorSel a b).length ≤ 64 := by
  unfold xorSel
  split
  · rename_i h
    rw [Bool.and_eq_true] at h
    have := (isSel_len h.1).1
    rw [List.length_zipWith]
    omega
  · simp
theorem zipI_get {a b : List Int} {k : Nat} {x y : Int} (hx : a[k]? = some x) (hy : b[k]? = some y) : (List.zipWith xorI a b)[k]? = some (xorI x y) := by rw [List.getElem?_zipWith, hx, hy]
/-- The first k numbers combined, the others as they were. -/
def xsP (a b : List Int) (k : Nat) : List Int := (List.zipWith xorI a b).take k ++ a.drop k
theorem xsP_zero (a b : List Int) : xsP a b 0 = a := by simp [xsP]
theorem zipI_len (a b : List Int) (h : a.length = b.length) : (List.zipWith xorI a b).length = a.length := by rw [List.length_zipWith]; omega
theorem xsP_full (a b : List Int) (h : a.length = b.length) : xsP a b a.length = List.zipWith xorI a b := by
  unfold xsP
  rw [List.take_of_length_le (by rw [zipI_len a b h]; exact Nat.le_refl _), List.drop_of_length_le (Nat.le_refl _), List.append_nil]
theorem xsP_get (a b : List Int) (k : Nat) (h : a.length = b.length) (hk : k < a.length) : (xsP a b k)[k]? = a[k]? := by
  unfold xsP
  have e : ((List.zipWith xorI a b).take k).length = k := by rw [List.length_take, zipI_len a b h]; omega
  rw [List.getElem?_append_right (by omega), e, Nat.sub_self, List.getElem?_drop]
  simp
theorem xsP_set (a b : List Int) (k : Nat) (h : a.length = b.length) (x y : Int) (hx : a[k]? = some x) (hy : b[k]? = some y) : (xsP a b k).set k (xorI x y) = xsP a b (k + 1) := by
  have hk : k < a.length := (List.getElem?_eq_some_iff.1 hx).1
  have e : ((List.zipWith xorI a b).take k).length = k := by rw [List.length_take, zipI_len a b h]; omega
  unfold xsP
  rw [List.set_append, if_neg (by omega), e, Nat.sub_self, List.drop_eq_getElem_cons hk, List.set_cons_zero, take_succ_get _ k _ (zipI_get hx hy)]
  simp
set_option maxHeartbeats 2000000 in
set_option maxRecDepth 100000 in
theorem specXorSel_c (v1 v2 : Value) (a b : List Int) (w : World) (h1 : Rd RI w v1 a) (h2 : Rd RI w v2 b) (hm : a.length ≤ 1048576) :
    Calls Try.prog 47 #[v1, v2] w fun e w' => ∃ v', e = .returned v' ∧ Fresh (Own 3 FI) w w' v' (xorSel a b) := by
  obtain ⟨A, n, c, rfl, h1'⟩ := h1
  obtain ⟨B, m, d, rfl, h2'⟩ := h2
  obtain rfl := h1'.1
  have h1 : Rd RI w (.slice A a.length c) a := ⟨_, _, _, rfl, h1'⟩
  have h2 : Rd RI w (.slice B m d) b := ⟨_, _, _, rfl, h2'⟩
  have HBL := Lib.hid h2'.1
  have HA := Lib.hid h1'
  have HB := Lib.hid h2'
  have hca := Nat.le_trans h1'.2.1 h1'.2.2.1
  have hcb := Nat.le_trans h2'.2.1 h2'.2.2.1
  unfold maxLen at hca hcb
  have VA : Hid (∀ o, isSel a a.length = o → ∀ W, Rd RI W (.slice A a.length c) a → Calls Try.prog 110 #[.slice A a.length c, .int .i64 (a.length : Int)] W fun e w' => e = .returned (.bool o) ∧ W = w') := Lib.hid (fun o ho W h => by rw [← ho]; exact specIsSel_c _ a _ W h)
  have VB : Hid (∀ o, isSel b a.length = o → ∀ W, Rd RI W (.slice B m d) b → Calls Try.prog 110 #[.slice B m d, .int .i64 (a.length : Int)] W fun e w' => e = .returned (.bool o) ∧ W = w') := Lib.hid (fun o ho W h => by rw [← ho]; exact specIsSel_c _ b _ W h)
  clear h1' h2'
  have R1 := Rd_reads RI_reads _ _ _ _ h1 (below_alloc w (.cells #[] 3))
  have R2 := Rd_reads RI_reads _ _ _ _ h2 (below_alloc w (.cells #[] 3))
  have FN : Hid (Fresh (Own 3 FI) w (w.alloc (.cells #[] 3)) (.slice (some ⟨w.heap.size, 0, none⟩) 0 0) ([] : List Int)) := Lib.hid ((Row_lit (E := 3) w #[] (Nat.le_refl _) (by simp)).freshI (below_alloc w _) rfl)
  cases ha : isSel a a.length with
  | false =>
    have e : xorSel a b = [] := by unfold xorSel; rw [ha]; rfl
    rw [e]
    have OA := Lib.hid ha
    clear e ha
    go_enter Try.func47, Try.ntmps47
    go_wp2_with fail
    refine (VA.out _ OA.out _ R1).mono ?_
    rintro e w1 ⟨rfl, rfl⟩
    go_wp2
    go_ret
    exact ⟨_, rfl, FN.out⟩
  | true =>
    cases hb : isSel b a.length with
    | false =>
      have e : xorSel a b = [] := by unfold xorSel; rw [ha, hb]; rfl
      rw [e]
      have OA := Lib.hid ha
      have OB := Lib.hid hb
      clear e ha hb
      go_enter Try.func47, Try.ntmps47
      go_wp2_with fail
      refine (VA.out _ OA.out _ R1).mono ?_
      rintro e w1 ⟨rfl, rfl⟩
      go_wp2_with fail
      refine (VB.out _ OB.out _ R2).mono ?_
      rintro e w1 ⟨rfl, rfl⟩
      go_wp2
      go_ret
      exact ⟨_, rfl, FN.out⟩
    | true =>
      have e : xorSel a b = List.zipWith xorI a b := by unfold xorSel; rw [ha, hb]; rfl
      rw [e]
      have hl := isSel_len hb
      obtain rfl : m = a.length := by have := HBL.out; omega
      have HL : Hid (a.length = b.length) := Lib.hid HBL.out.symm
      have OA := Lib.hid ha
      have OB := Lib.hid hb
      have hl64 : a.length ≤ 64 := by omega
      clear e ha hb hl
      go_enter Try.func47, Try.ntmps47
      go_wp2_with fail
      refine (VA.out _ OA.out _ R1).mono ?_
      rintro e w1 ⟨rfl, rfl⟩
      go_wp2_with fail
      refine (VB.out _ OB.out _ R2).mono ?_
      rintro e w1 ⟨rfl, rfl⟩
      go_wp2
      go_loopw [5, 6] (fun o i wr => ∃ k : Nat, k ≤ a.length ∧ i = .int .i64 k ∧ Row 3 w.heap.size wr o k (((List.zipWith xorI a b).take k).map (fun x => Value.int .i64 x)) ∧ Below w.heap.size w wr) (fun _ i _ => a.length - (intOf i).toNat)
      case atStart => exact ⟨0, Nat.zero_le _, rfl, Row_lit w #[] (Nat.le_refl _) (by simp), below_alloc w _⟩
      case round =>
        obtain ⟨k, hk, rfl, hrow, hb⟩ := hrel
        by_cases hlt : k < a.length
        · obtain ⟨b1, off1, x, u1, rfl, hbb1, hx, hu1, hr1⟩ := HA.out.at_ hlt
          obtain ⟨b2, off2, y, u2, rfl, hbb2, hy, hu2, hr2⟩ := HB.out.at_ hlt
          unfold RI at hr1 hr2
          subst hr1
          subst hr2
          have g1 : wr.drew.cell? ⟨b1, off1 + k, none⟩ = some (.int .i64 x) := (hb.cell (p := ⟨b1, off1 + k, none⟩) hbb1).trans hu1
          have g2 : wr.drew.cell? ⟨b2, off2 + k, none⟩ = some (.int .i64 y) := (hb.cell (p := ⟨b2, off2 + k, none⟩) hbb2).trans hu2
          have HZ := Lib.hid (take_succ_get _ k _ (zipI_get hx hy))
          obtain ⟨z, hz⟩ : ∃ z, bits .xor .i64 x y = z := ⟨_, rfl⟩
          have HZ2 : Hid (xorI x y = z) := Lib.hid hz
          have hk0 : (0 : Int) ≤ (k : Int) := by omega
          have hkn : (k : Int) < (a.length : Int) := by omega
          obtain ⟨Ao, lo, co, rfl⟩ := own_shape hrow.1
          have m1 : (wr.alloc (.cells #[.int .i64 z] 3)).drew.cell? ⟨b1, off1 + k, none⟩ = some (.int .i64 x) := ((below_alloc wr (.cells #[.int .i64 z] 3)).cell (p := ⟨b1, off1 + k, none⟩) (Nat.lt_of_lt_of_le hbb1 hb.size)).trans g1
          have m2 : (wr.alloc (.cells #[.int .i64 z] 3)).drew.cell? ⟨b2, off2 + k, none⟩ = some (.int .i64 y) := ((below_alloc wr (.cells #[.int .i64 z] 3)).cell (p := ⟨b2, off2 + k, none⟩) (Nat.lt_of_lt_of_le hbb2 hb.size)).trans g2
          have HOWN : (wr.alloc (.cells #[.int .i64 z] 3)).drew.ownsRow 0 3 1 (.slice Ao lo co) k (((List.zipWith xorI a b).take k).map (fun x => Value.int .i64 x)) := hrow.1.alloc _
          have HSRC : Src (wr.alloc (.cells #[.int .i64 z] 3)).drew (some ⟨wr.heap.size, 0, none⟩) 1 [.int .i64 z] := Src_one wr (.int .i64 z) 3
          have HU := Lib.hid (And.intro hu1 hu2)
          clear hx hy hu1 hu2
          go_wp2_with fail
          go_region_held3 (fun w' => w'.cell? ⟨b1, off1 + k, none⟩ = some (.int .i64 x) ∧ w'.cell? ⟨b2, off2 + k, none⟩ = some (.int .i64 y))
            (first | (exact ⟨g1, g2⟩) | (exact ⟨m1, m2⟩) | (exact ⟨k1, k2⟩) | go_keep)
            (first | (refine step_app elI (by rfl) _ _ (by rfl) (.slice Ao lo co) k _ (by rfl) HOWN (some ⟨wr.heap.size, 0, none⟩) 1 1 [.int .i64 z] (by rfl) HSRC (one_single _ rfl) (by simp only [maxLen]; omega) (by omega) ?_; intro v4 w4 hown hg hat; have P := hrow.app hb hb.size hown (grown_drew hg) hat; have k1 := (P.2.cell (p := ⟨b1, off1 + k, none⟩) hbb1).trans HU.out.1; have k2 := (P.2.cell (p := ⟨b2, off2 + k, none⟩) hbb2).trans HU.out.2; have PH := Lib.hid P; clear P hown hg hat))
          have PP : Hid (Row 3 w.heap.size w4 v4 (k + 1) (((List.zipWith xorI a b).take (k + 1)).map (fun x => Value.int .i64 x))) := Lib.hid (by rw [HZ.out, List.map_append, List.map_cons, List.map_nil, HZ2.out]; exact PH.out.1)
          go_wp2
          go_roundw
          case rel => exact ⟨k + 1, by omega, by go_num, PP.out, PH.out.2⟩
          case measure => simp [intOf]; omega
        · have hkn : k = a.length := by omega
          subst hkn
          rw [List.take_of_length_le (by rw [zipI_len a b HL.out]; exact Nat.le_refl _)] at hrow
          go_wp2
          go_ret
          exact ⟨_, rfl, hrow.freshI hb rfl⟩
set_option maxHeartbeats 2000000 in
set_option maxRecDepth 100000 in
theorem implXorSel_c (v1 v2 : Value) (a b : List Int) (w : World) (h1 : Rd RI w v1 a) (h2 : Rd RI w v2 b) (hm : a.length ≤ 1048576) :
    Calls Try.prog 86 #[v1, v2] w fun e w' => ∃ v', e = .returned v' ∧ Fresh (Own 3 FI) w w' v' (xorSel a b) := by
  obtain ⟨A, n, c, rfl, h1'⟩ := h1
  obtain ⟨B, m, d, rfl, h2'⟩ := h2
  obtain rfl := h1'.1
  have h1 : Rd RI w (.slice A a.length c) a := ⟨_, _, _, rfl, h1'⟩
  have h2 : Rd RI w (.slice B m d) b := ⟨_, _, _, rfl, h2'⟩
  have HBL := Lib.hid h2'.1
  have HA := Lib.hid h1'
  have HB := Lib.hid h2'
  have hca := Nat.le_trans h1'.2.1 h1'.2.2.1
  have hcb := Nat.le_trans h2'.2.1 h2'.2.2.1
  unfold maxLen at hca hcb
  have VA : Hid (∀ o, isSel a a.length = o → ∀ W, Rd RI W (.slice A a.length c) a → Calls Try.prog 87 #[.slice A a.length c, .int .i64 (a.length : Int)] W fun e w' => e = .returned (.bool o) ∧ W = w') := Lib.hid (fun o ho W h => by rw [← ho]; exact implIsSel_c _ a _ W h)
  have VB : Hid (∀ o, isSel b a.length = o → ∀ W, Rd RI W (.slice B m d) b → Calls Try.prog 87 #[.slice B m d, .int .i64 (a.length : Int)] W fun e w' => e = .returned (.bool o) ∧ W = w') := Lib.hid (fun o ho W h => by rw [← ho]; exact implIsSel_c _ b _ W h)
  clear h1' h2'
  have R1 := h1
  have R2 := h2
  have FN : Hid (Fresh (Own 3 FI) w w (.slice none 0 0) ([] : List Int)) := Lib.hid (fresh_flatI (World.ownsRow_nil _ _ _ _) rfl (by simp [Value.ownBlock]) (Below.refl _ _))
  cases ha : isSel a a.length with
  | false =>
    have e : xorSel a b = [] := by unfold xorSel; rw [ha]; rfl
    rw [e]
    have OA := Lib.hid ha
    clear e ha
    go_enter Try.func86, Try.ntmps86
    go_wp2_with fail
    refine (VA.out _ OA.out _ R1).mono ?_
    rintro e w1 ⟨rfl, rfl⟩
    go_wp2
    go_ret
    exact ⟨_, rfl, FN.out⟩
  | true =>
    cases hb : isSel b a.length with
    | false =>
      have e : xorSel a b = [] := by unfold xorSel; rw [ha, hb]; rfl
      rw [e]
      have OA := Lib.hid ha
      have OB := Lib.hid hb
      clear e ha hb
      go_enter Try.func86, Try.ntmps86
      go_wp2_with fail
      refine (VA.out _ OA.out _ R1).mono ?_
      rintro e w1 ⟨rfl, rfl⟩
      go_wp2_with fail
      refine (VB.out _ OB.out _ R2).mono ?_
      rintro e w1 ⟨rfl, rfl⟩
      go_wp2
      go_ret
      exact ⟨_, rfl, FN.out⟩
    | true =>
      have e : xorSel a b = List.zipWith xorI a b := by unfold xorSel; rw [ha, hb]; rfl
      rw [e]
      have hl := isSel_len hb
      obtain rfl : m = a.length := by have := HBL.out; omega
      have HL : Hid (a.length = b.length) := Lib.hid HBL.out.symm
      have OA := Lib.hid ha
      have OB := Lib.hid hb
      have hl64 : a.length ≤ 64 := by omega
      clear e ha hb hl
      go_enter Try.func86, Try.ntmps86
      go_wp2_with fail
      refine (VA.out _ OA.out _ R1).mono ?_
      rintro e w1 ⟨rfl, rfl⟩
      go_wp2_with fail
      refine (VB.out _ OB.out _ R2).mono ?_
      rintro e w1 ⟨rfl, rfl⟩
      go_wp2_with fail
      refine (CloneI_c _ a _ R1 (by omega)).mono ?_
      rintro e w1 ⟨v1, rfl, F⟩
      rcases Iv_flatI (F.iv (Own_good FI_good)) with ⟨rfl, hx0⟩ | ⟨g, cap, rfl, hnc, hcm, hg1, _, hown⟩
      · have hb := F.below
        have HX := Lib.hid hx0
        have hl0 : a.length = 0 := by rw [hx0]; rfl
        have FZ : Hid (Fresh (Own 3 FI) w w1 (.slice none 0 0) (List.zipWith xorI a b)) := Lib.hid (by rw [HX.out]; exact fresh_flatI (World.ownsRow_nil _ _ _ _) rfl (by simp [Value.ownBlock]) hb)
        clear F hx0 hl64 hb
        go_wp2
        refine wp_loop_rounds 1 ?_
        rw [rounds_succ]
        go_wp2
        go_ret
        exact ⟨_, rfl, FZ.out⟩
      · have hb := F.below
        have HO := Lib.hid hown
        unfold maxLen at hcm
        clear F hown
        go_wp2
        go_loopw [24] (fun i wr => ∃ k : Nat, k ≤ a.length ∧ i = .int .i64 k ∧ Hid (wr.ownsRow 0 3 1 (.slice (some ⟨g, 0, none⟩) a.length cap) a.length ((xsP a b k).map (fun x => Value.int .i64 x))) ∧ Below w.heap.size w wr) (fun i _ => a.length - (intOf i).toNat)
        case atStart => exact ⟨0, Nat.zero_le _, rfl, Lib.hid (by rw [xsP_zero]; exact HO.out), hb⟩
        case round =>
          obtain ⟨k, hk, rfl, hown, hb⟩ := hrel
          by_cases hlt : k < a.length
          · obtain ⟨b2, off2, y, u2, rfl, hbb2, hy, hu2, hr2⟩ := HB.out.at_ hlt
            unfold RI at hr2
            subst hr2
            have g1 := (hb.cell (p := ⟨b2, off2 + k, none⟩) hbb2).trans hu2
            obtain ⟨x, hx⟩ : ∃ x, a[k]? = some x := ⟨_, List.getElem?_eq_getElem hlt⟩
            have g2 := (hown.out.cellAt k (by omega)).trans (by rw [List.getElem?_map, xsP_get a b k HL.out hlt, hx, Option.map_some])
            have g3 := hown.out.frozenAt k
            obtain ⟨z, hz⟩ : ∃ z, bits .xor .i64 x y = z := ⟨_, rfl⟩
            have HZ2 : Hid (xorI x y = z) := Lib.hid hz
            have HS := Lib.hid (xsP_set a b k HL.out x y hx hy)
            clear hx hy hu2
            go_wp2
            have st := hown.out.stored k (.int .i64 z)
            rw [show ((xsP a b k).map (fun x => Value.int .i64 x)).set k (.int .i64 z) = (xsP a b (k + 1)).map (fun x => Value.int .i64 x) by rw [← HS.out, ← HZ2.out, List.map_set]] at st
            go_roundw
            case rel => exact ⟨k + 1, by omega, by go_num, st.1, hb.setCell hg1 _⟩
            case measure => simp [intOf]; omega
          · have hkm : k = a.length := by omega
            subst hkm
            have ho := hown.out
            rw [xsP_full a b HL.out] at ho
            have HO2 := Lib.hid ho
            clear ho hown
            go_wp2
            go_ret
            exact ⟨_, rfl, fresh_flatI HO2.out rfl (fun b hb => by simp [Value.ownBlock] at hb; omega) hb⟩
def rbit (s : Int) (i : Nat) : Int := khash s [(i : Int), 41] * khash s [(i : Int), 41] % 2147483647 / 512 % 2
def randS (s : Int) (n : Nat) : List Int := (List.range n).map (rbit s)
def randSel (s r : Int) : List Int := if 0 ≤ r ∧ r ≤ 64 then randS s r.toNat else []
theorem randS_succ (s : Int) (n : Nat) : randS s (n + 1) = randS s n ++ [rbit s n] := by simp [randS, List.range_succ]
theorem randS_len (s : Int) (n : Nat) : (randS s n).length = n := by simp [randS]
theorem randSel_len (s r : Int) : (randSel s r).length ≤ 64 := by
  unfold randSel
  split
  · rw [randS_len]; omega
  · simp
set_option maxHeartbeats 1000000 in
theorem specRand_c (s r : Int) (w : World) (h1 : -9223372036854775808 ≤ r) (h2 : r ≤ 9223372036854775807) :
    Calls Try.prog 137 #[.int .i64 s, .int .i64 r] w fun e w' => ∃ v', e = .returned v' ∧ Fresh (Own 3 FI) w w' v' (randSel s r) := by
  by_cases h : 0 ≤ r ∧ r ≤ 64
  · obtain ⟨n, rfl⟩ := Int.eq_ofNat_of_zero_le h.1
    have hn : n ≤ 64 := by omega
    have e : randSel s (n : Int) = randS s n := by unfold randSel; rw [if_pos h, Int.toNat_natCast]
    rw [e]
    clear e h h1 h2
    go_enter Try.func137, Try.ntmps137
    go_wp2
    go_loopw [5, 6] (fun o i wr => ∃ j : Nat, j ≤ n ∧ i = .int .i64 j ∧ Row 3 w.heap.size wr o j ((randS s j).map (fun x => Value.int .i64 x)) ∧ Below w.heap.size w wr) (fun _ i _ => n - (intOf i).toNat)
    case atStart => exact ⟨0, Nat.zero_le _, rfl, Row_lit w #[] (Nat.le_refl _) (by simp), below_alloc w _⟩
    case round =>
      obtain ⟨j, hj, rfl, hrow, hb⟩ := hrel
      by_cases hlt : j < n
      · go_wp2_with fail
        refine (specKeyedHash_c _ _ [(j : Int), 41] _ (Rd_litI2 wr j 41 3) (by simp)).mono ?_
        rintro e w1 ⟨rfl, b⟩
        have hr := khash_range s [(j : Int), 41]
        have HS := Lib.hid (randS_succ s j)
        have HV : Hid (rbit s j = khash s [(j : Int), 41] * khash s [(j : Int), 41] % 2147483647 / 512 % 2) := Lib.hid rfl
        have bb := (below_alloc wr (.cells #[.int .i64 (j : Int), .int .i64 41] 3)).trans (b.mono (by simp))
        have hrow1 := hrow.below bb
        have hb1 := hb.trans (bb.mono hb.size)
        generalize khash s [(j : Int), 41] = q at *
        have hm : 0 ≤ q * q ∧ q * q < 4611686018427387904 := sq_range q hr.1 hr.2
        clear b bb
        go_wp2_with (at_builtin; refine wpList_app elI rfl (.tmp 22) (.tmp 29) rfl _ j _ rfl (hrow1.1.alloc _) (some ⟨w1.heap.size, 0, none⟩) 1 1 [.int .i64 (bits .and .i64 (q * q % 2147483647 / 512) 1)] rfl (Src_one _ _ _) (one_single _ rfl) (by simp only [maxLen]; omega) (by omega) ?_; intro v2 w2 hown2 hg2 hat2)
        have r := hrow1.app hb1 hb1.size hown2 hg2 hat2
        rw [i64_and1, show (randS s j).map (fun x => Value.int .i64 x) ++ [.int .i64 (q * q % 2147483647 / 512 % 2)] = (randS s (j + 1)).map (fun x => Value.int .i64 x) by rw [HS.out]; simp [HV.out]] at r
        go_roundw
        case rel => exact ⟨j + 1, by omega, by go_num, r.1, r.2⟩
        case measure => simp [intOf]; omega
      · have hjn : j = n := by omega
        subst hjn
        go_wp2
        go_ret
        exact ⟨_, rfl, hrow.freshI hb rfl⟩
  · have e : randSel s r = [] := by unfold randSel; rw [if_neg h]
    rw [e]
    have F : Hid (Fresh (Own 3 FI) w (w.alloc (.cells #[] 3)) (.slice (some ⟨w.heap.size, 0, none⟩) 0 0) ([] : List Int)) := Lib.hid ((Row_lit (E := 3) w #[] (Nat.le_refl _) (by simp)).freshI (below_alloc w _) rfl)
    by_cases hp : 0 < r
    · have hp4 : ¬ r ≤ 64 := by omega
      clear e h
      go_enter Try.func137, Try.ntmps137
      go_wp2
      refine wp_loop_rounds 1 ?_
      rw [rounds_succ]
      go_wp2
      go_ret
      exact ⟨_, rfl, F.out⟩
    · clear e h
      go_enter Try.func137, Try.ntmps137
      go_wp2
      refine wp_loop_rounds 1 ?_
      rw [rounds_succ]
      go_wp2
      go_ret
      exact ⟨_, rfl, F.out⟩
set_option maxHeartbeats 1000000 in
theorem implRand_c (s r : Int) (w : World) (h1 : -9223372036854775808 ≤ r) (h2 : r ≤ 9223372036854775807) :
    Calls Try.prog 85 #[.int .i64 s, .int .i64 r] w fun e w' => ∃ v', e = .returned v' ∧ Fresh (Own 3 FI) w w' v' (randSel s r) := by
  by_cases h : 0 ≤ r ∧ r ≤ 64
  · obtain ⟨n, rfl⟩ := Int.eq_ofNat_of_zero_le h.1
    have hn : n ≤ 64 := by omega
    have e : randSel s (n : Int) = randS s n := by unfold randSel; rw [if_pos h, Int.toNat_natCast]
    rw [e]
    clear e h h1 h2
    go_enter Try.func85, Try.ntmps85
    go_wp2_with (go_at_call 100; refine (implIn_t _ _ _ _ (by omega) (by omega)).mono ?_; rintro e w' ⟨rfl, rfl⟩)
    go_loopw [5, 13] (fun o i wr => ∃ j : Nat, j ≤ n ∧ i = .int .i64 j ∧ Row 3 w.heap.size wr o j ((randS s j).map (fun x => Value.int .i64 x)) ∧ Below w.heap.size w wr) (fun _ i _ => n - (intOf i).toNat)
    case atStart => exact ⟨0, Nat.zero_le _, rfl, Row_lit w #[] (Nat.le_refl _) (by simp), below_alloc w _⟩
    case round =>
      obtain ⟨j, hj, rfl, hrow, hb⟩ := hrel
      by_cases hlt : j < n
      · go_wp2_with fail
        refine (implKeyedHash_c _ _ [(j : Int), 41] _ (Rd_litI2 wr j 41 3) (by simp)).mono ?_
        rintro e w1 ⟨rfl, b⟩
        have hr := khash_range s [(j : Int), 41]
        have HS := Lib.hid (randS_succ s j)
        have HV : Hid (rbit s j = khash s [(j : Int), 41] * khash s [(j : Int), 41] % 2147483647 / 512 % 2) := Lib.hid rfl
        have bb := (below_alloc wr (.cells #[.int .i64 (j : Int), .int .i64 41] 3)).trans (b.mono (by simp))
        have hrow1 := hrow.below bb
        have hb1 := hb.trans (bb.mono hb.size)
        generalize khash s [(j : Int), 41] = q at *
        have hm : 0 ≤ q * q ∧ q * q < 4611686018427387904 := sq_range q hr.1 hr.2
        clear b bb
        go_wp2_with (at_builtin; refine wpList_app elI rfl (.tmp 20) (.tmp 27) rfl _ j _ rfl (hrow1.1.alloc _) (some ⟨w1.heap.size, 0, none⟩) 1 1 [.int .i64 (bits .and .i64 (q * q % 2147483647 / 512) 1)] rfl (Src_one _ _ _) (one_single _ rfl) (by simp only [maxLen]; omega) (by omega) ?_; intro v2 w2 hown2 hg2 hat2)
        have r := hrow1.app hb1 hb1.size hown2 hg2 hat2
        rw [i64_and1, show (randS s j).map (fun x => Value.int .i64 x) ++ [.int .i64 (q * q % 2147483647 / 512 % 2)] = (randS s (j + 1)).map (fun x => Value.int .i64 x) by rw [HS.out]; simp [HV.out]] at r
        go_roundw
        case rel => exact ⟨j + 1, by omega, by go_num, r.1, r.2⟩
        case measure => simp [intOf]; omega
      · have hjn : j = n := by omega
        subst hjn
        go_wp2
        go_ret
        exact ⟨_, rfl, hrow.freshI hb rfl⟩
  · have e : randSel s r = [] := by unfold randSel; rw [if_neg h]
    rw [e]
    have F : Hid (Fresh (Own 3 FI) w w (.slice none 0 0) ([] : List Int)) := Lib.hid (fresh_flatI (World.ownsRow_nil _ _ _ _) rfl (by simp [Value.ownBlock]) (Below.refl _ _))
    have HH := Lib.hid h
    clear e h
    go_enter Try.func85, Try.ntmps85
    go_wp2_with (go_at_call 100; refine (implIn_f _ _ _ _ HH.out).mono ?_; rintro e w' ⟨rfl, rfl⟩)
    go_ret
    exact ⟨_, rfl, F.out⟩
end Go.Proofs.Ytceogegjghmonaa
