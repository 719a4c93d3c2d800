/- Equality of byte lists and databases on both sides; CountRowsWritten. -/
import Derived.Test.YtokhogdocaeelaaFunc
import Derived.Laws.BytesArg
import Derived.Deep.RegionHeld3
namespace Go.Proofs.Ytokhogdocaeelaa
set_option linter.unusedVariables false
open Go.RowKit

theorem run_str {w : World} {A : Option Addr} {n c : Nat} {xs : List UInt8} (h : RdAt RB w A n c xs) {src e dst : TypeId} {P : Program} (hs : P.underlying src = some (.slice e)) (he : P.underlying e = some (.int .u8)) (hd : P.underlying dst = some .string) :
    (convert src dst (.slice A n c)).run P w = .ok (.string ⟨xs.toArray⟩) w := by
  rcases Nat.eq_zero_or_pos n with h0 | hp
  · subst h0
    have hx : xs = [] := List.eq_nil_of_length_eq_zero h.1
    subst hx
    rw [run_convert_bytes_string w src dst e _ 0 c hs he hd]
    cases A with
    | none => simp [Conv.bytesToString]; rfl
    | some a =>
      rw [run_bytesToString w a 0 c [] (by have := run_loadCells_list (P := P) w a [] (fun j v hj => by simp at hj); simpa using this)]
      rfl
  · obtain ⟨b, off, rfl, hb, hc⟩ := h.2.2.2 hp
    have := run_convert_bytes_arg (P := P) w src e hs he b off n c (xs.map fun x => (x.toNat : Int)) (by simpa using h.1) (fun i hi => by
      have hil : i < xs.length := by rw [h.1]; exact hi
      obtain ⟨u, hu, hr⟩ := hc i _ (List.getElem?_eq_getElem hil)
      unfold RB at hr
      subst hr
      simpa [List.getD, List.getElem?_eq_getElem hil] using hu) dst hd
    rw [this]
    have hm : (xs.map fun x => (x.toNat : Int)).map (fun n => UInt8.ofNat n.toNat) = xs := by
      rw [List.map_map]
      exact (List.map_congr_left (g := id) fun x hx => by simp).trans (List.map_id _)
    unfold strOfNums
    rw [hm]

theorem str_beq (xs ys : List UInt8) : (xs == ys) = decide (xs = ys) := by
  by_cases h : xs = ys
  · subst h; simp
  · rw [decide_eq_false h]
    exact beq_eq_false_iff_ne.2 h

theorem take_eq_succ {α : Type} {xs ys : List α} {k : Nat} {x : α} (h : xs.take k = ys.take k) (hx : xs[k]? = some x) (hy : ys[k]? = some x) : xs.take (k + 1) = ys.take (k + 1) := by
  rw [take_succ_get xs k x hx, take_succ_get ys k x hy, h]
theorem ne_of_get {α : Type} {xs ys : List α} {k : Nat} {x y : α} (hx : xs[k]? = some x) (hy : ys[k]? = some y) (h : x ≠ y) : xs ≠ ys := fun e => by
  subst e; rw [hx] at hy; injection hy with hy; exact h hy

set_option maxHeartbeats 1000000 in
theorem EqualB_c (v1 v2 : Value) (xs ys : List UInt8) (w : World) (h1 : Rd RB w v1 xs) (h2 : Rd RB w v2 ys) :
    Calls Try.prog 92 #[v1, v2] w fun e w' => e = .returned (.bool (decide (xs = ys))) ∧ Below w.heap.size w w' := by
  obtain ⟨A, n, c, rfl, h⟩ := h1
  obtain ⟨B, m, d, rfl, h'⟩ := h2
  have hcm := h.2.2.1
  have hnc := h.2.1
  have hcm' := h'.2.2.1
  have hnc' := h'.2.1
  unfold maxLen at hcm hcm'
  have H := Lib.hid h
  have H' := Lib.hid h'
  by_cases hnm : n = m
  · subst hnm
    clear h h'
    go_enter Try.func92, Try.ntmps92
    go_wp2
    go_loopw [13] (fun i wr => ∃ k : Nat, k ≤ n ∧ i = .int .i64 k ∧ Hid (xs.take k = ys.take k) ∧ Below w.heap.size w wr) (fun i _ => n - (intOf i).toNat)
    case atStart => exact ⟨0, Nat.zero_le _, rfl, Lib.hid rfl, Below.refl _ _⟩
    case round =>
      obtain ⟨k, hk, rfl, heq, hb⟩ := hrel
      by_cases hlt : k < n
      · obtain ⟨b, off, x, u, rfl, hbb, hx, hu, hr⟩ := H.out.at_ hlt
        obtain ⟨b', off', y, u', rfl, hbb', hy, hu', hr'⟩ := H'.out.at_ hlt
        have g1 := (hb.cell (p := ⟨b, off + k, none⟩) hbb).trans hu
        have g2 := (hb.cell (p := ⟨b', off' + k, none⟩) hbb').trans hu'
        unfold RB at hr hr'
        subst hr
        subst hr'
        have hk0 : (0 : Int) ≤ (k : Int) := by omega
        have hkn : (k : Int) < (n : Int) := by omega
        by_cases hxy : x = y
        · subst hxy
          have HS := Lib.hid (take_eq_succ heq.out hx hy)
          clear hx hy hu hu'
          go_wp2_with fail
          go_quiet (fail)
          go_wp2
          go_roundw
          case rel => exact ⟨k + 1, by omega, by go_num, HS, below_drewN hb _⟩
          case measure => simp [intOf]; omega
        · have HN := Lib.hid (ne_of_get hx hy hxy)
          have hz : ¬ (x.toNat : Int) = (y.toNat : Int) := fun e => hxy (by apply UInt8.toNat_inj.1; omega)
          clear hx hy hu hu' hxy
          go_wp2_with fail
          go_quiet (fail)
          go_wp2
          go_ret
          exact ⟨by rw [decide_eq_false HN.out]; rfl, below_drewN hb _⟩
      · have hkn : k = n := by omega
        subst hkn
        have he := heq.out
        rw [List.take_of_length_le (Nat.le_of_eq H.out.1), List.take_of_length_le (Nat.le_of_eq H'.out.1)] at he
        have HE := Lib.hid he
        clear he
        go_wp2
        go_ret
        exact ⟨by rw [decide_eq_true HE.out]; rfl, hb⟩
  · have HN : Hid (xs ≠ ys) := Lib.hid fun e => hnm (by rw [← h.1, ← h'.1, e])
    have hz : ¬ (n : Int) = (m : Int) := by omega
    clear h h' hnm
    go_enter Try.func92, Try.ntmps92
    go_wp2
    go_ret
    exact ⟨by rw [decide_eq_false HN.out]; rfl, Below.refl _ _⟩
theorem implEqualBytes_c (v1 v2 : Value) (xs ys : List UInt8) (w : World) (h1 : Rd RB w v1 xs) (h2 : Rd RB w v2 ys) :
    Calls Try.prog 117 #[v1, v2] w fun e w' => e = .returned (.bool (decide (xs = ys))) ∧ Below w.heap.size w w' := by
  have hc := EqualB_c v1 v2 xs ys w h1 h2
  obtain ⟨A, n, c, rfl, _⟩ := h1
  obtain ⟨B, m, d, rfl, _⟩ := h2
  go_enter Try.func117, Try.ntmps117
  go_wp2_with (refine hc.mono ?_; rintro e w1 ⟨rfl, b⟩)
  go_ret
  exact ⟨rfl, b⟩
theorem implEqualBytes_t (v1 v2 : Value) (xs : List UInt8) (w : World) (h1 : Rd RB w v1 xs) (h2 : Rd RB w v2 xs) :
    Calls Try.prog 117 #[v1, v2] w fun e w' => e = .returned (.bool true) ∧ Below w.heap.size w w' := by
  have := implEqualBytes_c v1 v2 xs xs w h1 h2
  rwa [decide_eq_true rfl] at this
theorem implEqualBytes_f (v1 v2 : Value) (xs ys : List UInt8) (w : World) (hne : xs ≠ ys) (h1 : Rd RB w v1 xs) (h2 : Rd RB w v2 ys) :
    Calls Try.prog 117 #[v1, v2] w fun e w' => e = .returned (.bool false) ∧ Below w.heap.size w w' := by
  have := implEqualBytes_c v1 v2 xs ys w h1 h2
  rwa [decide_eq_false hne] at this
set_option maxHeartbeats 2000000 in
theorem EqualFunc_c (v1 v2 : Value) (xs ys : List (List UInt8)) (w : World) (h1 : Rd (Rd RB) w v1 xs) (h2 : Rd (Rd RB) w v2 ys) :
    Calls Try.prog 116 #[v1, v2, .func (.func 117) #[] #[]] w fun e w' => e = .returned (.bool (decide (xs = ys))) ∧ Below w.heap.size w w' := by
  have eg : ∀ args w, (callFunc 117 args).run Try.prog w = .ok (.enter 117 args) w := enters_fn Try.func117 (by kernel_rfl) rfl
  obtain ⟨A, n, c, rfl, h⟩ := h1
  obtain ⟨B, m, d, rfl, h'⟩ := h2
  have hcm := h.2.2.1
  have hnc := h.2.1
  have hcm' := h'.2.2.1
  have hnc' := h'.2.1
  unfold maxLen at hcm hcm'
  have H := Lib.hid h
  have H' := Lib.hid h'
  by_cases hnm : n = m
  · subst hnm
    clear h h'
    go_enter Try.func116, Try.ntmps116
    go_wp2
    go_loopw [17] (fun i wr => ∃ k : Nat, k ≤ n ∧ i = .int .i64 k ∧ Hid (xs.take k = ys.take k) ∧ Below w.heap.size w wr) (fun i _ => n - (intOf i).toNat)
    case atStart => exact ⟨0, Nat.zero_le _, rfl, Lib.hid rfl, Below.refl _ _⟩
    case round =>
      obtain ⟨k, hk, rfl, heq, hb⟩ := hrel
      by_cases hlt : k < n
      · obtain ⟨b, off, x, u, rfl, hbb, hx, hu, hr⟩ := H.out.at_ hlt
        obtain ⟨b', off', y, u', rfl, hbb', hy, hu', hr'⟩ := H'.out.at_ hlt
        have g1 := (hb.cell (p := ⟨b, off + k, none⟩) hbb).trans hu
        have g2 := (hb.cell (p := ⟨b', off' + k, none⟩) hbb').trans hu'
        have r1 : Rd RB wr u x := Rd_reads RB_reads _ _ _ _ hr hb
        have r2 : Rd RB wr u' y := Rd_reads RB_reads _ _ _ _ hr' hb
        by_cases hxy : x = y
        · subst hxy
          have HS := Lib.hid (take_eq_succ heq.out hx hy)
          clear hx hy hu hu' hr hr'
          go_wp2_with (refine (implEqualBytes_t _ _ _ _ r1 r2).mono ?_; rintro e w1 ⟨rfl, b1⟩)
          have hb2 := hb.trans (b1.mono hb.size)
          go_roundw
          case rel => exact ⟨k + 1, by omega, by go_num, HS, hb2⟩
          case measure => simp [intOf]; omega
        · have HN := Lib.hid (ne_of_get hx hy hxy)
          have HXY : Hid (x ≠ y) := Lib.hid hxy
          clear hxy
          clear hx hy hu hu' hr hr'
          go_wp2_with (refine (implEqualBytes_f _ _ _ _ _ HXY.out r1 r2).mono ?_; rintro e w1 ⟨rfl, b1⟩)
          have hb2 := hb.trans (b1.mono hb.size)
          go_ret
          exact ⟨by rw [decide_eq_false HN.out]; rfl, hb2⟩
      · have hkn : k = n := by omega
        subst hkn
        have he := heq.out
        rw [List.take_of_length_le (Nat.le_of_eq H.out.1), List.take_of_length_le (Nat.le_of_eq H'.out.1)] at he
        have HE := Lib.hid he
        clear he
        go_wp2
        go_ret
        exact ⟨by rw [decide_eq_true HE.out]; rfl, hb⟩
  · have HN : Hid (xs ≠ ys) := Lib.hid fun e => hnm (by rw [← h.1, ← h'.1, e])
    have hz : ¬ (n : Int) = (m : Int) := by omega
    clear h h' hnm
    go_enter Try.func116, Try.ntmps116
    go_wp2
    go_ret
    exact ⟨by rw [decide_eq_false HN.out]; rfl, Below.refl _ _⟩
theorem implEqualLists_c (v1 v2 : Value) (xs ys : List (List UInt8)) (w : World) (h1 : Rd (Rd RB) w v1 xs) (h2 : Rd (Rd RB) w v2 ys) :
    Calls Try.prog 78 #[v1, v2] w fun e w' => e = .returned (.bool (decide (xs = ys))) ∧ Below w.heap.size w w' := by
  have hc := EqualFunc_c v1 v2 xs ys w h1 h2
  obtain ⟨A, n, c, rfl, _⟩ := h1
  obtain ⟨B, m, d, rfl, _⟩ := h2
  go_enter Try.func78, Try.ntmps78
  go_wp2_with (refine hc.mono ?_; rintro e w1 ⟨rfl, b⟩)
  go_ret
  exact ⟨rfl, b⟩
set_option maxHeartbeats 1000000 in
theorem implEqualDatabases_c (v1 v2 : Value) (xs ys : List (List UInt8)) (w : World) (h1 : Rd (Rd RB) w v1 xs) (h2 : Rd (Rd RB) w v2 ys) :
    Calls Try.prog 23 #[.agg #[v1], .agg #[v2]] w fun e w' => e = .returned (.bool (decide (xs = ys))) ∧ Below w.heap.size w w' := by
  obtain ⟨A, l, c, rfl, h1'⟩ := h1
  obtain ⟨B, k, d, rfl, h2'⟩ := h2
  have h1 : Rd (Rd RB) w (.slice A l c) xs := ⟨_, _, _, rfl, h1'⟩
  have h2 : Rd (Rd RB) w (.slice B k d) ys := ⟨_, _, _, rfl, h2'⟩
  clear h1' h2'
  go_enter Try.func23, Try.ntmps23
  go_wp2_with fail
  refine (implEqualLists_c _ _ _ _ _ (Rd_reads (Rd_reads RB_reads) _ _ _ _ h1 ?_) (Rd_reads (Rd_reads RB_reads) _ _ _ _ h2 ?_)).mono ?_
  · (repeat (first | exact Below.refl _ _ | refine Below.alloc ?_ (by simp; try omega) _ | refine Below.setCell ?_ (by simp; try omega) _))
  · (repeat (first | exact Below.refl _ _ | refine Below.alloc ?_ (by simp; try omega) _ | refine Below.setCell ?_ (by simp; try omega) _))
  rintro e w1 ⟨rfl, b⟩
  go_wp2
  go_ret
  exact ⟨rfl, Below.trans (b := (w.alloc (.cells #[.slice A l c] 31)).alloc (.cells #[.slice B k d] 31)) (by (repeat (first | exact Below.refl _ _ | refine Below.alloc ?_ (by simp; try omega) _ | refine Below.setCell ?_ (by simp; try omega) _))) (b.mono (by simp; omega))⟩
set_option maxHeartbeats 1000000 in
theorem implCountRowsWritten_c (v : Value) (xs : List (List UInt8)) (w : World) (h : Rd (Rd RB) w v xs) : Calls Try.prog 18 #[.agg #[v]] w fun e w' => e = .returned (.int .i64 ((xs.filter fun r => !isZero r).length : Nat)) ∧ Below w.heap.size w w' := by
  obtain ⟨A, n, c, rfl, h⟩ := h
  have hnc := h.2.1
  have hcm := h.2.2.1
  unfold maxLen at hcm
  have b0 := below_alloc w (.cells #[.slice A n c] 31)
  have H := Lib.hid h
  clear h
  go_enter Try.func18, Try.ntmps18
  go_wp2
  go_loopw [3, 9] (fun cnt i wr => ∃ k : Nat, k ≤ n ∧ i = .int .i64 k ∧ cnt = .int .i64 (((xs.take k).filter fun r => !isZero r).length : Nat) ∧ Hid (wr = w.alloc (.cells #[.slice A n c] 31))) (fun _ i _ => n - (intOf i).toNat)
  case atStart => exact ⟨0, Nat.zero_le _, rfl, by simp, Lib.hid rfl⟩
  case round =>
    obtain ⟨k, hk, rfl, rfl, hw⟩ := hrel
    obtain rfl := hw.out
    clear hw
    have hfl : ((xs.take k).filter fun r => !isZero r).length ≤ k := Nat.le_trans (List.length_filter_le _ _) (by rw [List.length_take]; omega)
    by_cases hlt : k < n
    · obtain ⟨b, off, y, u, rfl, hbb, hx, g1, hr⟩ := H.out.at_ hlt
      have g1' := (b0.cell (p := ⟨b, off + k, none⟩) hbb).trans g1
      have r1 := Rd_reads RB_reads _ _ _ _ hr b0
      have hsc := implIsZeroBytes_c _ _ _ r1
      have HT := Lib.hid (take_succ_get xs k y hx)
      clear hx hr r1
      cases hz : isZero y with
      | true =>
        rw [hz] at hsc
        have HZ := Lib.hid hz
        clear hz
        go_wp2_with (refine hsc.mono ?_; rintro e w1 ⟨rfl, rfl⟩)
        go_roundw
        case rel => exact ⟨k + 1, by omega, by go_num, by rw [HT.out]; simp [List.filter_append, HZ.out], Lib.hid (by first | trivial | rfl)⟩
        case measure => simp [intOf]; omega
      | false =>
        rw [hz] at hsc
        have HZ := Lib.hid hz
        clear hz
        go_wp2_with (refine hsc.mono ?_; rintro e w1 ⟨rfl, rfl⟩)
        go_roundw
        case rel => exact ⟨k + 1, by omega, by go_num, by rw [HT.out]; simp [List.filter_append, HZ.out]; try go_num, Lib.hid (by first | trivial | rfl)⟩
        case measure => simp [intOf]; omega
    · have hkn : k = n := by omega
      subst hkn
      have e := List.take_of_length_le (Nat.le_of_eq H.out.1)
      rw [e]
      go_wp2
      go_ret
      exact ⟨rfl, b0⟩
end Go.Proofs.Ytokhogdocaeelaa
