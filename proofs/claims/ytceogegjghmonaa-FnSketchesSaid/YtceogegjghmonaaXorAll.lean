/- XorAll and SelectXor of both sides. -/
import Derived.Test.YtceogegjghmonaaXor
import Derived.Test.YtceogegjghmonaaNestFns
namespace Go.Proofs.Ytceogegjghmonaa
set_option linter.unusedVariables false
open Go.RowKit

def xorAll (l : List (List UInt8)) : List UInt8 := l.foldl xorB []
theorem xorAll_snoc (l : List (List UInt8)) (x : List UInt8) : xorAll (l ++ [x]) = xorB (xorAll l) x := by simp [xorAll]
theorem foldx_len (l : List (List UInt8)) (acc : List UInt8) : (l.foldl xorB acc).length ≤ acc.length + sumL l := by
  induction l generalizing acc with
  | nil => simp [sumL]
  | cons x l ih =>
    have := ih (xorB acc x)
    rw [xorB_len] at this
    simp [sumL] at this ⊢
    omega
theorem xorAll_len (l : List (List UInt8)) : (xorAll l).length ≤ sumL l := by
  have := foldx_len l []
  simpa [xorAll] using this
def selP (rows : List (List UInt8)) (v : List Int) : Nat → List UInt8
  | 0 => []
  | k + 1 => if v.getD k 0 = 1 then xorB (selP rows v k) (rows.getD k []) else selP rows v k
def selX (rows : List (List UInt8)) (v : List Int) : List UInt8 := selP rows v rows.length
theorem selP_succ_t {rows : List (List UInt8)} {v : List Int} {k : Nat} {x : List UInt8} (hx : rows[k]? = some x) (hv : v[k]? = some 1) : selP rows v (k + 1) = xorB (selP rows v k) x := by
  simp [selP, List.getD, hx, hv]
theorem selP_succ_f {rows : List (List UInt8)} {v : List Int} {k : Nat} {y : Int} (hv : v[k]? = some y) (h : ¬ y = 1) : selP rows v (k + 1) = selP rows v k := by
  simp [selP, List.getD, hv, h]
theorem selP_succ_o {rows : List (List UInt8)} {v : List Int} {k : Nat} (hv : v.length ≤ k) : selP rows v (k + 1) = selP rows v k := by
  simp [selP, List.getD, List.getElem?_eq_none hv]
theorem selP_stop {rows : List (List UInt8)} {v : List Int} {k : Nat} (hv : v.length ≤ k) (d : Nat) : selP rows v (k + d) = selP rows v k := by
  induction d with
  | zero => rfl
  | succ d ih => rw [show k + (d + 1) = (k + d) + 1 by omega, selP_succ_o (by omega), ih]
theorem selP_len (rows : List (List UInt8)) (v : List Int) (k : Nat) : (selP rows v k).length ≤ sumL rows := by
  induction k with
  | zero => simp [selP]
  | succ k ih =>
    unfold selP
    split
    · rw [xorB_len]
      have : (rows.getD k []).length ≤ sumL rows := by
        by_cases h : k < rows.length
        · have := get_le_sumL rows k _ (List.getElem?_eq_getElem h)
          simpa [List.getD, List.getElem?_eq_getElem h] using this
        · simp [List.getD, List.getElem?_eq_none (Nat.le_of_not_lt h)]
      omega
    · exact ih

set_option maxHeartbeats 1000000 in
theorem specXorAll_c (v : Value) (l : List (List UInt8)) (w : World) (h : Rd (Rd RB) w v l) (hn : tot l ≤ 1048576) :
    Calls Try.prog 140 #[v] w fun e w' => ∃ v', e = .returned v' ∧ Fresh (Own 5 FB) w w' v' (xorAll l) := by
  obtain ⟨A, n, c, rfl, h⟩ := h
  have hnc := h.2.1
  have hcm := h.2.2.1
  unfold maxLen at hcm
  have hls := len_le_tot l
  rw [h.1] at hls
  have hsl := sumL_le l
  have H := Lib.hid h
  have HT : Hid (∀ k, (xorAll (l.take k)).length ≤ 1048576) := Lib.hid (fun k => by have := xorAll_len (l.take k); have := sumL_take_le l k; omega)
  clear h
  go_enter Try.func140, Try.ntmps140
  go_wp2
  go_loopw [3, 4] (fun o i wr => ∃ k : Nat, k ≤ n ∧ i = .int .i64 k ∧ Hid (Fresh (Own 5 FB) w wr o (xorAll (l.take k)))) (fun _ i _ => n - (intOf i).toNat)
  case atStart => exact ⟨0, Nat.zero_le _, rfl, Lib.hid ((Row_lit (E := 5) w #[] (Nat.le_refl _) (by simp)).freshB (below_alloc w _) rfl)⟩
  case round =>
    obtain ⟨k, hk, rfl, F⟩ := hrel
    have hb := F.out.below
    by_cases hlt : k < n
    · obtain ⟨b, off, x, u, rfl, hbb, hx, hu, hr⟩ := H.out.at_ hlt
      have g1 := (hb.cell (p := ⟨b, off + k, none⟩) hbb).trans hu
      have r1 : Rd RB wr u x := Rd_reads RB_reads _ _ _ _ hr hb
      have r0 := (F.out.iv (Own_good FB_good)).rd (fun q => q.rb)
      have hxl := get_le_sumL l k x hx
      have HS : Hid (xorAll (l.take (k + 1)) = xorB (xorAll (l.take k)) x) := Lib.hid (by rw [take_succ_get l k x hx, xorAll_snoc])
      have hl0 := HT.out k
      clear hx hu hr
      go_wp2_with fail
      refine (specXorBytes_c _ _ _ x _ r0 r1 (by omega) (by omega)).mono ?_
      rintro e w1 ⟨v1, rfl, F1⟩
      have F2 := Lib.hid (Fresh.pre hb F1)
      clear F1 r0 r1 g1 F hb
      go_wp2
      go_roundw
      case rel => exact ⟨k + 1, by omega, by go_num, Lib.hid (by rw [HS.out]; exact F2.out)⟩
      case measure => simp [intOf]; omega
    · have hkn : k = n := by omega
      subst hkn
      have F2 : Hid (Fresh (Own 5 FB) w wr _ (xorAll l)) := Lib.hid (by have := F.out; rw [List.take_of_length_le (by have := H.out.1; omega)] at this; exact this)
      clear F hb
      go_wp2
      go_ret
      exact ⟨_, rfl, F2.out⟩
set_option maxHeartbeats 1000000 in
theorem implXorAll_c (v : Value) (l : List (List UInt8)) (w : World) (h : Rd (Rd RB) w v l) (hn : tot l ≤ 1048576) :
    Calls Try.prog 91 #[v] w fun e w' => ∃ v', e = .returned v' ∧ Fresh (Own 5 FB) w w' v' (xorAll l) := by
  obtain ⟨A, n, c, rfl, h⟩ := h
  have hnc := h.2.1
  have hcm := h.2.2.1
  unfold maxLen at hcm
  have hls := len_le_tot l
  rw [h.1] at hls
  have hsl := sumL_le l
  have H := Lib.hid h
  have HT : Hid (∀ k, (xorAll (l.take k)).length ≤ 1048576) := Lib.hid (fun k => by have := xorAll_len (l.take k); have := sumL_take_le l k; omega)
  clear h
  go_enter Try.func91, Try.ntmps91
  go_wp2
  go_loopw [3, 9] (fun o i wr => ∃ k : Nat, k ≤ n ∧ i = .int .i64 k ∧ Hid (Fresh (Own 5 FB) w wr o (xorAll (l.take k)))) (fun _ i _ => n - (intOf i).toNat)
  case atStart => exact ⟨0, Nat.zero_le _, rfl, Lib.hid ((Row_lit (E := 5) w #[] (Nat.le_refl _) (by simp)).freshB (below_alloc w _) rfl)⟩
  case round =>
    obtain ⟨k, hk, rfl, F⟩ := hrel
    have hb := F.out.below
    by_cases hlt : k < n
    · obtain ⟨b, off, x, u, rfl, hbb, hx, hu, hr⟩ := H.out.at_ hlt
      have g1 := (hb.cell (p := ⟨b, off + k, none⟩) hbb).trans hu
      have r1 : Rd RB wr u x := Rd_reads RB_reads _ _ _ _ hr hb
      have r0 := (F.out.iv (Own_good FB_good)).rd (fun q => q.rb)
      have hxl := get_le_sumL l k x hx
      have HS : Hid (xorAll (l.take (k + 1)) = xorB (xorAll (l.take k)) x) := Lib.hid (by rw [take_succ_get l k x hx, xorAll_snoc])
      have hl0 := HT.out k
      clear hx hu hr
      go_wp2_with fail
      refine (implXorBytes_c _ _ _ x _ r0 r1 (by omega) (by omega)).mono ?_
      rintro e w1 ⟨v1, rfl, F1⟩
      have F2 := Lib.hid (Fresh.pre hb F1)
      clear F1 r0 r1 g1 F hb
      go_wp2
      go_roundw
      case rel => exact ⟨k + 1, by omega, by go_num, Lib.hid (by rw [HS.out]; exact F2.out)⟩
      case measure => simp [intOf]; omega
    · have hkn : k = n := by omega
      subst hkn
      have F2 : Hid (Fresh (Own 5 FB) w wr _ (xorAll l)) := Lib.hid (by have := F.out; rw [List.take_of_length_le (by have := H.out.1; omega)] at this; exact this)
      clear F hb
      go_wp2
      go_ret
      exact ⟨_, rfl, F2.out⟩
set_option maxHeartbeats 1000000 in
theorem specSelX_c (v0 v1 : Value) (rows : List (List UInt8)) (v : List Int) (w : World) (h : Rd (Rd RB) w v0 rows) (h' : Rd RI w v1 v) (hn : tot rows ≤ 1048576) :
    Calls Try.prog 139 #[v0, v1] w fun e w' => ∃ v', e = .returned v' ∧ Fresh (Own 5 FB) w w' v' (selX rows v) := by
  obtain ⟨A, n, c, rfl, h⟩ := h
  obtain ⟨B, m, d, rfl, h'⟩ := h'
  have hnc := h.2.1
  have hcm := h.2.2.1
  have hnc' := h'.2.1
  have hcm' := h'.2.2.1
  unfold maxLen at hcm hcm'
  have hls := len_le_tot rows
  rw [h.1] at hls
  have hsl := sumL_le rows
  have H := Lib.hid h
  have HV := Lib.hid h'
  clear h h'
  go_enter Try.func139, Try.ntmps139
  go_wp2
  go_loopw [5, 6] (fun o i wr => ∃ k : Nat, k ≤ n ∧ i = .int .i64 k ∧ Hid (Fresh (Own 5 FB) w wr o (selP rows v k))) (fun _ i _ => n - (intOf i).toNat)
  case atStart => exact ⟨0, Nat.zero_le _, rfl, Lib.hid ((Row_lit (E := 5) w #[] (Nat.le_refl _) (by simp)).freshB (below_alloc w _) rfl)⟩
  case round =>
    obtain ⟨k, hk, rfl, F⟩ := hrel
    have hb := F.out.below
    by_cases hlt : k < n
    · obtain ⟨b, off, x, u, rfl, hbb, hx, hu, hr⟩ := H.out.at_ hlt
      have g1 := (hb.cell (p := ⟨b, off + k, none⟩) hbb).trans hu
      have r1 : Rd RB wr u x := Rd_reads RB_reads _ _ _ _ hr hb
      have r0 := (F.out.iv (Own_good FB_good)).rd (fun q => q.rb)
      have hxl := get_le_sumL rows k x hx
      have hl0 := selP_len rows v k
      by_cases hlv : k < m
      · obtain ⟨b', off', y, u', rfl, hbb', hy, hu', hr'⟩ := HV.out.at_ hlv
        unfold RI at hr'
        subst hr'
        have g2 := (hb.cell (p := ⟨b', off' + k, none⟩) hbb').trans hu'
        by_cases hy1 : y = 1
        · subst hy1
          have HS := Lib.hid (selP_succ_t hx hy)
          clear hx hu hr hy hu'
          go_wp2_with fail
          refine (specXorBytes_c _ _ _ x _ r0 r1 (by omega) (by omega)).mono ?_
          rintro e w1 ⟨v1, rfl, F1⟩
          have F2 := Lib.hid (Fresh.pre hb F1)
          clear F1 r0 r1 g1 g2 F hb
          go_wp2
          go_roundw
          case rel => exact ⟨k + 1, by omega, by go_num, Lib.hid (by rw [HS.out]; exact F2.out)⟩
          case measure => simp [intOf]; omega
        · have HS := Lib.hid (selP_succ_f (rows := rows) hy hy1)
          clear hx hu hr hy hu' r0 r1
          go_wp2
          go_roundw
          case rel => exact ⟨k + 1, by omega, by go_num, Lib.hid (by rw [HS.out]; exact F.out)⟩
          case measure => simp [intOf]; omega
      · have F2 : Hid (Fresh (Own 5 FB) w wr _ (selX rows v)) := Lib.hid (by have := F.out; unfold selX; rw [H.out.1, show n = k + (n - k) by omega, selP_stop (by have := HV.out.1; omega)]; exact this)
        clear F hb hx hu hr r0 r1
        go_wp2
        go_ret
        exact ⟨_, rfl, F2.out⟩
    · have hkn : k = n := by omega
      subst hkn
      have F2 : Hid (Fresh (Own 5 FB) w wr _ (selX rows v)) := Lib.hid (by have := F.out; unfold selX; rw [H.out.1]; exact this)
      clear F hb
      go_wp2
      go_ret
      exact ⟨_, rfl, F2.out⟩
set_option maxHeartbeats 1000000 in
theorem implSelX_c (v0 v1 : Value) (rows : List (List UInt8)) (v : List Int) (w : World) (h : Rd (Rd RB) w v0 rows) (h' : Rd RI w v1 v) (hn : tot rows ≤ 1048576) :
    Calls Try.prog 42 #[v0, v1] w fun e w' => ∃ v', e = .returned v' ∧ Fresh (Own 5 FB) w w' v' (selX rows v) := by
  obtain ⟨A, n, c, rfl, h⟩ := h
  obtain ⟨B, m, d, rfl, h'⟩ := h'
  have hnc := h.2.1
  have hcm := h.2.2.1
  have hnc' := h'.2.1
  have hcm' := h'.2.2.1
  unfold maxLen at hcm hcm'
  have hls := len_le_tot rows
  rw [h.1] at hls
  have hsl := sumL_le rows
  have H := Lib.hid h
  have HV := Lib.hid h'
  clear h h'
  go_enter Try.func42, Try.ntmps42
  go_wp2
  go_loopw [5, 11] (fun o i wr => ∃ k : Nat, k ≤ n ∧ i = .int .i64 k ∧ Hid (Fresh (Own 5 FB) w wr o (selP rows v k))) (fun _ i _ => n - (intOf i).toNat)
  case atStart => exact ⟨0, Nat.zero_le _, rfl, Lib.hid ((Row_lit (E := 5) w #[] (Nat.le_refl _) (by simp)).freshB (below_alloc w _) rfl)⟩
  case round =>
    obtain ⟨k, hk, rfl, F⟩ := hrel
    have hb := F.out.below
    by_cases hlt : k < n
    · obtain ⟨b, off, x, u, rfl, hbb, hx, hu, hr⟩ := H.out.at_ hlt
      have g1 := (hb.cell (p := ⟨b, off + k, none⟩) hbb).trans hu
      have r1 : Rd RB wr u x := Rd_reads RB_reads _ _ _ _ hr hb
      have r0 := (F.out.iv (Own_good FB_good)).rd (fun q => q.rb)
      have hxl := get_le_sumL rows k x hx
      have hl0 := selP_len rows v k
      by_cases hlv : k < m
      · obtain ⟨b', off', y, u', rfl, hbb', hy, hu', hr'⟩ := HV.out.at_ hlv
        unfold RI at hr'
        subst hr'
        have g2 := (hb.cell (p := ⟨b', off' + k, none⟩) hbb').trans hu'
        by_cases hy1 : y = 1
        · subst hy1
          have HS := Lib.hid (selP_succ_t hx hy)
          clear hx hu hr hy hu'
          go_wp2_with fail
          refine (implXorBytes_c _ _ _ x _ r0 r1 (by omega) (by omega)).mono ?_
          rintro e w1 ⟨v1, rfl, F1⟩
          have F2 := Lib.hid (Fresh.pre hb F1)
          clear F1 r0 r1 g1 g2 F hb
          go_wp2
          go_roundw
          case rel => exact ⟨k + 1, by omega, by go_num, Lib.hid (by rw [HS.out]; exact F2.out)⟩
          case measure => simp [intOf]; omega
        · have HS := Lib.hid (selP_succ_f (rows := rows) hy hy1)
          clear hx hu hr hy hu' r0 r1
          go_wp2
          go_roundw
          case rel => exact ⟨k + 1, by omega, by go_num, Lib.hid (by rw [HS.out]; exact F.out)⟩
          case measure => simp [intOf]; omega
      · have HS := Lib.hid (selP_succ_o (rows := rows) (v := v) (k := k) (by have := HV.out.1; omega))
        clear hx hu hr r0 r1
        go_wp2
        go_roundw
        case rel => exact ⟨k + 1, by omega, by go_num, Lib.hid (by rw [HS.out]; exact F.out)⟩
        case measure => simp [intOf]; omega
    · have hkn : k = n := by omega
      subst hkn
      have F2 : Hid (Fresh (Own 5 FB) w wr _ (selX rows v)) := Lib.hid (by have := F.out; unfold selX; rw [H.out.1]; exact this)
      clear F hb
      go_wp2
      go_ret
      exact ⟨_, rfl, F2.out⟩
end Go.Proofs.Ytceogegjghmonaa
