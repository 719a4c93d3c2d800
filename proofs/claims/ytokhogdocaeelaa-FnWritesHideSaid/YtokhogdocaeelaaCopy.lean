/- Copies of lists of byte lists and of databases, both sides. -/
import Derived.Test.YtokhogdocaeelaaRead
namespace Go.Proofs.Ytokhogdocaeelaa
set_option linter.unusedVariables false
open Go.RowKit

theorem copy_step {w wr w1 w2 : World} {o v' u : Value} {k : Nat} {cells : List Value} {F : List Nat} {xs : List (List UInt8)} {x : List UInt8} {l : Obj} (hx : xs[k]? = some x)
    (k1 : wr.ownsRow 0 22 1 o k cells) (k2 : AllR (Own 5 FB) wr cells (xs.take k) F) (k3 : (o.ownBlock.toList ++ F).Nodup) (k4 : ∀ b, b ∈ o.ownBlock.toList ++ F → w.heap.size ≤ b)
    (hu : Fresh (Own 5 FB) wr w1 u x) (hb : Below w.heap.size w wr) (hown : w2.ownsRow 0 22 1 v' (k + 1) (cells ++ [u])) (hg : (w1.alloc l).grownBy w2 o.ownBlock) (hat : v'.ownBlock = o.ownBlock ∨ v'.ownBlock = some (w1.alloc l).heap.size) :
    NRow 22 (Own 5 FB) w.heap.size w2 v' (k + 1) (xs.take (k + 1)) [] ∧ Below w.heap.size w w2 := by
  have hs := hb.size
  have hs1 := hu.below.size
  refine ⟨?_, NRow.app_below (w1 := w1) (hb.trans (hu.below.mono hs)) (by omega) (fun b hb' => k4 b (List.mem_append_left _ (by simpa using hb'))) hg⟩
  rw [take_succ_get xs k x hx]
  exact NRow.app (Own_good FB_good) k1 k2 k3 k4 hu hs hown hg hat

set_option maxHeartbeats 2000000 in
theorem implCopyLists_c (v : Value) (xs : List (List UInt8)) (w : World) (h : Rd (Rd RB) w v xs) (hn : tot xs ≤ 1048576) :
    Calls Try.prog 112 #[v] w fun e w' => ∃ A l c, e = .returned (.slice A l c) ∧ Fresh OBB w w' (.slice A l c) xs := by
  obtain ⟨A, n, c, rfl, h⟩ := h
  have hnc := h.2.1
  have hcm := h.2.2.1
  have hl := len_le_tot xs
  rw [h.1] at hl
  unfold maxLen at hcm
  have hsl := sumL_le xs
  have H := Lib.hid h
  clear h
  go_enter Try.func112, Try.ntmps112
  go_wp2
  go_loopw [3, 9] (fun o i wr => ∃ k : Nat, k ≤ n ∧ i = .int .i64 k ∧ Hid (NRow 22 (Own 5 FB) w.heap.size wr o k (xs.take k) []) ∧ Below w.heap.size w wr) (fun _ i _ => n - (intOf i).toNat)
  case atStart => exact ⟨0, Nat.zero_le _, rfl, Lib.hid (NRow_lit w #[] (Nat.le_refl _) (by simp)), below_alloc w _⟩
  case round =>
    obtain ⟨k, hk, rfl, hrow, hb⟩ := hrel
    by_cases hlt : k < n
    · obtain ⟨b, off, x, u, rfl, hbb, hx, hu, hr⟩ := H.out.at_ hlt
      have g1 := (hb.cell (p := ⟨b, off + k, none⟩) hbb).trans hu
      have r1 : Rd RB wr u x := Rd_reads RB_reads _ _ _ _ hr hb
      have hxl := get_le_sumL xs k x hx
      have HX := Lib.hid hx
      obtain ⟨cells, F, k1, k2, k3, k4⟩ := hrow.out.open_
      have K := Lib.hid (And.intro k1 (And.intro k2 (And.intro k3 k4)))
      clear hu hx hr k1 k2 k3 k4 hrow
      go_wp2_with fail
      refine (CloneB_c _ x _ r1 (by omega)).mono ?_
      rintro e w1 ⟨u1, rfl, FU⟩
      obtain ⟨A', l', c', rfl⟩ := fresh_slice FU
      have FH := Lib.hid FU
      have k1w := ownsRow_at (w' := w1) K.out.1 (fun b hb' => FU.below.block b (K.out.1.lt b (by simpa using hb')).2)
      have KW := Lib.hid k1w
      clear FU k1w r1
      go_wp2_with (at_builtin; refine wpList_app elBB rfl (.tmp 13) (.tmp 16) rfl _ k cells rfl (KW.out.alloc _) (some ⟨w1.heap.size, 0, none⟩) 1 1 [.slice A' l' c'] rfl (Src_one _ _ _) (one_single _ rfl) (by simp only [maxLen]; omega) (by omega) ?_; intro v' w2 hown hg hat)
      have st := copy_step (w := w) HX.out K.out.1 K.out.2.1 K.out.2.2.1 K.out.2.2.2 FH.out hb hown hg hat
      have ST := Lib.hid st
      clear st hown hg hat
      go_roundw
      case rel => exact ⟨k + 1, by omega, by go_num, Lib.hid ST.out.1, ST.out.2⟩
      case measure => simp [intOf]; omega
    · have hkn : k = n := by omega
      subst hkn
      have h0 := hrow.out
      rw [List.take_of_length_le (Nat.le_of_eq H.out.1)] at h0
      have FR := h0.fresh_ hb (Nat.le_refl _)
      obtain ⟨A', l', c', hv⟩ := fresh_slice FR
      subst hv
      have FH := Lib.hid FR
      clear h0 FR hrow
      go_wp2
      go_ret
      exact ⟨_, _, _, rfl, FH.out⟩
set_option maxHeartbeats 4000000 in
theorem specCopyLists_c (v : Value) (xs : List (List UInt8)) (w : World) (h : Rd (Rd RB) w v xs) (hn : tot xs ≤ 1048576) :
    Calls Try.prog 115 #[v] w fun e w' => ∃ A l c, e = .returned (.slice A l c) ∧ Fresh OBB w w' (.slice A l c) xs := by
  obtain ⟨A, n, c, rfl, h⟩ := h
  have hnc := h.2.1
  have hcm := h.2.2.1
  have hl := len_le_tot xs
  rw [h.1] at hl
  unfold maxLen at hcm
  have hsl := sumL_le xs
  have H := Lib.hid h
  clear h
  go_enter Try.func115, Try.ntmps115
  go_wp2
  go_loopw [3, 4] (fun o i wr => ∃ k : Nat, k ≤ n ∧ i = .int .i64 k ∧ Hid (NRow 22 (Own 5 FB) w.heap.size wr o k (xs.take k) []) ∧ Below w.heap.size w wr) (fun _ i _ => n - (intOf i).toNat)
  case atStart => exact ⟨0, Nat.zero_le _, rfl, Lib.hid (NRow_lit w #[] (Nat.le_refl _) (by simp)), below_alloc w _⟩
  case round =>
    obtain ⟨k, hk, rfl, hrow, hb⟩ := hrel
    by_cases hlt : k < n
    · obtain ⟨b, off, x, u, rfl, hbb, hx, hu, hr⟩ := H.out.at_ hlt
      have g1 := (hb.cell (p := ⟨b, off + k, none⟩) hbb).trans hu
      have g2 := ((below_alloc wr (.cells #[] 5)).cell (p := ⟨b, off + k, none⟩) (Nat.lt_of_lt_of_le hbb hb.size)).trans g1
      have r1 : Rd RB wr u x := Rd_reads RB_reads _ _ _ _ hr hb
      obtain ⟨A1, n1, c1, rfl, h1⟩ := r1
      have hxl := get_le_sumL xs k x hx
      have hn1 : n1 ≤ 1048576 := by have := h1.1; omega
      have H1 := Lib.hid h1
      have HX := Lib.hid hx
      obtain ⟨cells, F, k1, k2, k3, k4⟩ := hrow.out.open_
      have K := Lib.hid (And.intro k1 (And.intro k2 (And.intro k3 k4)))
      clear hu hx hr k1 k2 k3 k4 hrow h1
      go_wp2_with (first | (at_builtin; refine wpList_app elB rfl (.tmp 13) (.tmp 17) rfl _ 0 [] rfl (Row_lit (B := wr.heap.size) wr #[] (Nat.le_refl _) (by simp)).1 A1 n1 c1 _ rfl (H1.out.srcB.alloc _) (one_mapB x) (by simp only [maxLen]; omega) (by omega) ?_; intro u1 w1 hown1 hg1 hat1; obtain ⟨A', l', c', rfl⟩ := own_shape hown1; have q1 := (Row_lit (E := 5) (B := wr.heap.size) wr #[] (Nat.le_refl _) (by simp)).app0 (below_alloc wr _) (by simp) hown1 hg1 hat1; have FH := Lib.hid (q1.1.freshB (xs := x) q1.2 (by simp)); have KW := Lib.hid (ownsRow_at (w' := w1) K.out.1 (fun b hb' => FH.out.below.block b (K.out.1.lt b (by simpa using hb')).2)); clear q1 hown1 hg1 hat1) | (at_builtin; refine wpList_app elBB rfl (.tmp 12) (.tmp 19) rfl _ k cells rfl (KW.out.alloc _) (some ⟨w1.heap.size, 0, none⟩) 1 1 [.slice A' l' c'] rfl (Src_one _ _ _) (one_single _ rfl) (by simp only [maxLen]; omega) (by omega) ?_; intro v' w2 hown hg hat))
      have st := copy_step (w := w) HX.out K.out.1 K.out.2.1 K.out.2.2.1 K.out.2.2.2 FH.out hb hown hg hat
      have ST := Lib.hid st
      clear st hown hg hat
      go_roundw
      case rel => exact ⟨k + 1, by omega, by go_num, Lib.hid ST.out.1, ST.out.2⟩
      case measure => simp [intOf]; omega
    · have hkn : k = n := by omega
      subst hkn
      have h0 := hrow.out
      rw [List.take_of_length_le (Nat.le_of_eq H.out.1)] at h0
      have FR := h0.fresh_ hb (Nat.le_refl _)
      obtain ⟨A', l', c', hv⟩ := fresh_slice FR
      subst hv
      have FH := Lib.hid FR
      clear h0 FR hrow
      go_wp2
      go_ret
      exact ⟨_, _, _, rfl, FH.out⟩
set_option maxHeartbeats 2000000 in
theorem implCopyDb_c (v : Value) (xs : List (List UInt8)) (w : World) (h : Rd (Rd RB) w v xs) (hn : tot xs ≤ 1048576) :
    Calls Try.prog 73 #[.agg #[v]] w fun e w' => ∃ A l c, e = .returned (.agg #[.slice A l c]) ∧ Fresh OBB w w' (.slice A l c) xs := by
  obtain ⟨A, n, c, rfl, h'⟩ := h
  have h : Rd (Rd RB) w (.slice A n c) xs := ⟨_, _, _, rfl, h'⟩
  clear h'
  go_enter Try.func73, Try.ntmps73
  go_wp2_with fail
  refine (implCopyLists_c _ _ _ (Rd_reads (Rd_reads RB_reads) _ _ _ _ h ?_) hn).mono ?_
  · (repeat (first | exact Below.refl _ _ | refine Below.alloc ?_ (by simp; try omega) _ | refine Below.setCell ?_ (by simp; try omega) _))
  rintro e w1 ⟨A1, l1, c1, rfl, F⟩
  have G := Fresh.g (w := w) F (by (repeat (first | exact Below.refl _ _ | refine Below.alloc ?_ (by simp; try omega) _ | refine Below.setCell ?_ (by simp; try omega) _)))
  have hz := F.below.size
  obtain ⟨hc, hf⟩ := below_cells F.below
  simp at hz G
  clear F h
  go_wp2
  refine bodyPost_ret (v := .agg #[.slice A1 l1 c1]) (by simp [results, Try.results73, go_sem, hc]) rfl ⟨_, _, _, rfl, FreshG.fresh (lo := w.heap.size + 2) ?_ (by omega)⟩
  repeat (first | exact G | refine FreshG.set OBB_good ?_ (by simp; try omega) (by simp; try omega) _ | refine FreshG.alloc OBB_good ?_ _)
set_option maxHeartbeats 2000000 in
theorem specCopyDb_c (v : Value) (xs : List (List UInt8)) (w : World) (h : Rd (Rd RB) w v xs) (hn : tot xs ≤ 1048576) :
    Calls Try.prog 76 #[.agg #[v]] w fun e w' => ∃ A l c, e = .returned (.agg #[.slice A l c]) ∧ Fresh OBB w w' (.slice A l c) xs := by
  obtain ⟨A, n, c, rfl, h'⟩ := h
  have h : Rd (Rd RB) w (.slice A n c) xs := ⟨_, _, _, rfl, h'⟩
  clear h'
  go_enter Try.func76, Try.ntmps76
  go_wp2_with fail
  refine (specCopyLists_c _ _ _ (Rd_reads (Rd_reads RB_reads) _ _ _ _ h ?_) hn).mono ?_
  · (repeat (first | exact Below.refl _ _ | refine Below.alloc ?_ (by simp; try omega) _ | refine Below.setCell ?_ (by simp; try omega) _))
  rintro e w1 ⟨A1, l1, c1, rfl, F⟩
  have G := Fresh.g (w := w) F (by (repeat (first | exact Below.refl _ _ | refine Below.alloc ?_ (by simp; try omega) _ | refine Below.setCell ?_ (by simp; try omega) _)))
  have hz := F.below.size
  obtain ⟨hc, hf⟩ := below_cells F.below
  simp at hz G
  clear F h
  go_wp2
  refine bodyPost_ret (v := .agg #[.slice A1 l1 c1]) (by simp [results, Try.results76, go_sem, hc]) rfl ⟨_, _, _, rfl, FreshG.fresh (lo := w.heap.size + 2) ?_ (by omega)⟩
  repeat (first | exact G | refine FreshG.set OBB_good ?_ (by simp; try omega) (by simp; try omega) _ | refine FreshG.alloc OBB_good ?_ _)
end Go.Proofs.Ytokhogdocaeelaa
