/- ReplaceRow of both sides. -/
import Derived.Test.YtokhogdocaeelaaCopy
import Derived.Deep.RegionLaw
namespace Go.Proofs.Ytokhogdocaeelaa
set_option linter.unusedVariables false
open Go.RowKit

def repOk (xs : List (List UInt8)) (i : Int) (r : List UInt8) : Bool := decide ((0 ≤ i ∧ i < (xs.length : Nat)) ∧ r.length = 24)
def repRow (xs : List (List UInt8)) (i : Int) (r : List UInt8) : List (List UInt8) := if repOk xs i r then xs.set i.toNat r else xs

set_option maxHeartbeats 2000000 in
theorem implReplaceRow_c (v : Value) (xs : List (List UInt8)) (i : Int) (vr : Value) (r : List UInt8) (ok : Bool) (w : World) (h : Rd (Rd RB) w v xs) (hr : Rd RB w vr r) (hok : Hid (repOk xs i r = ok)) (hi : -9223372036854775808 ≤ i) (hi' : i ≤ 9223372036854775807) (hn : tot xs ≤ 1048576) (hrn : r.length ≤ 1048576) :
    Calls Try.prog 107 #[.agg #[v], .int .i64 i, vr] w fun e w' => ∃ A l c, e = .returned (.tuple #[.agg #[.slice A l c], .bool ok]) ∧ Fresh OBB w w' (.slice A l c) (repRow xs i r) := by
  obtain ⟨A, n, c, rfl, h'⟩ := h
  have h : Rd (Rd RB) w (.slice A n c) xs := ⟨_, _, _, rfl, h'⟩
  obtain ⟨Ar, nr, cr, rfl, hr'⟩ := hr
  have hr : Rd RB w (.slice Ar nr cr) r := ⟨_, _, _, rfl, hr'⟩
  obtain rfl := h'.1
  obtain rfl := hr'.1
  have hnc := h'.2.1
  have hcm := h'.2.2.1
  have hnr := hr'.2.1
  have hcr := hr'.2.2.1
  unfold maxLen at hcm hcr
  have hls := len_le_tot xs
  clear h' hr'
  by_cases hin : 0 ≤ i ∧ i < (xs.length : Nat)
  · by_cases h24 : r.length = 24
    · have e : ok = true := by rw [← hok.out]; unfold repOk; rw [decide_eq_true ⟨hin, h24⟩]
      subst e
      obtain ⟨k, rfl⟩ := Int.eq_ofNat_of_zero_le hin.1
      have e2 : repRow xs (k : Int) r = xs.set k r := by unfold repRow; rw [if_pos hok.out, Int.toNat_natCast]
      rw [e2]
      have hk : k < xs.length := by omega
      have h24' : (r.length : Int) = 24 := by omega
      have Z := Lib.hid h24
      clear hok e2 h24 hin
      go_enter Try.func107, Try.ntmps107
      go_wp2_with fail
      refine (implCopyDb_c _ _ _ (Rd_reads (Rd_reads RB_reads) _ _ _ _ h ?_) hn).mono ?_
      · (repeat (first | exact Below.refl _ _ | refine Below.alloc ?_ (by simp; try omega) _ | refine Below.setCell ?_ (by simp; try omega) _))
      rintro e w1 ⟨A1, l1, c1, rfl, F⟩
      have hz := F.below.size
      have hrow := F.nrow
      obtain ⟨g, rfl, rfl, hg1, hg2⟩ : ∃ g, A1 = some ⟨g, 0, none⟩ ∧ l1 = xs.length ∧ ((w.alloc (.cells #[.slice A xs.length c] 31)).alloc (.cells #[.slice none 0 0] 31)).heap.size ≤ g ∧ g < w1.heap.size := by
        rcases hrow.form with ⟨_, h0⟩ | ⟨g, cap, hv, _, _, q1, q2⟩
        · omega
        · injection hv with hv1 hv2 hv3
          exact ⟨g, hv1, hv2, q1, q2⟩
      simp at hg1
      have W1 := Lib.hid F.below
      have c3 : (w1.alloc (.cells #[.slice (some ⟨g, 0, none⟩) xs.length c1] 31)).cell? ⟨w.heap.size, 0, none⟩ = some (.slice A xs.length c) := by
        rw [(below_alloc w1 _).cell (p := ⟨w.heap.size, 0, none⟩) (by have := hz; simp at this; show w.heap.size < _; omega), W1.out.cell (p := ⟨w.heap.size, 0, none⟩) (by simp; omega)]
        exact ((Box.new w 31 #[.slice A xs.length c]).alloc _).cell 0
      have B1 : Box ((w.alloc (.cells #[.slice A xs.length c] 31)).alloc (.cells #[.slice none 0 0] 31)) (w.heap.size + 1) 31 #[.slice none 0 0] := by
        have := Box.new (w.alloc (.cells #[.slice A xs.length c] 31)) 31 #[.slice none 0 0]
        simpa using this
      have c4 : (w1.alloc (.cells #[.slice (some ⟨g, 0, none⟩) xs.length c1] 31)).cell? ⟨w.heap.size + 1, 0, none⟩ = some (.slice none 0 0) := by
        rw [(below_alloc w1 _).cell (p := ⟨w.heap.size + 1, 0, none⟩) (by have := hz; simp at this; show w.heap.size + 1 < _; omega), W1.out.cell (p := ⟨w.heap.size + 1, 0, none⟩) (by simp)]
        exact B1.cell 0
      have f4 : (w1.alloc (.cells #[.slice (some ⟨g, 0, none⟩) xs.length c1] 31)).frozen? ⟨w.heap.size + 1, 0, none⟩ = false := by
        rw [(below_alloc w1 _).frozen (p := ⟨w.heap.size + 1, 0, none⟩) (by have := hz; simp at this; show w.heap.size + 1 < _; omega), W1.out.frozen (p := ⟨w.heap.size + 1, 0, none⟩) (by simp)]
        exact B1.frozen 0
      clear B1
      have c8 : (w1.alloc (.cells #[.slice (some ⟨g, 0, none⟩) xs.length c1] 31)).drew.cell? ⟨w1.heap.size, 0, none⟩ = some (.slice (some ⟨g, 0, none⟩) xs.length c1) := (Box.new w1 31 #[.slice (some ⟨g, 0, none⟩) xs.length c1]).cell 0
      have bx8 : Hid (Box (w1.alloc (.cells #[.slice (some ⟨g, 0, none⟩) xs.length c1] 31)).drew w1.heap.size 31 #[.slice (some ⟨g, 0, none⟩) xs.length c1]) := Lib.hid (Box.new w1 31 #[.slice (some ⟨g, 0, none⟩) xs.length c1])
      have b03 : Below w.heap.size w (w1.alloc (.cells #[.slice (some ⟨g, 0, none⟩) xs.length c1] 31)).drew := ((Below.trans (b := (w.alloc (.cells #[.slice A xs.length c] 31)).alloc (.cells #[.slice none 0 0] 31)) (by (repeat (first | exact Below.refl _ _ | refine Below.alloc ?_ (by simp; try omega) _ | refine Below.setCell ?_ (by simp; try omega) _))) (W1.out.mono (by simp; omega))).alloc (by simp at hz; omega) _).drew
      have rx : Hid (Box (w1.alloc (.cells #[.slice (some ⟨g, 0, none⟩) xs.length c1] 31)).drew (w.heap.size + 1) 31 #[.slice none 0 0]) := Lib.hid (((by
        have := Box.new (w.alloc (.cells #[.slice A xs.length c] 31)) 31 #[.slice none 0 0]
        simpa using this : Box ((w.alloc (.cells #[.slice A xs.length c] 31)).alloc (.cells #[.slice none 0 0] 31)) (w.heap.size + 1) 31 #[.slice none 0 0]).below W1.out (by simp)).alloc _)
      have rr := Rd_reads RB_reads _ _ _ _ hr b03
      have hrow3 := Lib.hid ((hrow.below (Own_good FB_good) (below_alloc w1 (.cells #[.slice (some ⟨g, 0, none⟩) xs.length c1] 31))).drew_ (Own_good FB_good))
      have B03 := Lib.hid b03
      have HZ := Lib.hid hz
      clear F h hrow b03 hz
      have hkn : (k : Int) < (xs.length : Int) := by omega
      have hk0 : (0 : Int) ≤ (k : Int) := by omega
      go_wp2_with fail
      refine (implIn_t _ _ _ _ (by omega) (by omega)).mono ?_
      rintro e w' ⟨rfl, rfl⟩
      go_wp2_with fail
      go_region_held3 (fun w' => w'.cell? ⟨w1.heap.size, 0, none⟩ = some (.slice (some ⟨g, 0, none⟩) xs.length c1))
        (first | go_keep | (exact c8) | (exact c10))
        (first | (go_at_call 96; refine (CloneB_c _ r _ rr (by omega)).mono ?_; rintro e w4 ⟨u, rfl, FU⟩; obtain ⟨Au, lu, cu, rfl⟩ := fresh_slice FU; have hs4 := FU.below.size; have hrow4 := hrow3.out.below (Own_good FB_good) FU.below; obtain ⟨q, q1, q2, _⟩ := hrow4.cell hk; have c9 := (bx8.out.below FU.below (by simp)).cell 0; have bx5 := Lib.hid ((bx8.out.below FU.below (by simp)).far (p := ⟨g, k, none⟩) (by show w1.heap.size ≠ g; omega) (.slice Au lu cu)); have c10 := bx5.out.cell 0; have rx5 := Lib.hid ((rx.out.below FU.below (by have := HZ.out; simp at this ⊢; omega)).far (p := ⟨g, k, none⟩) (by show w.heap.size + 1 ≠ g; omega) (.slice Au lu cu)); have c11 := rx5.out.cell 0; have f11 := rx5.out.frozen 0; have FH := Lib.hid FU; clear hrow4 FU))
      go_wp2
      have hR := hrow3.out.replace (Own_good FB_good) (j := k) FH.out (by have := HZ.out; simp at this ⊢; omega) hk
      have hR2 := hR.setLow (Own_good FB_good) (p := ⟨w.heap.size + 1, 0, none⟩) (by simp) (.slice (some ⟨g, 0, none⟩) xs.length c1)
      have hBl : Below w.heap.size w ((w4.setCell ⟨g, k, none⟩ (.slice Au lu cu)).setCell ⟨w.heap.size + 1, 0, none⟩ (.slice (some ⟨g, 0, none⟩) xs.length c1)) :=
        ((B03.out.trans (FH.out.below.mono B03.out.size)).setCell (p := ⟨g, k, none⟩) (by show w.heap.size ≤ g; omega) _).setCell (p := ⟨w.heap.size + 1, 0, none⟩) (by show w.heap.size ≤ w.heap.size + 1; omega) _
      have FIN := Lib.hid (hR2.fresh_ hBl (by simp; omega))
      have c12 := (rx5.out.set_ 0 (.slice (some ⟨g, 0, none⟩) xs.length c1)).cell 0
      clear hR hR2 hBl
      refine bodyPost_ret (v := .tuple #[.agg #[.slice (some ⟨g, 0, none⟩) xs.length c1], .bool true]) (by simp [results, Try.results107, go_sem, c12]) rfl ⟨_, _, _, rfl, FIN.out⟩
    · have e : ok = false := by rw [← hok.out]; unfold repOk; rw [decide_eq_false (fun hc => h24 hc.2)]
      subst e
      have e2 : repRow xs i r = xs := by unfold repRow; rw [if_neg (by rw [hok.out]; simp)]
      rw [e2]
      have h24' : ¬ (r.length : Int) = 24 := by omega
      clear hok e2 h24
      go_enter Try.func107, Try.ntmps107
      go_wp2_with fail
      refine (implCopyDb_c _ _ _ (Rd_reads (Rd_reads RB_reads) _ _ _ _ h ?_) hn).mono ?_
      · (repeat (first | exact Below.refl _ _ | refine Below.alloc ?_ (by simp; try omega) _ | refine Below.setCell ?_ (by simp; try omega) _))
      rintro e w1 ⟨A1, l1, c1, rfl, F⟩
      have G := Fresh.g (w := w) F (by (repeat (first | exact Below.refl _ _ | refine Below.alloc ?_ (by simp; try omega) _ | refine Below.setCell ?_ (by simp; try omega) _)))
      have hz := F.below.size
      have W1 := Lib.hid F.below
      have c3 : (w1.alloc (.cells #[.slice A1 l1 c1] 31)).cell? ⟨w.heap.size, 0, none⟩ = some (.slice A xs.length c) := by
        rw [(below_alloc w1 _).cell (p := ⟨w.heap.size, 0, none⟩) (by have := hz; simp at this; show w.heap.size < _; omega), W1.out.cell (p := ⟨w.heap.size, 0, none⟩) (by simp; omega)]
        exact ((Box.new w 31 #[.slice A xs.length c]).alloc _).cell 0
      have B1 : Box ((w.alloc (.cells #[.slice A xs.length c] 31)).alloc (.cells #[.slice none 0 0] 31)) (w.heap.size + 1) 31 #[.slice none 0 0] := by
        have := Box.new (w.alloc (.cells #[.slice A xs.length c] 31)) 31 #[.slice none 0 0]
        simpa using this
      have c4 : (w1.alloc (.cells #[.slice A1 l1 c1] 31)).cell? ⟨w.heap.size + 1, 0, none⟩ = some (.slice none 0 0) := by
        rw [(below_alloc w1 _).cell (p := ⟨w.heap.size + 1, 0, none⟩) (by have := hz; simp at this; show w.heap.size + 1 < _; omega), W1.out.cell (p := ⟨w.heap.size + 1, 0, none⟩) (by simp)]
        exact B1.cell 0
      have f4 : (w1.alloc (.cells #[.slice A1 l1 c1] 31)).frozen? ⟨w.heap.size + 1, 0, none⟩ = false := by
        rw [(below_alloc w1 _).frozen (p := ⟨w.heap.size + 1, 0, none⟩) (by have := hz; simp at this; show w.heap.size + 1 < _; omega), W1.out.frozen (p := ⟨w.heap.size + 1, 0, none⟩) (by simp)]
        exact B1.frozen 0
      clear B1 W1
      simp at hz G
      clear F h
      go_wp2_with (go_at_call 91; refine (implIn_t _ _ _ _ (by omega) (by omega)).mono ?_; rintro e w' ⟨rfl, rfl⟩)
      refine bodyPost_ret (v := .tuple #[.agg #[.slice A1 l1 c1], .bool false]) (by simp [results, Try.results107, go_sem, c4]) rfl ⟨_, _, _, rfl, FreshG.fresh (lo := w.heap.size + 2) ?_ (by omega)⟩
      repeat (first | exact G | refine FreshG.set OBB_good ?_ (by simp; try omega) (by simp; try omega) _ | refine FreshG.alloc OBB_good ?_ _)
  · have e : ok = false := by rw [← hok.out]; unfold repOk; rw [decide_eq_false (fun hc => hin hc.1)]
    subst e
    have e2 : repRow xs i r = xs := by unfold repRow; rw [if_neg (by rw [hok.out]; simp)]
    rw [e2]
    have HIN := Lib.hid hin
    clear hok e2 hin
    go_enter Try.func107, Try.ntmps107
    go_wp2_with fail
    refine (implCopyDb_c _ _ _ (Rd_reads (Rd_reads RB_reads) _ _ _ _ h ?_) hn).mono ?_
    · (repeat (first | exact Below.refl _ _ | refine Below.alloc ?_ (by simp; try omega) _ | refine Below.setCell ?_ (by simp; try omega) _))
    rintro e w1 ⟨A1, l1, c1, rfl, F⟩
    have G := Fresh.g (w := w) F (by (repeat (first | exact Below.refl _ _ | refine Below.alloc ?_ (by simp; try omega) _ | refine Below.setCell ?_ (by simp; try omega) _)))
    have hz := F.below.size
    have W1 := Lib.hid F.below
    have c3 : (w1.alloc (.cells #[.slice A1 l1 c1] 31)).cell? ⟨w.heap.size, 0, none⟩ = some (.slice A xs.length c) := by
      rw [(below_alloc w1 _).cell (p := ⟨w.heap.size, 0, none⟩) (by have := hz; simp at this; show w.heap.size < _; omega), W1.out.cell (p := ⟨w.heap.size, 0, none⟩) (by simp; omega)]
      exact ((Box.new w 31 #[.slice A xs.length c]).alloc _).cell 0
    have B1 : Box ((w.alloc (.cells #[.slice A xs.length c] 31)).alloc (.cells #[.slice none 0 0] 31)) (w.heap.size + 1) 31 #[.slice none 0 0] := by
      have := Box.new (w.alloc (.cells #[.slice A xs.length c] 31)) 31 #[.slice none 0 0]
      simpa using this
    have c4 : (w1.alloc (.cells #[.slice A1 l1 c1] 31)).cell? ⟨w.heap.size + 1, 0, none⟩ = some (.slice none 0 0) := by
      rw [(below_alloc w1 _).cell (p := ⟨w.heap.size + 1, 0, none⟩) (by have := hz; simp at this; show w.heap.size + 1 < _; omega), W1.out.cell (p := ⟨w.heap.size + 1, 0, none⟩) (by simp)]
      exact B1.cell 0
    have f4 : (w1.alloc (.cells #[.slice A1 l1 c1] 31)).frozen? ⟨w.heap.size + 1, 0, none⟩ = false := by
      rw [(below_alloc w1 _).frozen (p := ⟨w.heap.size + 1, 0, none⟩) (by have := hz; simp at this; show w.heap.size + 1 < _; omega), W1.out.frozen (p := ⟨w.heap.size + 1, 0, none⟩) (by simp)]
      exact B1.frozen 0
    clear B1 W1
    simp at hz G
    clear F h
    go_wp2_with (go_at_call 91; refine (implIn_f _ _ _ _ (fun hc => HIN.out ⟨hc.1, by omega⟩)).mono ?_; rintro e w' ⟨rfl, rfl⟩)
    refine bodyPost_ret (v := .tuple #[.agg #[.slice A1 l1 c1], .bool false]) (by simp [results, Try.results107, go_sem, c4]) rfl ⟨_, _, _, rfl, FreshG.fresh (lo := w.heap.size + 2) ?_ (by omega)⟩
    repeat (first | exact G | refine FreshG.set OBB_good ?_ (by simp; try omega) (by simp; try omega) _ | refine FreshG.alloc OBB_good ?_ _)
set_option maxHeartbeats 2000000 in
theorem specReplaceRow_c (v : Value) (xs : List (List UInt8)) (i : Int) (vr : Value) (r : List UInt8) (ok : Bool) (w : World) (h : Rd (Rd RB) w v xs) (hr : Rd RB w vr r) (hok : Hid (repOk xs i r = ok)) (hi : -9223372036854775808 ≤ i) (hi' : i ≤ 9223372036854775807) (hn : tot xs ≤ 1048576) (hrn : r.length ≤ 1048576) :
    Calls Try.prog 70 #[.agg #[v], .int .i64 i, vr] w fun e w' => ∃ A l c, e = .returned (.tuple #[.agg #[.slice A l c], .bool ok]) ∧ Fresh OBB w w' (.slice A l c) (repRow xs i r) := by
  obtain ⟨A, n, c, rfl, h'⟩ := h
  have h : Rd (Rd RB) w (.slice A n c) xs := ⟨_, _, _, rfl, h'⟩
  obtain ⟨Ar, nr, cr, rfl, hr'⟩ := hr
  have hr : Rd RB w (.slice Ar nr cr) r := ⟨_, _, _, rfl, hr'⟩
  obtain rfl := h'.1
  obtain rfl := hr'.1
  have hnc := h'.2.1
  have hcm := h'.2.2.1
  have hnr := hr'.2.1
  have hcr := hr'.2.2.1
  unfold maxLen at hcm hcr
  have hls := len_le_tot xs
  clear h' hr'
  by_cases hin : 0 ≤ i ∧ i < (xs.length : Nat)
  · by_cases h24 : r.length = 24
    · have e : ok = true := by rw [← hok.out]; unfold repOk; rw [decide_eq_true ⟨hin, h24⟩]
      subst e
      obtain ⟨k, rfl⟩ := Int.eq_ofNat_of_zero_le hin.1
      have e2 : repRow xs (k : Int) r = xs.set k r := by unfold repRow; rw [if_pos hok.out, Int.toNat_natCast]
      rw [e2]
      have hk : k < xs.length := by omega
      have h24' : (r.length : Int) = 24 := by omega
      have Z := Lib.hid h24
      clear hok e2 h24 hin
      go_enter Try.func70, Try.ntmps70
      go_wp2_with fail
      refine (specCopyDb_c _ _ _ (Rd_reads (Rd_reads RB_reads) _ _ _ _ h ?_) hn).mono ?_
      · (repeat (first | exact Below.refl _ _ | refine Below.alloc ?_ (by simp; try omega) _ | refine Below.setCell ?_ (by simp; try omega) _))
      rintro e w1 ⟨A1, l1, c1, rfl, F⟩
      have hz := F.below.size
      have hrow := F.nrow
      obtain ⟨g, rfl, rfl, hg1, hg2⟩ : ∃ g, A1 = some ⟨g, 0, none⟩ ∧ l1 = xs.length ∧ ((w.alloc (.cells #[.slice A xs.length c] 31)).alloc (.cells #[.slice none 0 0] 31)).heap.size ≤ g ∧ g < w1.heap.size := by
        rcases hrow.form with ⟨_, h0⟩ | ⟨g, cap, hv, _, _, q1, q2⟩
        · omega
        · injection hv with hv1 hv2 hv3
          exact ⟨g, hv1, hv2, q1, q2⟩
      simp at hg1
      have W1 := Lib.hid F.below
      have c3 : (w1.alloc (.cells #[.slice (some ⟨g, 0, none⟩) xs.length c1] 31)).cell? ⟨w.heap.size, 0, none⟩ = some (.slice A xs.length c) := by
        rw [(below_alloc w1 _).cell (p := ⟨w.heap.size, 0, none⟩) (by have := hz; simp at this; show w.heap.size < _; omega), W1.out.cell (p := ⟨w.heap.size, 0, none⟩) (by simp; omega)]
        exact ((Box.new w 31 #[.slice A xs.length c]).alloc _).cell 0
      have B1 : Box ((w.alloc (.cells #[.slice A xs.length c] 31)).alloc (.cells #[.slice none 0 0] 31)) (w.heap.size + 1) 31 #[.slice none 0 0] := by
        have := Box.new (w.alloc (.cells #[.slice A xs.length c] 31)) 31 #[.slice none 0 0]
        simpa using this
      have c4 : (w1.alloc (.cells #[.slice (some ⟨g, 0, none⟩) xs.length c1] 31)).cell? ⟨w.heap.size + 1, 0, none⟩ = some (.slice none 0 0) := by
        rw [(below_alloc w1 _).cell (p := ⟨w.heap.size + 1, 0, none⟩) (by have := hz; simp at this; show w.heap.size + 1 < _; omega), W1.out.cell (p := ⟨w.heap.size + 1, 0, none⟩) (by simp)]
        exact B1.cell 0
      have f4 : (w1.alloc (.cells #[.slice (some ⟨g, 0, none⟩) xs.length c1] 31)).frozen? ⟨w.heap.size + 1, 0, none⟩ = false := by
        rw [(below_alloc w1 _).frozen (p := ⟨w.heap.size + 1, 0, none⟩) (by have := hz; simp at this; show w.heap.size + 1 < _; omega), W1.out.frozen (p := ⟨w.heap.size + 1, 0, none⟩) (by simp)]
        exact B1.frozen 0
      clear B1
      have c8 : (w1.alloc (.cells #[.slice (some ⟨g, 0, none⟩) xs.length c1] 31)).drew.cell? ⟨w1.heap.size, 0, none⟩ = some (.slice (some ⟨g, 0, none⟩) xs.length c1) := (Box.new w1 31 #[.slice (some ⟨g, 0, none⟩) xs.length c1]).cell 0
      have bx8 : Hid (Box (w1.alloc (.cells #[.slice (some ⟨g, 0, none⟩) xs.length c1] 31)).drew w1.heap.size 31 #[.slice (some ⟨g, 0, none⟩) xs.length c1]) := Lib.hid (Box.new w1 31 #[.slice (some ⟨g, 0, none⟩) xs.length c1])
      have b03 : Below w.heap.size w (w1.alloc (.cells #[.slice (some ⟨g, 0, none⟩) xs.length c1] 31)).drew := ((Below.trans (b := (w.alloc (.cells #[.slice A xs.length c] 31)).alloc (.cells #[.slice none 0 0] 31)) (by (repeat (first | exact Below.refl _ _ | refine Below.alloc ?_ (by simp; try omega) _ | refine Below.setCell ?_ (by simp; try omega) _))) (W1.out.mono (by simp; omega))).alloc (by simp at hz; omega) _).drew
      have rx : Hid (Box (w1.alloc (.cells #[.slice (some ⟨g, 0, none⟩) xs.length c1] 31)).drew (w.heap.size + 1) 31 #[.slice none 0 0]) := Lib.hid (((by
        have := Box.new (w.alloc (.cells #[.slice A xs.length c] 31)) 31 #[.slice none 0 0]
        simpa using this : Box ((w.alloc (.cells #[.slice A xs.length c] 31)).alloc (.cells #[.slice none 0 0] 31)) (w.heap.size + 1) 31 #[.slice none 0 0]).below W1.out (by simp)).alloc _)
      have rr := Rd_reads RB_reads _ _ _ _ hr b03
      have hrow3 := Lib.hid ((hrow.below (Own_good FB_good) (below_alloc w1 (.cells #[.slice (some ⟨g, 0, none⟩) xs.length c1] 31))).drew_ (Own_good FB_good))
      have B03 := Lib.hid b03
      have HZ := Lib.hid hz
      clear F h hrow b03 hz
      have hkn : (k : Int) < (xs.length : Int) := by omega
      have hk0 : (0 : Int) ≤ (k : Int) := by omega
      go_wp2_with fail
      refine (specIn_t _ _ _ _ (by omega) (by omega)).mono ?_
      rintro e w' ⟨rfl, rfl⟩
      go_wp2_with fail
      obtain ⟨_, _, _, hre, RR⟩ := rr
      injection hre with hre1 hre2 hre3
      subst hre1
      subst hre3
      have hl3 : r.length = r.length := rfl
      rw [← hre2] at RR
      have bE := below_alloc (w1.alloc (.cells #[.slice (some ⟨g, 0, none⟩) xs.length c1] 31)).drew (.cells #[] 5)
      have hsz : (w1.alloc (.cells #[.slice (some ⟨g, 0, none⟩) xs.length c1] 31)).drew.heap.size = w1.heap.size + 1 := World.size_alloc w1 _
      have HROW : Row 5 (w1.alloc (.cells #[.slice (some ⟨g, 0, none⟩) xs.length c1] 31)).drew.heap.size ((w1.alloc (.cells #[.slice (some ⟨g, 0, none⟩) xs.length c1] 31)).alloc (.cells #[] 5)).drew (.slice (some ⟨w1.heap.size + 1, 0, none⟩) 0 0) 0 [] := by
        have := Row_lit (E := 5) (B := (w1.alloc (.cells #[.slice (some ⟨g, 0, none⟩) xs.length c1] 31)).drew.heap.size) (w1.alloc (.cells #[.slice (some ⟨g, 0, none⟩) xs.length c1] 31)).drew #[] (Nat.le_refl _) (by simp)
        rw [hsz] at this ⊢
        exact this
      have HR := Lib.hid HROW
      have BE := Lib.hid bE
      have HSRC : Src ((w1.alloc (.cells #[.slice (some ⟨g, 0, none⟩) xs.length c1] 31)).alloc (.cells #[] 5)).drew Ar r.length (r.map fun x => Value.int .u8 (x.toNat : Int)) := RR.srcB.alloc _
      have HS := Lib.hid HSRC
      have cE8 : ((w1.alloc (.cells #[.slice (some ⟨g, 0, none⟩) xs.length c1] 31)).alloc (.cells #[] 5)).cell? ⟨w1.heap.size, 0, none⟩ = some (.slice (some ⟨g, 0, none⟩) xs.length c1) := ((Box.new w1 31 #[.slice (some ⟨g, 0, none⟩) xs.length c1]).alloc _).cell 0
      have HSZ := Lib.hid hsz
      clear HROW bE HSRC RR hre2 hsz
      go_region_law (first | (refine step_app elB (by rfl) _ _ (by rfl) (.slice (some ⟨w1.heap.size + 1, 0, none⟩) 0 0) 0 [] (by rfl) HR.out.1 _ r.length cr (r.map fun x => Value.int .u8 (x.toNat : Int)) (by rfl) HS.out (one_mapB r) (by simp only [maxLen]; omega) (by omega) ?_; intro v' w4 hown hg hat; obtain ⟨Au, lu, cu, rfl⟩ := own_shape hown; have q1 := HR.out.app0 BE.out (by show _ ≤ (World.alloc _ _).heap.size; rw [World.size_alloc]; exact Nat.le_succ _) hown hg hat; have FU := q1.1.freshB (xs := r) q1.2 (by simp); have hs4 := FU.below.size; have hrow4 := hrow3.out.below (Own_good FB_good) FU.below; obtain ⟨q, q5, q6, _⟩ := hrow4.cell hk; have c9 := (bx8.out.below FU.below (by simp)).cell 0; have bx5 := Lib.hid ((bx8.out.below FU.below (by simp)).far (p := ⟨g, k, none⟩) (by show w1.heap.size ≠ g; omega) (.slice Au lu cu)); have c10 := bx5.out.cell 0; have rx5 := Lib.hid ((rx.out.below FU.below (by have := HZ.out; have := HSZ.out; simp at *; omega)).far (p := ⟨g, k, none⟩) (by show w.heap.size + 1 ≠ g; omega) (.slice Au lu cu)); have c11 := rx5.out.cell 0; have f11 := rx5.out.frozen 0; have FH := Lib.hid FU; clear hrow4 FU q1 hown hg hat))
      all_goals
        go_wp2
        have hR := hrow3.out.replace (Own_good FB_good) (j := k) FH.out (by have := HZ.out; simp at this ⊢; omega) hk
        have hR2 := hR.setLow (Own_good FB_good) (p := ⟨w.heap.size + 1, 0, none⟩) (by simp) (.slice (some ⟨g, 0, none⟩) xs.length c1)
        have hBl : Below w.heap.size w ((w4.setCell ⟨g, k, none⟩ (.slice Au lu cu)).setCell ⟨w.heap.size + 1, 0, none⟩ (.slice (some ⟨g, 0, none⟩) xs.length c1)) :=
          ((B03.out.trans (FH.out.below.mono B03.out.size)).setCell (p := ⟨g, k, none⟩) (by show w.heap.size ≤ g; omega) _).setCell (p := ⟨w.heap.size + 1, 0, none⟩) (by show w.heap.size ≤ w.heap.size + 1; omega) _
        have FIN := Lib.hid (hR2.fresh_ hBl (by simp; omega))
        have c12 := (rx5.out.set_ 0 (.slice (some ⟨g, 0, none⟩) xs.length c1)).cell 0
        clear hR hR2 hBl
        refine bodyPost_ret (v := .tuple #[.agg #[.slice (some ⟨g, 0, none⟩) xs.length c1], .bool true]) (by simp [results, Try.results70, go_sem, c12]) rfl ⟨_, _, _, rfl, FIN.out⟩

    · have e : ok = false := by rw [← hok.out]; unfold repOk; rw [decide_eq_false (fun hc => h24 hc.2)]
      subst e
      have e2 : repRow xs i r = xs := by unfold repRow; rw [if_neg (by rw [hok.out]; simp)]
      rw [e2]
      have h24' : ¬ (r.length : Int) = 24 := by omega
      clear hok e2 h24
      go_enter Try.func70, Try.ntmps70
      go_wp2_with fail
      refine (specCopyDb_c _ _ _ (Rd_reads (Rd_reads RB_reads) _ _ _ _ h ?_) hn).mono ?_
      · (repeat (first | exact Below.refl _ _ | refine Below.alloc ?_ (by simp; try omega) _ | refine Below.setCell ?_ (by simp; try omega) _))
      rintro e w1 ⟨A1, l1, c1, rfl, F⟩
      have G := Fresh.g (w := w) F (by (repeat (first | exact Below.refl _ _ | refine Below.alloc ?_ (by simp; try omega) _ | refine Below.setCell ?_ (by simp; try omega) _)))
      have hz := F.below.size
      have W1 := Lib.hid F.below
      have c3 : (w1.alloc (.cells #[.slice A1 l1 c1] 31)).cell? ⟨w.heap.size, 0, none⟩ = some (.slice A xs.length c) := by
        rw [(below_alloc w1 _).cell (p := ⟨w.heap.size, 0, none⟩) (by have := hz; simp at this; show w.heap.size < _; omega), W1.out.cell (p := ⟨w.heap.size, 0, none⟩) (by simp; omega)]
        exact ((Box.new w 31 #[.slice A xs.length c]).alloc _).cell 0
      have B1 : Box ((w.alloc (.cells #[.slice A xs.length c] 31)).alloc (.cells #[.slice none 0 0] 31)) (w.heap.size + 1) 31 #[.slice none 0 0] := by
        have := Box.new (w.alloc (.cells #[.slice A xs.length c] 31)) 31 #[.slice none 0 0]
        simpa using this
      have c4 : (w1.alloc (.cells #[.slice A1 l1 c1] 31)).cell? ⟨w.heap.size + 1, 0, none⟩ = some (.slice none 0 0) := by
        rw [(below_alloc w1 _).cell (p := ⟨w.heap.size + 1, 0, none⟩) (by have := hz; simp at this; show w.heap.size + 1 < _; omega), W1.out.cell (p := ⟨w.heap.size + 1, 0, none⟩) (by simp)]
        exact B1.cell 0
      have f4 : (w1.alloc (.cells #[.slice A1 l1 c1] 31)).frozen? ⟨w.heap.size + 1, 0, none⟩ = false := by
        rw [(below_alloc w1 _).frozen (p := ⟨w.heap.size + 1, 0, none⟩) (by have := hz; simp at this; show w.heap.size + 1 < _; omega), W1.out.frozen (p := ⟨w.heap.size + 1, 0, none⟩) (by simp)]
        exact B1.frozen 0
      clear B1 W1
      simp at hz G
      clear F h
      go_wp2_with (go_at_call 86; refine (specIn_t _ _ _ _ (by omega) (by omega)).mono ?_; rintro e w' ⟨rfl, rfl⟩)
      refine bodyPost_ret (v := .tuple #[.agg #[.slice A1 l1 c1], .bool false]) (by simp [results, Try.results70, go_sem, c4]) rfl ⟨_, _, _, rfl, FreshG.fresh (lo := w.heap.size + 2) ?_ (by omega)⟩
      repeat (first | exact G | refine FreshG.set OBB_good ?_ (by simp; try omega) (by simp; try omega) _ | refine FreshG.alloc OBB_good ?_ _)
  · have e : ok = false := by rw [← hok.out]; unfold repOk; rw [decide_eq_false (fun hc => hin hc.1)]
    subst e
    have e2 : repRow xs i r = xs := by unfold repRow; rw [if_neg (by rw [hok.out]; simp)]
    rw [e2]
    have HIN := Lib.hid hin
    clear hok e2 hin
    go_enter Try.func70, Try.ntmps70
    go_wp2_with fail
    refine (specCopyDb_c _ _ _ (Rd_reads (Rd_reads RB_reads) _ _ _ _ h ?_) hn).mono ?_
    · (repeat (first | exact Below.refl _ _ | refine Below.alloc ?_ (by simp; try omega) _ | refine Below.setCell ?_ (by simp; try omega) _))
    rintro e w1 ⟨A1, l1, c1, rfl, F⟩
    have G := Fresh.g (w := w) F (by (repeat (first | exact Below.refl _ _ | refine Below.alloc ?_ (by simp; try omega) _ | refine Below.setCell ?_ (by simp; try omega) _)))
    have hz := F.below.size
    have W1 := Lib.hid F.below
    have c3 : (w1.alloc (.cells #[.slice A1 l1 c1] 31)).cell? ⟨w.heap.size, 0, none⟩ = some (.slice A xs.length c) := by
      rw [(below_alloc w1 _).cell (p := ⟨w.heap.size, 0, none⟩) (by have := hz; simp at this; show w.heap.size < _; omega), W1.out.cell (p := ⟨w.heap.size, 0, none⟩) (by simp; omega)]
      exact ((Box.new w 31 #[.slice A xs.length c]).alloc _).cell 0
    have B1 : Box ((w.alloc (.cells #[.slice A xs.length c] 31)).alloc (.cells #[.slice none 0 0] 31)) (w.heap.size + 1) 31 #[.slice none 0 0] := by
      have := Box.new (w.alloc (.cells #[.slice A xs.length c] 31)) 31 #[.slice none 0 0]
      simpa using this
    have c4 : (w1.alloc (.cells #[.slice A1 l1 c1] 31)).cell? ⟨w.heap.size + 1, 0, none⟩ = some (.slice none 0 0) := by
      rw [(below_alloc w1 _).cell (p := ⟨w.heap.size + 1, 0, none⟩) (by have := hz; simp at this; show w.heap.size + 1 < _; omega), W1.out.cell (p := ⟨w.heap.size + 1, 0, none⟩) (by simp)]
      exact B1.cell 0
    have f4 : (w1.alloc (.cells #[.slice A1 l1 c1] 31)).frozen? ⟨w.heap.size + 1, 0, none⟩ = false := by
      rw [(below_alloc w1 _).frozen (p := ⟨w.heap.size + 1, 0, none⟩) (by have := hz; simp at this; show w.heap.size + 1 < _; omega), W1.out.frozen (p := ⟨w.heap.size + 1, 0, none⟩) (by simp)]
      exact B1.frozen 0
    clear B1 W1
    simp at hz G
    clear F h
    go_wp2_with (go_at_call 86; refine (specIn_f _ _ _ _ (fun hc => HIN.out ⟨hc.1, by omega⟩)).mono ?_; rintro e w' ⟨rfl, rfl⟩)
    refine bodyPost_ret (v := .tuple #[.agg #[.slice A1 l1 c1], .bool false]) (by simp [results, Try.results70, go_sem, c4]) rfl ⟨_, _, _, rfl, FreshG.fresh (lo := w.heap.size + 2) ?_ (by omega)⟩
    repeat (first | exact G | refine FreshG.set OBB_good ?_ (by simp; try omega) (by simp; try omega) _ | refine FreshG.alloc OBB_good ?_ _)
end Go.Proofs.Ytokhogdocaeelaa
