/- XorDatabases: the plain function, the program's half. -/
import Derived.Test.YtokhogdocaeelaaRep
import Derived.Test.YtokhogdocaeelaaBoxes
import Derived.Deep.RegionWith
import Derived.Deep.RegionLaw
namespace Go.Proofs.Ytokhogdocaeelaa
set_option linter.unusedVariables false
open Go.RowKit

def xdOk (a b : List (List UInt8)) : Bool := dbOk a && (dbOk b && decide (a.length = b.length))
def xorDb (a b : List (List UInt8)) : List (List UInt8) := if xdOk a b then List.zipWith xorB a b else a
/-- The first k rows combined, the others as they were. -/
def xdP (a b : List (List UInt8)) (k : Nat) : List (List UInt8) := (List.zipWith xorB a b).take k ++ a.drop k
theorem zip_get (a b : List (List UInt8)) (k : Nat) (x y : List UInt8) (hx : a[k]? = some x) (hy : b[k]? = some y) : (List.zipWith xorB a b)[k]? = some (xorB x y) := by
  rw [List.getElem?_zipWith, hx, hy]
theorem zip_len (a b : List (List UInt8)) (h : a.length = b.length) : (List.zipWith xorB a b).length = a.length := by rw [List.length_zipWith]; omega
theorem xdP_len (a b : List (List UInt8)) (k : Nat) (h : a.length = b.length) : (xdP a b k).length = a.length := by
  unfold xdP
  rw [List.length_append, List.length_take, List.length_drop, zip_len a b h]
  omega
theorem xdP_zero (a b : List (List UInt8)) : xdP a b 0 = a := by simp [xdP]
theorem xdP_full (a b : List (List UInt8)) (h : a.length = b.length) : xdP a b a.length = List.zipWith xorB a b := by
  unfold xdP
  rw [List.take_of_length_le (by rw [zip_len a b h]; exact Nat.le_refl _), List.drop_of_length_le (Nat.le_refl _), List.append_nil]
theorem xdP_get (a b : List (List UInt8)) (k : Nat) (h : a.length = b.length) (hk : k < a.length) : (xdP a b k)[k]? = a[k]? := by
  unfold xdP
  have e : ((List.zipWith xorB a b).take k).length = k := by rw [List.length_take, zip_len a b h]; omega
  rw [List.getElem?_append_right (by omega), e, Nat.sub_self, List.getElem?_drop]
  simp
theorem xdP_set (a b : List (List UInt8)) (k : Nat) (h : a.length = b.length) (x y : List UInt8) (hx : a[k]? = some x) (hy : b[k]? = some y) : (xdP a b k).set k (xorB x y) = xdP a b (k + 1) := by
  have hk : k < a.length := (List.getElem?_eq_some_iff.1 hx).1
  have e : ((List.zipWith xorB a b).take k).length = k := by rw [List.length_take, zip_len a b h]; omega
  unfold xdP
  rw [List.set_append, if_neg (by omega), e, Nat.sub_self, List.drop_eq_getElem_cons hk, List.set_cons_zero, take_succ_get _ k _ (zip_get a b k x y hx hy)]
  simp
theorem zip_sum (a b : List (List UInt8)) : sumL (List.zipWith xorB a b) ≤ sumL a + sumL b := by
  induction a generalizing b with
  | nil => simp [sumL]
  | cons x a ih =>
    cases b with
    | nil => simp [sumL]
    | cons y b =>
      have := ih b
      have := xorB_len x y
      simp [sumL] at *
      omega
theorem xorDb_sum (a b : List (List UInt8)) : sumL (xorDb a b) ≤ sumL a + sumL b := by
  unfold xorDb
  split
  · exact zip_sum a b
  · omega

set_option maxHeartbeats 4000000 in
set_option maxRecDepth 100000 in
theorem implXorDb_c (v1 v2 : Value) (a b : List (List UInt8)) (ok : Bool) (w : World) (h1 : Rd (Rd RB) w v1 a) (h2 : Rd (Rd RB) w v2 b) (hok : Hid (xdOk a b = ok)) (hn : tot a ≤ 1048576) (hm : tot b ≤ 1048576) :
    Calls Try.prog 67 #[.agg #[v1], .agg #[v2]] w fun e w' => ∃ A l c, e = .returned (.tuple #[.agg #[.slice A l c], .bool ok]) ∧ Fresh OBB w w' (.slice A l c) (xorDb a b) := by
  obtain ⟨A, n, c, rfl, h1'⟩ := h1
  obtain ⟨B, m, d, rfl, h2'⟩ := h2
  obtain rfl := h1'.1
  have h1 : Rd (Rd RB) w (.slice A a.length c) a := ⟨_, _, _, rfl, h1'⟩
  have h2 : Rd (Rd RB) w (.slice B m d) b := ⟨_, _, _, rfl, h2'⟩
  have HBL := Lib.hid h2'.1
  have hnc := h1'.2.1
  have hcm := h1'.2.2.1
  have hnc2 := h2'.2.1
  have hcm2 := h2'.2.2.1
  unfold maxLen at hcm hcm2
  have hls := len_le_tot a
  have hsa := sumL_le a
  have hsb := sumL_le b
  have hml : m ≤ 1048576 := by have := len_le_tot b; have := HBL.out; omega
  have HA := Lib.hid h1'
  have HB := Lib.hid h2'
  clear h1' h2'
  have VA : Hid (∀ o, dbOk a = o → ∀ W v, Rd (Rd RB) W v a → Calls Try.prog 110 #[.agg #[v]] W fun e w' => e = .returned (.bool o) ∧ Below W.heap.size W w') := Lib.hid (fun o ho W v h => by rw [← ho]; exact implIsValidDatabase_c v a W h)
  have VB : Hid (∀ o, dbOk b = o → ∀ W v, Rd (Rd RB) W v b → Calls Try.prog 110 #[.agg #[v]] W fun e w' => e = .returned (.bool o) ∧ Below W.heap.size W w') := Lib.hid (fun o ho W v h => by rw [← ho]; exact implIsValidDatabase_c v b W h)
  cases ha : dbOk a with
  | false =>
    have e : ok = false := by rw [← hok.out]; unfold xdOk; rw [ha]; rfl
    subst e
    have e2 : xorDb a b = a := by unfold xorDb; rw [if_neg (by rw [hok.out]; simp)]
    rw [e2]
    have OA := Lib.hid ha
    clear hok e2 ha
    obtain ⟨B_a, B_b, B_r, T, hs_w0⟩ := boxes3 w 31 #[.slice A a.length c] 31 #[.slice B m d] 31 #[.slice none 0 0]
    replace B_a := Lib.hid B_a
    replace B_b := Lib.hid B_b
    replace B_r := Lib.hid B_r
    have RA := Rd_reads (Rd_reads RB_reads) _ _ _ _ h1 T
    have RB_ := Rd_reads (Rd_reads RB_reads) _ _ _ _ h2 T
    go_enter Try.func67, Try.ntmps67
    go_wp2_with fail
    generalize (((w.alloc (.cells #[.slice A a.length c] 31)).alloc (.cells #[.slice B m d] 31)).alloc (.cells #[.slice none 0 0] 31)) = w0 at *
    refine (implCopyDb_c _ _ _ RA hn).mono ?_
    rintro e w1 ⟨A1, l1, c1, rfl, F⟩
    have NR := Lib.hid F.nrow
    replace B_a := Lib.hid (B_a.out.below F.below B_a.out.lt)
    replace B_b := Lib.hid (B_b.out.below F.below B_b.out.lt)
    replace B_r := Lib.hid (B_r.out.below F.below B_r.out.lt)
    replace RA := Rd_reads (Rd_reads RB_reads) _ _ _ _ RA F.below
    replace RB_ := Rd_reads (Rd_reads RB_reads) _ _ _ _ RB_ F.below
    replace T := T.trans (F.below.mono T.size)
    have hs_1 := F.below.size
    clear F
    have HG := Lib.hid (fun q hq => (NR.out.lt (Own_good FB_good) q hq).2)
    have b := below_alloc w1 (.cells #[.slice A1 l1 c1] 31)
    replace B_a := Lib.hid (B_a.out.below b B_a.out.lt)
    replace B_b := Lib.hid (B_b.out.below b B_b.out.lt)
    replace B_r := Lib.hid (B_r.out.below b B_r.out.lt)
    replace RA := Rd_reads (Rd_reads RB_reads) _ _ _ _ RA b
    replace RB_ := Rd_reads (Rd_reads RB_reads) _ _ _ _ RB_ b
    replace NR := Lib.hid (NR.out.below (Own_good FB_good) b)
    replace T := T.trans (b.mono T.size)
    have hs_2 := b.size
    clear b
    have B_o := Lib.hid (Box.new w1 31 #[.slice A1 l1 c1])
    have hlo : w1.heap.size < (w1.alloc (.cells #[.slice A1 l1 c1] 31)).heap.size := B_o.out.lt
    have c_a_0 : ((w1.alloc (.cells #[.slice A1 l1 c1] 31))).cell? ⟨w.heap.size, 0, none⟩ = some (.slice A a.length c) := B_a.out.cell 0
    have f_a_0 : ((w1.alloc (.cells #[.slice A1 l1 c1] 31))).frozen? ⟨w.heap.size, 0, none⟩ = false := B_a.out.frozen 0
    have c_b_0 : ((w1.alloc (.cells #[.slice A1 l1 c1] 31))).cell? ⟨w.heap.size + 1, 0, none⟩ = some (.slice B m d) := B_b.out.cell 0
    have f_b_0 : ((w1.alloc (.cells #[.slice A1 l1 c1] 31))).frozen? ⟨w.heap.size + 1, 0, none⟩ = false := B_b.out.frozen 0
    have c_r_0 : ((w1.alloc (.cells #[.slice A1 l1 c1] 31))).cell? ⟨w.heap.size + 2, 0, none⟩ = some (.slice none 0 0) := B_r.out.cell 0
    have f_r_0 : ((w1.alloc (.cells #[.slice A1 l1 c1] 31))).frozen? ⟨w.heap.size + 2, 0, none⟩ = false := B_r.out.frozen 0
    have c_o_0 : ((w1.alloc (.cells #[.slice A1 l1 c1] 31))).cell? ⟨w1.heap.size, 0, none⟩ = some (.slice A1 l1 c1) := B_o.out.cell 0
    have f_o_0 : ((w1.alloc (.cells #[.slice A1 l1 c1] 31))).frozen? ⟨w1.heap.size, 0, none⟩ = false := B_o.out.frozen 0
    go_wp2_with fail
    clear c_a_0 f_a_0 c_b_0 f_b_0 c_r_0 f_r_0 c_o_0 f_o_0
    generalize (w1.alloc (.cells #[.slice A1 l1 c1] 31)) = w2 at *
    refine (VA.out _ OA.out _ _ RA).mono ?_
    rintro e w3 ⟨rfl, b⟩
    replace B_a := Lib.hid (B_a.out.below b B_a.out.lt)
    replace B_b := Lib.hid (B_b.out.below b B_b.out.lt)
    replace B_r := Lib.hid (B_r.out.below b B_r.out.lt)
    replace B_o := Lib.hid (B_o.out.below b B_o.out.lt)
    replace RA := Rd_reads (Rd_reads RB_reads) _ _ _ _ RA b
    replace RB_ := Rd_reads (Rd_reads RB_reads) _ _ _ _ RB_ b
    replace NR := Lib.hid (NR.out.below (Own_good FB_good) b)
    replace T := T.trans (b.mono T.size)
    have hs_3 := b.size
    clear b
    have NR1 := NR
    have c_a_0 : (w3).cell? ⟨w.heap.size, 0, none⟩ = some (.slice A a.length c) := B_a.out.cell 0
    have f_a_0 : (w3).frozen? ⟨w.heap.size, 0, none⟩ = false := B_a.out.frozen 0
    have c_b_0 : (w3).cell? ⟨w.heap.size + 1, 0, none⟩ = some (.slice B m d) := B_b.out.cell 0
    have f_b_0 : (w3).frozen? ⟨w.heap.size + 1, 0, none⟩ = false := B_b.out.frozen 0
    have c_r_0 : (w3).cell? ⟨w.heap.size + 2, 0, none⟩ = some (.slice none 0 0) := B_r.out.cell 0
    have f_r_0 : (w3).frozen? ⟨w.heap.size + 2, 0, none⟩ = false := B_r.out.frozen 0
    have c_o_0 : (w3).cell? ⟨w1.heap.size, 0, none⟩ = some (.slice A1 l1 c1) := B_o.out.cell 0
    have f_o_0 : (w3).frozen? ⟨w1.heap.size, 0, none⟩ = false := B_o.out.frozen 0
    go_wp2
    have c12 := (B_r.out.set_ 0 (.slice A1 l1 c1)).cell 0
    have FIN := Lib.hid (NR1.out.boxed (Own_good FB_good) T (by omega) (p := ⟨w.heap.size + 2, 0, none⟩) (by simp) (by show w.heap.size + 2 < _; omega) (.slice A1 l1 c1))
    refine bodyPost_ret (v := .tuple #[.agg #[.slice A1 l1 c1], .bool false]) (by simp [results, Try.results67, go_sem, c12]) rfl ⟨_, _, _, rfl, FIN.out⟩
  | true =>
    cases hb : dbOk b with
    | false =>
      have e : ok = false := by rw [← hok.out]; unfold xdOk; rw [ha, hb]; rfl
      subst e
      have e2 : xorDb a b = a := by unfold xorDb; rw [if_neg (by rw [hok.out]; simp)]
      rw [e2]
      have OA := Lib.hid ha
      have OB := Lib.hid hb
      clear hok e2 ha hb
      obtain ⟨B_a, B_b, B_r, T, hs_w0⟩ := boxes3 w 31 #[.slice A a.length c] 31 #[.slice B m d] 31 #[.slice none 0 0]
      replace B_a := Lib.hid B_a
      replace B_b := Lib.hid B_b
      replace B_r := Lib.hid B_r
      have RA := Rd_reads (Rd_reads RB_reads) _ _ _ _ h1 T
      have RB_ := Rd_reads (Rd_reads RB_reads) _ _ _ _ h2 T
      go_enter Try.func67, Try.ntmps67
      go_wp2_with fail
      generalize (((w.alloc (.cells #[.slice A a.length c] 31)).alloc (.cells #[.slice B m d] 31)).alloc (.cells #[.slice none 0 0] 31)) = w0 at *
      refine (implCopyDb_c _ _ _ RA hn).mono ?_
      rintro e w1 ⟨A1, l1, c1, rfl, F⟩
      have NR := Lib.hid F.nrow
      replace B_a := Lib.hid (B_a.out.below F.below B_a.out.lt)
      replace B_b := Lib.hid (B_b.out.below F.below B_b.out.lt)
      replace B_r := Lib.hid (B_r.out.below F.below B_r.out.lt)
      replace RA := Rd_reads (Rd_reads RB_reads) _ _ _ _ RA F.below
      replace RB_ := Rd_reads (Rd_reads RB_reads) _ _ _ _ RB_ F.below
      replace T := T.trans (F.below.mono T.size)
      have hs_1 := F.below.size
      clear F
      have HG := Lib.hid (fun q hq => (NR.out.lt (Own_good FB_good) q hq).2)
      have b := below_alloc w1 (.cells #[.slice A1 l1 c1] 31)
      replace B_a := Lib.hid (B_a.out.below b B_a.out.lt)
      replace B_b := Lib.hid (B_b.out.below b B_b.out.lt)
      replace B_r := Lib.hid (B_r.out.below b B_r.out.lt)
      replace RA := Rd_reads (Rd_reads RB_reads) _ _ _ _ RA b
      replace RB_ := Rd_reads (Rd_reads RB_reads) _ _ _ _ RB_ b
      replace NR := Lib.hid (NR.out.below (Own_good FB_good) b)
      replace T := T.trans (b.mono T.size)
      have hs_2 := b.size
      clear b
      have B_o := Lib.hid (Box.new w1 31 #[.slice A1 l1 c1])
      have hlo : w1.heap.size < (w1.alloc (.cells #[.slice A1 l1 c1] 31)).heap.size := B_o.out.lt
      have c_a_0 : ((w1.alloc (.cells #[.slice A1 l1 c1] 31))).cell? ⟨w.heap.size, 0, none⟩ = some (.slice A a.length c) := B_a.out.cell 0
      have f_a_0 : ((w1.alloc (.cells #[.slice A1 l1 c1] 31))).frozen? ⟨w.heap.size, 0, none⟩ = false := B_a.out.frozen 0
      have c_b_0 : ((w1.alloc (.cells #[.slice A1 l1 c1] 31))).cell? ⟨w.heap.size + 1, 0, none⟩ = some (.slice B m d) := B_b.out.cell 0
      have f_b_0 : ((w1.alloc (.cells #[.slice A1 l1 c1] 31))).frozen? ⟨w.heap.size + 1, 0, none⟩ = false := B_b.out.frozen 0
      have c_r_0 : ((w1.alloc (.cells #[.slice A1 l1 c1] 31))).cell? ⟨w.heap.size + 2, 0, none⟩ = some (.slice none 0 0) := B_r.out.cell 0
      have f_r_0 : ((w1.alloc (.cells #[.slice A1 l1 c1] 31))).frozen? ⟨w.heap.size + 2, 0, none⟩ = false := B_r.out.frozen 0
      have c_o_0 : ((w1.alloc (.cells #[.slice A1 l1 c1] 31))).cell? ⟨w1.heap.size, 0, none⟩ = some (.slice A1 l1 c1) := B_o.out.cell 0
      have f_o_0 : ((w1.alloc (.cells #[.slice A1 l1 c1] 31))).frozen? ⟨w1.heap.size, 0, none⟩ = false := B_o.out.frozen 0
      go_wp2_with fail
      clear c_a_0 f_a_0 c_b_0 f_b_0 c_r_0 f_r_0 c_o_0 f_o_0
      generalize (w1.alloc (.cells #[.slice A1 l1 c1] 31)) = w2 at *
      refine (VA.out _ OA.out _ _ RA).mono ?_
      rintro e w3 ⟨rfl, b⟩
      replace B_a := Lib.hid (B_a.out.below b B_a.out.lt)
      replace B_b := Lib.hid (B_b.out.below b B_b.out.lt)
      replace B_r := Lib.hid (B_r.out.below b B_r.out.lt)
      replace B_o := Lib.hid (B_o.out.below b B_o.out.lt)
      replace RA := Rd_reads (Rd_reads RB_reads) _ _ _ _ RA b
      replace RB_ := Rd_reads (Rd_reads RB_reads) _ _ _ _ RB_ b
      replace NR := Lib.hid (NR.out.below (Own_good FB_good) b)
      replace T := T.trans (b.mono T.size)
      have hs_3 := b.size
      clear b
      have c_a_0 : (w3).cell? ⟨w.heap.size, 0, none⟩ = some (.slice A a.length c) := B_a.out.cell 0
      have f_a_0 : (w3).frozen? ⟨w.heap.size, 0, none⟩ = false := B_a.out.frozen 0
      have c_b_0 : (w3).cell? ⟨w.heap.size + 1, 0, none⟩ = some (.slice B m d) := B_b.out.cell 0
      have f_b_0 : (w3).frozen? ⟨w.heap.size + 1, 0, none⟩ = false := B_b.out.frozen 0
      have c_r_0 : (w3).cell? ⟨w.heap.size + 2, 0, none⟩ = some (.slice none 0 0) := B_r.out.cell 0
      have f_r_0 : (w3).frozen? ⟨w.heap.size + 2, 0, none⟩ = false := B_r.out.frozen 0
      have c_o_0 : (w3).cell? ⟨w1.heap.size, 0, none⟩ = some (.slice A1 l1 c1) := B_o.out.cell 0
      have f_o_0 : (w3).frozen? ⟨w1.heap.size, 0, none⟩ = false := B_o.out.frozen 0
      go_wp2_with fail
      refine (VB.out _ OB.out _ _ RB_).mono ?_
      rintro e w4 ⟨rfl, b⟩
      clear c_a_0 f_a_0 c_b_0 f_b_0 c_r_0 f_r_0 c_o_0 f_o_0
      replace B_a := Lib.hid (B_a.out.below b B_a.out.lt)
      replace B_b := Lib.hid (B_b.out.below b B_b.out.lt)
      replace B_r := Lib.hid (B_r.out.below b B_r.out.lt)
      replace B_o := Lib.hid (B_o.out.below b B_o.out.lt)
      replace RA := Rd_reads (Rd_reads RB_reads) _ _ _ _ RA b
      replace RB_ := Rd_reads (Rd_reads RB_reads) _ _ _ _ RB_ b
      replace NR := Lib.hid (NR.out.below (Own_good FB_good) b)
      replace T := T.trans (b.mono T.size)
      have hs_4 := b.size
      clear b
      have NR1 := NR
      have c_a_0 : (w4).cell? ⟨w.heap.size, 0, none⟩ = some (.slice A a.length c) := B_a.out.cell 0
      have f_a_0 : (w4).frozen? ⟨w.heap.size, 0, none⟩ = false := B_a.out.frozen 0
      have c_b_0 : (w4).cell? ⟨w.heap.size + 1, 0, none⟩ = some (.slice B m d) := B_b.out.cell 0
      have f_b_0 : (w4).frozen? ⟨w.heap.size + 1, 0, none⟩ = false := B_b.out.frozen 0
      have c_r_0 : (w4).cell? ⟨w.heap.size + 2, 0, none⟩ = some (.slice none 0 0) := B_r.out.cell 0
      have f_r_0 : (w4).frozen? ⟨w.heap.size + 2, 0, none⟩ = false := B_r.out.frozen 0
      have c_o_0 : (w4).cell? ⟨w1.heap.size, 0, none⟩ = some (.slice A1 l1 c1) := B_o.out.cell 0
      have f_o_0 : (w4).frozen? ⟨w1.heap.size, 0, none⟩ = false := B_o.out.frozen 0
      go_wp2
      have c12 := (B_r.out.set_ 0 (.slice A1 l1 c1)).cell 0
      have FIN := Lib.hid (NR1.out.boxed (Own_good FB_good) T (by omega) (p := ⟨w.heap.size + 2, 0, none⟩) (by simp) (by show w.heap.size + 2 < _; omega) (.slice A1 l1 c1))
      refine bodyPost_ret (v := .tuple #[.agg #[.slice A1 l1 c1], .bool false]) (by simp [results, Try.results67, go_sem, c12]) rfl ⟨_, _, _, rfl, FIN.out⟩
    | true =>
      by_cases hl : a.length = m
      · subst hl
        have e : ok = true := by rw [← hok.out]; unfold xdOk; rw [ha, hb, HBL.out]; simp
        subst e
        have e2 : xorDb a b = List.zipWith xorB a b := by unfold xorDb; rw [if_pos hok.out]
        rw [e2]
        have OA := Lib.hid ha
        have OB := Lib.hid hb
        have HE : Hid (a.length = b.length) := Lib.hid HBL.out.symm
        clear hok e2 ha hb
        obtain ⟨B_a, B_b, B_r, T, hs_w0⟩ := boxes3 w 31 #[.slice A a.length c] 31 #[.slice B a.length d] 31 #[.slice none 0 0]
        replace B_a := Lib.hid B_a
        replace B_b := Lib.hid B_b
        replace B_r := Lib.hid B_r
        have RA := Rd_reads (Rd_reads RB_reads) _ _ _ _ h1 T
        have RB_ := Rd_reads (Rd_reads RB_reads) _ _ _ _ h2 T
        go_enter Try.func67, Try.ntmps67
        go_wp2_with fail
        generalize (((w.alloc (.cells #[.slice A a.length c] 31)).alloc (.cells #[.slice B a.length d] 31)).alloc (.cells #[.slice none 0 0] 31)) = w0 at *
        refine (implCopyDb_c _ _ _ RA hn).mono ?_
        rintro e w1 ⟨A1, l1, c1, rfl, F⟩
        have NR := Lib.hid F.nrow
        replace B_a := Lib.hid (B_a.out.below F.below B_a.out.lt)
        replace B_b := Lib.hid (B_b.out.below F.below B_b.out.lt)
        replace B_r := Lib.hid (B_r.out.below F.below B_r.out.lt)
        replace RA := Rd_reads (Rd_reads RB_reads) _ _ _ _ RA F.below
        replace RB_ := Rd_reads (Rd_reads RB_reads) _ _ _ _ RB_ F.below
        replace T := T.trans (F.below.mono T.size)
        have hs_1 := F.below.size
        clear F
        have HG := Lib.hid (fun q hq => (NR.out.lt (Own_good FB_good) q hq).2)
        have b := below_alloc w1 (.cells #[.slice A1 l1 c1] 31)
        replace B_a := Lib.hid (B_a.out.below b B_a.out.lt)
        replace B_b := Lib.hid (B_b.out.below b B_b.out.lt)
        replace B_r := Lib.hid (B_r.out.below b B_r.out.lt)
        replace RA := Rd_reads (Rd_reads RB_reads) _ _ _ _ RA b
        replace RB_ := Rd_reads (Rd_reads RB_reads) _ _ _ _ RB_ b
        replace NR := Lib.hid (NR.out.below (Own_good FB_good) b)
        replace T := T.trans (b.mono T.size)
        have hs_2 := b.size
        clear b
        have B_o := Lib.hid (Box.new w1 31 #[.slice A1 l1 c1])
        have hlo : w1.heap.size < (w1.alloc (.cells #[.slice A1 l1 c1] 31)).heap.size := B_o.out.lt
        have c_a_0 : ((w1.alloc (.cells #[.slice A1 l1 c1] 31))).cell? ⟨w.heap.size, 0, none⟩ = some (.slice A a.length c) := B_a.out.cell 0
        have f_a_0 : ((w1.alloc (.cells #[.slice A1 l1 c1] 31))).frozen? ⟨w.heap.size, 0, none⟩ = false := B_a.out.frozen 0
        have c_b_0 : ((w1.alloc (.cells #[.slice A1 l1 c1] 31))).cell? ⟨w.heap.size + 1, 0, none⟩ = some (.slice B a.length d) := B_b.out.cell 0
        have f_b_0 : ((w1.alloc (.cells #[.slice A1 l1 c1] 31))).frozen? ⟨w.heap.size + 1, 0, none⟩ = false := B_b.out.frozen 0
        have c_r_0 : ((w1.alloc (.cells #[.slice A1 l1 c1] 31))).cell? ⟨w.heap.size + 2, 0, none⟩ = some (.slice none 0 0) := B_r.out.cell 0
        have f_r_0 : ((w1.alloc (.cells #[.slice A1 l1 c1] 31))).frozen? ⟨w.heap.size + 2, 0, none⟩ = false := B_r.out.frozen 0
        have c_o_0 : ((w1.alloc (.cells #[.slice A1 l1 c1] 31))).cell? ⟨w1.heap.size, 0, none⟩ = some (.slice A1 l1 c1) := B_o.out.cell 0
        have f_o_0 : ((w1.alloc (.cells #[.slice A1 l1 c1] 31))).frozen? ⟨w1.heap.size, 0, none⟩ = false := B_o.out.frozen 0
        go_wp2_with fail
        clear c_a_0 f_a_0 c_b_0 f_b_0 c_r_0 f_r_0 c_o_0 f_o_0
        generalize (w1.alloc (.cells #[.slice A1 l1 c1] 31)) = w2 at *
        refine (VA.out _ OA.out _ _ RA).mono ?_
        rintro e w3 ⟨rfl, b⟩
        replace B_a := Lib.hid (B_a.out.below b B_a.out.lt)
        replace B_b := Lib.hid (B_b.out.below b B_b.out.lt)
        replace B_r := Lib.hid (B_r.out.below b B_r.out.lt)
        replace B_o := Lib.hid (B_o.out.below b B_o.out.lt)
        replace RA := Rd_reads (Rd_reads RB_reads) _ _ _ _ RA b
        replace RB_ := Rd_reads (Rd_reads RB_reads) _ _ _ _ RB_ b
        replace NR := Lib.hid (NR.out.below (Own_good FB_good) b)
        replace T := T.trans (b.mono T.size)
        have hs_3 := b.size
        clear b
        have c_a_0 : (w3).cell? ⟨w.heap.size, 0, none⟩ = some (.slice A a.length c) := B_a.out.cell 0
        have f_a_0 : (w3).frozen? ⟨w.heap.size, 0, none⟩ = false := B_a.out.frozen 0
        have c_b_0 : (w3).cell? ⟨w.heap.size + 1, 0, none⟩ = some (.slice B a.length d) := B_b.out.cell 0
        have f_b_0 : (w3).frozen? ⟨w.heap.size + 1, 0, none⟩ = false := B_b.out.frozen 0
        have c_r_0 : (w3).cell? ⟨w.heap.size + 2, 0, none⟩ = some (.slice none 0 0) := B_r.out.cell 0
        have f_r_0 : (w3).frozen? ⟨w.heap.size + 2, 0, none⟩ = false := B_r.out.frozen 0
        have c_o_0 : (w3).cell? ⟨w1.heap.size, 0, none⟩ = some (.slice A1 l1 c1) := B_o.out.cell 0
        have f_o_0 : (w3).frozen? ⟨w1.heap.size, 0, none⟩ = false := B_o.out.frozen 0
        go_wp2_with fail
        refine (VB.out _ OB.out _ _ RB_).mono ?_
        rintro e w4 ⟨rfl, b⟩
        clear c_a_0 f_a_0 c_b_0 f_b_0 c_r_0 f_r_0 c_o_0 f_o_0
        replace B_a := Lib.hid (B_a.out.below b B_a.out.lt)
        replace B_b := Lib.hid (B_b.out.below b B_b.out.lt)
        replace B_r := Lib.hid (B_r.out.below b B_r.out.lt)
        replace B_o := Lib.hid (B_o.out.below b B_o.out.lt)
        replace RA := Rd_reads (Rd_reads RB_reads) _ _ _ _ RA b
        replace RB_ := Rd_reads (Rd_reads RB_reads) _ _ _ _ RB_ b
        replace NR := Lib.hid (NR.out.below (Own_good FB_good) b)
        replace T := T.trans (b.mono T.size)
        have hs_4 := b.size
        clear b
        have c_a_0 : (w4).cell? ⟨w.heap.size, 0, none⟩ = some (.slice A a.length c) := B_a.out.cell 0
        have f_a_0 : (w4).frozen? ⟨w.heap.size, 0, none⟩ = false := B_a.out.frozen 0
        have c_b_0 : (w4).cell? ⟨w.heap.size + 1, 0, none⟩ = some (.slice B a.length d) := B_b.out.cell 0
        have f_b_0 : (w4).frozen? ⟨w.heap.size + 1, 0, none⟩ = false := B_b.out.frozen 0
        have c_r_0 : (w4).cell? ⟨w.heap.size + 2, 0, none⟩ = some (.slice none 0 0) := B_r.out.cell 0
        have f_r_0 : (w4).frozen? ⟨w.heap.size + 2, 0, none⟩ = false := B_r.out.frozen 0
        have c_o_0 : (w4).cell? ⟨w1.heap.size, 0, none⟩ = some (.slice A1 l1 c1) := B_o.out.cell 0
        have f_o_0 : (w4).frozen? ⟨w1.heap.size, 0, none⟩ = false := B_o.out.frozen 0
        go_wp2
        clear c_a_0 f_a_0 c_b_0 f_b_0 c_r_0 f_r_0 c_o_0 f_o_0
        go_loopw [32] (fun i wr => ∃ k : Nat, k ≤ a.length ∧ i = .int .i64 k ∧ Hid (NRow 22 (Own 5 FB) w0.heap.size wr (.slice A1 l1 c1) a.length (xdP a b k) []) ∧ Hid (Box wr (w1.heap.size) 31 #[.slice A1 l1 c1]) ∧ Hid (Box wr (w.heap.size + 2) 31 #[.slice none 0 0]) ∧ Below w.heap.size w wr) (fun i _ => a.length - (intOf i).toNat)
        case atStart => exact ⟨0, Nat.zero_le _, rfl, Lib.hid (by rw [xdP_zero]; exact NR.out), B_o, B_r, T⟩
        case round =>
          obtain ⟨k, hk, rfl, NRr, Bo, Br, Tr⟩ := hrel
          clear NR B_o B_r B_a B_b T RA RB_
          by_cases hlt : k < a.length
          · obtain ⟨g, rfl, rfl, hg1, hg2⟩ : ∃ g, A1 = some ⟨g, 0, none⟩ ∧ l1 = a.length ∧ w0.heap.size ≤ g ∧ g < (w1.heap.size) := by
              rcases NRr.out.form with ⟨_, h0⟩ | ⟨g, cap, hv, _, _, q1, q2⟩
              · omega
              · injection hv with hv1 hv2 hv3
                subst hv1 hv2
                exact ⟨g, rfl, rfl, q1, HG.out g rfl⟩
            obtain ⟨b', off', y, uy, rfl, hbb, hy, hu, hr⟩ := HB.out.at_ hlt
            obtain ⟨Ay, ny, cy, rfl, hry⟩ := hr
            have hyl : ny ≤ 1048576 := by have := get_le_sumL b k y hy; have := hry.1; omega
            have hyl2 : y.length ≤ 1048576 := by have := get_le_sumL b k y hy; omega
            have g1 := (Tr.cell (p := ⟨b', off' + k, none⟩) hbb).trans hu
            have ry : Rd RB wr.drew (.slice Ay ny cy) y := Rd_reads RB_reads _ _ _ _ ⟨_, _, _, rfl, hry⟩ Tr.drew
            obtain ⟨x, hx⟩ : ∃ x, a[k]? = some x := ⟨_, List.getElem?_eq_getElem hlt⟩
            have hxl : x.length ≤ 1048576 := by have := get_le_sumL a k x hx; omega
            obtain ⟨ux, gx, fx, hRx⟩ := NRr.out.cell hlt
            obtain ⟨Gx, hRx⟩ := hRx x (by rw [xdP_get a b k HE.out hlt]; exact hx)
            have rx0 := Own.rd hRx (fun q => q.rb)
            obtain ⟨Ax, nx, cx, rfl, hrx⟩ := rx0
            have rx : Rd RB wr.drew (.slice Ax nx cx) x := ⟨_, _, _, rfl, hrx⟩
            have co : wr.drew.cell? ⟨w1.heap.size, 0, none⟩ = some (.slice (some ⟨g, 0, none⟩) a.length c1) := Bo.out.cell 0
            have gxd : wr.drew.cell? ⟨g, k, none⟩ = some (.slice Ax nx cx) := gx
            have HX := Lib.hid hx
            have HY := Lib.hid hy
            have hk0 : (0 : Int) ≤ (k : Int) := by omega
            have hkn : (k : Int) < (a.length : Int) := by omega
            have NRd := Lib.hid (NRr.out.drew_ (Own_good FB_good))
            have Bod : Hid (Box wr.drew (w1.heap.size) 31 #[.slice (some ⟨g, 0, none⟩) a.length c1]) := Bo
            have Brd : Hid (Box wr.drew (w.heap.size + 2) 31 #[.slice none 0 0]) := Br
            have hwr : w0.heap.size ≤ wr.drew.heap.size := by have := Bo.out.lt; show _ ≤ wr.heap.size; omega
            clear hu hry hx hy hRx hrx gx fx
            go_wp2_with fail
            go_region_with (first | (go_at_call 79; refine (implXorBytes_c _ _ x y _ rx ry (by omega) (by omega)).mono ?_; rintro e w3 ⟨u3, rfl, FU⟩; obtain ⟨Au, lu, cu, rfl⟩ := fresh_slice FU; have hs3 := FU.below.size; have NR3 := NRd.out.below (Own_good FB_good) FU.below; obtain ⟨_, _, q2, _⟩ := NR3.cell hlt; have co3 : w3.cell? ⟨w1.heap.size, 0, none⟩ = some (.slice (some ⟨g, 0, none⟩) a.length c1) := (Bod.out.below FU.below Bod.out.lt).cell 0; have gx3 := (FU.below.cell (p := ⟨g, k, none⟩) (by show g < wr.heap.size; have := Bo.out.lt; omega)).trans gxd; have Bo3 := Lib.hid ((Bod.out.below FU.below Bod.out.lt).far (p := ⟨g, k, none⟩) (by show w1.heap.size ≠ g; omega) (.slice Au lu cu)); have Br3 := Lib.hid ((Brd.out.below FU.below Brd.out.lt).far (p := ⟨g, k, none⟩) (by show w.heap.size + 2 ≠ g; omega) (.slice Au lu cu)); have T3 := Lib.hid ((Tr.drew.trans (FU.below.mono Tr.drew.size)).setCell (p := ⟨g, k, none⟩) (by show w.heap.size ≤ g; omega) (.slice Au lu cu)); have NR4 := Lib.hid (NRd.out.replace (Own_good FB_good) (j := k) FU hwr (by rw [xdP_len a b k HE.out]; exact hlt)); clear NR3 FU))
            all_goals
              have NR5 : Hid (NRow 22 (Own 5 FB) w0.heap.size (w3.setCell ⟨g, k, none⟩ (.slice Au lu cu)) (.slice (some ⟨g, 0, none⟩) a.length c1) a.length (xdP a b (k + 1)) []) := Lib.hid (by have := NR4.out; rw [xdP_set a b k HE.out x y HX.out HY.out] at this; exact this)
              clear NR4
              go_wp2
              go_roundw
              case rel => exact ⟨k + 1, by omega, by go_num, NR5, Bo3, Br3, T3.out⟩
              case measure => simp [intOf]; omega
          · have hkn : k = a.length := by omega
            subst hkn
            have NRf : Hid (NRow 22 (Own 5 FB) w0.heap.size wr (.slice A1 l1 c1) a.length (List.zipWith xorB a b) []) := Lib.hid (by have := NRr.out; rw [xdP_full a b HE.out] at this; exact this)
            have co : wr.cell? ⟨w1.heap.size, 0, none⟩ = some (.slice A1 l1 c1) := Bo.out.cell 0
            have cr : wr.cell? ⟨w.heap.size + 2, 0, none⟩ = some (.slice none 0 0) := Br.out.cell 0
            have fr := Br.out.frozen 0
            have c12 := (Br.out.set_ 0 (.slice A1 l1 c1)).cell 0
            have FIN := Lib.hid (NRf.out.boxed (Own_good FB_good) Tr (by omega) (p := ⟨w.heap.size + 2, 0, none⟩) (by simp) (by show w.heap.size + 2 < _; omega) (.slice A1 l1 c1))
            clear NRr NRf
            go_wp2
            refine bodyPost_ret (v := .tuple #[.agg #[.slice A1 l1 c1], .bool true]) (by simp [results, Try.results67, go_sem, c12]) rfl ⟨_, _, _, rfl, FIN.out⟩
      · have e : ok = false := by rw [← hok.out]; unfold xdOk; rw [ha, hb, HBL.out, decide_eq_false hl]; rfl
        subst e
        have e2 : xorDb a b = a := by unfold xorDb; rw [if_neg (by rw [hok.out]; simp)]
        rw [e2]
        have OA := Lib.hid ha
        have OB := Lib.hid hb
        have hz : ¬ (a.length : Int) = (m : Int) := by omega
        clear hok e2 ha hb hl
        obtain ⟨B_a, B_b, B_r, T, hs_w0⟩ := boxes3 w 31 #[.slice A a.length c] 31 #[.slice B m d] 31 #[.slice none 0 0]
        replace B_a := Lib.hid B_a
        replace B_b := Lib.hid B_b
        replace B_r := Lib.hid B_r
        have RA := Rd_reads (Rd_reads RB_reads) _ _ _ _ h1 T
        have RB_ := Rd_reads (Rd_reads RB_reads) _ _ _ _ h2 T
        go_enter Try.func67, Try.ntmps67
        go_wp2_with fail
        generalize (((w.alloc (.cells #[.slice A a.length c] 31)).alloc (.cells #[.slice B m d] 31)).alloc (.cells #[.slice none 0 0] 31)) = w0 at *
        refine (implCopyDb_c _ _ _ RA hn).mono ?_
        rintro e w1 ⟨A1, l1, c1, rfl, F⟩
        have NR := Lib.hid F.nrow
        replace B_a := Lib.hid (B_a.out.below F.below B_a.out.lt)
        replace B_b := Lib.hid (B_b.out.below F.below B_b.out.lt)
        replace B_r := Lib.hid (B_r.out.below F.below B_r.out.lt)
        replace RA := Rd_reads (Rd_reads RB_reads) _ _ _ _ RA F.below
        replace RB_ := Rd_reads (Rd_reads RB_reads) _ _ _ _ RB_ F.below
        replace T := T.trans (F.below.mono T.size)
        have hs_1 := F.below.size
        clear F
        have HG := Lib.hid (fun q hq => (NR.out.lt (Own_good FB_good) q hq).2)
        have b := below_alloc w1 (.cells #[.slice A1 l1 c1] 31)
        replace B_a := Lib.hid (B_a.out.below b B_a.out.lt)
        replace B_b := Lib.hid (B_b.out.below b B_b.out.lt)
        replace B_r := Lib.hid (B_r.out.below b B_r.out.lt)
        replace RA := Rd_reads (Rd_reads RB_reads) _ _ _ _ RA b
        replace RB_ := Rd_reads (Rd_reads RB_reads) _ _ _ _ RB_ b
        replace NR := Lib.hid (NR.out.below (Own_good FB_good) b)
        replace T := T.trans (b.mono T.size)
        have hs_2 := b.size
        clear b
        have B_o := Lib.hid (Box.new w1 31 #[.slice A1 l1 c1])
        have hlo : w1.heap.size < (w1.alloc (.cells #[.slice A1 l1 c1] 31)).heap.size := B_o.out.lt
        have c_a_0 : ((w1.alloc (.cells #[.slice A1 l1 c1] 31))).cell? ⟨w.heap.size, 0, none⟩ = some (.slice A a.length c) := B_a.out.cell 0
        have f_a_0 : ((w1.alloc (.cells #[.slice A1 l1 c1] 31))).frozen? ⟨w.heap.size, 0, none⟩ = false := B_a.out.frozen 0
        have c_b_0 : ((w1.alloc (.cells #[.slice A1 l1 c1] 31))).cell? ⟨w.heap.size + 1, 0, none⟩ = some (.slice B m d) := B_b.out.cell 0
        have f_b_0 : ((w1.alloc (.cells #[.slice A1 l1 c1] 31))).frozen? ⟨w.heap.size + 1, 0, none⟩ = false := B_b.out.frozen 0
        have c_r_0 : ((w1.alloc (.cells #[.slice A1 l1 c1] 31))).cell? ⟨w.heap.size + 2, 0, none⟩ = some (.slice none 0 0) := B_r.out.cell 0
        have f_r_0 : ((w1.alloc (.cells #[.slice A1 l1 c1] 31))).frozen? ⟨w.heap.size + 2, 0, none⟩ = false := B_r.out.frozen 0
        have c_o_0 : ((w1.alloc (.cells #[.slice A1 l1 c1] 31))).cell? ⟨w1.heap.size, 0, none⟩ = some (.slice A1 l1 c1) := B_o.out.cell 0
        have f_o_0 : ((w1.alloc (.cells #[.slice A1 l1 c1] 31))).frozen? ⟨w1.heap.size, 0, none⟩ = false := B_o.out.frozen 0
        go_wp2_with fail
        clear c_a_0 f_a_0 c_b_0 f_b_0 c_r_0 f_r_0 c_o_0 f_o_0
        generalize (w1.alloc (.cells #[.slice A1 l1 c1] 31)) = w2 at *
        refine (VA.out _ OA.out _ _ RA).mono ?_
        rintro e w3 ⟨rfl, b⟩
        replace B_a := Lib.hid (B_a.out.below b B_a.out.lt)
        replace B_b := Lib.hid (B_b.out.below b B_b.out.lt)
        replace B_r := Lib.hid (B_r.out.below b B_r.out.lt)
        replace B_o := Lib.hid (B_o.out.below b B_o.out.lt)
        replace RA := Rd_reads (Rd_reads RB_reads) _ _ _ _ RA b
        replace RB_ := Rd_reads (Rd_reads RB_reads) _ _ _ _ RB_ b
        replace NR := Lib.hid (NR.out.below (Own_good FB_good) b)
        replace T := T.trans (b.mono T.size)
        have hs_3 := b.size
        clear b
        have c_a_0 : (w3).cell? ⟨w.heap.size, 0, none⟩ = some (.slice A a.length c) := B_a.out.cell 0
        have f_a_0 : (w3).frozen? ⟨w.heap.size, 0, none⟩ = false := B_a.out.frozen 0
        have c_b_0 : (w3).cell? ⟨w.heap.size + 1, 0, none⟩ = some (.slice B m d) := B_b.out.cell 0
        have f_b_0 : (w3).frozen? ⟨w.heap.size + 1, 0, none⟩ = false := B_b.out.frozen 0
        have c_r_0 : (w3).cell? ⟨w.heap.size + 2, 0, none⟩ = some (.slice none 0 0) := B_r.out.cell 0
        have f_r_0 : (w3).frozen? ⟨w.heap.size + 2, 0, none⟩ = false := B_r.out.frozen 0
        have c_o_0 : (w3).cell? ⟨w1.heap.size, 0, none⟩ = some (.slice A1 l1 c1) := B_o.out.cell 0
        have f_o_0 : (w3).frozen? ⟨w1.heap.size, 0, none⟩ = false := B_o.out.frozen 0
        go_wp2_with fail
        refine (VB.out _ OB.out _ _ RB_).mono ?_
        rintro e w4 ⟨rfl, b⟩
        clear c_a_0 f_a_0 c_b_0 f_b_0 c_r_0 f_r_0 c_o_0 f_o_0
        replace B_a := Lib.hid (B_a.out.below b B_a.out.lt)
        replace B_b := Lib.hid (B_b.out.below b B_b.out.lt)
        replace B_r := Lib.hid (B_r.out.below b B_r.out.lt)
        replace B_o := Lib.hid (B_o.out.below b B_o.out.lt)
        replace RA := Rd_reads (Rd_reads RB_reads) _ _ _ _ RA b
        replace RB_ := Rd_reads (Rd_reads RB_reads) _ _ _ _ RB_ b
        replace NR := Lib.hid (NR.out.below (Own_good FB_good) b)
        replace T := T.trans (b.mono T.size)
        have hs_4 := b.size
        clear b
        have NR1 := NR
        have c_a_0 : (w4).cell? ⟨w.heap.size, 0, none⟩ = some (.slice A a.length c) := B_a.out.cell 0
        have f_a_0 : (w4).frozen? ⟨w.heap.size, 0, none⟩ = false := B_a.out.frozen 0
        have c_b_0 : (w4).cell? ⟨w.heap.size + 1, 0, none⟩ = some (.slice B m d) := B_b.out.cell 0
        have f_b_0 : (w4).frozen? ⟨w.heap.size + 1, 0, none⟩ = false := B_b.out.frozen 0
        have c_r_0 : (w4).cell? ⟨w.heap.size + 2, 0, none⟩ = some (.slice none 0 0) := B_r.out.cell 0
        have f_r_0 : (w4).frozen? ⟨w.heap.size + 2, 0, none⟩ = false := B_r.out.frozen 0
        have c_o_0 : (w4).cell? ⟨w1.heap.size, 0, none⟩ = some (.slice A1 l1 c1) := B_o.out.cell 0
        have f_o_0 : (w4).frozen? ⟨w1.heap.size, 0, none⟩ = false := B_o.out.frozen 0
        go_wp2
        have c12 := (B_r.out.set_ 0 (.slice A1 l1 c1)).cell 0
        have FIN := Lib.hid (NR1.out.boxed (Own_good FB_good) T (by omega) (p := ⟨w.heap.size + 2, 0, none⟩) (by simp) (by show w.heap.size + 2 < _; omega) (.slice A1 l1 c1))
        refine bodyPost_ret (v := .tuple #[.agg #[.slice A1 l1 c1], .bool false]) (by simp [results, Try.results67, go_sem, c12]) rfl ⟨_, _, _, rfl, FIN.out⟩
end Go.Proofs.Ytokhogdocaeelaa
