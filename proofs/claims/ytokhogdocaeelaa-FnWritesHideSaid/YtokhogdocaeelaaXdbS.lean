/- XorDatabases of the reference, ApplyWrite of both sides. -/
import Derived.Test.YtokhogdocaeelaaXdb
namespace Go.Proofs.Ytokhogdocaeelaa
set_option linter.unusedVariables false
open Go.RowKit

set_option maxHeartbeats 4000000 in
set_option maxRecDepth 100000 in
theorem specXorDb_c (v1 v2 : Value) (a b : List (List UInt8)) (ok : Bool) (w : World) (h1 : Rd (Rd RB) w v1 a) (h2 : Rd (Rd RB) w v2 b) (hok : Hid (xdOk a b = ok)) (hn : tot a ≤ 1048576) (hm : tot b ≤ 1048576) :
    Calls Try.prog 22 #[.agg #[v1], .agg #[v2]] w fun e w' => ∃ A l c, e = .returned (.tuple #[.agg #[.slice A l c], .bool ok]) ∧ Fresh OBB w w' (.slice A l c) (xorDb a b) := by
  obtain ⟨A, n, c, rfl, h1'⟩ := h1
  obtain ⟨B, m, d, rfl, h2'⟩ := h2
  obtain rfl := h1'.1
  have h1 : Rd (Rd RB) w (.slice A a.length c) a := ⟨_, _, _, rfl, h1'⟩
  have h2 : Rd (Rd RB) w (.slice B m d) b := ⟨_, _, _, rfl, h2'⟩
  have HBL := Lib.hid h2'.1
  have hnc := h1'.2.1
  have hcm := h1'.2.2.1
  have hnc2 := h2'.2.1
  have hcm2 := h2'.2.2.1
  unfold maxLen at hcm hcm2
  have hls := len_le_tot a
  have hsa := sumL_le a
  have hsb := sumL_le b
  have hml : m ≤ 1048576 := by have := len_le_tot b; have := HBL.out; omega
  have HA := Lib.hid h1'
  have HB := Lib.hid h2'
  clear h1' h2'
  have VA : Hid (∀ o, dbOk a = o → ∀ W v, Rd (Rd RB) W v a → Calls Try.prog 75 #[.agg #[v]] W fun e w' => e = .returned (.bool o) ∧ Below W.heap.size W w') := Lib.hid (fun o ho W v h => by rw [← ho]; exact specIsValidDatabase_c v a W h)
  have VB : Hid (∀ o, dbOk b = o → ∀ W v, Rd (Rd RB) W v b → Calls Try.prog 75 #[.agg #[v]] W fun e w' => e = .returned (.bool o) ∧ Below W.heap.size W w') := Lib.hid (fun o ho W v h => by rw [← ho]; exact specIsValidDatabase_c v b W h)
  cases ha : dbOk a with
  | false =>
    have e : ok = false := by rw [← hok.out]; unfold xdOk; rw [ha]; rfl
    subst e
    have e2 : xorDb a b = a := by unfold xorDb; rw [if_neg (by rw [hok.out]; simp)]
    rw [e2]
    have OA := Lib.hid ha
    clear hok e2 ha
    obtain ⟨B_a, B_b, B_r, T, hs_w0⟩ := boxes3 w 31 #[.slice A a.length c] 31 #[.slice B m d] 31 #[.slice none 0 0]
    replace B_a := Lib.hid B_a
    replace B_b := Lib.hid B_b
    replace B_r := Lib.hid B_r
    have RA := Rd_reads (Rd_reads RB_reads) _ _ _ _ h1 T
    have RB_ := Rd_reads (Rd_reads RB_reads) _ _ _ _ h2 T
    go_enter Try.func22, Try.ntmps22
    go_wp2_with fail
    generalize (((w.alloc (.cells #[.slice A a.length c] 31)).alloc (.cells #[.slice B m d] 31)).alloc (.cells #[.slice none 0 0] 31)) = w0 at *
    refine (VA.out _ OA.out _ _ RA).mono ?_
    rintro e w1 ⟨rfl, b⟩
    replace B_a := Lib.hid (B_a.out.below b B_a.out.lt)
    replace B_b := Lib.hid (B_b.out.below b B_b.out.lt)
    replace B_r := Lib.hid (B_r.out.below b B_r.out.lt)
    replace RA := Rd_reads (Rd_reads RB_reads) _ _ _ _ RA b
    replace RB_ := Rd_reads (Rd_reads RB_reads) _ _ _ _ RB_ b
    replace T := T.trans (b.mono T.size)
    have hs_1 := b.size
    clear b
    have c_a_0 : (w1).cell? ⟨w.heap.size, 0, none⟩ = some (.slice A a.length c) := B_a.out.cell 0
    have f_a_0 : (w1).frozen? ⟨w.heap.size, 0, none⟩ = false := B_a.out.frozen 0
    have c_b_0 : (w1).cell? ⟨w.heap.size + 1, 0, none⟩ = some (.slice B m d) := B_b.out.cell 0
    have f_b_0 : (w1).frozen? ⟨w.heap.size + 1, 0, none⟩ = false := B_b.out.frozen 0
    have c_r_0 : (w1).cell? ⟨w.heap.size + 2, 0, none⟩ = some (.slice none 0 0) := B_r.out.cell 0
    have f_r_0 : (w1).frozen? ⟨w.heap.size + 2, 0, none⟩ = false := B_r.out.frozen 0
    go_wp2_with fail
    refine (specCopyDb_c _ _ _ RA hn).mono ?_
    rintro e w2 ⟨A1, l1, c1, rfl, F⟩
    clear c_a_0 f_a_0 c_b_0 f_b_0 c_r_0 f_r_0
    have T1 := Lib.hid T
    have hr1 := B_r.out.lt
    have FH := Lib.hid F
    replace B_a := Lib.hid (B_a.out.below F.below B_a.out.lt)
    replace B_b := Lib.hid (B_b.out.below F.below B_b.out.lt)
    replace B_r := Lib.hid (B_r.out.below F.below B_r.out.lt)
    replace RA := Rd_reads (Rd_reads RB_reads) _ _ _ _ RA F.below
    replace RB_ := Rd_reads (Rd_reads RB_reads) _ _ _ _ RB_ F.below
    replace T := T.trans (F.below.mono T.size)
    have hs_2 := F.below.size
    clear F
    have c_a_0 : (w2).cell? ⟨w.heap.size, 0, none⟩ = some (.slice A a.length c) := B_a.out.cell 0
    have f_a_0 : (w2).frozen? ⟨w.heap.size, 0, none⟩ = false := B_a.out.frozen 0
    have c_b_0 : (w2).cell? ⟨w.heap.size + 1, 0, none⟩ = some (.slice B m d) := B_b.out.cell 0
    have f_b_0 : (w2).frozen? ⟨w.heap.size + 1, 0, none⟩ = false := B_b.out.frozen 0
    have c_r_0 : (w2).cell? ⟨w.heap.size + 2, 0, none⟩ = some (.slice none 0 0) := B_r.out.cell 0
    have f_r_0 : (w2).frozen? ⟨w.heap.size + 2, 0, none⟩ = false := B_r.out.frozen 0
    go_wp2
    have c12 := (B_r.out.set_ 0 (.slice A1 l1 c1)).cell 0
    have FIN := Lib.hid (FH.out.boxed OBB_good T1.out (p := ⟨w.heap.size + 2, 0, none⟩) (by simp) hr1 (.slice A1 l1 c1))
    refine bodyPost_ret (v := .tuple #[.agg #[.slice A1 l1 c1], .bool false]) (by simp [results, Try.results22, go_sem, c12]) rfl ⟨_, _, _, rfl, FIN.out⟩
  | true =>
    cases hb : dbOk b with
    | false =>
      have e : ok = false := by rw [← hok.out]; unfold xdOk; rw [ha, hb]; rfl
      subst e
      have e2 : xorDb a b = a := by unfold xorDb; rw [if_neg (by rw [hok.out]; simp)]
      rw [e2]
      have OA := Lib.hid ha
      have OB := Lib.hid hb
      clear hok e2 ha hb
      obtain ⟨B_a, B_b, B_r, T, hs_w0⟩ := boxes3 w 31 #[.slice A a.length c] 31 #[.slice B m d] 31 #[.slice none 0 0]
      replace B_a := Lib.hid B_a
      replace B_b := Lib.hid B_b
      replace B_r := Lib.hid B_r
      have RA := Rd_reads (Rd_reads RB_reads) _ _ _ _ h1 T
      have RB_ := Rd_reads (Rd_reads RB_reads) _ _ _ _ h2 T
      go_enter Try.func22, Try.ntmps22
      go_wp2_with fail
      generalize (((w.alloc (.cells #[.slice A a.length c] 31)).alloc (.cells #[.slice B m d] 31)).alloc (.cells #[.slice none 0 0] 31)) = w0 at *
      refine (VA.out _ OA.out _ _ RA).mono ?_
      rintro e w1 ⟨rfl, b⟩
      replace B_a := Lib.hid (B_a.out.below b B_a.out.lt)
      replace B_b := Lib.hid (B_b.out.below b B_b.out.lt)
      replace B_r := Lib.hid (B_r.out.below b B_r.out.lt)
      replace RA := Rd_reads (Rd_reads RB_reads) _ _ _ _ RA b
      replace RB_ := Rd_reads (Rd_reads RB_reads) _ _ _ _ RB_ b
      replace T := T.trans (b.mono T.size)
      have hs_1 := b.size
      clear b
      have c_a_0 : (w1).cell? ⟨w.heap.size, 0, none⟩ = some (.slice A a.length c) := B_a.out.cell 0
      have f_a_0 : (w1).frozen? ⟨w.heap.size, 0, none⟩ = false := B_a.out.frozen 0
      have c_b_0 : (w1).cell? ⟨w.heap.size + 1, 0, none⟩ = some (.slice B m d) := B_b.out.cell 0
      have f_b_0 : (w1).frozen? ⟨w.heap.size + 1, 0, none⟩ = false := B_b.out.frozen 0
      have c_r_0 : (w1).cell? ⟨w.heap.size + 2, 0, none⟩ = some (.slice none 0 0) := B_r.out.cell 0
      have f_r_0 : (w1).frozen? ⟨w.heap.size + 2, 0, none⟩ = false := B_r.out.frozen 0
      go_wp2_with fail
      refine (VB.out _ OB.out _ _ RB_).mono ?_
      rintro e w2 ⟨rfl, b⟩
      clear c_a_0 f_a_0 c_b_0 f_b_0 c_r_0 f_r_0
      replace B_a := Lib.hid (B_a.out.below b B_a.out.lt)
      replace B_b := Lib.hid (B_b.out.below b B_b.out.lt)
      replace B_r := Lib.hid (B_r.out.below b B_r.out.lt)
      replace RA := Rd_reads (Rd_reads RB_reads) _ _ _ _ RA b
      replace RB_ := Rd_reads (Rd_reads RB_reads) _ _ _ _ RB_ b
      replace T := T.trans (b.mono T.size)
      have hs_2 := b.size
      clear b
      have c_a_0 : (w2).cell? ⟨w.heap.size, 0, none⟩ = some (.slice A a.length c) := B_a.out.cell 0
      have f_a_0 : (w2).frozen? ⟨w.heap.size, 0, none⟩ = false := B_a.out.frozen 0
      have c_b_0 : (w2).cell? ⟨w.heap.size + 1, 0, none⟩ = some (.slice B m d) := B_b.out.cell 0
      have f_b_0 : (w2).frozen? ⟨w.heap.size + 1, 0, none⟩ = false := B_b.out.frozen 0
      have c_r_0 : (w2).cell? ⟨w.heap.size + 2, 0, none⟩ = some (.slice none 0 0) := B_r.out.cell 0
      have f_r_0 : (w2).frozen? ⟨w.heap.size + 2, 0, none⟩ = false := B_r.out.frozen 0
      go_wp2_with fail
      refine (specCopyDb_c _ _ _ RA hn).mono ?_
      rintro e w3 ⟨A1, l1, c1, rfl, F⟩
      clear c_a_0 f_a_0 c_b_0 f_b_0 c_r_0 f_r_0
      have T1 := Lib.hid T
      have hr1 := B_r.out.lt
      have FH := Lib.hid F
      replace B_a := Lib.hid (B_a.out.below F.below B_a.out.lt)
      replace B_b := Lib.hid (B_b.out.below F.below B_b.out.lt)
      replace B_r := Lib.hid (B_r.out.below F.below B_r.out.lt)
      replace RA := Rd_reads (Rd_reads RB_reads) _ _ _ _ RA F.below
      replace RB_ := Rd_reads (Rd_reads RB_reads) _ _ _ _ RB_ F.below
      replace T := T.trans (F.below.mono T.size)
      have hs_3 := F.below.size
      clear F
      have c_a_0 : (w3).cell? ⟨w.heap.size, 0, none⟩ = some (.slice A a.length c) := B_a.out.cell 0
      have f_a_0 : (w3).frozen? ⟨w.heap.size, 0, none⟩ = false := B_a.out.frozen 0
      have c_b_0 : (w3).cell? ⟨w.heap.size + 1, 0, none⟩ = some (.slice B m d) := B_b.out.cell 0
      have f_b_0 : (w3).frozen? ⟨w.heap.size + 1, 0, none⟩ = false := B_b.out.frozen 0
      have c_r_0 : (w3).cell? ⟨w.heap.size + 2, 0, none⟩ = some (.slice none 0 0) := B_r.out.cell 0
      have f_r_0 : (w3).frozen? ⟨w.heap.size + 2, 0, none⟩ = false := B_r.out.frozen 0
      go_wp2
      have c12 := (B_r.out.set_ 0 (.slice A1 l1 c1)).cell 0
      have FIN := Lib.hid (FH.out.boxed OBB_good T1.out (p := ⟨w.heap.size + 2, 0, none⟩) (by simp) hr1 (.slice A1 l1 c1))
      refine bodyPost_ret (v := .tuple #[.agg #[.slice A1 l1 c1], .bool false]) (by simp [results, Try.results22, go_sem, c12]) rfl ⟨_, _, _, rfl, FIN.out⟩
    | true =>
      by_cases hl : a.length = m
      · subst hl
        have e : ok = true := by rw [← hok.out]; unfold xdOk; rw [ha, hb, HBL.out]; simp
        subst e
        have e2 : xorDb a b = List.zipWith xorB a b := by unfold xorDb; rw [if_pos hok.out]
        rw [e2]
        have OA := Lib.hid ha
        have OB := Lib.hid hb
        have HE : Hid (a.length = b.length) := Lib.hid HBL.out.symm
        clear hok e2 ha hb
        obtain ⟨B_a, B_b, B_r, T, hs_w0⟩ := boxes3 w 31 #[.slice A a.length c] 31 #[.slice B a.length d] 31 #[.slice none 0 0]
        replace B_a := Lib.hid B_a
        replace B_b := Lib.hid B_b
        replace B_r := Lib.hid B_r
        have RA := Rd_reads (Rd_reads RB_reads) _ _ _ _ h1 T
        have RB_ := Rd_reads (Rd_reads RB_reads) _ _ _ _ h2 T
        go_enter Try.func22, Try.ntmps22
        go_wp2_with fail
        generalize (((w.alloc (.cells #[.slice A a.length c] 31)).alloc (.cells #[.slice B a.length d] 31)).alloc (.cells #[.slice none 0 0] 31)) = w0 at *
        refine (VA.out _ OA.out _ _ RA).mono ?_
        rintro e w1 ⟨rfl, b⟩
        replace B_a := Lib.hid (B_a.out.below b B_a.out.lt)
        replace B_b := Lib.hid (B_b.out.below b B_b.out.lt)
        replace B_r := Lib.hid (B_r.out.below b B_r.out.lt)
        replace RA := Rd_reads (Rd_reads RB_reads) _ _ _ _ RA b
        replace RB_ := Rd_reads (Rd_reads RB_reads) _ _ _ _ RB_ b
        replace T := T.trans (b.mono T.size)
        have hs_1 := b.size
        clear b
        have c_a_0 : (w1).cell? ⟨w.heap.size, 0, none⟩ = some (.slice A a.length c) := B_a.out.cell 0
        have f_a_0 : (w1).frozen? ⟨w.heap.size, 0, none⟩ = false := B_a.out.frozen 0
        have c_b_0 : (w1).cell? ⟨w.heap.size + 1, 0, none⟩ = some (.slice B a.length d) := B_b.out.cell 0
        have f_b_0 : (w1).frozen? ⟨w.heap.size + 1, 0, none⟩ = false := B_b.out.frozen 0
        have c_r_0 : (w1).cell? ⟨w.heap.size + 2, 0, none⟩ = some (.slice none 0 0) := B_r.out.cell 0
        have f_r_0 : (w1).frozen? ⟨w.heap.size + 2, 0, none⟩ = false := B_r.out.frozen 0
        go_wp2_with fail
        refine (VB.out _ OB.out _ _ RB_).mono ?_
        rintro e w2 ⟨rfl, b⟩
        clear c_a_0 f_a_0 c_b_0 f_b_0 c_r_0 f_r_0
        replace B_a := Lib.hid (B_a.out.below b B_a.out.lt)
        replace B_b := Lib.hid (B_b.out.below b B_b.out.lt)
        replace B_r := Lib.hid (B_r.out.below b B_r.out.lt)
        replace RA := Rd_reads (Rd_reads RB_reads) _ _ _ _ RA b
        replace RB_ := Rd_reads (Rd_reads RB_reads) _ _ _ _ RB_ b
        replace T := T.trans (b.mono T.size)
        have hs_2 := b.size
        clear b
        have c0_a_0 : (w2).cell? ⟨w.heap.size, 0, none⟩ = some (.slice A a.length c) := B_a.out.cell 0
        have f0_a_0 : (w2).frozen? ⟨w.heap.size, 0, none⟩ = false := B_a.out.frozen 0
        have c0_b_0 : (w2).cell? ⟨w.heap.size + 1, 0, none⟩ = some (.slice B a.length d) := B_b.out.cell 0
        have f0_b_0 : (w2).frozen? ⟨w.heap.size + 1, 0, none⟩ = false := B_b.out.frozen 0
        have c0_r_0 : (w2).cell? ⟨w.heap.size + 2, 0, none⟩ = some (.slice none 0 0) := B_r.out.cell 0
        have f0_r_0 : (w2).frozen? ⟨w.heap.size + 2, 0, none⟩ = false := B_r.out.frozen 0
        have b := below_alloc w2 (.cells #[.slice none 0 0] 31)
        replace B_a := Lib.hid (B_a.out.below b B_a.out.lt)
        replace B_b := Lib.hid (B_b.out.below b B_b.out.lt)
        replace B_r := Lib.hid (B_r.out.below b B_r.out.lt)
        replace RA := Rd_reads (Rd_reads RB_reads) _ _ _ _ RA b
        replace RB_ := Rd_reads (Rd_reads RB_reads) _ _ _ _ RB_ b
        replace T := T.trans (b.mono T.size)
        have hs_3 := b.size
        clear b
        have B_o := Lib.hid (Box.new w2 31 #[.slice none 0 0])
        have hlo : w2.heap.size < (w2.alloc (.cells #[.slice none 0 0] 31)).heap.size := B_o.out.lt
        have c_a_0 : ((w2.alloc (.cells #[.slice none 0 0] 31))).cell? ⟨w.heap.size, 0, none⟩ = some (.slice A a.length c) := B_a.out.cell 0
        have f_a_0 : ((w2.alloc (.cells #[.slice none 0 0] 31))).frozen? ⟨w.heap.size, 0, none⟩ = false := B_a.out.frozen 0
        have c_b_0 : ((w2.alloc (.cells #[.slice none 0 0] 31))).cell? ⟨w.heap.size + 1, 0, none⟩ = some (.slice B a.length d) := B_b.out.cell 0
        have f_b_0 : ((w2.alloc (.cells #[.slice none 0 0] 31))).frozen? ⟨w.heap.size + 1, 0, none⟩ = false := B_b.out.frozen 0
        have c_r_0 : ((w2.alloc (.cells #[.slice none 0 0] 31))).cell? ⟨w.heap.size + 2, 0, none⟩ = some (.slice none 0 0) := B_r.out.cell 0
        have f_r_0 : ((w2.alloc (.cells #[.slice none 0 0] 31))).frozen? ⟨w.heap.size + 2, 0, none⟩ = false := B_r.out.frozen 0
        have c_o_0 : ((w2.alloc (.cells #[.slice none 0 0] 31))).cell? ⟨w2.heap.size, 0, none⟩ = some (.slice none 0 0) := B_o.out.cell 0
        have f_o_0 : ((w2.alloc (.cells #[.slice none 0 0] 31))).frozen? ⟨w2.heap.size, 0, none⟩ = false := B_o.out.frozen 0
        go_wp2
        clear c0_a_0 f0_a_0 c0_b_0 f0_b_0 c0_r_0 f0_r_0 c_a_0 f_a_0 c_b_0 f_b_0 c_r_0 f_r_0 c_o_0 f_o_0
        go_loopw [7] (fun i wr => ∃ (k : Nat) (vo : Value), k ≤ a.length ∧ i = .int .i64 k ∧ Hid (NRow 22 (Own 5 FB) (w2.heap.size + 1) wr vo k ((List.zipWith xorB a b).take k) []) ∧ Hid (Box wr (w2.heap.size) 31 #[vo]) ∧ Hid (Box wr (w.heap.size + 2) 31 #[.slice none 0 0]) ∧ Hid (Box wr w.heap.size 31 #[.slice A a.length c]) ∧ Hid (Box wr (w.heap.size + 1) 31 #[.slice B a.length d]) ∧ Below w.heap.size w wr) (fun i _ => a.length - (intOf i).toNat)
        case atStart => exact ⟨0, _, Nat.zero_le _, rfl, Lib.hid (NRow_nil _), B_o, B_r, B_a, B_b, T⟩
        case round =>
          obtain ⟨k, vo, hk, rfl, NRr, Bo, Br, Ba, Bb, Tr⟩ := hrel
          clear B_o B_r B_a B_b T RA RB_
          have ca : wr.cell? ⟨w.heap.size, 0, none⟩ = some (.slice A a.length c) := Ba.out.cell 0
          by_cases hlt : k < a.length
          · obtain ⟨b', off', y, uy, rfl, hbb, hy, hu, hr⟩ := HB.out.at_ hlt
            obtain ⟨Ay, ny, cy, rfl, hry⟩ := hr
            have hyl2 : y.length ≤ 1048576 := by have := get_le_sumL b k y hy; omega
            have gy := (Tr.cell (p := ⟨b', off' + k, none⟩) hbb).trans hu
            have ry : Rd RB wr.drew (.slice Ay ny cy) y := Rd_reads RB_reads _ _ _ _ ⟨_, _, _, rfl, hry⟩ Tr.drew
            obtain ⟨b2, off2, x, ux, rfl, hbb2, hx, hu2, hr2⟩ := HA.out.at_ hlt
            obtain ⟨Ax, nx, cx, rfl, hrx⟩ := hr2
            have hxl : x.length ≤ 1048576 := by have := get_le_sumL a k x hx; omega
            have gx := (Tr.cell (p := ⟨b2, off2 + k, none⟩) hbb2).trans hu2
            have rx : Rd RB wr.drew (.slice Ax nx cx) x := Rd_reads RB_reads _ _ _ _ ⟨_, _, _, rfl, hrx⟩ Tr.drew
            have HZ := Lib.hid (take_succ_get _ k _ (zip_get a b k x y hx hy))
            obtain ⟨cells, F, k1, k2, k3, k4⟩ := (NRr.out.drew_ (Own_good FB_good)).open_
            have K := Lib.hid (And.intro k1 (And.intro k2 (And.intro k3 k4)))
            obtain ⟨Ao, lo, co', rfl⟩ : ∃ A' l' c', vo = .slice A' l' c' := own_shape k1
            have c1 : wr.drew.cell? ⟨w.heap.size, 0, none⟩ = some (.slice (some ⟨b2, off2, none⟩) a.length c) := ca
            have c2 : wr.drew.cell? ⟨w.heap.size + 1, 0, none⟩ = some (.slice (some ⟨b', off', none⟩) a.length d) := Bb.out.cell 0
            have c3 : wr.drew.cell? ⟨w2.heap.size, 0, none⟩ = some (.slice Ao lo co') := Bo.out.cell 0
            have c4 : wr.drew.cell? ⟨b2, off2 + k, none⟩ = some (.slice Ax nx cx) := gx
            have c5 : wr.drew.cell? ⟨b', off' + k, none⟩ = some (.slice Ay ny cy) := gy
            have hk0 : (0 : Int) ≤ (k : Int) := by omega
            have hkn : (k : Int) < (a.length : Int) := by omega
            have Bod : Hid (Box wr.drew (w2.heap.size) 31 #[.slice Ao lo co']) := Bo
            have Brd : Hid (Box wr.drew (w.heap.size + 2) 31 #[.slice none 0 0]) := Br
            have Bad : Hid (Box wr.drew w.heap.size 31 #[.slice (some ⟨b2, off2, none⟩) a.length c]) := Ba
            have Bbd : Hid (Box wr.drew (w.heap.size + 1) 31 #[.slice (some ⟨b', off', none⟩) a.length d]) := Bb
            have Td := Lib.hid Tr.drew
            have hwr : w2.heap.size < wr.drew.heap.size := Bo.out.lt
            clear hu hry hx hy hrx hu2 k1 k2 k3 k4 NRr Bo Br Ba Bb
            go_wp2_with fail
            go_region_law (first
                | (refine step_app elBB (by rfl) _ _ (by rfl) (.slice Ao lo co') k cells (by rfl) HOWN (some ⟨w3.heap.size, 0, none⟩) 1 1 [.slice Au lu cu] (by rfl) HSRC (one_single _ rfl) (by simp only [maxLen]; omega) (by omega) ?_; intro v4 w4 hown hg hat; obtain ⟨A4, l4, c4', rfl⟩ := own_shape hown; have P4 := box_append (Own_good FB_good) K.out.1 K.out.2.1 K.out.2.2.1 K.out.2.2.2 FH.out hwr Bo3.out hown hg hat; have x4 := P4.1.1; have y4 := P4.1.2; have PH := Lib.hid P4.2; clear P4 hown hg hat)
                | (go_simp; go_at_call 77; refine (specXorBytes_c _ _ x y _ rx ry (by omega) (by omega)).mono ?_; rintro e w3 ⟨u3, rfl, FU⟩; obtain ⟨Au, lu, cu, rfl⟩ := fresh_slice FU; have hs3 := FU.below.size; have Ba3 := Lib.hid (Bad.out.below FU.below Bad.out.lt); have Bb3 := Lib.hid (Bbd.out.below FU.below Bbd.out.lt); have Bo3 := Lib.hid (Bod.out.below FU.below Bod.out.lt); have Br3 := Lib.hid (Brd.out.below FU.below Brd.out.lt); have d3 : w3.cell? ⟨w2.heap.size, 0, none⟩ = some (.slice Ao lo co') := Bo3.out.cell 0; have KW := Lib.hid (ownsRow_at (w' := w3) K.out.1 (fun q hq => FU.below.block q (K.out.1.lt q (by simpa using hq)).2)); have T3 := Lib.hid (Td.out.trans (FU.below.mono Td.out.size)); have FH := Lib.hid FU; have HOWN : (w3.alloc (.cells #[.slice Au lu cu] 22)).ownsRow 0 22 1 (.slice Ao lo co') k cells := KW.out.alloc _; have HSRC : Src (w3.alloc (.cells #[.slice Au lu cu] 22)) (some ⟨w3.heap.size, 0, none⟩) 1 [.slice Au lu cu] := Src_one _ _ _; have d6 : (w3.alloc (.cells #[.slice Au lu cu] 22)).cell? ⟨w2.heap.size, 0, none⟩ = some (.slice Ao lo co') := (Bo3.out.alloc _).cell 0; clear FU))
            all_goals
              have ST2 : Hid (NRow 22 (Own 5 FB) (w2.heap.size + 1) (w4.setCell ⟨w2.heap.size, 0, none⟩ (.slice A4 l4 c4')) (.slice A4 l4 c4') (k + 1) ((List.zipWith xorB a b).take (k + 1)) []) := Lib.hid (by rw [HZ.out]; exact PH.out.1)
              go_wp2
              go_roundw
              case rel => exact ⟨k + 1, _, by omega, by go_num, ST2, Lib.hid PH.out.2.1, Lib.hid (PH.out.2.2.1 _ _ _ (by omega) Br3.out), Lib.hid (PH.out.2.2.1 _ _ _ (by omega) Ba3.out), Lib.hid (PH.out.2.2.1 _ _ _ (by omega) Bb3.out), PH.out.2.2.2 _ _ (by omega) T3.out⟩
              case measure => simp [intOf]; omega
          · have hkn : k = a.length := by omega
            subst hkn
            obtain ⟨A1, l1, c1', hv⟩ : ∃ A' l' c', vo = .slice A' l' c' := by
              rcases NRr.out.form with ⟨hh, _⟩ | ⟨g, cap, hh, _⟩
              · exact ⟨_, _, _, hh⟩
              · exact ⟨_, _, _, hh⟩
            subst hv
            have NRf : Hid (NRow 22 (Own 5 FB) (w2.heap.size + 1) wr (.slice A1 l1 c1') a.length (List.zipWith xorB a b) []) := Lib.hid (by have := NRr.out; rw [List.take_of_length_le (by rw [zip_len a b HE.out]; exact Nat.le_refl _)] at this; exact this)
            have co : wr.cell? ⟨w2.heap.size, 0, none⟩ = some (.slice A1 l1 c1') := Bo.out.cell 0
            have cr : wr.cell? ⟨w.heap.size + 2, 0, none⟩ = some (.slice none 0 0) := Br.out.cell 0
            have fr := Br.out.frozen 0
            have c12 := (Br.out.set_ 0 (.slice A1 l1 c1')).cell 0
            have FIN := Lib.hid (NRf.out.boxed (Own_good FB_good) Tr (by omega) (p := ⟨w.heap.size + 2, 0, none⟩) (by simp) (by show w.heap.size + 2 < _; omega) (.slice A1 l1 c1'))
            clear NRr NRf
            go_wp2
            refine bodyPost_ret (v := .tuple #[.agg #[.slice A1 l1 c1'], .bool true]) (by simp [results, Try.results22, go_sem, c12]) rfl ⟨_, _, _, rfl, FIN.out⟩
      · have e : ok = false := by rw [← hok.out]; unfold xdOk; rw [ha, hb, HBL.out, decide_eq_false hl]; rfl
        subst e
        have e2 : xorDb a b = a := by unfold xorDb; rw [if_neg (by rw [hok.out]; simp)]
        rw [e2]
        have OA := Lib.hid ha
        have OB := Lib.hid hb
        have hz : ¬ (a.length : Int) = (m : Int) := by omega
        clear hok e2 ha hb hl
        obtain ⟨B_a, B_b, B_r, T, hs_w0⟩ := boxes3 w 31 #[.slice A a.length c] 31 #[.slice B m d] 31 #[.slice none 0 0]
        replace B_a := Lib.hid B_a
        replace B_b := Lib.hid B_b
        replace B_r := Lib.hid B_r
        have RA := Rd_reads (Rd_reads RB_reads) _ _ _ _ h1 T
        have RB_ := Rd_reads (Rd_reads RB_reads) _ _ _ _ h2 T
        go_enter Try.func22, Try.ntmps22
        go_wp2_with fail
        generalize (((w.alloc (.cells #[.slice A a.length c] 31)).alloc (.cells #[.slice B m d] 31)).alloc (.cells #[.slice none 0 0] 31)) = w0 at *
        refine (VA.out _ OA.out _ _ RA).mono ?_
        rintro e w1 ⟨rfl, b⟩
        replace B_a := Lib.hid (B_a.out.below b B_a.out.lt)
        replace B_b := Lib.hid (B_b.out.below b B_b.out.lt)
        replace B_r := Lib.hid (B_r.out.below b B_r.out.lt)
        replace RA := Rd_reads (Rd_reads RB_reads) _ _ _ _ RA b
        replace RB_ := Rd_reads (Rd_reads RB_reads) _ _ _ _ RB_ b
        replace T := T.trans (b.mono T.size)
        have hs_1 := b.size
        clear b
        have c_a_0 : (w1).cell? ⟨w.heap.size, 0, none⟩ = some (.slice A a.length c) := B_a.out.cell 0
        have f_a_0 : (w1).frozen? ⟨w.heap.size, 0, none⟩ = false := B_a.out.frozen 0
        have c_b_0 : (w1).cell? ⟨w.heap.size + 1, 0, none⟩ = some (.slice B m d) := B_b.out.cell 0
        have f_b_0 : (w1).frozen? ⟨w.heap.size + 1, 0, none⟩ = false := B_b.out.frozen 0
        have c_r_0 : (w1).cell? ⟨w.heap.size + 2, 0, none⟩ = some (.slice none 0 0) := B_r.out.cell 0
        have f_r_0 : (w1).frozen? ⟨w.heap.size + 2, 0, none⟩ = false := B_r.out.frozen 0
        go_wp2_with fail
        refine (VB.out _ OB.out _ _ RB_).mono ?_
        rintro e w2 ⟨rfl, b⟩
        clear c_a_0 f_a_0 c_b_0 f_b_0 c_r_0 f_r_0
        replace B_a := Lib.hid (B_a.out.below b B_a.out.lt)
        replace B_b := Lib.hid (B_b.out.below b B_b.out.lt)
        replace B_r := Lib.hid (B_r.out.below b B_r.out.lt)
        replace RA := Rd_reads (Rd_reads RB_reads) _ _ _ _ RA b
        replace RB_ := Rd_reads (Rd_reads RB_reads) _ _ _ _ RB_ b
        replace T := T.trans (b.mono T.size)
        have hs_2 := b.size
        clear b
        have c_a_0 : (w2).cell? ⟨w.heap.size, 0, none⟩ = some (.slice A a.length c) := B_a.out.cell 0
        have f_a_0 : (w2).frozen? ⟨w.heap.size, 0, none⟩ = false := B_a.out.frozen 0
        have c_b_0 : (w2).cell? ⟨w.heap.size + 1, 0, none⟩ = some (.slice B m d) := B_b.out.cell 0
        have f_b_0 : (w2).frozen? ⟨w.heap.size + 1, 0, none⟩ = false := B_b.out.frozen 0
        have c_r_0 : (w2).cell? ⟨w.heap.size + 2, 0, none⟩ = some (.slice none 0 0) := B_r.out.cell 0
        have f_r_0 : (w2).frozen? ⟨w.heap.size + 2, 0, none⟩ = false := B_r.out.frozen 0
        go_wp2_with fail
        refine (specCopyDb_c _ _ _ RA hn).mono ?_
        rintro e w3 ⟨A1, l1, c1, rfl, F⟩
        clear c_a_0 f_a_0 c_b_0 f_b_0 c_r_0 f_r_0
        have T1 := Lib.hid T
        have hr1 := B_r.out.lt
        have FH := Lib.hid F
        replace B_a := Lib.hid (B_a.out.below F.below B_a.out.lt)
        replace B_b := Lib.hid (B_b.out.below F.below B_b.out.lt)
        replace B_r := Lib.hid (B_r.out.below F.below B_r.out.lt)
        replace RA := Rd_reads (Rd_reads RB_reads) _ _ _ _ RA F.below
        replace RB_ := Rd_reads (Rd_reads RB_reads) _ _ _ _ RB_ F.below
        replace T := T.trans (F.below.mono T.size)
        have hs_3 := F.below.size
        clear F
        have c_a_0 : (w3).cell? ⟨w.heap.size, 0, none⟩ = some (.slice A a.length c) := B_a.out.cell 0
        have f_a_0 : (w3).frozen? ⟨w.heap.size, 0, none⟩ = false := B_a.out.frozen 0
        have c_b_0 : (w3).cell? ⟨w.heap.size + 1, 0, none⟩ = some (.slice B m d) := B_b.out.cell 0
        have f_b_0 : (w3).frozen? ⟨w.heap.size + 1, 0, none⟩ = false := B_b.out.frozen 0
        have c_r_0 : (w3).cell? ⟨w.heap.size + 2, 0, none⟩ = some (.slice none 0 0) := B_r.out.cell 0
        have f_r_0 : (w3).frozen? ⟨w.heap.size + 2, 0, none⟩ = false := B_r.out.frozen 0
        go_wp2
        have c12 := (B_r.out.set_ 0 (.slice A1 l1 c1)).cell 0
        have FIN := Lib.hid (FH.out.boxed OBB_good T1.out (p := ⟨w.heap.size + 2, 0, none⟩) (by simp) hr1 (.slice A1 l1 c1))
        refine bodyPost_ret (v := .tuple #[.agg #[.slice A1 l1 c1], .bool false]) (by simp [results, Try.results22, go_sem, c12]) rfl ⟨_, _, _, rfl, FIN.out⟩
end Go.Proofs.Ytokhogdocaeelaa
