/- ExplainWrite of both sides: the walks. -/
import Derived.Test.YtokhogdocaeelaaUw
import Derived.Deep.RegionHeld3
namespace Go.Proofs.Ytokhogdocaeelaa
set_option linter.unusedVariables false
open Go.RowKit

set_option maxHeartbeats 1000000 in
set_option maxRecDepth 100000 in
theorem implEw_c (v : Value) (l : List Db) (rows ix : Int) (vc : Value) (cell : List UInt8) (ok : Bool) (w : World) (h : Rd (Rd (Rd RB)) w v l) (hc : Rd RB w vc cell) (hok : Hid ((ew l rows ix cell).isSome = ok)) (hn : totD l ≤ 1048576) (hcl : cell.length ≤ 1048576) (hi : -9223372036854775808 ≤ ix) (hi' : ix ≤ 9223372036854775807) (hr1 : -9223372036854775808 ≤ rows) (hr2 : rows ≤ 9223372036854775807) :
    Calls Try.prog 26 #[v, .int .i64 rows, .int .i64 ix, vc] w fun e w' => ∃ A n c, e = .returned (.tuple #[.agg #[.slice A n c], .bool ok]) ∧ Fresh OBB w w' (.slice A n c) ((ew l rows ix cell).getD []) := by
  obtain ⟨A, n, cc, rfl, h'⟩ := h
  obtain rfl := h'.1
  obtain ⟨Ac, nc, cc2, rfl, hc'⟩ := hc
  have hc : Rd RB w (.slice Ac nc cc2) cell := ⟨_, _, _, rfl, hc'⟩
  have hlc := hc'.1
  have hcmc := Nat.le_trans hc'.2.1 hc'.2.2.1
  have hnc := h'.2.1
  have hcm := h'.2.2.1
  unfold maxLen at hcm hcmc
  have hlm : l.length ≤ 1048576 := Nat.le_trans (len_le_totD l) hn
  have bx := below_alloc w (.cells #[.slice none 0 0] 31)
  have BX := Lib.hid (Box.new w 31 #[.slice none 0 0])
  have HC := Lib.hid (Rd_reads RB_reads _ _ _ _ hc bx)
  obtain ⟨uo, huo⟩ : ∃ b : Bool, Hid (uwOk rows ix cell = b) := ⟨_, Lib.hid rfl⟩
  have HCW := Lib.hid hc
  clear hc hc'
  have UW := Lib.hid (implUnit_c rows ix _ cell uo _ HC.out huo hcl hi hi' hr1 hr2)
  cases uo with
  | false =>
    have HNO : Hid (ew l rows ix cell = none) := Lib.hid (ew_no1 huo.out)
    go_enter Try.func26, Try.ntmps26
    go_wp2_with fail
    refine UW.out.mono ?_
    rintro e w1 ⟨A1, l1, c1, rfl, F1⟩
    have Jf := Lib.hid (JS.start BX.out bx F1)
    have hno : ew l rows ix cell = none := HNO.out
    have hk2 : ok = false := by rw [← hok.out, hno]; rfl
    subst hk2
    have h2 := Jf.out.r.cell 0
    have h3 := Jf.out.r.frozen 0
    have e0 := (Jf.out.r.set_ 0 (.slice none 0 0)).cell 0
    have FF : Hid (Fresh OBB w ((w1.alloc (.cells #[.slice A1 l1 c1] 31)).setCell ⟨w.heap.size, 0, none⟩ (.slice none 0 0)) (.slice none 0 0) ((ew l rows ix cell).getD [])) := Lib.hid (by rw [hno]; exact Jf.out.nil)
    clear F1
    go_wp2
    refine bodyPost_ret (v := .tuple #[.agg #[.slice none 0 0], .bool false]) (by simp [results, Try.results26, go_sem, e0]) rfl ⟨_, _, _, rfl, FF.out⟩
  | true =>
    by_cases hl0 : l.length = 0
    · have HNO : Hid (ew l rows ix cell = none) := Lib.hid (ew_no2 (List.eq_nil_of_length_eq_zero hl0))
      go_enter Try.func26, Try.ntmps26
      go_wp2_with fail
      refine UW.out.mono ?_
      rintro e w1 ⟨A1, l1, c1, rfl, F1⟩
      have Jf := Lib.hid (JS.start BX.out bx F1)
      have hno : ew l rows ix cell = none := HNO.out
      have hk2 : ok = false := by rw [← hok.out, hno]; rfl
      subst hk2
      have h2 := Jf.out.r.cell 0
      have h3 := Jf.out.r.frozen 0
      have e0 := (Jf.out.r.set_ 0 (.slice none 0 0)).cell 0
      have FF : Hid (Fresh OBB w ((w1.alloc (.cells #[.slice A1 l1 c1] 31)).setCell ⟨w.heap.size, 0, none⟩ (.slice none 0 0)) (.slice none 0 0) ((ew l rows ix cell).getD [])) := Lib.hid (by rw [hno]; exact Jf.out.nil)
      clear F1
      go_wp2
      refine bodyPost_ret (v := .tuple #[.agg #[.slice none 0 0], .bool false]) (by simp [results, Try.results26, go_sem, e0]) rfl ⟨_, _, _, rfl, FF.out⟩
    · obtain ⟨b, off, rfl, hbb0, _⟩ := h'.2.2.2 (by omega)
      have EL : Hid (∀ j, j < l.length → ∃ s, l[j]? = some s ∧ ∃ B q r, b < w.heap.size ∧ w.cell? ⟨b, off + j, none⟩ = some (.slice B q r) ∧ Rd (Rd RB) w (.slice B q r) s) := Lib.hid (fun j hj => by
        obtain ⟨b', off', s, B, q, r, e, hbb, hs, hu, hr⟩ := dbs_at h' hj
        simp only [Option.some.injEq, Addr.mk.injEq] at e
        obtain ⟨rfl, rfl, _⟩ := e
        exact ⟨s, hs, B, q, r, hbb, hu, hr⟩)
      have HTS : Hid (∀ j s, l[j]? = some s → tot s ≤ 1048576) := Lib.hid (fun j s hs => by have := get_le_totD l j s hs; omega)
      have HJY : Hid (ew l rows ix cell = xfold (uwV rows ix cell) l) := Lib.hid (ew_yes huo.out (fun e => hl0 (by rw [e]; rfl)))
      have HT0 : Hid (tot (uwV rows ix cell) ≤ 1048576) := Lib.hid (Nat.le_trans (uw_tot huo.out) (by omega))
      have hl0I : ((l.length : Int) == 0) = false := beq_eq_false_iff_ne.2 (by omega)
      clear h'
      go_enter Try.func26, Try.ntmps26
      go_wp2_with fail
      refine UW.out.mono ?_
      rintro e w1 ⟨A1, l1, c1, rfl, F1⟩
      rw [uwR_yes huo.out] at F1
      have JS0 := Lib.hid (JS.start BX.out bx F1)
      clear F1
      go_wp2
      generalize w1.heap.size = g at *
      generalize w1.alloc (.cells #[.slice A1 l1 c1] 31) = wS at *
      go_loopw [33] (fun i wr => ∃ j : Nat, j ≤ l.length ∧ i = .int .i64 (j : Int) ∧ ∃ Ax lx cx D, Hid (xfold (uwV rows ix cell) (l.take j) = some D) ∧ Hid (tot D ≤ 1048576) ∧ Hid (JS w g wr Ax lx cx D)) (fun i _ => l.length + 0 - (intOf i).toNat)
      case atStart => exact ⟨0, Nat.zero_le _, rfl, _, _, _, _, Lib.hid rfl, HT0, JS0⟩
      case round =>
        obtain ⟨j, hj, rfl, Ax, lx, cx, D, hfd, htd, hJ⟩ := hrel
        have cg := hJ.out.b.cell 0
        by_cases hlt : j < l.length
        · obtain ⟨s, hs, B, q, r, hbb, cu, hrs⟩ := EL.out j hlt
          have g1 := (hJ.out.t.cell (p := ⟨b, off + j, none⟩) hbb).trans cu
          have hst := HTS.out j s hs
          obtain ⟨o, ho⟩ : ∃ o, xdOk D s = o := ⟨_, rfl⟩
          have J6 := Lib.hid (hJ.out.step (below_alloc wr (.cells #[.slice B q r] 31)))
          have XR := Lib.hid (implXorDb_c _ _ D s o _ J6.out.rd (Rd_reads (Rd_reads RB_reads) _ _ _ _ hrs J6.out.t) (Lib.hid ho) htd.out hst)
          have cg6 := J6.out.b.cell 0
          have HS := Lib.hid hs
          have HO := Lib.hid ho
          clear hs cu hrs hst ho J6
          go_wp2_with fail
          refine XR.out.mono ?_
          rintro e w2 ⟨A2, l2, c2, rfl, F2⟩
          have b2 := (below_alloc wr (.cells #[.slice B q r] 31)).trans (F2.below.mono (below_alloc wr _).size)
          have b7 := below_alloc w2 (.cells #[.slice A2 l2 c2] 31)
          have Bn := Lib.hid (Box.new w2 31 #[.slice A2 l2 c2])
          have n0 := Bn.out.cell 0
          have J7 := Lib.hid ((hJ.out.step b2).step b7)
          have h0 := J7.out.b.cell 0
          have h1 := J7.out.b.frozen 0
          have h2 := J7.out.r.cell 0
          have h3 := J7.out.r.frozen 0
          cases o with
          | true =>
            have hD2 : xorDb D s = xorDb D s := rfl
            have JN := Lib.hid (hJ.out.next (below_alloc wr (.cells #[.slice B q r] 31)) F2 _ b7)
            have HF2 := Lib.hid (xfold_yes hfd.out HS.out HO.out)
            have HT2 : Hid (tot (xorDb D s) ≤ 1048576) := Lib.hid (Nat.le_trans (xd_tot HO.out) (by omega))
            clear F2 b2 b7 XR
            go_wp2
            go_roundw
            case rel => exact ⟨j + 1, by omega, by go_num, _, _, _, _, HF2, HT2, JN⟩
            case measure => simp [intOf]; omega
          | false =>
            have e0 := (J7.out.r.set_ 0 (.slice none 0 0)).cell 0
            have hno : ew l rows ix cell = none := by rw [HJY.out]; exact xfold_no hfd.out HS.out HO.out
            have hk2 : ok = false := by rw [← hok.out, hno]; rfl
            subst hk2
            have FF : Hid (Fresh OBB w ((w2.alloc (.cells #[.slice A2 l2 c2] 31)).setCell ⟨w.heap.size, 0, none⟩ (.slice none 0 0)) (.slice none 0 0) ((ew l rows ix cell).getD [])) := Lib.hid (by rw [hno]; exact J7.out.nil)
            clear F2 b2 b7 XR
            go_wp2
            refine bodyPost_ret (v := .tuple #[.agg #[.slice none 0 0], .bool false]) (by simp [results, Try.results26, go_sem, e0]) rfl ⟨_, _, _, rfl, FF.out⟩
        · have hjn : j = l.length := by omega
          subst hjn
          have hfd := hfd.out
          rw [List.take_of_length_le (Nat.le_refl _)] at hfd
          have hye : ew l rows ix cell = some D := by rw [HJY.out]; exact hfd
          have hk2 : ok = true := by rw [← hok.out, hye]; rfl
          subst hk2
          have h2 := hJ.out.r.cell 0
          have h3 := hJ.out.r.frozen 0
          have e0 := (hJ.out.r.set_ 0 (.slice Ax lx cx)).cell 0
          have FF : Hid (Fresh OBB w (wr.setCell ⟨w.heap.size, 0, none⟩ (.slice Ax lx cx)) (.slice Ax lx cx) ((ew l rows ix cell).getD [])) := Lib.hid (by rw [hye]; exact hJ.out.fin)
          go_wp2
          refine bodyPost_ret (v := .tuple #[.agg #[.slice Ax lx cx], .bool true]) (by simp [results, Try.results26, go_sem, e0]) rfl ⟨_, _, _, rfl, FF.out⟩
set_option maxHeartbeats 1000000 in
set_option maxRecDepth 100000 in
theorem specEw_c (v : Value) (l : List Db) (rows ix : Int) (vc : Value) (cell : List UInt8) (ok : Bool) (w : World) (h : Rd (Rd (Rd RB)) w v l) (hc : Rd RB w vc cell) (hok : Hid ((ew l rows ix cell).isSome = ok)) (hn : totD l ≤ 1048576) (hcl : cell.length ≤ 1048576) (hi : -9223372036854775808 ≤ ix) (hi' : ix ≤ 9223372036854775807) (hr1 : -9223372036854775808 ≤ rows) (hr2 : rows ≤ 9223372036854775807) :
    Calls Try.prog 34 #[v, .int .i64 rows, .int .i64 ix, vc] w fun e w' => ∃ A n c, e = .returned (.tuple #[.agg #[.slice A n c], .bool ok]) ∧ Fresh OBB w w' (.slice A n c) ((ew l rows ix cell).getD []) := by
  obtain ⟨A, n, cc, rfl, h'⟩ := h
  obtain rfl := h'.1
  obtain ⟨Ac, nc, cc2, rfl, hc'⟩ := hc
  have hc : Rd RB w (.slice Ac nc cc2) cell := ⟨_, _, _, rfl, hc'⟩
  have hlc := hc'.1
  have hcmc := Nat.le_trans hc'.2.1 hc'.2.2.1
  have hnc := h'.2.1
  have hcm := h'.2.2.1
  unfold maxLen at hcm hcmc
  have hlm : l.length ≤ 1048576 := Nat.le_trans (len_le_totD l) hn
  have bx := below_alloc w (.cells #[.slice none 0 0] 31)
  have BX := Lib.hid (Box.new w 31 #[.slice none 0 0])
  have HC := Lib.hid (Rd_reads RB_reads _ _ _ _ hc bx)
  obtain ⟨uo, huo⟩ : ∃ b : Bool, Hid (uwOk rows ix cell = b) := ⟨_, Lib.hid rfl⟩
  have HCW := Lib.hid hc
  clear hc hc'
  have UW := Lib.hid (fun W => specRow_c (A := Ac) (cc := cc2) rows ix cell uo W HC.out.at_same.1 huo hr1 hr2)
  cases uo with
  | false =>
    have HNO : Hid (ew l rows ix cell = none) := Lib.hid (ew_no1 huo.out)
    go_enter Try.func34, Try.ntmps34
    go_wp2_with fail
    refine (UW.out _).mono ?_
    rintro e w' ⟨rfl, rfl⟩
    have hno : ew l rows ix cell = none := HNO.out
    have hk2 : ok = false := by rw [← hok.out, hno]; rfl
    subst hk2
    have e0 := BX.out.cell 0
    have FF : Hid (Fresh OBB w (w.alloc (.cells #[.slice none 0 0] 31)) (.slice none 0 0) ((ew l rows ix cell).getD [])) := Lib.hid (by rw [hno]; exact fresh_nilDB _ _ bx)
    go_wp2
    refine bodyPost_ret (v := .tuple #[.agg #[.slice none 0 0], .bool false]) (by simp [results, Try.results34, go_sem, e0]) rfl ⟨_, _, _, rfl, FF.out⟩
  | true =>
    by_cases hl0 : l.length = 0
    · have HNO : Hid (ew l rows ix cell = none) := Lib.hid (ew_no2 (List.eq_nil_of_length_eq_zero hl0))
      go_enter Try.func34, Try.ntmps34
      go_wp2_with fail
      refine (UW.out _).mono ?_
      rintro e w' ⟨rfl, rfl⟩
      have hno : ew l rows ix cell = none := HNO.out
      have hk2 : ok = false := by rw [← hok.out, hno]; rfl
      subst hk2
      have e0 := BX.out.cell 0
      have FF : Hid (Fresh OBB w (w.alloc (.cells #[.slice none 0 0] 31)) (.slice none 0 0) ((ew l rows ix cell).getD [])) := Lib.hid (by rw [hno]; exact fresh_nilDB _ _ bx)
      go_wp2
      refine bodyPost_ret (v := .tuple #[.agg #[.slice none 0 0], .bool false]) (by simp [results, Try.results34, go_sem, e0]) rfl ⟨_, _, _, rfl, FF.out⟩
    · obtain ⟨b, off, rfl, hbb0, _⟩ := h'.2.2.2 (by omega)
      have EL : Hid (∀ j, j < l.length → ∃ s, l[j]? = some s ∧ ∃ B q r, b < w.heap.size ∧ w.cell? ⟨b, off + j, none⟩ = some (.slice B q r) ∧ Rd (Rd RB) w (.slice B q r) s) := Lib.hid (fun j hj => by
        obtain ⟨b', off', s, B, q, r, e, hbb, hs, hu, hr⟩ := dbs_at h' hj
        simp only [Option.some.injEq, Addr.mk.injEq] at e
        obtain ⟨rfl, rfl, _⟩ := e
        exact ⟨s, hs, B, q, r, hbb, hu, hr⟩)
      have HTS : Hid (∀ j s, l[j]? = some s → tot s ≤ 1048576) := Lib.hid (fun j s hs => by have := get_le_totD l j s hs; omega)
      have HJY : Hid (ew l rows ix cell = xfold (uwV rows ix cell) l) := Lib.hid (ew_yes huo.out (fun e => hl0 (by rw [e]; rfl)))
      have HT0 : Hid (tot (uwV rows ix cell) ≤ 1048576) := Lib.hid (Nat.le_trans (uw_tot huo.out) (by omega))
      have hl0I : ((l.length : Int) == 0) = false := beq_eq_false_iff_ne.2 (by omega)
      clear h'
      have hrr := uw_rows huo.out
      have ND := Lib.hid (specNewDatabase_c rows (w.alloc (.cells #[.slice none 0 0] 31)) hr1 hr2)
      have RR : Hid (∀ W A l c, Below w.heap.size w W → Rd (Rd RB) W (.slice A l c) (newDb rows) → Calls Try.prog 70 #[.agg #[.slice A l c], .int .i64 ix, .slice Ac nc cc2] W fun e w' => ∃ A l c, e = .returned (.tuple #[.agg #[.slice A l c], .bool true]) ∧ Fresh OBB W w' (.slice A l c) (uwV rows ix cell)) := Lib.hid (fun W A l c hW hA => specReplaceRow_c _ (newDb rows) ix _ cell true W hA (Rd_reads RB_reads _ _ _ _ HCW.out hW) (Lib.hid (uw_rep huo.out)) hi hi' (Nat.le_trans (newDb_tot rows) (by omega)) hcl)
      go_enter Try.func34, Try.ntmps34
      go_wp2_with fail
      refine (UW.out _).mono ?_
      rintro e w' ⟨rfl, rfl⟩
      go_wp2_with fail
      refine ND.out.mono ?_
      rintro e w1 ⟨A0, l0, c0, rfl, F0⟩
      have T1 := bx.trans (F0.below.mono bx.size)
      have R0 := (F0.iv OBB_good)
      have R1 := rd_db R0
      have b0 := F0.below
      have BX1 := Lib.hid (BX.out.below b0 BX.out.lt)
      clear F0 R0 b0 ND
      go_wp2_with fail
      refine (RR.out _ _ _ _ T1 R1).mono ?_
      rintro e w2 ⟨A1, l1, c1, rfl, F1⟩
      have JS0 := Lib.hid (JS.start BX1.out T1 F1)
      clear F1 R1 RR
      go_wp2
      generalize w2.heap.size = g at *
      generalize w2.alloc (.cells #[.slice A1 l1 c1] 31) = wS at *
      go_loopw [12] (fun i wr => ∃ j : Nat, j ≤ l.length ∧ i = .int .i64 (j : Int) ∧ ∃ Ax lx cx D, Hid (xfold (uwV rows ix cell) (l.take j) = some D) ∧ Hid (tot D ≤ 1048576) ∧ Hid (JS w g wr Ax lx cx D)) (fun i _ => l.length + 0 - (intOf i).toNat)
      case atStart => exact ⟨0, Nat.zero_le _, rfl, _, _, _, _, Lib.hid rfl, HT0, JS0⟩
      case round =>
        obtain ⟨j, hj, rfl, Ax, lx, cx, D, hfd, htd, hJ⟩ := hrel
        have cg := hJ.out.b.cell 0
        by_cases hlt : j < l.length
        · obtain ⟨s, hs, B, q, r, hbb, cu, hrs⟩ := EL.out j hlt
          have g1 := (hJ.out.t.cell (p := ⟨b, off + j, none⟩) hbb).trans cu
          have hst := HTS.out j s hs
          obtain ⟨o, ho⟩ : ∃ o, xdOk D s = o := ⟨_, rfl⟩
          have dL : Below wr.heap.size wr wr.drew := (Below.refl _ _).drew
          have dA : Below wr.heap.size wr (wr.alloc (.cells #[.slice none 0 0] 31)).drew := (below_alloc wr (.cells #[.slice none 0 0] 31)).drew
          have hbw : b < wr.heap.size := Nat.lt_of_lt_of_le hbb hJ.out.t.size
          have KC : Hid (∀ W, Below wr.heap.size wr W → W.cell? ⟨g, 0, none⟩ = some (.slice Ax lx cx) ∧ W.cell? ⟨b, off + j, none⟩ = some (.slice B q r)) := Lib.hid (fun W hW => ⟨(hJ.out.step hW).b.cell 0, (hW.cell (p := ⟨b, off + j, none⟩) hbw).trans g1⟩)
          have XR : Hid (∀ W, Below wr.heap.size wr W → Calls Try.prog 22 #[.agg #[.slice Ax lx cx], .agg #[.slice B q r]] W fun e w' => ∃ A l c, e = .returned (.tuple #[.agg #[.slice A l c], .bool o]) ∧ Fresh OBB W w' (.slice A l c) (xorDb D s)) := Lib.hid (fun W hW => specXorDb_c _ _ D s o W (hJ.out.step hW).rd (Rd_reads (Rd_reads RB_reads) _ _ _ _ hrs (hJ.out.t.trans (hW.mono hJ.out.t.size))) (Lib.hid ho) htd.out hst)
          have kc := KC.out _ dL
          have kcA := KC.out _ dA
          have HS := Lib.hid hs
          have HO := Lib.hid ho
          have hj0 : (0 : Int) ≤ (j : Int) := by omega
          have hj1 : (j : Int) < (l.length : Int) := by omega
          have hj2 : ((j : Int)).toNat = j := by omega
          clear hs cu hrs hst ho
          go_wp2_with fail
          go_region_held3 (fun W => W.cell? ⟨g, 0, none⟩ = some (.slice Ax lx cx) ∧ W.cell? ⟨b, off + j, none⟩ = some (.slice B q r))
            (first | assumption | exact ⟨kcS.1, kcS.2⟩ | exact ⟨kcB.1, kcB.2⟩ | go_keep)
            (first | (go_at_call 22; refine (XR.out _ (by first | exact dL | exact dA)).mono ?_; rintro e w2 ⟨A2, l2, c2, rfl, F2⟩; have b2 : Below wr.heap.size wr w2 := (by first | exact dL.trans (F2.below.mono dL.size) | exact dA.trans (F2.below.mono dA.size)); have kc := KC.out _ b2; have kcS := KC.out _ (b2.setCell (p := ⟨wr.heap.size, 0, none⟩) (Nat.le_refl _) (.slice A2 l2 c2)); have kcB := KC.out _ (b2.alloc b2.size (.cells #[(.slice A2 l2 c2)] 31)); (try (have BN : Hid (Box w2 wr.heap.size 31 #[.slice none 0 0]) := Lib.hid (Box.below (show Box (wr.alloc (.cells #[.slice none 0 0] 31)).drew wr.heap.size 31 #[.slice none 0 0] from Box.new wr _ _) F2.below (by simp)); have x0 := BN.out.cell 0; have x1 := BN.out.frozen 0))))
          · have bW := Lib.hid (b2.alloc b2.size (.cells #[(.slice A2 l2 c2)] 31))
            have Bn := Lib.hid (Box.new w2 31 #[(.slice A2 l2 c2)])
            have JN := Lib.hid (hJ.out.next2 (W1 := wr.drew) (Nat.le_refl _) F2 bW.out (fun q h1 h2 => Below.heap_alloc _ _ _ h2))
            have J7 := Lib.hid (hJ.out.step bW.out)
            clear kcS kcB kcA kc dL dA XR KC F2 b2
            generalize (w2.alloc (.cells #[(.slice A2 l2 c2)] 31)) = w7 at *
            generalize w2.heap.size = gn at *
            have n0 := Bn.out.cell 0
            have h0 := J7.out.b.cell 0
            have h1 := J7.out.b.frozen 0
            have h2 := J7.out.r.cell 0
            have h3 := J7.out.r.frozen 0
            cases o with
            | true =>
              have HF2 := Lib.hid (xfold_yes hfd.out HS.out HO.out)
              have HT2 : Hid (tot (xorDb D s) ≤ 1048576) := Lib.hid (Nat.le_trans (xd_tot HO.out) (by omega))
              go_wp2
              go_roundw
              case rel => exact ⟨j + 1, by omega, by go_num, _, _, _, _, HF2, HT2, JN⟩
              case measure => simp [intOf]; omega
            | false =>
              have e0 := (J7.out.r.set_ 0 (.slice none 0 0)).cell 0
              have hno : ew l rows ix cell = none := by rw [HJY.out]; exact xfold_no hfd.out HS.out HO.out
              have hk2 : ok = false := by rw [← hok.out, hno]; rfl
              subst hk2
              have FF : Hid (Fresh OBB w (w7.setCell ⟨w.heap.size, 0, none⟩ (.slice none 0 0)) (.slice none 0 0) ((ew l rows ix cell).getD [])) := Lib.hid (by rw [hno]; exact J7.out.nil)
              go_wp2
              refine bodyPost_ret (v := .tuple #[.agg #[.slice none 0 0], .bool false]) (by simp [results, Try.results34, go_sem, e0]) rfl ⟨_, _, _, rfl, FF.out⟩
          · have bW := Lib.hid (b2.setCell (p := ⟨wr.heap.size, 0, none⟩) (Nat.le_refl _) (.slice A2 l2 c2))
            have Bn := Lib.hid (BN.out.set_ 0 (.slice A2 l2 c2))
            have JN := Lib.hid (hJ.out.next2 (W1 := (wr.alloc (.cells #[.slice none 0 0] 31)).drew) (by simp) F2 bW.out (fun q h1 h2 => Below.heap_setCell _ _ _ _ (by have h3 : wr.heap.size + 1 ≤ q := (by simpa using h1); show q ≠ wr.heap.size; omega)))
            have J7 := Lib.hid (hJ.out.step bW.out)
            clear kcS kcB kcA kc dL dA XR KC F2 b2 BN x0 x1
            generalize (w2.setCell ⟨wr.heap.size, 0, none⟩ (.slice A2 l2 c2)) = w7 at *
            generalize wr.heap.size = gn at *
            have n0 := Bn.out.cell 0
            have h0 := J7.out.b.cell 0
            have h1 := J7.out.b.frozen 0
            have h2 := J7.out.r.cell 0
            have h3 := J7.out.r.frozen 0
            cases o with
            | true =>
              have HF2 := Lib.hid (xfold_yes hfd.out HS.out HO.out)
              have HT2 : Hid (tot (xorDb D s) ≤ 1048576) := Lib.hid (Nat.le_trans (xd_tot HO.out) (by omega))
              go_wp2
              go_roundw
              case rel => exact ⟨j + 1, by omega, by go_num, _, _, _, _, HF2, HT2, JN⟩
              case measure => simp [intOf]; omega
            | false =>
              have e0 := (J7.out.r.set_ 0 (.slice none 0 0)).cell 0
              have hno : ew l rows ix cell = none := by rw [HJY.out]; exact xfold_no hfd.out HS.out HO.out
              have hk2 : ok = false := by rw [← hok.out, hno]; rfl
              subst hk2
              have FF : Hid (Fresh OBB w (w7.setCell ⟨w.heap.size, 0, none⟩ (.slice none 0 0)) (.slice none 0 0) ((ew l rows ix cell).getD [])) := Lib.hid (by rw [hno]; exact J7.out.nil)
              go_wp2
              refine bodyPost_ret (v := .tuple #[.agg #[.slice none 0 0], .bool false]) (by simp [results, Try.results34, go_sem, e0]) rfl ⟨_, _, _, rfl, FF.out⟩
        · have hjn : j = l.length := by omega
          subst hjn
          have hfd := hfd.out
          rw [List.take_of_length_le (Nat.le_refl _)] at hfd
          have hye : ew l rows ix cell = some D := by rw [HJY.out]; exact hfd
          have hk2 : ok = true := by rw [← hok.out, hye]; rfl
          subst hk2
          have h2 := hJ.out.r.cell 0
          have h3 := hJ.out.r.frozen 0
          have e0 := (hJ.out.r.set_ 0 (.slice Ax lx cx)).cell 0
          have FF : Hid (Fresh OBB w (wr.setCell ⟨w.heap.size, 0, none⟩ (.slice Ax lx cx)) (.slice Ax lx cx) ((ew l rows ix cell).getD [])) := Lib.hid (by rw [hye]; exact hJ.out.fin)
          go_wp2
          refine bodyPost_ret (v := .tuple #[.agg #[.slice Ax lx cx], .bool true]) (by simp [results, Try.results34, go_sem, e0]) rfl ⟨_, _, _, rfl, FF.out⟩
end Go.Proofs.Ytokhogdocaeelaa
