/- OpenCell of the reference. -/
import Derived.Test.YtokhogdocaeelaaOpP
import Derived.Test.YtokhogdocaeelaaBoxes
import Derived.Deep.RegionLaw
namespace Go.Proofs.Ytokhogdocaeelaa
set_option linter.unusedVariables false
open Go.RowKit

def OpNo (w w' : World) (e : Ending) : Prop := e = .returned (.tuple #[.agg #[.int .i64 0, .slice none 0 0], .bool false]) ∧ Below w.heap.size w w'
set_option maxHeartbeats 1000000 in
theorem specOpenH_c (k c : Int) (v : Value) (cell : List UInt8) (w : World) (h : Rd RB w v cell) (hok : hdrOk k c cell = false) :
    Calls Try.prog 44 #[.int .i64 k, .int .i64 c, v] w fun e w' => OpNo w w' e := by
  obtain ⟨A, n, cc, rfl, h'⟩ := h
  obtain rfl := h'.1
  have hcm := Nat.le_trans h'.2.1 h'.2.2.1
  unfold maxLen at hcm
  clear h'
  have bx := below_alloc w (.cells #[.int .i64 0, .slice none 0 0] 58)
  have BX := Box.new w 58 #[.int .i64 0, .slice none 0 0]
  have bx0 : (w.alloc (.cells #[.int .i64 0, .slice none 0 0] 58)).cell? ⟨w.heap.size, 0, none⟩ = some (.int .i64 0) := BX.cell 0
  have bx1 : (w.alloc (.cells #[.int .i64 0, .slice none 0 0] 58)).cell? ⟨w.heap.size, 1, none⟩ = some (.slice none 0 0) := BX.cell 1
  clear BX
  have IK := Lib.hid (fun W => specKey_c k W)
  cases hk : keyOk k with
  | false =>
    rw [hk] at IK
    clear hok hk
    go_enter Try.func44, Try.ntmps44
    go_wp2_with fail
    refine (IK.out _).mono ?_
    rintro e w' ⟨rfl, rfl⟩
    go_wp2
    refine bodyPost_ret (v := .tuple #[.agg #[.int .i64 0, .slice none 0 0], .bool false]) (by simp [results, Try.results44, go_sem, bx0, bx1]) rfl ⟨rfl, bx⟩
  | true =>
    rw [hk] at IK
    by_cases hc : 0 ≤ c ∧ c ≤ 1000000000000
    · have hl : ¬ cell.length = 24 := by
        intro e
        unfold hdrOk cntOk at hok
        rw [hk, decide_eq_true hc, decide_eq_true e] at hok
        simp at hok
      clear hok hk
      go_enter Try.func44, Try.ntmps44
      go_wp2_with fail
      refine (IK.out _).mono ?_
      rintro e w' ⟨rfl, rfl⟩
      go_wp2_with fail
      refine (specIn_t _ _ _ _ hc.1 hc.2).mono ?_
      rintro e w' ⟨rfl, rfl⟩
      go_wp2
      refine bodyPost_ret (v := .tuple #[.agg #[.int .i64 0, .slice none 0 0], .bool false]) (by simp [results, Try.results44, go_sem, bx0, bx1]) rfl ⟨rfl, bx⟩
    · have HC := Lib.hid hc
      clear hc hok hk
      go_enter Try.func44, Try.ntmps44
      go_wp2_with fail
      refine (IK.out _).mono ?_
      rintro e w' ⟨rfl, rfl⟩
      go_wp2_with fail
      refine (specIn_f _ _ _ _ HC.out).mono ?_
      rintro e w' ⟨rfl, rfl⟩
      go_wp2
      refine bodyPost_ret (v := .tuple #[.agg #[.int .i64 0, .slice none 0 0], .bool false]) (by simp [results, Try.results44, go_sem, bx0, bx1]) rfl ⟨rfl, bx⟩
set_option maxHeartbeats 1000000 in
set_option maxRecDepth 100000 in
theorem specOpenT_c (k c : Int) (v : Value) (cell : List UInt8) (ok : Bool) (w : World) (h : Rd RB w v cell) (hh : hdrOk k c cell = true) (hok : Hid (openOk k c cell = ok)) :
    Calls Try.prog 44 #[.int .i64 k, .int .i64 c, v] w fun e w' => ∃ A l cc, e = .returned (.tuple #[.agg #[.int .i64 (opnM k c cell), .slice A l cc], .bool ok]) ∧ Fresh (Own 5 FB) w w' (.slice A l cc) (opnB k c cell) := by
  have hh2 := hh
  unfold hdrOk at hh2
  simp only [Bool.and_eq_true, decide_eq_true_eq] at hh2
  obtain ⟨⟨hk, hc⟩, hl⟩ := hh2
  have hc2 := of_decide_eq_true hc
  obtain ⟨A, n, cc, rfl, h'⟩ := h
  obtain rfl : n = 24 := h'.1.symm.trans hl
  have hnc := h'.2.1
  have hcm := h'.2.2.1
  unfold maxLen at hcm
  obtain ⟨b, off, rfl, hb, hcl⟩ := h'.2.2.2 (by omega)
  have bx := below_alloc w (.cells #[.int .i64 0, .slice none 0 0] 58)
  have BX := Lib.hid (Box.new w 58 #[.int .i64 0, .slice none 0 0])
  have IK : Hid (∀ W, Calls Try.prog 55 #[.int .i64 k] W fun e w' => e = .returned (.bool true) ∧ W = w') := Lib.hid (fun W => by have := specKey_c k W; rwa [hk] at this)
  have T20 : Hid (∀ W, Below w.heap.size w W → Rd RB W (.slice (some ⟨b, off, none⟩) 20 cc) (cell.take 20)) := Lib.hid (fun W hW => Rd_reads RB_reads _ _ _ _ (rd_take (n := 24) ⟨_, _, _, rfl, h'⟩ 20 (by omega)) hW)
  obtain ⟨x0, x1, x2, x3, hx⟩ := four (xs := cell.drop 20) (by rw [List.length_drop]; omega)
  have hg : ∀ j, (cell.drop 20)[j]? = cell[20 + j]? := fun j => by rw [List.getElem?_drop]
  have rdj : ∀ (j : Nat) (x : UInt8), [x0, x1, x2, x3][j]? = some x → (w.alloc (.cells #[.int .i64 0, .slice none 0 0] 58)).cell? ⟨b, off + (20 + j), none⟩ = some (.int .u8 (x.toNat : Int)) := by
    intro j x hj
    obtain ⟨u, hu, hr⟩ := hcl (20 + j) x (by rw [← hg, hx]; exact hj)
    unfold RB at hr
    subst hr
    exact (bx.cell (p := ⟨b, off + (20 + j), none⟩) hb).trans hu
  have c20 : (w.alloc (.cells #[.int .i64 0, .slice none 0 0] 58)).cell? ⟨b, off + 20, none⟩ = some (.int .u8 (x0.toNat : Int)) := rdj 0 x0 rfl
  have c21 : (w.alloc (.cells #[.int .i64 0, .slice none 0 0] 58)).cell? ⟨b, off + 21, none⟩ = some (.int .u8 (x1.toNat : Int)) := rdj 1 x1 rfl
  have c22 : (w.alloc (.cells #[.int .i64 0, .slice none 0 0] 58)).cell? ⟨b, off + 22, none⟩ = some (.int .u8 (x2.toNat : Int)) := rdj 2 x2 rfl
  have c23 : (w.alloc (.cells #[.int .i64 0, .slice none 0 0] 58)).cell? ⟨b, off + 23, none⟩ = some (.int .u8 (x3.toNat : Int)) := rdj 3 x3 rfl
  have b0 := x0.toNat_lt
  have b1 := x1.toNat_lt
  have b2 := x2.toNat_lt
  have b3 := x3.toNat_lt
  have hO := or4 x0.toNat x1.toNat x2.toNat x3.toNat b0 b1 b2 b3
  have o1 := hO.1
  have o2 := hO.2.1
  have o3 := hO.2.2
  have hr := khash_range k (cellInts c (cell.take 20))
  have hchk := le4 x0 x1 x2 x3 (cellCk k c (cell.take 20)) hr.1 hr.2
  obtain ⟨y, hy⟩ : ∃ y, cellCk k c (cell.take 20) = y := ⟨_, rfl⟩
  have HCHK : Hid (chkOk k c cell = decide ((x0.toNat : Int) + (x1.toNat : Int) * 256 + (x2.toNat : Int) * 65536 + (x3.toNat : Int) * 16777216 = y)) := Lib.hid (by
    unfold chkOk
    rw [hx, hy]
    rw [hy] at hchk
    exact decide_eq_decide.2 hchk)
  have CK : Hid (∀ W, Below w.heap.size w W → Calls Try.prog 87 #[.int .i64 k, .int .i64 c, .slice (some ⟨b, off, none⟩) 20 cc] W fun e w' => e = .returned (.int .i64 y) ∧ Below W.heap.size W w') := Lib.hid (fun W hW => by
    have := specCellCheck_c k c _ _ W (T20.out W hW) (by rw [List.length_take]; omega)
    rwa [hy] at this)
  have HL := Lib.hid hl
  have HHDR := Lib.hid hh
  clear hh hchk hr hO rdj hg hx hcl h' hk hc hy hl
  go_enter Try.func44, Try.ntmps44
  go_wp2_with fail
  refine (IK.out _).mono ?_
  rintro e w' ⟨rfl, rfl⟩
  go_wp2_with fail
  refine (specIn_t _ _ _ _ hc2.1 hc2.2).mono ?_
  rintro e w' ⟨rfl, rfl⟩
  go_wp2_with fail
  go_quiet (fail)
  have T1 := below_drewN bx nq
  generalize hS : (x0.toNat : Int) + (x1.toNat : Int) * 256 + (x2.toNat : Int) * 65536 + (x3.toNat : Int) * 16777216 = S at *
  clear o1 o2 o3 hS c20 c21 c22 c23 b0 b1 b2 b3 IK
  go_wp2_with fail
  refine (CK.out _ T1).mono ?_
  rintro e w2 ⟨rfl, b2⟩
  have T2 := T1.trans (b2.mono T1.size)
  have BX2 := Lib.hid (Box.below (show Box ((w.alloc (.cells #[.int .i64 0, .slice none 0 0] 58)).drewN nq) w.heap.size 58 #[.int .i64 0, .slice none 0 0] from BX.out) b2 BX.out.lt)
  clear b2 T1 bx BX CK
  have f0 := BX2.out.frozen 0
  have f1 := BX2.out.frozen 1
  have d0 := BX2.out.cell 0
  have d1 := BX2.out.cell 1
  by_cases hsy : S = y
  · have hne : (S != y) = false := by simp [hsy]
    have hck : chkOk k c cell = true := by rw [HCHK.out, decide_eq_true hsy]
    have CIP := Lib.hid (fun W => specCellKey_c k c W)
    have DEC : Hid (∀ W, Below w.heap.size w W → Calls Try.prog 88 #[.int .i64 (cellK k c), .slice (some ⟨b, off, none⟩) 20 cc] W fun e w' => ∃ v', e = .returned v' ∧ Fresh (Own 5 FB) W w' v' (opP k c cell)) := Lib.hid (fun W hW => specDec_c (cellK k c) _ _ W (T20.out W hW) (by rw [List.length_take]; omega))
    have hpl := opP_len (k := k) (c := c) HL.out
    obtain ⟨pl, hple⟩ : ∃ pl, opP k c cell = pl := ⟨_, rfl⟩
    have HPLE := Lib.hid hple
    rw [hple] at DEC hpl
    have HCK := Lib.hid hck
    clear hsy HCHK T20 hck hple d0 d1 f0 f1
    have h20 : (20 : Int) ≤ (cc : Int) := by omega
    go_wp2_with fail
    go_region_law (first
      | (go_simp; ((with_reducible refine (CIP.out _).mono ?_); rintro e w3 ⟨rfl, b3⟩; have T3 := T2.drew.trans (b3.mono T2.size)))
      | (go_simp; ((with_reducible refine (DEC.out _ T3).mono ?_); rintro e w4 ⟨v4, rfl, F4⟩; obtain ⟨A9, l9, c9, rfl⟩ := fresh_slice F4)))
    have T4 := T3.trans (F4.below.mono T3.size)
    have D4 : Below w2.heap.size w2.drew w4 := b3.trans (F4.below.mono b3.size)
    have BX4 := Lib.hid (Box.below (show Box w2.drew w.heap.size 58 #[.int .i64 0, .slice none 0 0] from BX2.out) D4 BX2.out.lt)
    have rp := (F4.iv (Own_good FB_good)).rd (R' := RB) (fun q => q.rb)
    have hl9 : l9 = 20 := by have := rp.at_same.1; omega
    subst hl9
    have RP := Lib.hid rp
    have hc9 := rp.at_same.2.1
    have hm9 := rp.at_same.2.2.1
    obtain ⟨b9, o9, rfl, hb9, hcl9⟩ := rp.at_same.2.2.2 (by omega)
    obtain ⟨p0, p1, ps, rfl⟩ : ∃ p0 p1 ps, pl = p0 :: p1 :: ps := by
      match pl, hpl with
      | p0 :: p1 :: ps, _ => exact ⟨_, _, _, rfl⟩
    obtain ⟨u0, hu0, hr0⟩ := hcl9 0 p0 rfl
    obtain ⟨u1, hu1, hr1⟩ := hcl9 1 p1 rfl
    unfold RB at hr0 hr1
    subst hr0 hr1
    replace hu0 : w4.cell? ⟨b9, o9, none⟩ = some (.int .u8 (p0.toNat : Int)) := hu0
    have q0 := p0.toNat_lt
    have q1 := p1.toNat_lt
    have HBN : Hid (bndOk k c cell = decide ((p0.toNat : Int) ≤ 3 ∧ (p1.toNat : Int) ≤ 14)) := Lib.hid (by unfold bndOk; rw [HPLE.out]; rfl)
    clear hcl9 rp F4 D4 b3 CIP DEC T3 BX2
    have NO : Hid (¬ ((p0.toNat : Int) ≤ 3 ∧ (p1.toNat : Int) ≤ 14) → openOk k c cell = false) := Lib.hid (fun hn => by rw [openOk_eq, HBN.out, decide_eq_false hn]; simp)
    by_cases hp0 : (p0.toNat : Int) ≤ 3
    · by_cases hp1 : (p1.toNat : Int) ≤ 14
      · have hb14 : p1.toNat ≤ 14 := by omega
        have hc2' : ¬ c9 = 2 := by omega
        have W0 : IntKind.i64.wrap (p0.toNat : Int) = (p0.toNat : Int) := IntWalk.i64_in _ (by omega)
        have W1 : IntKind.i64.wrap (p1.toNat : Int) = (p1.toNat : Int) := IntWalk.i64_in _ (by omega)
        have W2 : IntKind.i64.wrap (2 + (p1.toNat : Int)) = 2 + (p1.toNat : Int) := IntWalk.i64_in _ (by omega)
        have N1 : ((2 : Int) + (p1.toNat : Int)).toNat = 2 + p1.toNat := by omega
        have N2 : max ((2 : Int) + (p1.toNat : Int)) 0 = 2 + (p1.toNat : Int) := by omega
        have N3 : (2 : Int) + (p1.toNat : Int) ≤ (c9 : Int) := by omega
        have N4 : (0 : Int) ≤ 2 + (p1.toNat : Int) := by omega
        have N5 : (2 : Int) ≤ 2 + (p1.toNat : Int) := by omega
        have bl := below_alloc w4 (.cells #[] 5)
        have HOWN : (w4.alloc (.cells #[] 5)).drew.ownsRow 0 5 1 (.slice (some ⟨w4.heap.size, 0, none⟩) 0 0) 0 [] := (Row_lit (E := 5) (B := w.heap.size) w4 #[] T4.size (by simp)).1
        have HSRC : Src (w4.alloc (.cells #[] 5)).drew (some ⟨b9, o9 + 2, none⟩) p1.toNat ((((p0 :: p1 :: ps).drop 2).take p1.toNat).map fun x => Value.int .u8 (x.toNat : Int)) :=
          (rd_take (rd_drop (Rd_reads RB_reads _ _ _ _ RP.out bl) 2 (by omega) rfl rfl) p1.toNat (by omega)).at_same.srcB
        have HONE := one_mapB (((p0 :: p1 :: ps).drop 2).take p1.toNat)
        have v0 : (w4.alloc (.cells #[] 5)).drew.cell? ⟨b9, o9, none⟩ = some (.int .u8 (p0.toNat : Int)) := (bl.cell (p := ⟨b9, o9, none⟩) hb9).trans hu0
        have v1 : (w4.alloc (.cells #[] 5)).drew.cell? ⟨b9, o9 + 1, none⟩ = some (.int .u8 (p1.toNat : Int)) := (bl.cell (p := ⟨b9, o9 + 1, none⟩) hb9).trans hu1
        have y0 : w4.drew.cell? ⟨b9, o9, none⟩ = some (.int .u8 (p0.toNat : Int)) := hu0
        have y1 : w4.drew.cell? ⟨b9, o9 + 1, none⟩ = some (.int .u8 (p1.toNat : Int)) := hu1
        have hbl : b9 < (w4.alloc (.cells #[] 5)).drew.heap.size := Nat.lt_of_lt_of_le hb9 bl.size
        have hbn : b9 ≠ w4.heap.size := Nat.ne_of_lt hb9
        have BX5 : Hid (Box (w4.alloc (.cells #[] 5)).drew w.heap.size 58 #[.int .i64 0, .slice none 0 0]) := Lib.hid (BX4.out.alloc _)
        have hwn : w.heap.size ≠ w4.heap.size := Nat.ne_of_lt BX4.out.lt
        have TBH : Hid (Below w.heap.size w (w4.alloc (.cells #[] 5)).drew) := Lib.hid (T4.alloc T4.size (.cells #[] 5)).drew
        have HB1 : Hid (w.heap.size + 1 ≤ (w4.alloc (.cells #[] 5)).drew.heap.size) := Lib.hid (Nat.le_trans (Nat.succ_le_of_lt BX4.out.lt) bl.size)
        have R0 : Hid (Row 5 (w.heap.size + 1) (w4.alloc (.cells #[] 5)).drew (.slice (some ⟨w4.heap.size, 0, none⟩) 0 0) 0 []) := Lib.hid (Row_lit (E := 5) (B := w.heap.size + 1) w4 #[] (Nat.succ_le_of_lt BX4.out.lt) (by simp))
        have hyes : openOk k c cell = true := by rw [openOk_eq, HBN.out, HHDR.out, HCK.out, decide_eq_true ⟨hp0, hp1⟩]; rfl
        have EB : Hid (opnB k c cell = ((p0 :: p1 :: ps).drop 2).take p1.toNat) := Lib.hid (by rw [(opn_yes hyes).2]; show ((opP k c cell).drop 2).take ((opP k c cell).getD 1 0).toNat = _; rw [HPLE.out]; rfl)
        have EM : Hid (opnM k c cell = (p0.toNat : Int)) := Lib.hid (by rw [(opn_yes hyes).1]; show ((((opP k c cell).getD 0 0).toNat : Nat) : Int) = _; rw [HPLE.out]; rfl)
        have hk2 : ok = true := by rw [← hok.out, hyes]
        have HPL := Lib.hid hpl
        clear hyes hpl
        go_wp2_with fail
        go_region_law (first
          | (refine step_app elB (by rfl) _ _ (by rfl) (.slice (some ⟨w4.heap.size, 0, none⟩) 0 0) 0 _ (by rfl) HOWN (some ⟨b9, o9 + 2, none⟩) p1.toNat (c9 - 2) _ (by rfl) HSRC HONE (by simp only [maxLen]; omega) (by omega) ?_; intro v6 w6 hown hg hat; obtain ⟨A6, l6, c6, rfl⟩ := own_shape hown; have z0 : w6.cell? ⟨b9, o9, none⟩ = some (.int .u8 (p0.toNat : Int)) := (World.cell?_of_block (hg.block b9 hbl (fun e => hbn (Option.some.inj e)))).trans v0; have z1 : w6.cell? ⟨b9, o9 + 1, none⟩ = some (.int .u8 (p1.toNat : Int)) := (World.cell?_of_block (hg.block b9 hbl (fun e => hbn (Option.some.inj e)))).trans v1; have BX6 := Lib.hid (BX5.out.grown hg (fun e => hwn (Option.some.inj e))); have s0 := BX6.out.cell 0; have s1 := BX6.out.cell 1; have t0 := BX6.out.frozen 0; have t1 := BX6.out.frozen 1; have s2 := (BX6.out.set_ 0 (.int .i64 (p0.toNat : Int))).cell 1; have t2 := (BX6.out.set_ 0 (.int .i64 (p0.toNat : Int))).frozen 1))
        all_goals
          have q6 := R0.out.app0 (Below.refl _ _) HB1.out hown hg hat
          have T6 : Below w.heap.size w w6 := TBH.out.trans (q6.2.mono (Nat.le_succ _))
          have G6 : FreshG (Own 5 FB) w (w.heap.size + 1) w6 (.slice A6 l6 c6) (opnB k c cell) := by
            refine ⟨_, Own_flatB.2 ⟨?_, rfl⟩, ownBlock_nodup _, fun b hb => q6.1.2 b (by simpa using hb), T6⟩
            have e := q6.1.1
            rw [List.nil_append] at e
            rw [EB.out]
            rw [show 0 + p1.toNat = ((List.drop 2 (p0 :: p1 :: ps)).take p1.toNat).length by rw [List.length_take, List.length_drop]; have := HPL.out; omega] at e
            exact e
          have FF := Lib.hid (((G6.set (Own_good FB_good) (p := ⟨w.heap.size, 0, none⟩) (Nat.le_refl _) (Nat.lt_succ_self _) (.int .i64 (p0.toNat : Int))).set (Own_good FB_good) (p := ⟨w.heap.size, 1, none⟩) (Nat.le_refl _) (Nat.lt_succ_self _) (.slice A6 l6 c6)).fresh (Nat.le_succ _))
          have B7 := (BX6.out.set_ 0 (.int .i64 (p0.toNat : Int))).set_ 1 (.slice A6 l6 c6)
          have bx0 := B7.cell 0
          have bx1 := B7.cell 1
          clear hown hg hat q6 T6 G6 B7 HOWN HSRC HONE v0 v1 z0 z1 s0 s1 s2 t0 t1 t2 BX6 y0 y1
          go_wp2
          subst hk2
          refine bodyPost_ret (v := .tuple #[.agg #[.int .i64 (p0.toNat : Int), .slice A6 l6 c6], .bool true]) (by simp [results, Try.results44, go_sem, bx0, bx1]) rfl ⟨_, _, _, by rw [EM.out], FF.out⟩
      · have hno := NO.out (fun h => hp1 h.2)
        have g0 := BX4.out.frozen 0
        have g1 := BX4.out.frozen 1
        have e0 := BX4.out.cell 0
        have e1 := BX4.out.cell 1
        have e2 := (BX4.out.set_ 0 (.int .i64 0)).cell 1
        have g2 := (BX4.out.set_ 0 (.int .i64 0)).frozen 1
        have B5 := (BX4.out.set_ 0 (.int .i64 0)).set_ 1 (.slice none 0 0)
        have bx0 := B5.cell 0
        have bx1 := B5.cell 1
        have FF : Hid (Fresh (Own 5 FB) w ((w4.setCell ⟨w.heap.size, 0, none⟩ (.int .i64 0)).setCell ⟨w.heap.size, 1, none⟩ (.slice none 0 0)) (.slice none 0 0) ([] : List UInt8)) := Lib.hid (fresh_nilB _ _ ((T4.setCell (Nat.le_refl _) _).setCell (Nat.le_refl _) _))
        clear B5
        go_wp2
        rw [(opn_no hno).1, (opn_no hno).2]
        have hk2 : ok = false := by rw [← hok.out, hno]
        subst hk2
        refine bodyPost_ret (v := .tuple #[.agg #[.int .i64 0, .slice none 0 0], .bool false]) (by simp [results, Try.results44, go_sem, bx0, bx1]) rfl ⟨_, _, _, rfl, FF.out⟩
    · have hno := NO.out (fun h => hp0 h.1)
      have g0 := BX4.out.frozen 0
      have g1 := BX4.out.frozen 1
      have e0 := BX4.out.cell 0
      have e1 := BX4.out.cell 1
      have e2 := (BX4.out.set_ 0 (.int .i64 0)).cell 1
      have g2 := (BX4.out.set_ 0 (.int .i64 0)).frozen 1
      have B5 := (BX4.out.set_ 0 (.int .i64 0)).set_ 1 (.slice none 0 0)
      have bx0 := B5.cell 0
      have bx1 := B5.cell 1
      have FF : Hid (Fresh (Own 5 FB) w ((w4.setCell ⟨w.heap.size, 0, none⟩ (.int .i64 0)).setCell ⟨w.heap.size, 1, none⟩ (.slice none 0 0)) (.slice none 0 0) ([] : List UInt8)) := Lib.hid (fresh_nilB _ _ ((T4.setCell (Nat.le_refl _) _).setCell (Nat.le_refl _) _))
      clear B5
      go_wp2
      rw [(opn_no hno).1, (opn_no hno).2]
      have hk2 : ok = false := by rw [← hok.out, hno]
      subst hk2
      refine bodyPost_ret (v := .tuple #[.agg #[.int .i64 0, .slice none 0 0], .bool false]) (by simp [results, Try.results44, go_sem, bx0, bx1]) rfl ⟨_, _, _, rfl, FF.out⟩
  · have hne : (S != y) = true := by simp [hsy]
    have hno : openOk k c cell = false := by rw [openOk_eq, HCHK.out, decide_eq_false hsy]; simp
    have d2 := (BX2.out.set_ 0 (.int .i64 0)).cell 1
    have f2 := (BX2.out.set_ 0 (.int .i64 0)).frozen 1
    have B3 := (BX2.out.set_ 0 (.int .i64 0)).set_ 1 (.slice none 0 0)
    have bx0 := B3.cell 0
    have bx1 := B3.cell 1
    have FF : Hid (Fresh (Own 5 FB) w ((w2.setCell ⟨w.heap.size, 0, none⟩ (.int .i64 0)).setCell ⟨w.heap.size, 1, none⟩ (.slice none 0 0)) (.slice none 0 0) ([] : List UInt8)) := Lib.hid (fresh_nilB _ _ ((T2.setCell (Nat.le_refl _) _).setCell (Nat.le_refl _) _))
    clear B3 hsy
    go_wp2
    rw [(opn_no hno).1, (opn_no hno).2]
    have hk2 : ok = false := by rw [← hok.out, hno]
    subst hk2
    refine bodyPost_ret (v := .tuple #[.agg #[.int .i64 0, .slice none 0 0], .bool false]) (by simp [results, Try.results44, go_sem, bx0, bx1]) rfl ⟨_, _, _, rfl, FF.out⟩
end Go.Proofs.Ytokhogdocaeelaa
