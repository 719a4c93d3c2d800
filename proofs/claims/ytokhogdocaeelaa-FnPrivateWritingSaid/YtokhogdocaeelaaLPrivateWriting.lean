/- FnPrivateWriting, for every argument, no condition: the shares of a write join to it, and the shares of two writes, applied share by share, join to both. -/
import Derived.Test.YtokhogdocaeelaaDrawMw
import Derived.Test.YtokhogdocaeelaaWrP
import Derived.Test.YtokhogdocaeelaaMw
import Derived.Test.YtokhogdocaeelaaMwS
import Derived.Test.YtokhogdocaeelaaJw
import Derived.Test.YtokhogdocaeelaaApply
import Derived.Test.YtokhogdocaeelaaAt
import Derived.Test.YtokhogdocaeelaaSame
import Derived.Deep.RegionHeld3
namespace Go.Proofs.Ytokhogdocaeelaa.fnPrivateWriting
set_option linter.unusedVariables false
open Go.RowKit Go.ChangeShapes Go.WideShapes Go.ChangeAt

theorem VD_tot {n : Nat} {l : List Db} (h : ∀ x ∈ l, VD n x) : totD l ≤ 1601 * l.length := by
  unfold totD sumT sumF
  induction l with
  | nil => simp
  | cons x t ih =>
    have h1 := db_tot (h x (by simp)).1
    have h2 := ih (fun y hy => h y (by simp [hy]))
    simp at *
    omega
set_option maxHeartbeats 1000000 in
set_option maxRecDepth 100000 in
theorem walk (w : World) (v0 : Value) (x0 : List UInt8) (y0 : Rd RB w v0 x0) :
    Calls Try.prog 3 #[v0] w fun e w' => e = .returned (.bool true) ∧ Below w.heap.size w w' := by
  by_cases hl : x0.length ≤ 1048576
  · obtain ⟨A, n, cc, rfl, h'⟩ := y0
    have y0 : Rd RB w (.slice A n cc) x0 := ⟨_, _, _, rfl, h'⟩
    clear h'
    have AT : Hid (∀ (i : Int) (W : World), Below w.heap.size w W → 0 ≤ i → i ≤ 1000000 → Calls Try.prog 19 #[.slice A n cc, .int .i64 i] W fun e w' => e = .returned (.int .i64 (atI x0 i)) ∧ W = w') := Lib.hid (fun i W b h0 h1 => at_c _ x0 i W (Rd_reads RB_reads _ _ _ _ y0 b) hl h0 h1)
    have HB := Lib.hid (big_f _ x0 w y0 hl)
    have DR := Lib.hid (drawMw_c _ x0 w y0 hl)
    clear y0 hl
    go_enter Try.func3, Try.ntmps3
    go_wp2_with fail
    refine HB.out.mono ?_
    rintro e w' ⟨rfl, rfl⟩
    go_wp2_with fail
    refine DR.out.mono ?_
    rintro e w1 ⟨rows, ix, Ac, nc, c1, As, ns, c2, cell, seeds, rfl, rc, rs, hrows, hix, hcl, hsl, T1⟩
    obtain ⟨N, rfl⟩ := Int.eq_ofNat_of_zero_le hrows.1
    obtain rfl : nc = cell.length := rc.at_same.1.symm
    obtain rfl : ns = seeds.length := rs.at_same.1.symm
    have RC : Hid (∀ W, Below w1.heap.size w1 W → Rd RB W (.slice Ac cell.length c1) cell ∧ Rd RI W (.slice As seeds.length c2) seeds ∧ Below w.heap.size w W) := Lib.hid (fun W hW => ⟨Rd_reads RB_reads _ _ _ _ rc hW, Rd_reads RI_reads _ _ _ _ rs hW, T1.trans (hW.mono T1.size)⟩)
    have MW : Hid (∀ (W : World) (i : Int), Below w1.heap.size w1 W → -1 ≤ i → i ≤ 1000000 → Calls Try.prog 14 #[.int .i64 (N : Int), .int .i64 i, .slice Ac cell.length c1, .slice As seeds.length c2] W fun e w' => ∃ v', e = .returned v' ∧ Fresh ODB W w' v' (mw (N : Int) i cell seeds)) := Lib.hid (fun W i hW h1 h2 => implMw_c (N : Int) i _ cell _ seeds W (RC.out W hW).1 (RC.out W hW).2.1 (by omega) (by omega) (by omega) (by omega) (by omega) (by omega))
    have MS : Hid (∀ (W : World), Below w1.heap.size w1 W → Calls Try.prog 15 #[.int .i64 (N : Int), .int .i64 ix, .slice Ac cell.length c1, .slice As seeds.length c2] W fun e w' => ∃ v', e = .returned v' ∧ Fresh ODB W w' v' (mw (N : Int) ix cell seeds)) := Lib.hid (fun W hW => specMw_c (N : Int) ix _ cell _ seeds W (RC.out W hW).1 (RC.out W hW).2.1 (by omega) (by omega) (by omega) (by omega) (by omega) (by omega))
    clear rc rs HB DR T1
    go_wp2_with fail
    refine (MW.out _ ix (Below.refl _ _) hix.1 (by omega)).mono ?_
    rintro e w2 ⟨v2, rfl, F2⟩
    obtain ⟨Al, nl, cl, rfl⟩ := fresh_slice F2
    have t2 := F2.below
    have rl := rd_dbs (F2.iv ODB_good)
    obtain rfl : nl = (mw (N : Int) ix cell seeds).length := rl.at_same.1.symm
    clear F2
    go_wp2_with fail
    refine (MS.out _ t2).mono ?_
    rintro e w3 ⟨v3, rfl, F3⟩
    obtain ⟨A3, n3, c3, rfl⟩ := fresh_slice F3
    obtain rfl : n3 = (mw (N : Int) ix cell seeds).length := (rd_dbs (F3.iv ODB_good)).at_same.1.symm
    have t3 := t2.trans (F3.below.mono t2.size)
    have RL := Lib.hid (Rd_reads (Rd_reads (Rd_reads RB_reads)) _ _ _ _ rl F3.below)
    clear F3 rl t2
    by_cases hok : mwOk (N : Int) ix cell seeds = true
    · have hh := hok
      unfold mwOk at hh
      simp only [Bool.and_eq_true, decide_eq_true_eq] at hh
      obtain ⟨hu, hs3⟩ := hh
      have hur := uw_rows hu
      have hui := hu
      rw [uw_iff] at hui
      have hui := of_decide_eq_true hui
      obtain ⟨k, rfl⟩ := Int.eq_ofNat_of_zero_le hui.2.1.1
      obtain ⟨hlen, hall, hsum, hjw⟩ := mw_law hu hs3
      obtain ⟨q, hq⟩ : ∃ q, mw (N : Int) (k : Int) cell seeds = q := ⟨_, rfl⟩
      rw [hq] at hlen hall hsum hjw RL ⊢
      have HSM := Lib.hid hsum
      have HALL := Lib.hid hall
      obtain ⟨U, hU⟩ : ∃ U, uwV (N : Int) (k : Int) cell = U := ⟨_, rfl⟩
      have hget := uw_get hu
      have hUV := uw_VD hu
      have hcnt := uw_cnt hu
      rw [hU] at hjw hget hUV hcnt
      have HUV := Lib.hid hUV
      have hc24 := hget.2.2
      have hkN0 := hget.2.1
      have hUl : U.length = N := hUV.2
      have htq := VD_tot hall
      rw [hlen] at RL ⊢
      rw [hc24] at RC MW ⊢
      have HLEN := Lib.hid hlen
      have JW1 := Lib.hid (implJw_c _ q true w3 RL.out (Lib.hid (by rw [hjw]; rfl)) (by omega))
      rw [hjw] at JW1
      have hq0 : ((seeds.length : Int) + 1 == 0) = false := beq_eq_false_iff_ne.2 (by omega)
      have HC24 := Lib.hid hc24
      have HG := Lib.hid hget.1
      clear hsum hall hjw hUV hui hok htq hlen hc24 hget
      go_wp2_with fail
      refine JW1.out.mono ?_
      rintro e w4 ⟨Ad, nd, cd, rfl, F4⟩
      replace F4 : Fresh OBB w3 w4 (.slice Ad nd cd) U := F4
      have t4 := t3.trans (F4.below.mono t3.size)
      have rD := rd_db (F4.iv OBB_good)
      obtain rfl : nd = N := rD.at_same.1.symm.trans hUl
      have hkN : k < nd := hkN0
      obtain ⟨b, off, y, u, rfl, hbb, hy, hu2, hr⟩ := rD.at_same.at_ hkN
      obtain rfl : cell = y := Option.some.inj (HG.out.symm.trans hy)
      obtain ⟨Br, nr, cr, rfl, hr'⟩ := hr
      have hr : Rd RB w4 (.slice Br nr cr) cell := ⟨_, _, _, rfl, hr'⟩
      clear hr'
      have hbd : b < w4.heap.size := hbb
      have rl4 := Rd_reads (Rd_reads (Rd_reads RB_reads)) _ _ _ _ RL.out F4.below
      have HK : Hid (∀ W, Below (w4.alloc (.cells #[.slice (some ⟨b, off, none⟩) nd cd] 31)).heap.size (w4.alloc (.cells #[.slice (some ⟨b, off, none⟩) nd cd] 31)) W → Box W w4.heap.size 31 #[.slice (some ⟨b, off, none⟩) nd cd] ∧ W.cell? ⟨b, off + k, none⟩ = some (.slice Br nr cr) ∧ Rd RB W (.slice Br nr cr) cell ∧ Rd (Rd RB) W (.slice (some ⟨b, off, none⟩) nd cd) U ∧ Rd (Rd (Rd RB)) W (.slice Al (seeds.length + 1) cl) q ∧ Below w1.heap.size w1 W) := Lib.hid (fun W hW => by
        have ba := below_alloc w4 (.cells #[.slice (some ⟨b, off, none⟩) nd cd] 31)
        have bx := Box.new w4 31 #[.slice (some ⟨b, off, none⟩) nd cd]
        have bb := ba.trans (hW.mono ba.size)
        exact ⟨bx.below hW bx.lt, (bb.cell (p := ⟨b, off + k, none⟩) hbb).trans hu2, Rd_reads RB_reads _ _ _ _ hr bb, Rd_reads (Rd_reads RB_reads) _ _ _ _ rD bb, Rd_reads (Rd_reads (Rd_reads RB_reads)) _ _ _ _ rl4 bb, t4.trans (bb.mono t4.size)⟩)
      clear hu2 hr hy rD rl4 F4 RL JW1
      have hk0 : (0 : Int) ≤ (k : Int) := by omega
      have hk1 : (k : Int) < (nd : Int) := by omega
      have hws : IntKind.i64.wrap ((seeds.length : Int) + 1) = (seeds.length : Int) + 1 := IntWalk.i64_in _ (by omega)
      obtain ⟨z, hz⟩ : ∃ z, (U.filter fun r => !isZero r).length = z := ⟨_, rfl⟩
      have hz1 : ¬ (1 : Int) < (z : Int) := by omega
      have CW : Hid (∀ W, Rd (Rd RB) W (.slice (some ⟨b, off, none⟩) nd cd) U → Calls Try.prog 18 #[.agg #[.slice (some ⟨b, off, none⟩) nd cd]] W fun e w' => e = .returned (.int .i64 (z : Int)) ∧ Below W.heap.size W w') := Lib.hid (fun W hW => by have := implCountRowsWritten_c _ U W hW; rwa [hz] at this)
      clear hz
      have tX := Below.refl (w4.alloc (.cells #[.slice (some ⟨b, off, none⟩) nd cd] 31)).heap.size (w4.alloc (.cells #[.slice (some ⟨b, off, none⟩) nd cd] 31))
      have kc := HK.out _ tX
      have kd := kc.1.cell 0
      have kr := kc.2.1
      have SB1 := Lib.hid (sameB_c _ _ cell _ kc.2.2.1 (RC.out _ kc.2.2.2.2.2).1)
      clear kc
      go_wp2_with fail
      generalize hWX : w4.alloc (.cells #[.slice (some ⟨b, off, none⟩) nd cd] 31) = wX at *
      generalize w4.heap.size = gd at *
      clear hWX
      refine SB1.out.mono ?_
      rintro e w5 ⟨rfl, b5⟩
      have tX := tX.trans (b5.mono tX.size)
      have kc := HK.out _ tX
      have kd := kc.1.cell 0
      have CW1 := Lib.hid (CW.out _ kc.2.2.2.1)
      clear kc b5 SB1 kr
      go_wp2_with fail
      refine CW1.out.mono ?_
      rintro e w6 ⟨rfl, b6⟩
      have tX := tX.trans (b6.mono tX.size)
      clear b6 CW1 CW kd
      obtain ⟨a0, e0⟩ : ∃ a, atI x0 0 = a := ⟨_, rfl⟩
      have b0 := atI_bd x0 0
      rw [e0] at b0
      have A0 := AT.out 0 w6 (RC.out _ (HK.out _ tX).2.2.2.2.2).2.2 (by omega) (by omega)
      rw [e0] at A0
      have A0 := Lib.hid A0
      clear e0 AT
      obtain ⟨k2, hk2⟩ : ∃ k2 : Nat, a0 % (nd : Int) = (k2 : Int) := ⟨(a0 % (nd : Int)).toNat, by have := Int.emod_nonneg a0 (show (nd : Int) ≠ 0 by omega); omega⟩
      have hk2N : k2 < nd := by have := Int.emod_lt_of_pos a0 (show 0 < (nd : Int) by omega); omega
      have htm : a0.tmod (nd : Int) = (k2 : Int) := by rw [Int.tmod_eq_emod_of_nonneg (by omega), hk2]
      have hndz : (nd : Int) ≠ 0 := by omega
      have hndz2 : ¬ nd = 0 := by omega
      have hu2 : uwOk (nd : Int) (k2 : Int) cell = true := by rw [uw_iff]; exact decide_eq_true ⟨hur, by omega, HC24.out⟩
      obtain ⟨hlen2, hall2, hsum2, hjw2⟩ := mw_law hu2 hs3
      obtain ⟨q2, hq2⟩ : ∃ q2, mw (nd : Int) (k2 : Int) cell seeds = q2 := ⟨_, rfl⟩
      have M2 := MW.out w6 (k2 : Int) (HK.out _ tX).2.2.2.2.2 (by omega) (by omega)
      obtain ⟨U2, hU2⟩ : ∃ U2, uwV (nd : Int) (k2 : Int) cell = U2 := ⟨_, rfl⟩
      have hUV2 := uw_VD hu2
      rw [hq2] at hlen2 hall2 hsum2 hjw2 M2
      rw [hU2] at hjw2 hsum2 hUV2
      have M2 := Lib.hid M2
      have HALL2 := Lib.hid hall2
      have HLEN2 := Lib.hid hlen2
      have HJ2 := Lib.hid hjw2
      have HUV2 := Lib.hid hUV2
      have HSM2 := Lib.hid hsum2
      clear hk2 hlen2 hall2 hsum2 hjw2 hUV2 hu2 MW
      go_wp2_with fail
      refine A0.out.mono ?_
      rintro e w' ⟨rfl, rfl⟩
      go_wp2_with fail
      refine M2.out.mono ?_
      rintro e w7 ⟨v7, rfl, F7⟩
      obtain ⟨Am, nm, cm, rfl⟩ := fresh_slice F7
      have rm := rd_dbs (F7.iv ODB_good)
      obtain rfl : nm = seeds.length + 1 := rm.at_same.1.symm.trans HLEN2.out
      have t7 := tX.trans (F7.below.mono tX.size)
      have KM : Hid (∀ W, Below w7.heap.size w7 W → Rd (Rd (Rd RB)) W (.slice Am (seeds.length + 1) cm) q2 ∧ Rd (Rd (Rd RB)) W (.slice Al (seeds.length + 1) cl) q ∧ Below wX.heap.size wX W ∧ Below w.heap.size w W) := Lib.hid (fun W hW => by
        have tW := t7.trans (hW.mono t7.size)
        have kk := HK.out _ tW
        exact ⟨Rd_reads (Rd_reads (Rd_reads RB_reads)) _ _ _ _ rm hW, kk.2.2.2.2.1, tW, (RC.out _ kk.2.2.2.2.2).2.2⟩)
      have rl7 := (KM.out _ (Below.refl _ _)).2.1
      obtain ⟨bl, ol, rfl, hbl, _⟩ := rl7.at_same.2.2.2 (by omega)
      obtain ⟨bm, om, rfl, hbm, _⟩ := rm.at_same.2.2.2 (by omega)
      have EL1 : Hid (∀ i, i < seeds.length + 1 → ∃ x, q[i]? = some x ∧ ∃ B q' r, w7.cell? ⟨bl, ol + i, none⟩ = some (.slice B q' r) ∧ Rd (Rd RB) w7 (.slice B q' r) x) := Lib.hid (fun i hi => by
        obtain ⟨b', off', x, B, q', r, e, hbb, hs, hu, hr⟩ := dbs_at rl7.at_same hi
        simp only [Option.some.injEq, Addr.mk.injEq] at e
        obtain ⟨rfl, rfl, _⟩ := e
        exact ⟨x, hs, B, q', r, hu, hr⟩)
      have EL2 : Hid (∀ i, i < seeds.length + 1 → ∃ x, q2[i]? = some x ∧ ∃ B q' r, w7.cell? ⟨bm, om + i, none⟩ = some (.slice B q' r) ∧ Rd (Rd RB) w7 (.slice B q' r) x) := Lib.hid (fun i hi => by
        obtain ⟨b', off', x, B, q', r, e, hbb, hs, hu, hr⟩ := dbs_at rm.at_same hi
        simp only [Option.some.injEq, Addr.mk.injEq] at e
        obtain ⟨rfl, rfl, _⟩ := e
        exact ⟨x, hs, B, q', r, hu, hr⟩)
      have hcl1 := rl7.at_same.2.1
      have hcm1 := rm.at_same.2.1
      have NE0 := Lib.hid (show NRow 31 OBB w7.heap.size (w7.alloc (.cells #[] 31)) (.slice (some ⟨w7.heap.size, 0, none⟩) 0 0) 0 ([] : List Db) [] from NRow_lit w7 #[] (Nat.le_refl _) (by simp))
      clear F7 M2 A0 rm rl7 t7 tX
      go_wp2
      go_loopw [11, 12] (fun o i wr => ∃ (j : Nat) (vo : Value), j ≤ seeds.length + 1 ∧ i = .int .i64 j ∧ o = vo ∧ Hid (NRow 31 OBB w7.heap.size wr vo j (List.zipWith xorDb (q.take j) (q2.take j)) []) ∧ Hid (Below w7.heap.size w7 wr)) (fun _ i _ => seeds.length + 1 - (intOf i).toNat)
      case atStart => exact ⟨0, _, Nat.zero_le _, rfl, rfl, NE0, Lib.hid (below_alloc w7 _)⟩
      case round =>
        obtain ⟨j, vo, hj, rfl, hvo, NR, Tr⟩ := hrel
        have hvo2 := hvo.symm
        clear hvo
        subst hvo2
        by_cases hlt : j < seeds.length + 1
        · obtain ⟨d1, hd1, B1, m1, r1, cu1, hr1⟩ := EL1.out j hlt
          obtain ⟨d2, hd2, B2, m2, r2, cu2, hr2⟩ := EL2.out j hlt
          have hv1 := HALL.out d1 (List.mem_of_getElem? hd1)
          have hv2 := HALL2.out d2 (List.mem_of_getElem? hd2)
          have HZ : Hid (List.zipWith xorDb (q.take (j + 1)) (q2.take (j + 1)) = List.zipWith xorDb (q.take j) (q2.take j) ++ [xorDb d1 d2]) := Lib.hid (by
            have l1 := (List.getElem?_eq_some_iff.1 hd1).1
            have l2 := (List.getElem?_eq_some_iff.1 hd2).1
            rw [take_succ_get q j d1 hd1, take_succ_get q2 j d2 hd2, List.zipWith_append (by rw [List.length_take, List.length_take]; omega)]
            rfl)
          have hbl1 : bl < wr.heap.size := Nat.lt_of_lt_of_le hbl Tr.out.size
          have hbm1 : bm < wr.heap.size := Nat.lt_of_lt_of_le hbm Tr.out.size
          have g1 := (Tr.out.cell (p := ⟨bl, ol + j, none⟩) hbl).trans cu1
          have g2 := (Tr.out.cell (p := ⟨bm, om + j, none⟩) hbm).trans cu2
          have KC : Hid (∀ W, Below wr.heap.size wr W → W.cell? ⟨bl, ol + j, none⟩ = some (.slice B1 m1 r1) ∧ W.cell? ⟨bm, om + j, none⟩ = some (.slice B2 m2 r2)) := Lib.hid (fun W hW => ⟨(hW.cell (p := ⟨bl, ol + j, none⟩) hbl1).trans g1, (hW.cell (p := ⟨bm, om + j, none⟩) hbm1).trans g2⟩)
          have XR : Hid (∀ W, Below wr.heap.size wr W → Calls Try.prog 20 #[.agg #[.slice B1 m1 r1], .agg #[.slice B2 m2 r2]] W fun e w' => ∃ A l c, e = .returned (.tuple #[.agg #[.slice A l c], .bool true]) ∧ Fresh OBB W w' (.slice A l c) (xorDb d1 d2)) := Lib.hid (fun W hW => by
            have tW := Tr.out.trans (hW.mono Tr.out.size)
            exact implApply_c _ _ d1 d2 true W (Rd_reads (Rd_reads RB_reads) _ _ _ _ hr1 tW) (Rd_reads (Rd_reads RB_reads) _ _ _ _ hr2 tW) (Lib.hid (hv1.x hv2).1) (Nat.le_trans (db_tot hv1.1) (by omega)) (Nat.le_trans (db_tot hv2.1) (by omega)))
          have dL : Below wr.heap.size wr wr.drew := (Below.refl _ _).drew
          have dA : Below wr.heap.size wr (wr.alloc (.cells #[.slice none 0 0] 31)).drew := (below_alloc wr (.cells #[.slice none 0 0] 31)).drew
          have kc := KC.out _ dL
          have kcA := KC.out _ dA
          have hj0 : (0 : Int) ≤ (j : Int) := by omega
          have hj1 : (j : Int) < (seeds.length : Int) + 1 := by omega
          clear hd1 hd2 hr1 hr2 cu1 cu2 g1 g2 hv1 hv2
          go_wp2_with fail
          go_region_held3 (fun W => W.cell? ⟨bl, ol + j, none⟩ = some (.slice B1 m1 r1) ∧ W.cell? ⟨bm, om + j, none⟩ = some (.slice B2 m2 r2))
            (first | assumption | exact ⟨kcS.1, kcS.2⟩ | exact ⟨kcB.1, kcB.2⟩ | go_keep)
            (first | (go_at_call 20; refine (XR.out _ (by first | exact dL | exact dA)).mono ?_; rintro e w8 ⟨Ax, lx, cx, rfl, F8⟩; have b8 : Below wr.heap.size wr w8 := (by first | exact dL.trans (F8.below.mono dL.size) | exact dA.trans (F8.below.mono dA.size)); have kc := KC.out _ b8; have kcS := KC.out _ (b8.setCell (p := ⟨wr.heap.size, 0, none⟩) (Nat.le_refl _) (.slice Ax lx cx)); have kcB := KC.out _ (b8.alloc b8.size (.cells #[(.slice Ax lx cx)] 31)); (try (have BN : Hid (Box w8 wr.heap.size 31 #[.slice none 0 0]) := Lib.hid (Box.below (show Box (wr.alloc (.cells #[.slice none 0 0] 31)).drew wr.heap.size 31 #[.slice none 0 0] from Box.new wr _ _) F8.below (by simp)); have x0' := BN.out.cell 0; have x1' := BN.out.frozen 0))))
          · have BW := Lib.hid (b8.alloc b8.size (.cells #[.slice Ax lx cx] 31))
            have BG := Lib.hid (Box.new w8 31 #[.slice Ax lx cx])
            have FX := Lib.hid ((Fresh.pre (Below.refl _ _).drew F8).step OBB_good (below_alloc w8 (.cells #[.slice Ax lx cx] 31)))
            clear kcS kcB kcA kc dL dA XR KC F8 b8
            generalize w8.alloc (.cells #[.slice Ax lx cx] 31) = W at *
            generalize w8.heap.size = gx at *
            have NRo := NR.out
            obtain ⟨cells, F, k1, k2, k3, k4⟩ := NRo.open_
            have hw7 : w7.heap.size ≤ wr.heap.size := Tr.out.size
            have hlo : ∀ q', vo.ownBlock = some q' → w7.heap.size ≤ q' := fun q' hq' => k4 q' (List.mem_append_left _ (by rw [hq']; simp))
            have KW := Lib.hid (ownsRow_at (w' := W) k1 (fun q' hq' => BW.out.block q' (k1.lt q' (by simpa using hq')).2))
            have K := Lib.hid (And.intro k1 (And.intro k2 (And.intro k3 k4)))
            have cx0 := BG.out.cell 0
            have TW := Lib.hid (Tr.out.trans (BW.out.mono Tr.out.size))
            clear k1 k2 k3 k4 NRo
            go_wp2_with (at_builtin; refine wpList_appS elD rfl (.tmp 117) (.tmp 119) rfl vo j cells rfl (KW.out.alloc _) (some ⟨W.heap.size, 0, none⟩) 1 1 [.slice Ax lx cx] rfl (Src_one _ _ _) (one_single _ rfl) (by simp only [maxLen]; omega) (by omega) ?_; intro v9 w9 hown hg hat; have NR9 := Lib.hid (NRow.app (B := w7.heap.size) OBB_good K.out.1 K.out.2.1 K.out.2.2.1 K.out.2.2.2 FX.out hw7 hown hg hat); have T9 := Lib.hid ((TW.out.alloc TW.out.size (.cells #[.slice Ax lx cx] 31)).grown hg (by have := TW.out.size; simp; omega) hlo); clear hown hg hat)
            go_roundw
            case rel => exact ⟨j + 1, _, by omega, by go_num, rfl, Lib.hid (by rw [HZ.out]; exact NR9.out), T9⟩
            case measure => simp [intOf]; omega
          · have BW := Lib.hid (b8.setCell (p := ⟨wr.heap.size, 0, none⟩) (Nat.le_refl _) (.slice Ax lx cx))
            have BG := Lib.hid (BN.out.set_ 0 (.slice Ax lx cx))
            have FX := Lib.hid (((F8.g (w := wr) (below_alloc wr (.cells #[.slice none 0 0] 31)).drew).set OBB_good (p := ⟨wr.heap.size, 0, none⟩) (Nat.le_refl _) (by simp) (.slice Ax lx cx)).fresh (by simp))
            clear kcS kcB kcA kc dL dA XR KC F8 b8 BN x0' x1'
            generalize w8.setCell ⟨wr.heap.size, 0, none⟩ (.slice Ax lx cx) = W at *
            generalize hgx : wr.heap.size = gx at BG ⊢
            have NRo := NR.out
            obtain ⟨cells, F, k1, k2, k3, k4⟩ := NRo.open_
            have hw7 : w7.heap.size ≤ wr.heap.size := Tr.out.size
            have hlo : ∀ q', vo.ownBlock = some q' → w7.heap.size ≤ q' := fun q' hq' => k4 q' (List.mem_append_left _ (by rw [hq']; simp))
            have KW := Lib.hid (ownsRow_at (w' := W) k1 (fun q' hq' => BW.out.block q' (k1.lt q' (by simpa using hq')).2))
            have K := Lib.hid (And.intro k1 (And.intro k2 (And.intro k3 k4)))
            have cx0 := BG.out.cell 0
            have TW := Lib.hid (Tr.out.trans (BW.out.mono Tr.out.size))
            clear k1 k2 k3 k4 NRo
            go_wp2_with (at_builtin; refine wpList_appS elD rfl (.tmp 117) (.tmp 119) rfl vo j cells rfl (KW.out.alloc _) (some ⟨W.heap.size, 0, none⟩) 1 1 [.slice Ax lx cx] rfl (Src_one _ _ _) (one_single _ rfl) (by simp only [maxLen]; omega) (by omega) ?_; intro v9 w9 hown hg hat; have NR9 := Lib.hid (NRow.app (B := w7.heap.size) OBB_good K.out.1 K.out.2.1 K.out.2.2.1 K.out.2.2.2 FX.out hw7 hown hg hat); have T9 := Lib.hid ((TW.out.alloc TW.out.size (.cells #[.slice Ax lx cx] 31)).grown hg (by have := TW.out.size; simp; omega) hlo); clear hown hg hat)
            go_roundw
            case rel => exact ⟨j + 1, _, by omega, by go_num, rfl, Lib.hid (by rw [HZ.out]; exact NR9.out), T9⟩
            case measure => simp [intOf]; omega
        · have hjn : j = seeds.length + 1 := by omega
          subst hjn
          have hz : List.zipWith xorDb (q.take (seeds.length + 1)) (q2.take (seeds.length + 1)) = List.zipWith xorDb q q2 := by
            rw [List.take_of_length_le (Nat.le_of_eq HLEN.out), List.take_of_length_le (Nat.le_of_eq HLEN2.out)]
          have NRo := NR.out
          rw [hz] at NRo
          obtain ⟨Fo, ho, _⟩ := NRo.own
          have rS : Rd (Rd (Rd RB)) wr vo (List.zipWith xorDb q q2) := own_rdDB ho
          have hN64 : nd ≤ 64 := by omega
          obtain ⟨hs1, hs2⟩ := Sm_zip hN64 HALL.out HALL2.out (HLEN.out.trans HLEN2.out.symm)
          have hSl : (List.zipWith xorDb q q2).length = seeds.length + 1 := by rw [List.length_zipWith, HLEN.out, HLEN2.out]; omega
          rw [HSM.out, hU, HSM2.out] at hs1
          have hjS := jw_sum hs2 (by rw [hSl]; omega)
          rw [hs1] at hjS
          have htS := VD_tot hs2
          rw [hSl] at htS
          have ht2 := VD_tot HALL2.out
          rw [HLEN2.out] at ht2
          have kk := KM.out _ Tr.out
          have JW3 := Lib.hid (implJw_c _ _ true wr rS (Lib.hid (by rw [hjS]; rfl)) (by omega))
          rw [hjS] at JW3
          have JW4 : Hid (∀ W, Below w7.heap.size w7 W → Calls Try.prog 21 #[.slice (some ⟨bm, om, none⟩) (seeds.length + 1) cm] W fun e w' => ∃ A n c, e = .returned (.tuple #[.agg #[.slice A n c], .bool true]) ∧ Fresh OBB W w' (.slice A n c) U2) := Lib.hid (fun W hW => by
            have := specJw_c _ q2 true W (KM.out W hW).1 (Lib.hid (by rw [HJ2.out]; rfl)) (by omega)
            rw [HJ2.out] at this
            exact this)
          obtain ⟨Ao, lo, co, rfl⟩ : ∃ A' l' c', vo = .slice A' l' c' := by obtain ⟨_, _, k1, _⟩ := NRo.open_; exact own_shape k1
          clear hs1 hs2 hjS htS ht2 rS ho NRo hz kk NE0 EL1 EL2
          go_wp2_with fail
          refine JW3.out.mono ?_
          rintro e w10 ⟨Ae, le, ce, rfl, F10⟩
          replace F10 : Fresh OBB wr w10 (.slice Ae le ce) (zx U U2) := F10
          have T10 := Tr.out.trans (F10.below.mono Tr.out.size)
          have b10 := below_alloc w10 (.cells #[.slice Ae le ce] 31)
          have E10 := Lib.hid (And.intro (Box.new w10 31 #[.slice Ae le ce]) (Rd_reads (Rd_reads RB_reads) _ _ _ _ (rd_db (F10.iv OBB_good)) b10))
          have T11 := T10.trans (b10.mono T10.size)
          clear F10 T10 b10 JW3
          go_wp2_with fail
          generalize w10.alloc (.cells #[.slice Ae le ce] 31) = w11 at *
          generalize w10.heap.size = ge at *
          refine (JW4.out _ T11).mono ?_
          rintro e w12 ⟨Ab, lb, cb, rfl, F12⟩
          have T12 := T11.trans (F12.below.mono T11.size)
          have b12 := below_alloc w12 (.cells #[.slice Ab lb cb] 31)
          have E12 := Lib.hid (And.intro (E10.out.1.below F12.below E10.out.1.lt) (Rd_reads (Rd_reads RB_reads) _ _ _ _ E10.out.2 F12.below))
          have E13 := Lib.hid (And.intro (E12.out.1.alloc (.cells #[.slice Ab lb cb] 31)) (Rd_reads (Rd_reads RB_reads) _ _ _ _ E12.out.2 b12))
          have B13 := Lib.hid (And.intro (Box.new w12 31 #[.slice Ab lb cb]) (Rd_reads (Rd_reads RB_reads) _ _ _ _ (rd_db (F12.iv OBB_good)) b12))
          have T13 := T12.trans (b12.mono T12.size)
          have kk := HK.out _ (KM.out _ T13).2.2.1
          have kd := kk.1.cell 0
          have kb := B13.out.1.cell 0
          have hxd := (HUV.out.x HUV2.out)
          have XD := specXorDb_c _ _ U U2 true _ kk.2.2.2.1 B13.out.2 (Lib.hid hxd.1) (Nat.le_trans (db_tot HUV.out.1) (by omega)) (Nat.le_trans (db_tot HUV2.out.1) (by omega))
          rw [hxd.2.1] at XD
          have XD := Lib.hid XD
          clear F12 T12 b12 E12 E10 JW4 kk hxd
          go_wp2_with fail
          generalize w12.alloc (.cells #[.slice Ab lb cb] 31) = w13 at *
          generalize w12.heap.size = gb at *
          refine XD.out.mono ?_
          rintro e w14 ⟨Aw, lw, cw, rfl, F14⟩
          have T14 := T13.trans (F14.below.mono T13.size)
          have b14 := below_alloc w14 (.cells #[.slice Aw lw cw] 31)
          have E14 := Lib.hid (And.intro (E13.out.1.below F14.below E13.out.1.lt) (Rd_reads (Rd_reads RB_reads) _ _ _ _ E13.out.2 F14.below))
          have T15 := T14.trans (b14.mono T14.size)
          have KF : Hid (∀ W, Below (w14.alloc (.cells #[.slice Aw lw cw] 31)).heap.size (w14.alloc (.cells #[.slice Aw lw cw] 31)) W → (W.cell? ⟨ge, 0, none⟩ = some (.slice Ae le ce) ∧ W.cell? ⟨w14.heap.size, 0, none⟩ = some (.slice Aw lw cw)) ∧ Rd (Rd RB) W (.slice Ae le ce) (zx U U2) ∧ Rd (Rd RB) W (.slice Aw lw cw) (zx U U2) ∧ Rd RB W (.slice Ac 24 c1) cell ∧ Below w.heap.size w W) := Lib.hid (fun W hW => by
            have bx := Box.new w14 31 #[.slice Aw lw cw]
            have be := E14.out.1.alloc (.cells #[.slice Aw lw cw] 31)
            have tW := T15.trans (hW.mono T15.size)
            have kx := KM.out _ tW
            exact ⟨⟨(be.below hW be.lt).cell 0, (bx.below hW bx.lt).cell 0⟩, Rd_reads (Rd_reads RB_reads) _ _ _ _ E14.out.2 (b14.trans (hW.mono b14.size)), Rd_reads (Rd_reads RB_reads) _ _ _ _ (rd_db (F14.iv OBB_good)) (b14.trans (hW.mono b14.size)), (RC.out _ (HK.out _ kx.2.2.1).2.2.2.2.2).1, kx.2.2.2⟩)
          have hmk : ∀ W : World, (Instr.makeSlice 22 (.int .i64 24) (.int .i64 24)).run Try.prog W = .ok (.slice (some ⟨W.heap.size, 0, none⟩) 24 24) (W.alloc (.cells (madeCells #[.int .u8 0] 24) 5)) := fun W => by
            simpa using run_mk elB .i64 .i64 24 (by omega) (by omega) W
          have hxs : xorB cell cell = List.replicate 24 (0 : UInt8) := by rw [xorB_self, HC24.out]
          clear F14 T14 b14 E14 E13 B13 XD kd kb
          go_wp2_with fail
          generalize w14.alloc (.cells #[.slice Aw lw cw] 31) = w15 at *
          generalize w14.heap.size = gw at *
          have EQ : Hid (∀ W, Below w15.heap.size w15 W → Calls Try.prog 23 #[.agg #[.slice Ae le ce], .agg #[.slice Aw lw cw]] W fun e w' => e = .returned (.bool true) ∧ Below W.heap.size W w') := Lib.hid (fun W hW => by
            have := implEqualDatabases_c _ _ (zx U U2) (zx U U2) W (KF.out _ hW).2.1 (KF.out _ hW).2.2.1
            rwa [decide_eq_true rfl] at this)
          have CO : Hid (∀ W, Below w15.heap.size w15 W → Calls Try.prog 24 #[.slice Ac 24 c1, .slice Ac 24 c1] W fun e w' => ∃ v', e = .returned v' ∧ Fresh (Own 5 FB) W w' v' (List.replicate 24 (0 : UInt8))) := Lib.hid (fun W hW => by
            have := implCollideWrites_c _ _ cell cell W (KF.out _ hW).2.2.2.1 (KF.out _ hW).2.2.2.1 (by omega) (by omega)
            rwa [hxs] at this)
          have MD : Hid (∀ W : World, Rd RB (W.alloc (.cells (madeCells #[.int .u8 0] 24) 5)) (.slice (some ⟨W.heap.size, 0, none⟩) 24 24) (List.replicate 24 (0 : UInt8)) ∧ Below W.heap.size W (W.alloc (.cells (madeCells #[.int .u8 0] 24) 5))) := Lib.hid (fun W => ⟨((fresh_made W 24 (by simp [maxLen])).iv (Own_good FB_good)).rd (R' := RB) (fun q => q.rb), below_alloc W _⟩)
          have tL : Below w15.heap.size w15 w15.drew := (Below.refl _ _).drew
          have kc := (KF.out _ tL).1
          clear hxs
          go_region_held3 (fun W => W.cell? ⟨ge, 0, none⟩ = some (.slice Ae le ce) ∧ W.cell? ⟨gw, 0, none⟩ = some (.slice Aw lw cw))
            (first | assumption | go_keep)
            (first
            | (go_at_call 23; refine (EQ.out _ tL).mono ?_; rintro e w16 ⟨rfl, b16⟩; have tL := tL.trans (b16.mono tL.size); have tA := tL.alloc tL.size (.cells (madeCells #[.int .u8 0] 24) 5); have kc := (KF.out _ tL).1; have kcA := (KF.out _ tA).1)
            | (go_at_call 24; refine (CO.out _ (by first | exact tL | exact tA)).mono ?_; rintro e w17 ⟨v17, rfl, F17⟩; have rC := (F17.iv (Own_good FB_good)).rd (R' := RB) (fun q => q.rb); have t17 : Below w15.heap.size w15 w17 := (by first | exact tL.trans (F17.below.mono tL.size) | exact tA.trans (F17.below.mono tA.size)); have t17A := t17.alloc t17.size (.cells (madeCells #[.int .u8 0] 24) 5); have kcB := (KF.out _ t17).1; have kcC := (KF.out _ t17A).1; (try (have rM := Rd_reads RB_reads _ _ _ _ (MD.out w16).1 F17.below)))
            | (go_at_call 17; refine (sameB_c _ _ (List.replicate 24 (0 : UInt8)) _ rC rM).mono ?_; rintro e w18 ⟨rfl, b18⟩; have tZ := t17.trans (b18.mono t17.size); have kcD := (KF.out _ tZ).1)
            | (go_at_call 17; refine (sameB_c _ _ (List.replicate 24 (0 : UInt8)) _ (Rd_reads RB_reads _ _ _ _ rC (MD.out w17).2) (MD.out w17).1).mono ?_; rintro e w18 ⟨rfl, b18⟩; have tZ := t17A.trans (b18.mono t17A.size); have kcD := (KF.out _ tZ).1))
          all_goals
            have tE := (KF.out _ tZ).2.2.2.2
            go_wp2
            go_ret
            exact ⟨rfl, tE⟩
    · have hno : mw (N : Int) ix cell seeds = [] := by unfold mw; rw [if_neg hok]
      rw [hno]
      have tz := (RC.out _ t3).2.2
      go_wp2
      go_ret
      exact ⟨rfl, tz⟩
  · have HB := Lib.hid (big_t _ x0 w y0 hl)
    clear hl
    go_enter Try.func3, Try.ntmps3
    go_wp2_with fail
    refine HB.out.mono ?_
    rintro e w' ⟨rfl, rfl⟩
    go_wp2
    go_ret
    exact ⟨rfl, Below.refl _ _⟩
set_option maxRecDepth 100000 in
theorem lifted (os : Os) (started : os.Started) (H : Type) (enc : TypeId × Value → H) :
    ReturnsInHanded {} Try.checked os 3 .any (Rows.fnPrivateWritingSpec.pre6 enc Try.prog Try.f3 Rows.fnPrivateWritingRow.domain false) (Rows.fnPrivateWritingSpec.post enc Try.prog Try.f3 false true false false) := by
  refine returnsInHanded_of_change (C := Try.checked) own_ started (by kernel_rfl) Try.func3
    (ChangeSpec.witness6 (enc := enc) (C := Try.checked) false ⟨#[], #[.slice none 0 0], []⟩ 8 (by kernel_rfl) (by kernel_rfl) (by kernel_rfl) (by kernel_rfl)) ?_
  intro W base args ds gs before hval0 hW hcnd _
  have hval : ∀ (j : Nat) t v, Try.f3.params[j]? = some t → args[j]? = some v → Value.okWide Try.prog W .any base t v := hval0
  have hW' := hW
  obtain ⟨p, q, hA0, hV, rfl, hfz, hnd⟩ := hW
  have hA : DataW.TrodAll enc Try.prog W 0 (fun _ => true) true Try.f3.params.toList args.toList ds p := hA0
  rw [Try.params3] at hA hval
  obtain ⟨v0, vs0, d0, ds0, p0, q0, hargs, rfl, rfl, h0, r0⟩ := trodAll_cons hA
  obtain ⟨rfl, rfl, rfl⟩ := trodAll_nil r0
  obtain rfl : args = #[v0] := by cases args; simp_all
  obtain ⟨rfl, rfl⟩ := trodVars_none hV
  have k0 := h0
  have lt0 : ∀ x ∈ p0, x.block < W.heap.size := by obtain ⟨m, hm⟩ := k0; exact DataW.trod_lt m _ _ _ hm
  obtain ⟨x0, y0⟩ := open_val Try.underlying22 (opens_slice Try.underlying22 (by kernel_rfl) (opens_u8 Try.underlying5)) (hval 0 22 v0 rfl rfl) h0
  clear hA0 hval0
  refine (walk W v0 x0 y0).mono fun e W' ⟨he, bel⟩ => ?_
  subst he
  exact ⟨_, rfl, _, _, _, [], _, [], hW', trodAll_mk1 (shut_bool Try.underlying4 _), (trodAll_cons_mk (Below.trod laid_ (by kernel_rfl) (of_decide_eq_true (by kernel_rfl)) k0 bel lt0) trodAll_mk0), rfl, bel.frame _, fun h => by cases h⟩

theorem over : Rows.fnPrivateWritingRow.holds Try.pinned (OpenSpec.ofChange Rows.fnPrivateWritingSpec) :=
  OpenClaim.holds_of_wide 3 Try.f3 rfl rfl rfl rfl rfl rfl rfl ⟨rfl, rfl, rfl, rfl, rfl⟩ rfl rfl rfl rfl rfl (by kernel_rfl) Try.func3 (by kernel_rfl)
    (of_decide_eq_true (by kernel_rfl)) (by unfold Func.isWrapper; first | (rw [if_pos (by decide +kernel)]; kernel_rfl) | (rw [if_neg (by decide +kernel)]; exact ⟨rfl, rfl⟩))
    (fun os started H enc _ => lifted os started H enc)

theorem proved : Rows.FnPrivateWritingSaid := over
end Go.Proofs.Ytokhogdocaeelaa.fnPrivateWriting
