/- FnPrivateReading, for every argument, no condition: a row is read correctly, whichever it is. -/
import Derived.Test.YtceogegjghmonaaAqAlg
import Derived.Test.YtceogegjghmonaaDraw5
import Derived.Test.YtceogegjghmonaaAt
import Derived.Test.YtceogegjghmonaaSame
namespace Go.Proofs.Ytceogegjghmonaa.fnPrivateReading
set_option linter.unusedVariables false
open Go.RowKit Go.ChangeShapes Go.WideShapes Go.ChangeAt

theorem tot_LenLe {n m : Nat} {l : List (List UInt8)} (h : LenLe n l) (hl : l.length ≤ m) : tot l ≤ m + m * n := by
  have : sumL l ≤ l.length * n := by
    clear hl
    induction l with
    | nil => simp [sumL]
    | cons x l ih =>
      have h1 := h x (by simp)
      have h2 := ih (fun y hy => h y (by simp [hy]))
      simp only [sumL, List.map_cons, List.sum_cons, List.length_cons, Nat.add_mul, Nat.one_mul] at *
      omega
  have h3 := Nat.mul_le_mul_right n hl
  unfold tot
  omega

set_option maxHeartbeats 2000000 in
set_option maxRecDepth 100000 in
theorem walk (w : World) (v0 : Value) (x0 : List UInt8) (y0 : Rd RB w v0 x0) :
    Calls Try.prog 3 #[v0] w fun e w' => e = .returned (.bool true) ∧ Below w.heap.size w w' := by
  by_cases hl : x0.length ≤ 1048576
  · have HB := Lib.hid (big_f _ x0 w y0 hl)
    have DR := Lib.hid (drawRp_c _ x0 w y0 hl)
    clear y0 hl
    go_enter Try.func3, Try.ntmps3
    go_wp2_with fail
    refine HB.out.mono ?_
    rintro e w' ⟨rfl, rfl⟩
    go_wp2_with fail
    refine DR.out.mono ?_
    rintro e w1 ⟨A, l, c, d, i, A2, l2, c2, seeds, rfl, R1, R2, hdl, hle, hi, hsl, T1⟩
    have hn1 := R1.at_same.1
    have hn2 := R2.at_same.1
    subst hn1 hn2
    have htot : tot d ≤ 1664 := tot_LenLe (n := 25) (m := 64) hle hdl
    have bD := below_alloc w1 (.cells #[.slice A d.length c] 26)
    have BD0 := Lib.hid (Box.new w1 26 #[.slice A d.length c])
    have R1' := Rd_reads (Rd_reads RB_reads) _ _ _ _ R1 bD
    have R2' := Rd_reads RI_reads _ _ _ _ R2 bD
    have T2 := T1.trans (bD.mono T1.size)
    have hgd0 := BD0.out.lt
    have q_ := BD0.out.cell 0
    obtain ⟨ok, hok⟩ : ∃ b : Bool, cmbOk (rp d i seeds) = b := ⟨_, rfl⟩
    have HOK := Lib.hid hok
    have hlt := cmb_len (rp d i seeds)
    clear DR R1 R2 hle bD T1
    have RP1 := Lib.hid (implRp_c _ _ d i seeds ok _ R1' R2' HOK (by omega) (by omega) (by omega) (by omega))
    have RP2 : Hid (∀ W, Below (w1.alloc (.cells #[.slice A d.length c] 26)).heap.size (w1.alloc (.cells #[.slice A d.length c] 26)) W → Calls Try.prog 16 #[.agg #[.slice A d.length c], .int .i64 i, .slice A2 seeds.length c2] W fun e w' => ∃ v', e = .returned (.tuple #[v', .bool ok]) ∧ Fresh (Own 5 FB) W w' v' (cmb (rp d i seeds))) := Lib.hid (fun W hW => specRp_c _ _ d i seeds ok W (Rd_reads (Rd_reads RB_reads) _ _ _ _ R1' hW) (Rd_reads RI_reads _ _ _ _ R2' hW) HOK (by omega) (by omega) (by omega) (by omega))
    have HR1 := Lib.hid R1'
    have HR2 := Lib.hid R2'
    clear R1' R2' hok
    go_wp2_with fail
    generalize w1.alloc (.cells #[.slice A d.length c] 26) = w2 at *
    generalize w1.heap.size = gd at *
    refine RP1.out.mono ?_
    rintro e w3 ⟨v3, rfl, F3⟩
    obtain ⟨Ab, nb, cb, rfl⟩ := fresh_slice F3
    have B3 := F3.below
    have rb3 := (F3.iv (Own_good FB_good)).rd (R' := RB) (fun q => q.rb)
    have BD3 := Lib.hid (BD0.out.below B3 BD0.out.lt)
    have q3 := BD3.out.cell 0
    have T3 := T2.trans (B3.mono T2.size)
    clear F3 q_ RP1
    go_wp2_with fail
    refine (RP2.out _ B3).mono ?_
    rintro e w4 ⟨v4, rfl, F4⟩
    obtain ⟨Aw, nw, cw, rfl⟩ := fresh_slice F4
    have B24 := B3.trans (F4.below.mono B3.size)
    have rb4 := Rd_reads RB_reads _ _ _ _ rb3 F4.below
    have BD4 := Lib.hid (BD3.out.below F4.below BD3.out.lt)
    have q4 := BD4.out.cell 0
    have T4 := T3.trans (F4.below.mono T3.size)
    have RBH := Lib.hid rb4
    have hnb := rb4.at_same.1
    clear F4 RP2 q3 BD3 B3 T3 rb3 rb4
    cases ok with
    | false =>
      have he : cmb (rp d i seeds) = [] := cmb_no HOK.out
      rw [he] at hnb
      obtain rfl : 0 = nb := hnb
      clear he
      go_wp2
      go_ret
      exact ⟨rfl, T4⟩
    | true =>
      obtain ⟨k, x, rfl, hx, hcm, hu, hdb, hjq⟩ := read_law HOK.out
      rw [hcm] at RBH
      have hkd : k < d.length := (List.getElem?_eq_some_iff.1 hx).1
      have R14 := Lib.hid (Rd_reads (Rd_reads RB_reads) _ _ _ _ HR1.out B24)
      have R24 := Lib.hid (Rd_reads RI_reads _ _ _ _ HR2.out B24)
      obtain ⟨bb, off, y, u, rfl, hbb, hy, hcell, hru⟩ := R14.out.at_same.at_ hkd
      obtain rfl : x = y := by rw [hx] at hy; injection hy
      have HXC := Lib.hid (And.intro hbb (And.intro hcell hru))
      have hrp : rp d (k : Int) seeds = (mq (d.length : Int) (k : Int) seeds).map (aq d) := rfl
      obtain ⟨q, hq⟩ : ∃ q, mq (d.length : Int) (k : Int) seeds = q := ⟨_, rfl⟩
      rw [hq] at hrp hjq
      have HQ := Lib.hid hq
      have HRP := Lib.hid hrp
      have HJQ := Lib.hid hjq
      have HCM := Lib.hid hcm
      have hq4 : q.length ≤ 4 := by rw [← hq]; exact mq_le4 _ _ _
      have hrt := rp_tot d (k : Int) seeds
      rw [hrp] at hrt
      have hqs := mq_sum (d.length : Int) (k : Int) seeds
      rw [hq] at hqs
      have hls : tot q ≤ 1048576 := by unfold tot; omega
      have hdl1 : 1 ≤ d.length := by omega
      clear hnb hx hcm hu hdb hjq hy hcell hru hrp hq HR1 HR2 hlt hqs
      go_wp2_with fail
      have hmqc := implMq_c _ seeds (d.length : Int) (k : Int) w4 R24.out (by omega) (by omega) (by omega) (by omega) (by omega)
      rw [HQ.out] at hmqc
      refine hmqc.mono ?_
      rintro e w5 ⟨v5, rfl, FQ⟩
      obtain ⟨Aq, nq, cq, rfl⟩ := fresh_slice FQ
      have rq5 := (FQ.iv OII_good).rd (R' := Rd RI) (fun q => q.rd (fun z => z.ri))
      obtain rfl : q.length = nq := rq5.at_same.1
      have T5 := T4.trans (FQ.below.mono T4.size)
      have K0 := Lib.hid (KeepL.after OII_good (w0 := w4) (B := w4.heap.size) (vo := .slice (some ⟨w5.heap.size, 0, none⟩) 0 0) FQ (w2 := w5.alloc (.cells #[] 22)) (by simp) (fun b hb => Below.heap_alloc _ _ _ hb) rfl)
      have N0 := Lib.hid (show NRow 22 (Own 5 FB) w4.heap.size (w5.alloc (.cells #[] 22)) (.slice (some ⟨w5.heap.size, 0, none⟩) 0 0) 0 ([] : List (List UInt8)) [] from NRow_lit w5 #[] FQ.below.size (by simp))
      have B45 := FQ.below.alloc FQ.below.size (.cells #[] 22)
      have hgd4 : gd < w4.heap.size := BD4.out.lt
      clear FQ q4 hmqc rq5
      go_wp2
      go_loopw [11, 12] (fun o i' wr => ∃ (j : Nat) (vo : Value), j ≤ q.length ∧ i' = .int .i64 j ∧ o = vo ∧ Hid (NRow 22 (Own 5 FB) w4.heap.size wr vo j ((q.map (aq d)).take j) []) ∧ Hid (KeepL w4.heap.size w4 wr vo (fun W => ∃ F, OII W (.slice Aq q.length cq) q F)) ∧ Below w4.heap.size w4 wr) (fun _ i' _ => q.length - (intOf i').toNat)
      case atStart => exact ⟨0, _, Nat.zero_le _, rfl, rfl, N0, K0, B45⟩
      case round =>
        obtain ⟨j, vo, hj, rfl, hvo, NR, KE, Tr⟩ := hrel
        subst hvo
        clear N0 K0 B45
        have Br := Lib.hid (BD4.out.below Tr hgd4)
        have ra0 : Rd (Rd RB) wr (.slice (some ⟨bb, off, none⟩) d.length c) d := Rd_reads (Rd_reads RB_reads) _ _ _ _ R14.out Tr
        obtain ⟨cells, F0, k1, k2, k3, k4⟩ := (NR.out.drew_ (Own_good FB_good)).open_
        obtain ⟨Ao, lo, co, rfl⟩ := own_shape k1
        have K := Lib.hid (And.intro k1 (And.intro k2 (And.intro k3 k4)))
        have hwr : w4.heap.size ≤ wr.heap.size := Tr.size
        clear k1 k2 k3 k4
        by_cases hlt : j < q.length
        · obtain ⟨Fq, hFq⟩ := KE.out.here Tr
          obtain ⟨b, offq, s, us, rfl, hbbq, hx, hu, hr⟩ := (Own.rd (R' := Rd RI) hFq (fun q => q.rd (fun z => z.ri))).at_same.at_ hlt
          obtain ⟨As, ns, cs, rfl, hrs⟩ := hr
          have HZ := Lib.hid (take_succ_get (q.map (aq d)) j _ (map_get q (aq d) hx))
          clear hx hFq Fq
          have c0 : wr.drew.cell? ⟨gd, 0, none⟩ = some (.slice (some ⟨bb, off, none⟩) d.length c) := Br.out.cell 0
          have c1 : wr.drew.cell? ⟨b, offq + j, none⟩ = some (.slice As ns cs) := hu
          have rs : Rd RI wr.drew (.slice As ns cs) s := Rd_reads RI_reads _ _ _ _ ⟨_, _, _, rfl, hrs⟩ (Below.refl _ _).drew
          have ra : Rd (Rd RB) wr.drew (.slice (some ⟨bb, off, none⟩) d.length c) d := Rd_reads (Rd_reads RB_reads) _ _ _ _ ra0 (Below.refl _ _).drew
          have hk0 : (0 : Int) ≤ (j : Int) := by omega
          have hkn : (j : Int) < (q.length : Int) := by omega
          have KEd : Hid (KeepL w4.heap.size w4 wr.drew (.slice Ao lo co) (fun W => ∃ F, OII W (.slice (some ⟨b, offq, none⟩) q.length cq) q F)) := KE
          have hwrd : w4.heap.size ≤ wr.drew.heap.size := hwr
          have AQ := Lib.hid (implAq_c _ _ d s _ ra rs (by omega))
          clear hu hrs ra0 KE Br
          go_wp2_with fail
          go_region_law (first
            | (refine step_app elBB (by rfl) _ _ (by rfl) (.slice Ao lo co) j cells (by rfl) HOWN (some ⟨w6.heap.size, 0, none⟩) 1 1 [.slice Au lu cu] (by rfl) HSRC (one_single _ rfl) (by simp only [maxLen]; omega) (by omega) ?_; intro v7 w7 hown hg hat; have P4 := keep_app (Own_good FB_good) K.out.1 K.out.2.1 K.out.2.2.1 K.out.2.2.2 FH.out hwrd KEd.out hown hg hat; have PH := Lib.hid P4; clear P4 hown hg hat)
            | (go_simp; go_at_call 18; refine AQ.out.mono ?_; rintro e w6 ⟨u6, rfl, FU⟩; obtain ⟨Au, lu, cu, rfl⟩ := fresh_slice FU; have hs6 := FU.below.size; have KW := Lib.hid (ownsRow_at (w' := w6) K.out.1 (fun q hq => FU.below.block q (K.out.1.lt q (by simpa using hq)).2)); have T6 := Lib.hid (Tr.drew.trans (FU.below.mono Tr.drew.size)); have c6 : w6.cell? ⟨gd, 0, none⟩ = some (.slice (some ⟨bb, off, none⟩) d.length c) := (BD4.out.below T6.out hgd4).cell 0; have FH := Lib.hid FU; have HOWN : (w6.alloc (.cells #[.slice Au lu cu] 22)).ownsRow 0 22 1 (.slice Ao lo co) j cells := KW.out.alloc _; have HSRC : Src (w6.alloc (.cells #[.slice Au lu cu] 22)) (some ⟨w6.heap.size, 0, none⟩) 1 [.slice Au lu cu] := Src_one _ _ _; clear FU))
          all_goals
            have N4 : Hid (NRow 22 (Own 5 FB) w4.heap.size w7 v7 (j + 1) ((q.map (aq d)).take (j + 1)) []) := Lib.hid (by rw [HZ.out]; exact PH.out.1)
            go_wp2
            go_roundw
            case rel => exact ⟨j + 1, _, by omega, by go_num, rfl, N4, Lib.hid PH.out.2.1, PH.out.2.2.2 _ _ (Nat.le_refl _) T6.out⟩
            case measure => simp [intOf]; omega
        · have hkn : j = q.length := by omega
          subst hkn
          have hr0 := NR.out.rd (R' := Rd RB) (fun q => q.rd (fun z => z.rb))
          rw [List.take_of_length_le (by simp), ← HRP.out] at hr0
          have hcc := implComb_c _ _ true wr hr0 HOK (by rw [HRP.out]; omega)
          rw [HCM.out] at hcc
          have rqr : Rd (Rd RI) wr (.slice Aq q.length cq) q := by
            obtain ⟨Fq, hFq⟩ := KE.out.here Tr
            exact Own.rd (R' := Rd RI) hFq (fun q => q.rd (fun z => z.ri))
          have RQR := Lib.hid rqr
          clear hr0 ra0 NR KE rqr
          go_wp2_with fail
          refine hcc.mono ?_
          rintro e w6 ⟨v6, rfl, F6⟩
          obtain ⟨Ac, nc, cc, rfl⟩ := fresh_slice F6
          have rc6 := (F6.iv (Own_good FB_good)).rd (R' := RB) (fun q => q.rb)
          have B46 := Tr.trans (F6.below.mono Tr.size)
          have T6 := T4.trans (B46.mono T4.size)
          have rb6 := Rd_reads RB_reads _ _ _ _ RBH.out B46
          have rx6 := Rd_reads RB_reads _ _ _ _ HXC.out.2.2 B46
          have rq6 := Rd_reads (Rd_reads RI_reads) _ _ _ _ RQR.out F6.below
          have g6 := (BD4.out.below B46 hgd4)
          have x6 : w6.cell? ⟨bb, off + k, none⟩ = some u := (B46.cell (p := ⟨bb, off + k, none⟩) HXC.out.1).trans HXC.out.2.1
          have hbb6 : bb < w6.heap.size := Nat.lt_of_lt_of_le HXC.out.1 B46.size
          have hgd6 : gd < w6.heap.size := Nat.lt_of_lt_of_le hgd4 B46.size
          have kc : w6.drew.cell? ⟨gd, 0, none⟩ = some (.slice (some ⟨bb, off, none⟩) d.length c) ∧ w6.drew.cell? ⟨bb, off + k, none⟩ = some u := ⟨g6.cell 0, x6⟩
          have KC : Hid (∀ W, Below w6.heap.size w6 W → W.cell? ⟨gd, 0, none⟩ = some (.slice (some ⟨bb, off, none⟩) d.length c) ∧ W.cell? ⟨bb, off + k, none⟩ = some u) := Lib.hid (fun W hW => ⟨(g6.below hW hgd6).cell 0, (hW.cell (p := ⟨bb, off + k, none⟩) hbb6).trans x6⟩)
          have S1 : Hid (∀ W, Below w6.heap.size w6 W → Calls Try.prog 20 #[.slice Ab nb cb, u] W fun e w' => e = .returned (.bool true) ∧ Below W.heap.size W w') := Lib.hid (fun W hW => sameB_c _ _ x W (Rd_reads RB_reads _ _ _ _ rb6 hW) (Rd_reads RB_reads _ _ _ _ rx6 hW))
          have S2 : Hid (∀ W, Below w6.heap.size w6 W → Calls Try.prog 20 #[.slice Ac nc cc, .slice Ab nb cb] W fun e w' => e = .returned (.bool true) ∧ Below W.heap.size W w') := Lib.hid (fun W hW => sameB_c _ _ x W (Rd_reads RB_reads _ _ _ _ rc6 hW) (Rd_reads RB_reads _ _ _ _ rb6 hW))
          have S3 : Hid (∀ W, Below w6.heap.size w6 W → Calls Try.prog 22 #[.slice Aq q.length cq] W fun e w' => ∃ v', e = .returned v' ∧ Fresh (Own 3 FI) W w' v' (unitSel (d.length : Int) (k : Int))) := Lib.hid (fun W hW => by
            have := implJoinQ_c _ q W (Rd_reads (Rd_reads RI_reads) _ _ _ _ rq6 hW) hls
            rwa [HJQ.out] at this)
          have S4 : Hid (∀ W, Calls Try.prog 23 #[.int .i64 (d.length : Int), .int .i64 (k : Int)] W fun e w' => ∃ v', e = .returned v' ∧ Fresh (Own 3 FI) W w' v' (unitSel (d.length : Int) (k : Int))) := Lib.hid (fun W => specUnit_c (d.length : Int) (k : Int) W (by omega) (by omega) (by omega) (by omega))
          have tL : Below w6.heap.size w6 w6.drew := (Below.refl _ _).drew
          have hk0 : (0 : Int) ≤ (k : Int) := by omega
          have hkd' : (k : Int) < (d.length : Int) := by omega
          clear F6 rc6 rb6 rx6 rq6 hcc g6 x6
          go_wp2_with fail
          go_region_held3 (fun w' => w'.cell? ⟨gd, 0, none⟩ = some (.slice (some ⟨bb, off, none⟩) d.length c) ∧ w'.cell? ⟨bb, off + k, none⟩ = some u)
            (first | (exact kc) | go_keep)
            (first
              | (go_at_call 20; ((with_reducible refine (S1.out _ tL).mono ?_); rintro e wa ⟨rfl, ba⟩; have tL := tL.trans (ba.mono tL.size); have kc := KC.out _ tL))
              | (go_at_call 20; ((with_reducible refine (S2.out _ tL).mono ?_); rintro e wb ⟨rfl, ba⟩; have tL := tL.trans (ba.mono tL.size); have kc := KC.out _ tL))
              | (go_at_call 22; ((with_reducible refine (S3.out _ tL).mono ?_); rintro e wj ⟨vj, rfl, FJ⟩; have rj := (FJ.iv (Own_good FI_good)).rd (R' := RI) (fun q => q.ri); (try (have ru := Rd_reads RI_reads _ _ _ _ ru FJ.below)); have tL := tL.trans (FJ.below.mono tL.size); have kc := KC.out _ tL; clear FJ))
              | (go_at_call 23; ((with_reducible refine (S4.out _).mono ?_); rintro e wu ⟨vu, rfl, FJ⟩; have ru := (FJ.iv (Own_good FI_good)).rd (R' := RI) (fun q => q.ri); (try (have rj := Rd_reads RI_reads _ _ _ _ rj FJ.below)); have tL := tL.trans (FJ.below.mono tL.size); have kc := KC.out _ tL; clear FJ))
              | (go_at_call 21; ((with_reducible refine (sameI_c _ _ _ _ rj ru).mono ?_); rintro e ws ⟨rfl, ba⟩; have tL := tL.trans (ba.mono tL.size); have kc := KC.out _ tL)))
          all_goals
            go_wp2
            go_ret
            exact ⟨rfl, T6.trans (tL.mono T6.size)⟩
  · have HB := Lib.hid (big_t _ x0 w y0 hl)
    clear y0 hl
    go_enter Try.func3, Try.ntmps3
    go_wp2_with fail
    refine HB.out.mono ?_
    rintro e w' ⟨rfl, rfl⟩
    go_wp2
    go_ret
    exact ⟨rfl, Below.refl _ _⟩

set_option maxRecDepth 100000 in
theorem lifted (os : Os) (started : os.Started) (H : Type) (enc : TypeId × Value → H) :
    ReturnsInHanded {} Try.checked os 3 .any (Rows.fnPrivateReadingSpec.pre6 enc Try.prog Try.f3 Rows.fnPrivateReadingRow.domain false) (Rows.fnPrivateReadingSpec.post enc Try.prog Try.f3 false true false false) := by
  refine returnsInHanded_of_change (C := Try.checked) own_ started (by kernel_rfl) Try.func3
    (ChangeSpec.witness6 (enc := enc) (C := Try.checked) false ⟨#[], #[.slice none 0 0], []⟩ 8 (by kernel_rfl) (by kernel_rfl) (by kernel_rfl) (by kernel_rfl)) ?_
  intro W base args ds gs before hval0 hW hcnd _
  have hval : ∀ (j : Nat) t v, Try.f3.params[j]? = some t → args[j]? = some v → Value.okWide Try.prog W .any base t v := hval0
  have hW' := hW
  obtain ⟨p, q, hA0, hV, rfl, hfz, hnd⟩ := hW
  have hA : DataW.TrodAll enc Try.prog W 0 (fun _ => true) true Try.f3.params.toList args.toList ds p := hA0
  rw [Try.params3] at hA hval
  obtain ⟨v0, vs0, d0, ds0, p0, q0, hargs, rfl, rfl, h0, r0⟩ := trodAll_cons hA
  obtain ⟨rfl, rfl, rfl⟩ := trodAll_nil r0
  obtain rfl : args = #[v0] := by cases args; simp_all
  obtain ⟨rfl, rfl⟩ := trodVars_none hV
  have k0 := h0
  have lt0 : ∀ x ∈ p0, x.block < W.heap.size := by obtain ⟨m, hm⟩ := k0; exact DataW.trod_lt m _ _ _ hm
  obtain ⟨x0, y0⟩ := open_val Try.underlying22 (opens_slice Try.underlying22 (by kernel_rfl) (opens_u8 Try.underlying5)) (hval 0 22 v0 rfl rfl) h0
  clear hA0 hval0
  refine (walk W v0 x0 y0).mono fun e W' ⟨he, bel⟩ => ?_
  subst he
  exact ⟨_, rfl, _, _, _, [], _, [], hW', trodAll_mk1 (shut_bool Try.underlying4 _), (trodAll_cons_mk (Below.trod laid_ (by kernel_rfl) (of_decide_eq_true (by kernel_rfl)) k0 bel lt0) trodAll_mk0), rfl, bel.frame _, fun h => by cases h⟩

theorem over : Rows.fnPrivateReadingRow.holds Try.pinned (OpenSpec.ofChange Rows.fnPrivateReadingSpec) :=
  OpenClaim.holds_of_wide 3 Try.f3 rfl rfl rfl rfl rfl rfl rfl ⟨rfl, rfl, rfl, rfl, rfl⟩ rfl rfl rfl rfl rfl (by kernel_rfl) Try.func3 (by kernel_rfl)
    (of_decide_eq_true (by kernel_rfl)) (by unfold Func.isWrapper; first | (rw [if_pos (by decide +kernel)]; kernel_rfl) | (rw [if_neg (by decide +kernel)]; exact ⟨rfl, rfl⟩))
    (fun os started H enc _ => lifted os started H enc)

theorem proved : Rows.FnPrivateReadingSaid := over
end Go.Proofs.Ytceogegjghmonaa.fnPrivateReading
