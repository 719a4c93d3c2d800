/- MakeWrite of the program. -/
import Derived.Test.YtokhogdocaeelaaMwP
import Derived.Deep.RegionLaw
namespace Go.Proofs.Ytokhogdocaeelaa
set_option linter.unusedVariables false
open Go.RowKit

set_option maxHeartbeats 1000000 in
set_option maxRecDepth 100000 in
theorem implMw_c (rows ix : Int) (vc : Value) (cell : List UInt8) (vs : Value) (seeds : List Int) (w : World) (hc : Rd RB w vc cell) (hs : Rd RI w vs seeds) (hns : seeds.length ≤ 1048576) (hcl : cell.length ≤ 1048576) (hi : -9223372036854775808 ≤ ix) (hi' : ix ≤ 9223372036854775807) (hr1 : -9223372036854775808 ≤ rows) (hr2 : rows ≤ 9223372036854775807) :
    Calls Try.prog 14 #[.int .i64 rows, .int .i64 ix, vc, vs] w fun e w' => ∃ v', e = .returned v' ∧ Fresh ODB w w' v' (mw rows ix cell seeds) := by
  obtain ⟨uo, huo⟩ : ∃ b : Bool, Hid (uwOk rows ix cell = b) := ⟨_, Lib.hid rfl⟩
  have UW := Lib.hid (implUnit_c rows ix vc cell uo w hc huo hcl hi hi' hr1 hr2)
  obtain ⟨As, ns, cs, rfl, hs'⟩ := hs
  obtain rfl := hs'.1
  have hcm := Nat.le_trans hs'.2.1 hs'.2.2.1
  unfold maxLen at hcm
  have H := Lib.hid hs'
  clear hs' hc
  cases uo with
  | false =>
    have HNO := Lib.hid (mw_no1 (seeds := seeds) huo.out)
    go_enter Try.func14, Try.ntmps14
    go_wp2_with fail
    refine UW.out.mono ?_
    rintro e w1 ⟨A1, l1, c1, rfl, F1⟩
    have T := Lib.hid (F1.below.alloc F1.below.size (.cells #[.slice A1 l1 c1] 31))
    clear F1
    go_wp2
    go_ret
    exact ⟨_, rfl, by rw [HNO.out]; exact fresh_nilDD _ _ T.out⟩
  | true =>
    have hw0 : IntKind.i64.wrap ((seeds.length : Int) + 1) = (seeds.length : Int) + 1 := IntWalk.i64_in _ (by omega)
    by_cases hc2 : 1 ≤ seeds.length ∧ seeds.length ≤ 3
    · obtain ⟨N, rfl⟩ := Int.eq_ofNat_of_zero_le (show 0 ≤ rows by have := (uw_rows huo.out).1; omega)
      have hN64 : N ≤ 64 := by have := (uw_rows huo.out).2; omega
      obtain ⟨U, hU⟩ : ∃ U, uwV (N : Int) ix cell = U := ⟨_, rfl⟩
      have HUO := Lib.hid (show dbOk U = true by rw [← hU]; exact uw_valid huo.out)
      have HUL := Lib.hid (show U.length = N by rw [← hU]; have := uw_len huo.out; omega)
      have HMW : Hid (mw (N : Int) ix cell seeds = seeds.map (mwDb N) ++ [mwF U N seeds]) := Lib.hid (by rw [mw_yes huo.out hc2, hU]; rfl)
      have HUR : Hid (uwR (N : Int) ix cell = U) := Lib.hid (by rw [uwR_yes huo.out, hU])
      have hcI : (2 : Int) ≤ (seeds.length : Int) + 1 ∧ (seeds.length : Int) + 1 ≤ 4 := by omega
      have hs3 : seeds.length ≤ 3 := hc2.2
      clear hU hns hc2 hr1 hr2
      go_enter Try.func14, Try.ntmps14
      go_wp2_with fail
      refine UW.out.mono ?_
      rintro e w1 ⟨A1, l1, c1, rfl, F1⟩
      rw [HUR.out] at F1
      have P0 := Lib.hid (MwQ_start (cs := #[.slice A1 l1 c1]) F1)
      have Bg0 := Lib.hid ((Box.new w1 31 #[.slice A1 l1 c1]).alloc (.cells #[] 31))
      have T1 := F1.below.alloc F1.below.size (.cells #[.slice A1 l1 c1] 31)
      have T2 := Lib.hid (T1.alloc T1.size (.cells #[] 31))
      have hgw := F1.below.size
      clear F1 UW T1
      go_wp2_with fail
      refine (iCnt_t _ _ hcI.1 hcI.2).mono ?_
      rintro e w' ⟨rfl, rfl⟩
      go_wp2
      go_loopw [11, 35] (fun o i wr => ∃ (j : Nat) (vo : Value) (Al : Option Addr) (ll cl : Nat), j ≤ seeds.length ∧ i = .int .i64 j ∧ o = vo ∧ Hid (PairQ 31 OBB (MwQ w w1.heap.size) wr vo j ((seeds.take j).map (mwDb N)) (.slice Al ll cl) (mwF U N (seeds.take j))) ∧ Hid (Box wr w1.heap.size 31 #[.slice Al ll cl]) ∧ Hid (Below w.heap.size w wr)) (fun _ i _ => seeds.length - (intOf i).toNat)
      case atStart => exact ⟨0, _, _, _, _, Nat.zero_le _, rfl, rfl, P0, Bg0, T2⟩
      case round =>
        obtain ⟨j, vo, Al, ll, cl, hj, rfl, hvo, PQ, Bg, Tr⟩ := hrel
        have hvo2 := hvo.symm
        clear hvo
        subst hvo2
        rename World => wo
        by_cases hlt : j < seeds.length
        · obtain ⟨b, off, s, u, rfl, hbb, hx, hu, hr⟩ := H.out.at_ hlt
          unfold RI at hr
          subst hr
          have g1 := (Tr.out.cell (p := ⟨b, off + j, none⟩) hbb).trans hu
          have HS : Hid (seeds.take (j + 1) = seeds.take j ++ [s]) := Lib.hid (take_succ_get seeds j s hx)
          have ST := Lib.hid (fun (q : Int) (W : World) => implStream_c q 24 W (by omega) (by omega))
          clear hx hu
          go_wp2
          go_loopw [41] (fun i wi => ∃ (r : Nat) (vd : Value), r ≤ N ∧ i = .int .i64 r ∧ Hid (NRow 22 (Own 5 FB) (wo.heap.size + 1) wi vd r (mwDb r s) []) ∧ Hid (Box wi wo.heap.size 31 #[vd]) ∧ Hid (Below wo.heap.size wo wi)) (fun i _ => N - (intOf i).toNat)
          case atStart => exact ⟨0, _, Nat.zero_le _, rfl, Lib.hid (NRow_nil _), Lib.hid (Box.new wo _ _), Lib.hid (below_alloc wo _)⟩
          case round =>
            obtain ⟨r, vd, hrN, rfl, NR, Bd, Ti⟩ := hrel
            obtain ⟨Ao, lo, co, rfl⟩ : ∃ A' l' c', vd = .slice A' l' c' := by obtain ⟨_, _, k1, _⟩ := NR.out.open_; exact own_shape k1
            by_cases hlt2 : r < N
            · have hwr : wo.heap.size < wr.drew.heap.size := Bd.out.lt
              have c1 : wr.drew.cell? ⟨wo.heap.size, 0, none⟩ = some (.slice Ao lo co) := Bd.out.cell 0
              have hw1 : IntKind.i64.wrap (1000 * (r : Int)) = 1000 * (r : Int) := IntWalk.i64_in _ (by omega)
              have hw2 : IntKind.i64.wrap (s + 1000 * (r : Int)) = sdI s r := rfl
              go_wp2_with fail
              go_region_law (first
                | (refine step_app elBB (by rfl) _ _ (by rfl) (.slice Ao lo co) r cells (by rfl) HOWN (some ⟨w3.heap.size, 0, none⟩) 1 1 [.slice Au lu cu] (by rfl) HSRC (one_single _ rfl) (by simp only [maxLen]; omega) (by omega) ?_; intro v4 w4 hown hg hat; obtain ⟨A4, l4, c4', rfl⟩ := own_shape hown; have P4 := box_append (Own_good FB_good) K.out.1 K.out.2.1 K.out.2.2.1 K.out.2.2.2 FH.out (by omega) Bd3.out hown hg hat; have x4 := P4.1.1; have y4 := P4.1.2; have PH := Lib.hid P4.2; clear P4 hown hg hat)
                | (go_simp; go_at_call 66; refine (ST.out _ _).mono ?_; rintro e w3 ⟨u3, rfl, FU⟩; obtain ⟨Au, lu, cu, rfl⟩ := fresh_slice FU; have hs3 := FU.below.size; have Bd3 : Hid (Box w3 wo.heap.size 31 #[.slice Ao lo co]) := Lib.hid (Box.below (w := wr.drew) Bd.out FU.below Bd.out.lt); obtain ⟨cells, F0, k1, k2, k3, k4⟩ := (NR.out.drew_ (Own_good FB_good)).open_; have K := Lib.hid (And.intro k1 (And.intro k2 (And.intro k3 k4))); have d3 : w3.cell? ⟨wo.heap.size, 0, none⟩ = some (.slice Ao lo co) := Bd3.out.cell 0; have KW := Lib.hid (ownsRow_at (w' := w3) k1 (fun q hq => FU.below.block q (k1.lt q (by simpa using hq)).2)); have T3 := Lib.hid (Ti.out.drew.trans (FU.below.mono Ti.out.size)); have FH := Lib.hid FU; have HOWN : (w3.alloc (.cells #[.slice Au lu cu] 22)).ownsRow 0 22 1 (.slice Ao lo co) r cells := KW.out.alloc _; have HSRC : Src (w3.alloc (.cells #[.slice Au lu cu] 22)) (some ⟨w3.heap.size, 0, none⟩) 1 [.slice Au lu cu] := Src_one _ _ _; have d6 : (w3.alloc (.cells #[.slice Au lu cu] 22)).cell? ⟨wo.heap.size, 0, none⟩ = some (.slice Ao lo co) := (Bd3.out.alloc _).cell 0; clear FU k1 k2 k3 k4))
              all_goals
                go_wp2
                go_roundw
                case rel => exact ⟨r + 1, _, by omega, by go_num, Lib.hid (by rw [mwDb_succ]; exact PH.out.1), Lib.hid PH.out.2.1, Lib.hid (PH.out.2.2.2 _ _ (Nat.le_refl _) T3.out)⟩
                case measure => simp [intOf]; omega
            · have hrn : r = N := by omega
              subst hrn
              rename World => wi
              have FD := Lib.hid (show Fresh OBB wo wi (.slice Ao lo co) (mwDb r s) from NR.out.fresh_ Ti.out (Nat.le_succ _))
              obtain ⟨cells, F, Fl, k1, k2, k3, k4, k5⟩ := PQ.out
              have hQn : ∀ q, wo.heap.size ≤ q → MwQ w w1.heap.size q := fun q hq => ⟨Nat.le_trans Tr.out.size hq, by have := Bg.out.lt; omega⟩
              have K := Lib.hid (And.intro k1 (And.intro k2 (And.intro k3 (And.intro k4 (And.intro k5 hQn)))))
              have KW := Lib.hid (ownsRow_at (w' := wi) k1 (fun q hq => Ti.out.block q (k1.lt q (by simpa using hq)).2))
              have Bgi := Lib.hid (Bg.out.below Ti.out Bg.out.lt)
              have cd := Bd.out.cell 0
              have Twi := Lib.hid (Tr.out.trans (Ti.out.mono Tr.out.size))
              have hgo : w1.heap.size < wo.heap.size := Bg.out.lt
              have hdi : wo.heap.size < wi.heap.size := Bd.out.lt
              clear k1 k2 k3 k4 k5 hQn NR
              have hno : ∀ q, vo.ownBlock = some q → MwQ w w1.heap.size q ∧ q < wo.heap.size := fun q hq => ⟨K.out.2.2.2.2.1 q (List.mem_append_left _ (by rw [hq]; simp)), (K.out.1.lt q hq).2⟩
              go_wp2_with (at_builtin; refine wpList_appS elD rfl (.tmp 55) (.tmp 57) rfl vo j cells rfl (KW.out.alloc _) (some ⟨wi.heap.size, 0, none⟩) 1 1 [.slice Ao lo co] rfl (Src_one _ _ _) (one_single _ rfl) (by simp only [maxLen]; omega) (by omega) ?_; intro v4 w4 hown hg hat; have PA := Lib.hid (PairQ_app2 OBB_good K.out.1 K.out.2.1 K.out.2.2.1 K.out.2.2.2.1 K.out.2.2.2.2.1 K.out.2.2.2.2.2 FD.out hown hg hat); have Bg4 := Lib.hid (Box.grown (Bgi.out.alloc _) hg (fun e => (hno _ e.symm).1.2 rfl)); have Bd4 := Lib.hid (Box.grown (Bd.out.alloc _) hg (fun e => Nat.lt_irrefl _ (hno _ e.symm).2)); have T4 := Lib.hid ((Twi.out.alloc Twi.out.size (.cells #[.slice Ao lo co] 31)).grown hg (by have := Twi.out.size; simp; omega) (fun k hk => (hno k hk).1.1)); have cg4 := Bg4.out.cell 0; have cd4 := Bd4.out.cell 0; clear hown hg hat)
              have hxd := mwF_xd hN64 HUO.out HUL.out (seeds.take j) s
              have hLt := db_tot (mwF_ok hN64 HUO.out HUL.out (seeds.take j)).1
              have hDt := db_tot (mwDb_ok s hN64)
              obtain ⟨FL, hFL⟩ := PA.out.2.1
              obtain ⟨FD', hFD'⟩ := PA.out.2.2
              have XR := Lib.hid (implXorDb_c _ _ (mwF U r (seeds.take j)) (mwDb r s) true w4 (own_rdBB hFL) (own_rdBB hFD') (Lib.hid hxd) (by omega) (by omega))
              have NQ := Lib.hid PA.out.1
              clear hFL hFD' hxd hLt hDt PA FD KW Bgi Bd Twi
              refine XR.out.mono ?_
              rintro e w5 ⟨A5, l5, c5, rfl, F5⟩
              have hs4 : wo.heap.size < w4.heap.size := Bd4.out.lt
              have P5 := PairQ_fresh OBB_good NQ.out F5 (fun q hq => ⟨Nat.le_trans T4.out.size hq, by omega⟩)
              have Bg5 := Bg4.out.below F5.below Bg4.out.lt
              have f5 := Bg5.frozen 0
              have c5' := Bg5.cell 0
              have P6 := Lib.hid (P5.set OBB_good (p := ⟨w1.heap.size, 0, none⟩) (fun q => q.2 rfl) (.slice A5 l5 c5))
              have B6 := Lib.hid (Bg5.set_ 0 (.slice A5 l5 c5))
              have T6 := Lib.hid ((T4.out.trans (F5.below.mono T4.out.size)).setCell (p := ⟨w1.heap.size, 0, none⟩) hgw (.slice A5 l5 c5))
              have hE1 : Hid ((seeds.take (j + 1)).map (mwDb r) = (seeds.take j).map (mwDb r) ++ [mwDb r s]) := Lib.hid (by rw [HS.out, List.map_append]; rfl)
              have hE2 : Hid (mwF U r (seeds.take (j + 1)) = xorDb (mwF U r (seeds.take j)) (mwDb r s)) := Lib.hid (by rw [HS.out, mwF_snoc])
              clear P5 Bg5 F5 XR NQ
              go_wp2
              go_roundw
              case rel => exact ⟨j + 1, _, _, _, _, by omega, by go_num, rfl, Lib.hid (by rw [hE1.out, hE2.out]; exact P6.out), B6, T6⟩
              case measure => simp [intOf]; omega
        · have hjn : j = seeds.length := by omega
          subst hjn
          have hfull : seeds.take seeds.length = seeds := List.take_of_length_le (Nat.le_refl _)
          have PQ := PQ.out
          rw [hfull] at PQ
          obtain ⟨cells, F, Fl, k1, k2, k3, k4, k5⟩ := PQ
          have hQn : ∀ q, wo.heap.size ≤ q → MwQ w w1.heap.size q := fun q hq => ⟨Nat.le_trans Tr.out.size hq, by have := Bg.out.lt; omega⟩
          have K := Lib.hid (And.intro k1 (And.intro k2 (And.intro k3 (And.intro k4 (And.intro k5 hQn)))))
          have hno : ∀ q, vo.ownBlock = some q → w.heap.size ≤ q := fun q hq => (k5 q (List.mem_append_left _ (by rw [hq]; simp))).1
          have cg := Bg.out.cell 0
          clear k1 k2 k3 k4 k5 hQn hfull
          go_wp2_with (at_builtin; refine wpList_appS elD rfl (.tmp 66) (.tmp 68) rfl vo seeds.length cells rfl (K.out.1.alloc _) (some ⟨wo.heap.size, 0, none⟩) 1 1 [.slice Al ll cl] rfl (Src_one _ _ _) (one_single _ rfl) (by simp only [maxLen]; omega) (by omega) ?_; intro v4 w4 hown hg hat; have PP := Lib.hid (PairQ.push OBB_good K.out.1 K.out.2.1 K.out.2.2.1 K.out.2.2.2.1 K.out.2.2.2.2.1 K.out.2.2.2.2.2 hown hg hat); have T4 := Lib.hid ((Tr.out.alloc Tr.out.size (.cells #[.slice Al ll cl] 31)).grown hg (by have := Tr.out.size; simp; omega) hno); clear hown hg hat)
          go_ret
          exact ⟨_, rfl, by rw [HMW.out]; exact (PP.out.base (fun b hb => hb.1)).fresh_ T4.out (Nat.le_refl _)⟩
    · have HNO := Lib.hid (mw_no2 (rows := rows) (ix := ix) (cell := cell) hc2)
      have hcI : ¬ ((2 : Int) ≤ (seeds.length : Int) + 1 ∧ (seeds.length : Int) + 1 ≤ 4) := by omega
      have HCI := Lib.hid hcI
      clear hc2 hcI
      go_enter Try.func14, Try.ntmps14
      go_wp2_with fail
      refine UW.out.mono ?_
      rintro e w1 ⟨A1, l1, c1, rfl, F1⟩
      have T := Lib.hid (F1.below.alloc F1.below.size (.cells #[.slice A1 l1 c1] 31))
      clear F1
      go_wp2_with fail
      refine (iCnt_f _ _ HCI.out).mono ?_
      rintro e w' ⟨rfl, rfl⟩
      go_wp2
      go_ret
      exact ⟨_, rfl, by rw [HNO.out]; exact fresh_nilDD _ _ T.out⟩
end Go.Proofs.Ytokhogdocaeelaa
