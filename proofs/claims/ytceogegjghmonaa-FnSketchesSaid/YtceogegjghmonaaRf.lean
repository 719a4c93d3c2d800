/- RefreshShares of both sides. -/
import Derived.Test.YtceogegjghmonaaSb
import Derived.Test.YtceogegjghmonaaCopy
import Derived.Test.YtceogegjghmonaaJsh
import Derived.Test.YtceogegjghmonaaKeep
namespace Go.Proofs.Ytceogegjghmonaa
set_option linter.unusedVariables false
open Go.RowKit

def rfOk (l : List (List UInt8)) (seeds : List Int) : Bool := jsOk l && (decide (seeds.length + 1 = l.length) && decide (hdB l ≤ 400))
def zsh (l : List (List UInt8)) (seeds : List Int) : List (List UInt8) := sb (List.replicate (hdB l) 0) seeds
def rfV (l : List (List UInt8)) (seeds : List Int) : List (List UInt8) := List.zipWith xorB l (zsh l seeds)
def rf (l : List (List UInt8)) (seeds : List Int) : List (List UInt8) := if rfOk l seeds then rfV l seeds else l
theorem rf_no {l : List (List UInt8)} {seeds : List Int} (h : rfOk l seeds = false) : rf l seeds = l := by unfold rf; rw [h]; rfl
theorem rf_yes {l : List (List UInt8)} {seeds : List Int} (h : rfOk l seeds = true) : rf l seeds = rfV l seeds := by unfold rf; rw [h]; rfl
theorem jsOk_len {l : List (List UInt8)} (h : jsOk l = true) : 2 ≤ l.length ∧ l.length ≤ 4 := by
  unfold jsOk at h
  rw [Bool.and_eq_true] at h
  exact of_decide_eq_true h.1
theorem zsh_len {l : List (List UInt8)} {seeds : List Int} (h1 : 2 ≤ l.length ∧ l.length ≤ 4) (h2 : seeds.length + 1 = l.length) (h3 : hdB l ≤ 400) : (zsh l seeds).length = l.length := by
  unfold zsh sb sbOk
  rw [decide_eq_true (show 1 ≤ seeds.length ∧ seeds.length ≤ 3 by omega), List.length_replicate, decide_eq_true h3]
  simp [strs]
  exact h2
theorem rf_get (l : List (List UInt8)) (seeds : List Int) {k : Nat} {x y : List UInt8} (hx : l[k]? = some x) (hy : (zsh l seeds)[k]? = some y) : (rfV l seeds)[k]? = some (xorB x y) := by
  unfold rfV
  rw [List.getElem?_zipWith, hx, hy]
theorem zsh_el (l : List (List UInt8)) (seeds : List Int) {k : Nat} {y : List UInt8} (hy : (zsh l seeds)[k]? = some y) : y.length ≤ 1600 := by
  have h1 := get_le_sumL _ k y hy
  have h2 := sb_sum (List.replicate (hdB l) 0) seeds
  unfold zsh at h1
  omega
theorem rfV_len (l : List (List UInt8)) (seeds : List Int) : (rfV l seeds).length ≤ l.length := by unfold rfV; simp; omega
theorem zipR_sum (a b : List (List UInt8)) : sumL (List.zipWith xorB a b) ≤ sumL a + sumL b := by
  induction a generalizing b with
  | nil => simp [sumL]
  | cons x a ih => cases b with
    | nil => simp [sumL]
    | cons y b =>
      have h := ih b
      have h2 := xorB_len x y
      simp [sumL] at *
      omega
theorem rf_len (l : List (List UInt8)) (seeds : List Int) : (rf l seeds).length ≤ l.length := by
  unfold rf
  split
  · exact rfV_len l seeds
  · omega
theorem rf_sum (l : List (List UInt8)) (seeds : List Int) : sumL (rf l seeds) ≤ sumL l + 1600 := by
  unfold rf
  split
  · have h1 := zipR_sum l (zsh l seeds)
    have h2 := sb_sum (List.replicate (hdB l) 0) seeds
    unfold rfV
    unfold zsh at *
    omega
  · omega
set_option maxHeartbeats 4000000 in
set_option maxRecDepth 100000 in
theorem implRf_c (v v' : Value) (l : List (List UInt8)) (seeds : List Int) (ok : Bool) (w : World) (h : Rd (Rd RB) w v l) (h' : Rd RI w v' seeds) (hok : Hid (rfOk l seeds = ok)) (hn : tot l ≤ 1048576) (hns : seeds.length ≤ 1048576) :
    Calls Try.prog 28 #[v, v'] w fun e w' => ∃ v', e = .returned (.tuple #[v', .bool ok]) ∧ Fresh OBB w w' v' (rf l seeds) := by
  obtain ⟨A, n, c, rfl, k1⟩ := h
  obtain ⟨B, m, cb, rfl, k2⟩ := h'
  obtain rfl := k1.1
  obtain rfl := k2.1
  have RL : Hid (Rd (Rd RB) w (.slice A l.length c) l) := Lib.hid ⟨_, _, _, rfl, k1⟩
  have RS : Hid (Rd RI w (.slice B seeds.length cb) seeds) := Lib.hid ⟨_, _, _, rfl, k2⟩
  have hca := Nat.le_trans k1.2.1 k1.2.2.1
  have hcb := Nat.le_trans k2.2.1 k2.2.2.1
  unfold maxLen at hca hcb
  have hls := len_le_tot l
  have hsl := sumL_le l
  have H := Lib.hid k1
  clear k1 k2
  cases ho : jsOk l with
  | false =>
    have e : ok = false := by rw [← hok.out]; unfold rfOk; rw [ho]; rfl
    subst e
    rw [rf_no hok.out]
    have OK := Lib.hid ho
    clear ho hok
    go_enter Try.func28, Try.ntmps28
    go_wp2_with fail
    refine (implJoinSh_c (.slice A l.length c) l false w RL.out OK hn).mono ?_
    rintro e w1 ⟨v1, rfl, b1⟩
    have T1 := b1.below
    clear b1
    have rl1 := Rd_reads (Rd_reads RB_reads) _ _ _ _ RL.out T1
    go_wp2_with fail
    refine (implCopyLists_c _ l _ rl1 hn).mono ?_
    rintro e w2 ⟨A2, l2, c2, rfl, F2⟩
    have FF := Lib.hid (F2.pre T1)
    clear F2 rl1
    go_wp2
    refine bodyPost_ret (v := .tuple #[.slice A2 l2 c2, .bool false]) (by simp [results, Try.results28, go_sem]) rfl ⟨_, rfl, FF.out⟩
  | true =>
    have OK := Lib.hid ho
    have hlc := jsOk_len ho
    obtain ⟨b, off, x0, u0, rfl, hbb0, hx0, hu0, hr0⟩ := H.out.at_ (k := 0) (by omega)
    obtain ⟨Ay, ny, cy, rfl, hry⟩ := hr0
    obtain rfl := hry.1
    have hcy := Nat.le_trans hry.2.1 hry.2.2.1
    unfold maxLen at hcy
    have g0 : w.cell? ⟨b, off, none⟩ = some (.slice Ay x0.length cy) := by simpa using hu0
    have HD := Lib.hid (hdB_of hx0)
    have hz0 : 0 < l.length := by omega
    clear hu0 hry
    by_cases hl : seeds.length + 1 = l.length
    · have hne : ((seeds.length : Int) != (l.length : Int) - 1) = false := by rw [bne_eq_false_iff_eq]; omega
      by_cases h4 : x0.length ≤ 400
      · have e : ok = true := by rw [← hok.out]; unfold rfOk; rw [ho, decide_eq_true hl, HD.out, decide_eq_true h4]; rfl
        subst e
        rw [rf_yes hok.out]
        have HZL := Lib.hid (zsh_len hlc hl (by rw [HD.out]; exact h4))
        have HZS : Hid (zsh l seeds = sb (List.replicate x0.length 0) seeds) := Lib.hid (by unfold zsh; rw [HD.out])
        have hng : ¬ 400 < x0.length := by omega
        have hmk : ∀ W : World, (Instr.makeSlice 22 (.int .i64 (x0.length : Int)) (.int .i64 (x0.length : Int))).run Try.prog W = .ok (.slice (some ⟨W.heap.size, 0, none⟩) x0.length x0.length) (W.alloc (.cells (madeCells #[.int .u8 0] x0.length) 5)) := fun W => by
          simpa using run_mk elB .i64 .i64 x0.length (by omega) (by omega) W
        clear ho hok hx0 hl
        go_enter Try.func28, Try.ntmps28
        go_wp2_with fail
        refine (implJoinSh_c (.slice (some ⟨b, off, none⟩) l.length c) l true w RL.out OK hn).mono ?_
        rintro e w1 ⟨v1, rfl, b1⟩
        have T1 := b1.below
        clear b1
        have g1 := (T1.cell (p := ⟨b, off, none⟩) hbb0).trans g0
        have bl := below_alloc w1 (.cells #[] 22)
        have g2 := (bl.cell (p := ⟨b, off, none⟩) (Nat.lt_of_lt_of_le hbb0 T1.size)).trans g1
        have bm := below_alloc (w1.alloc (.cells #[] 22)) (.cells (madeCells #[.int .u8 0] x0.length) 5)
        have T1l := T1.alloc T1.size (.cells #[] 22)
        have TM := T1l.trans (bm.mono T1l.size)
        have rs := Rd_reads RI_reads _ _ _ _ RS.out TM
        have rz : Rd RB ((w1.alloc (.cells #[] 22)).alloc (.cells (madeCells #[.int .u8 0] x0.length) 5)) (.slice (some ⟨w1.heap.size + 1, 0, none⟩) x0.length x0.length) (List.replicate x0.length 0) := by
          have q := ((fresh_made (w1.alloc (.cells #[] 22)) x0.length (by simp [maxLen]; omega)).iv (Own_good FB_good)).rd (R' := RB) (fun q => q.rb)
          rw [World.size_alloc] at q
          exact q
        have N1 := (show NRow 22 (Own 5 FB) w.heap.size (w1.alloc (.cells #[] 22)) (.slice (some ⟨w1.heap.size, 0, none⟩) 0 0) 0 ([] : List (List UInt8)) [] from NRow_lit w1 #[] T1.size (by simp)).below (Own_good FB_good) bm
        have hs0 : ((w1.alloc (.cells #[] 22)).alloc (.cells (madeCells #[.int .u8 0] x0.length) 5)).heap.size = w1.heap.size + 2 := by simp
        clear bm bl
        go_wp2_with fail
        refine (implSb_c _ _ _ seeds _ rz rs hns (by simp; omega)).mono ?_
        rintro e w2 ⟨v2, rfl, FQ⟩
        have T3 := TM.trans (FQ.below.mono TM.size)
        obtain ⟨Aq, nq, cq, rfl⟩ := fresh_slice FQ
        rw [← HZS.out] at FQ
        have hqn : (zsh l seeds).length = nq := (rd_bytess (FQ.iv OBB_good)).at_same.1
        rw [HZL.out] at hqn
        subst hqn
        have K0 := Lib.hid (KeepL.before OBB_good (w0 := w) (B := w.heap.size) (vo := .slice (some ⟨w1.heap.size, 0, none⟩) 0 0) FQ (fun b hb => by simp [Value.ownBlock] at hb; omega))
        have N0 := Lib.hid (N1.below (Own_good FB_good) FQ.below)
        clear FQ T1 T1l TM N1 rs rz g1 g2 g0 hs0
        go_wp2
        go_loopw [8, 44] (fun o i' wr => ∃ (k : Nat) (vo : Value), k ≤ l.length ∧ i' = .int .i64 k ∧ o = vo ∧ Hid (NRow 22 (Own 5 FB) w.heap.size wr vo k ((rfV l seeds).take k) []) ∧ Hid (KeepL w.heap.size w wr vo (fun W => ∃ F, OBB W (.slice Aq l.length cq) (zsh l seeds) F)) ∧ Below w.heap.size w wr) (fun _ i' _ => l.length - (intOf i').toNat)
        case atStart => exact ⟨0, _, Nat.zero_le _, rfl, rfl, N0, K0, T3⟩
        case round =>
          obtain ⟨k, vo, hk, rfl, hvo, NR, KE, Tr⟩ := hrel
          subst hvo
          clear N0 K0 T3
          by_cases hlt : k < l.length
          · obtain ⟨cells, F0, k1, k2, k3, k4⟩ := NR.out.open_
            obtain ⟨Ao, lo, co, rfl⟩ := own_shape k1
            have K := Lib.hid (And.intro k1 (And.intro k2 (And.intro k3 k4)))
            clear k1 k2 k3 k4
            obtain ⟨b1, off1, x, ux, he, hbb1, hx, hu, hr⟩ := H.out.at_ hlt
            injection he with he
            injection he with he1 he2
            subst he1 he2
            obtain ⟨Ax, nx, cx, rfl, hrx⟩ := hr
            obtain ⟨Fq, hFq⟩ := KE.out.here Tr
            obtain ⟨b', off', y, uy, rfl, hbb2, hy, hu2, hr2⟩ := (Own.rd (R' := Rd RB) hFq (fun q => q.rd (fun z => z.rb))).at_same.at_ hlt
            obtain ⟨Ay, ny, cy, rfl, hry⟩ := hr2
            have hxl : x.length ≤ 1048576 := by have := get_le_sumL l k x hx; omega
            have hyl := zsh_el l seeds hy
            have HZ := Lib.hid (take_succ_get (rfV l seeds) k _ (rf_get l seeds hx hy))
            clear hx hy hFq Fq
            have c1 : wr.cell? ⟨b, off + k, none⟩ = some (.slice Ax nx cx) := (Tr.cell (p := ⟨b, off + k, none⟩) hbb1).trans hu
            have c2 : wr.cell? ⟨b', off' + k, none⟩ = some (.slice Ay ny cy) := hu2
            have rx : Rd RB wr (.slice Ax nx cx) x := Rd_reads RB_reads _ _ _ _ ⟨_, _, _, rfl, hrx⟩ Tr
            have ry : Rd RB wr (.slice Ay ny cy) y := ⟨_, _, _, rfl, hry⟩
            have hk0 : (0 : Int) ≤ (k : Int) := by omega
            have hkn : (k : Int) < (l.length : Int) := by omega
            have hwrd : w.heap.size ≤ wr.heap.size := Tr.size
            clear hu hrx hu2 hry
            go_wp2_with fail
            refine (implXorBytes_c _ _ x y _ rx ry (by omega) (by omega)).mono ?_
            rintro e w3 ⟨u3, rfl, FU⟩
            obtain ⟨Au, lu, cu, rfl⟩ := fresh_slice FU
            have hs3 := FU.below.size
            have KW := Lib.hid (ownsRow_at (w' := w3) K.out.1 (fun q hq => FU.below.block q (K.out.1.lt q (by simpa using hq)).2))
            have T3 := Lib.hid (Tr.trans (FU.below.mono Tr.size))
            have FH := Lib.hid FU
            clear FU
            go_wp2_with (at_builtin; refine wpList_app elBB rfl (.tmp 49) (.tmp 56) rfl _ k cells rfl (KW.out.alloc _) (some ⟨w3.heap.size, 0, none⟩) 1 1 [.slice Au lu cu] rfl (Src_one _ _ _) (one_single _ rfl) (by simp only [maxLen]; omega) (by omega) ?_; intro v4 w4 hown hg hat)
            have PH := Lib.hid (keep_app (Own_good FB_good) K.out.1 K.out.2.1 K.out.2.2.1 K.out.2.2.2 FH.out hwrd KE.out hown hg hat)
            clear hown hg hat
            have N4 : Hid (NRow 22 (Own 5 FB) w.heap.size w4 v4 (k + 1) ((rfV l seeds).take (k + 1)) []) := Lib.hid (by rw [HZ.out]; exact PH.out.1)
            go_roundw
            case rel => exact ⟨k + 1, _, by omega, by go_num, rfl, N4, Lib.hid PH.out.2.1, PH.out.2.2.2 _ _ (Nat.le_refl _) T3.out⟩
            case measure => simp [intOf]; omega
          · have hkn : k = l.length := by omega
            subst hkn
            have h0 := NR.out
            rw [List.take_of_length_le (rfV_len l seeds)] at h0
            have FR := h0.fresh_ Tr (Nat.le_refl _)
            obtain ⟨A', l', c', hv⟩ := fresh_slice FR
            subst hv
            have FH := Lib.hid FR
            clear h0 FR NR
            go_wp2
            refine bodyPost_ret (v := .tuple #[.slice A' l' c', .bool true]) (by simp [results, Try.results28, go_sem]) rfl ⟨_, rfl, FH.out⟩
      · have e : ok = false := by rw [← hok.out]; unfold rfOk; rw [ho, HD.out, decide_eq_false h4, Bool.and_false]; rfl
        subst e
        rw [rf_no hok.out]
        have hng : 400 < x0.length := by omega
        clear ho hok hx0 hl
        go_enter Try.func28, Try.ntmps28
        go_wp2_with fail
        refine (implJoinSh_c (.slice (some ⟨b, off, none⟩) l.length c) l true w RL.out OK hn).mono ?_
        rintro e w1 ⟨v1, rfl, b1⟩
        have T1 := b1.below
        clear b1
        have g1 := (T1.cell (p := ⟨b, off, none⟩) hbb0).trans g0
        have rl1 := Rd_reads (Rd_reads RB_reads) _ _ _ _ RL.out T1
        go_wp2_with fail
        refine (implCopyLists_c _ l _ rl1 hn).mono ?_
        rintro e w2 ⟨A2, l2, c2, rfl, F2⟩
        have FF := Lib.hid (F2.pre T1)
        clear F2 rl1
        go_wp2
        refine bodyPost_ret (v := .tuple #[.slice A2 l2 c2, .bool false]) (by simp [results, Try.results28, go_sem]) rfl ⟨_, rfl, FF.out⟩
    · have e : ok = false := by rw [← hok.out]; unfold rfOk; rw [ho, decide_eq_false hl]; rfl
      subst e
      rw [rf_no hok.out]
      have hne : ((seeds.length : Int) != (l.length : Int) - 1) = true := by rw [bne_iff_ne]; omega
      clear ho hok hx0 hl
      go_enter Try.func28, Try.ntmps28
      go_wp2_with fail
      refine (implJoinSh_c (.slice (some ⟨b, off, none⟩) l.length c) l true w RL.out OK hn).mono ?_
      rintro e w1 ⟨v1, rfl, b1⟩
      have T1 := b1.below
      clear b1
      have g1 := (T1.cell (p := ⟨b, off, none⟩) hbb0).trans g0
      have rl1 := Rd_reads (Rd_reads RB_reads) _ _ _ _ RL.out T1
      go_wp2_with fail
      refine (implCopyLists_c _ l _ rl1 hn).mono ?_
      rintro e w2 ⟨A2, l2, c2, rfl, F2⟩
      have FF := Lib.hid (F2.pre T1)
      clear F2 rl1
      go_wp2
      refine bodyPost_ret (v := .tuple #[.slice A2 l2 c2, .bool false]) (by simp [results, Try.results28, go_sem]) rfl ⟨_, rfl, FF.out⟩
end Go.Proofs.Ytceogegjghmonaa
