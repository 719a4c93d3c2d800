/- ReadPrivately of both sides. -/
import Derived.Test.YtceogegjghmonaaMq
import Derived.Test.YtceogegjghmonaaAq
import Derived.Test.YtceogegjghmonaaKeep
namespace Go.Proofs.Ytceogegjghmonaa
set_option linter.unusedVariables false
open Go.RowKit

def rp (d : List (List UInt8)) (i : Int) (seeds : List Int) : List (List UInt8) := (mq (d.length : Int) i seeds).map (aq d)
theorem mq_le4 (r i : Int) (seeds : List Int) : (mq r i seeds).length ≤ 4 := by
  unfold mq
  split
  · rename_i h
    unfold mqOk at h
    rw [Bool.and_eq_true] at h
    have h2 := of_decide_eq_true h.2
    simp [rands]
    omega
  · simp
theorem sumL_le24 (d : List (List UInt8)) (h : ∀ r ∈ d, r.length = 24) : sumL d ≤ 24 * d.length := by
  induction d with
  | nil => simp [sumL]
  | cons r d ih =>
    have h1 := h r (by simp)
    have h2 := ih (fun z hz => h z (by simp [hz]))
    simp [sumL] at *
    omega
theorem aq_le (d : List (List UInt8)) (s : List Int) : (aq d s).length ≤ 1560 := by
  unfold aq
  split
  · rename_i h
    unfold aqOk dbOk at h
    rw [Bool.and_eq_true, Bool.and_eq_true] at h
    have h1 := of_decide_eq_true h.1.1
    have h2 := sumL_le24 d (fun r hr => by
      have h3 := h.1.2
      rw [Bool.not_eq_true'] at h3
      rw [List.any_eq_false] at h3
      have h4 := h3 r hr
      simpa using h4)
    have h5 := selX_len d s
    rw [xorB_len]
    simp [zcell]
    omega
  · simp
theorem sumL_le_map {α β : Type} (l : List α) (f : α → List β) (m : Nat) (h : ∀ x, (f x).length ≤ m) : sumL (l.map f) ≤ m * l.length := by
  induction l with
  | nil => simp [sumL]
  | cons x l ih =>
    have h1 := h x
    simp only [sumL, List.map_cons, List.sum_cons, List.length_cons, Nat.mul_add, Nat.mul_one] at *
    omega
theorem rp_tot (d : List (List UInt8)) (i : Int) (seeds : List Int) : tot (rp d i seeds) ≤ 6244 := by
  have h1 := sumL_le_map (mq (d.length : Int) i seeds) (aq d) 1560 (aq_le d)
  have h2 := mq_le4 (d.length : Int) i seeds
  unfold tot rp
  rw [List.length_map]
  omega
theorem map_get {α β : Type} (l : List α) (f : α → β) {k : Nat} {x : α} (h : l[k]? = some x) : (l.map f)[k]? = some (f x) := by simp [h]
set_option maxHeartbeats 4000000 in
set_option maxRecDepth 100000 in
theorem specRp_c (v0 v1 : Value) (d : List (List UInt8)) (i : Int) (seeds : List Int) (ok : Bool) (w : World) (h : Rd (Rd RB) w v0 d) (h' : Rd RI w v1 seeds) (hok : Hid (cmbOk (rp d i seeds) = ok)) (hn : tot d ≤ 1048576) (hns : seeds.length ≤ 1048576) (h1 : -9223372036854775808 ≤ i) (h2 : i ≤ 9223372036854775807) :
    Calls Try.prog 16 #[.agg #[v0], .int .i64 i, v1] w fun e w' => ∃ v', e = .returned (.tuple #[v', .bool ok]) ∧ Fresh (Own 5 FB) w w' v' (cmb (rp d i seeds)) := by
  obtain ⟨A, n, c, rfl, k1⟩ := h
  obtain ⟨B, m, cb, rfl, k2⟩ := h'
  obtain rfl := k1.1
  have h : Rd (Rd RB) w (.slice A d.length c) d := ⟨_, _, _, rfl, k1⟩
  have h' : Rd RI w (.slice B m cb) seeds := ⟨_, _, _, rfl, k2⟩
  have hca := Nat.le_trans k1.2.1 k1.2.2.1
  have hcb := Nat.le_trans k2.2.1 k2.2.2.1
  unfold maxLen at hca hcb
  have hls := len_le_tot d
  have hrt := rp_tot d i seeds
  have RW := Lib.hid h
  clear k1 k2
  obtain ⟨B_d, T, hs_w0⟩ := boxes1 w 26 #[.slice A d.length c]
  have BD := Lib.hid B_d
  have q_ := B_d.cell 0
  have RA := Rd_reads (Rd_reads RB_reads) _ _ _ _ h T
  have RS := Rd_reads RI_reads _ _ _ _ h' T
  clear h h' B_d
  go_enter Try.func16, Try.ntmps16
  go_wp2_with fail
  refine (specMq_c _ seeds _ i _ RS hns h1 h2 (by omega) (by omega)).mono ?_
  rintro e w1 ⟨v1, rfl, FQ⟩
  have T1 := T.trans (FQ.below.mono T.size)
  have BD1 := BD.out.below FQ.below BD.out.lt
  obtain ⟨Aq, nq, cq, rfl⟩ := fresh_slice FQ
  obtain ⟨q, hq⟩ : ∃ q, mq (d.length : Int) i seeds = q := ⟨_, rfl⟩
  rw [hq] at FQ
  have hqn : q.length = nq := ((FQ.iv OII_good).rd (R' := Rd RI) (fun q => q.rd (fun z => z.ri))).at_same.1
  subst hqn
  have hrp : rp d i seeds = q.map (aq d) := by unfold rp; rw [hq]
  have hq4 : q.length ≤ 4 := by rw [← hq]; exact mq_le4 _ _ _
  have K0 := Lib.hid (KeepL.after OII_good (w0 := w) (B := w.heap.size + 1) (vo := .slice (some ⟨w1.heap.size, 0, none⟩) 0 0) FQ (w2 := w1.alloc (.cells #[] 22)) (by simp) (fun b hb => Below.heap_alloc _ _ _ hb) rfl)
  have N0 := Lib.hid (show NRow 22 (Own 5 FB) (w.heap.size + 1) (w1.alloc (.cells #[] 22)) (.slice (some ⟨w1.heap.size, 0, none⟩) 0 0) 0 ([] : List (List UInt8)) [] from NRow_lit w1 #[] (by have := BD1.lt; omega) (by simp))
  have BD2 := Lib.hid (BD1.alloc (.cells #[] 22))
  have T2 := T1.alloc T1.size (.cells #[] 22)
  have RA2 := Lib.hid (Rd_reads (Rd_reads RB_reads) _ _ _ _ (Rd_reads (Rd_reads RB_reads) _ _ _ _ RA FQ.below) (below_alloc w1 (.cells #[] 22)))
  clear FQ BD1 T1 RA RS T BD hq
  go_wp2
  go_loopw [9, 10] (fun o i' wr => ∃ (k : Nat) (vo : Value), k ≤ q.length ∧ i' = .int .i64 k ∧ o = vo ∧ Hid (NRow 22 (Own 5 FB) (w.heap.size + 1) wr vo k ((q.map (aq d)).take k) []) ∧ Hid (KeepL (w.heap.size + 1) w wr vo (fun W => ∃ F, OII W (.slice Aq q.length cq) q F)) ∧ Hid (Box wr w.heap.size 26 #[.slice A d.length c]) ∧ Below w.heap.size w wr) (fun _ i' _ => q.length - (intOf i').toNat)
  case atStart => exact ⟨0, _, Nat.zero_le _, rfl, rfl, N0, K0, BD2, T2⟩
  case round =>
    obtain ⟨k, vo, hk, rfl, hvo, NR, KE, Br, Tr⟩ := hrel
    subst hvo
    clear N0 K0 BD2 T2 RA2
    have ra0 : Rd (Rd RB) wr (.slice A d.length c) d := Rd_reads (Rd_reads RB_reads) _ _ _ _ RW.out Tr
    obtain ⟨cells, F0, k1, k2, k3, k4⟩ := (NR.out.drew_ (Own_good FB_good)).open_
    obtain ⟨Ao, lo, co, rfl⟩ := own_shape k1
    have K := Lib.hid (And.intro k1 (And.intro k2 (And.intro k3 k4)))
    have hwr : w.heap.size + 1 ≤ wr.heap.size := Br.out.lt
    clear k1 k2 k3 k4
    by_cases hlt : k < q.length
    · obtain ⟨Fq, hFq⟩ := KE.out.here Tr
      obtain ⟨b, off, s, us, rfl, hbb, hx, hu, hr⟩ := (Own.rd (R' := Rd RI) hFq (fun q => q.rd (fun z => z.ri))).at_same.at_ hlt
      obtain ⟨As, ns, cs, rfl, hrs⟩ := hr
      have HZ := Lib.hid (take_succ_get (q.map (aq d)) k _ (map_get q (aq d) hx))
      clear hx hFq Fq
      have c0 : wr.drew.cell? ⟨w.heap.size, 0, none⟩ = some (.slice A d.length c) := Br.out.cell 0
      have c1 : wr.drew.cell? ⟨b, off + k, none⟩ = some (.slice As ns cs) := hu
      have rs : Rd RI wr.drew (.slice As ns cs) s := Rd_reads RI_reads _ _ _ _ ⟨_, _, _, rfl, hrs⟩ (Below.refl _ _).drew
      have ra : Rd (Rd RB) wr.drew (.slice A d.length c) d := Rd_reads (Rd_reads RB_reads) _ _ _ _ ra0 (Below.refl _ _).drew
      have hk0 : (0 : Int) ≤ (k : Int) := by omega
      have hkn : (k : Int) < (q.length : Int) := by omega
      have KEd : Hid (KeepL (w.heap.size + 1) w wr.drew (.slice Ao lo co) (fun W => ∃ F, OII W (.slice (some ⟨b, off, none⟩) q.length cq) q F)) := KE
      have Brd : Hid (Box wr.drew w.heap.size 26 #[.slice A d.length c]) := Br
      have hwrd : w.heap.size + 1 ≤ wr.drew.heap.size := hwr
      clear hu hrs ra0 KE Br
      go_wp2_with fail
      go_region_law (first
        | (refine step_app elBB (by rfl) _ _ (by rfl) (.slice Ao lo co) k cells (by rfl) HOWN (some ⟨w3.heap.size, 0, none⟩) 1 1 [.slice Au lu cu] (by rfl) HSRC (one_single _ rfl) (by simp only [maxLen]; omega) (by omega) ?_; intro v4 w4 hown hg hat; have P4 := keep_app (Own_good FB_good) K.out.1 K.out.2.1 K.out.2.2.1 K.out.2.2.2 FH.out hwrd KEd.out hown hg hat; have PH := Lib.hid P4; clear P4 hown hg hat)
        | (go_simp; go_at_call 82; refine (specAq_c _ _ d s _ ra rs hn).mono ?_; rintro e w3 ⟨u3, rfl, FU⟩; obtain ⟨Au, lu, cu, rfl⟩ := fresh_slice FU; have hs3 := FU.below.size; have B3 := Lib.hid (Brd.out.below FU.below Brd.out.lt); have KW := Lib.hid (ownsRow_at (w' := w3) K.out.1 (fun q hq => FU.below.block q (K.out.1.lt q (by simpa using hq)).2)); have T3 := Lib.hid (Tr.drew.trans (FU.below.mono Tr.drew.size)); have FH := Lib.hid FU; have HOWN : (w3.alloc (.cells #[.slice Au lu cu] 22)).ownsRow 0 22 1 (.slice Ao lo co) k cells := KW.out.alloc _; have HSRC : Src (w3.alloc (.cells #[.slice Au lu cu] 22)) (some ⟨w3.heap.size, 0, none⟩) 1 [.slice Au lu cu] := Src_one _ _ _; clear FU))
      all_goals
        have N4 : Hid (NRow 22 (Own 5 FB) (w.heap.size + 1) w4 v4 (k + 1) ((q.map (aq d)).take (k + 1)) []) := Lib.hid (by rw [HZ.out]; exact PH.out.1)
        go_wp2
        go_roundw
        case rel => exact ⟨k + 1, _, by omega, by go_num, rfl, N4, Lib.hid PH.out.2.1, Lib.hid (PH.out.2.2.1 _ _ _ (by omega) B3.out), PH.out.2.2.2 _ _ (by omega) T3.out⟩
        case measure => simp [intOf]; omega
    · have hkn : k = q.length := by omega
      subst hkn
      have hr0 := NR.out.rd (R' := Rd RB) (fun q => q.rd (fun z => z.rb))
      rw [List.take_of_length_le (by simp), ← hrp] at hr0
      have hcc := specComb_c _ _ ok wr hr0 hok (by omega)
      clear hr0 ra0
      go_wp2_with fail
      refine hcc.mono ?_
      rintro e w5 ⟨v5, rfl, F5⟩
      have FF := Lib.hid (F5.pre Tr)
      clear F5
      go_wp2
      refine bodyPost_ret (v := .tuple #[v5, .bool ok]) (by simp [results, Try.results16, go_sem]) rfl ⟨_, rfl, FF.out⟩
set_option maxHeartbeats 4000000 in
set_option maxRecDepth 100000 in
theorem implRp_c (v0 v1 : Value) (d : List (List UInt8)) (i : Int) (seeds : List Int) (ok : Bool) (w : World) (h : Rd (Rd RB) w v0 d) (h' : Rd RI w v1 seeds) (hok : Hid (cmbOk (rp d i seeds) = ok)) (hn : tot d ≤ 1048576) (hns : seeds.length ≤ 1048576) (h1 : -9223372036854775808 ≤ i) (h2 : i ≤ 9223372036854775807) :
    Calls Try.prog 15 #[.agg #[v0], .int .i64 i, v1] w fun e w' => ∃ v', e = .returned (.tuple #[v', .bool ok]) ∧ Fresh (Own 5 FB) w w' v' (cmb (rp d i seeds)) := by
  obtain ⟨A, n, c, rfl, k1⟩ := h
  obtain ⟨B, m, cb, rfl, k2⟩ := h'
  obtain rfl := k1.1
  have h : Rd (Rd RB) w (.slice A d.length c) d := ⟨_, _, _, rfl, k1⟩
  have h' : Rd RI w (.slice B m cb) seeds := ⟨_, _, _, rfl, k2⟩
  have hca := Nat.le_trans k1.2.1 k1.2.2.1
  have hcb := Nat.le_trans k2.2.1 k2.2.2.1
  unfold maxLen at hca hcb
  have hls := len_le_tot d
  have hrt := rp_tot d i seeds
  have RW := Lib.hid h
  clear k1 k2
  obtain ⟨B_d, T, hs_w0⟩ := boxes1 w 26 #[.slice A d.length c]
  have BD := Lib.hid B_d
  have q_ := B_d.cell 0
  have RA := Rd_reads (Rd_reads RB_reads) _ _ _ _ h T
  have RS := Rd_reads RI_reads _ _ _ _ h' T
  clear h h' B_d
  go_enter Try.func15, Try.ntmps15
  have T0 := T.alloc T.size (.cells #[] 22)
  have BD0 := BD.out.alloc (.cells #[] 22)
  have q0 : ((w.alloc (.cells #[.slice A d.length c] 26)).alloc (.cells #[] 22)).cell? ⟨w.heap.size, 0, none⟩ = some (.slice A d.length c) := BD0.cell 0
  have RA0 := Rd_reads (Rd_reads RB_reads) _ _ _ _ RA (below_alloc (w.alloc (.cells #[.slice A d.length c] 26)) (.cells #[] 22))
  have RS0 := Rd_reads RI_reads _ _ _ _ RS (below_alloc (w.alloc (.cells #[.slice A d.length c] 26)) (.cells #[] 22))
  have N1 : NRow 22 (Own 5 FB) (w.heap.size + 1) ((w.alloc (.cells #[.slice A d.length c] 26)).alloc (.cells #[] 22)) (.slice (some ⟨w.heap.size + 1, 0, none⟩) 0 0) 0 ([] : List (List UInt8)) [] := by
    have q := NRow_lit (E := 22) (R := Own 5 FB) (B := w.heap.size + 1) (w.alloc (.cells #[.slice A d.length c] 26)) #[] (by simp) (by simp)
    rw [World.size_alloc] at q
    exact q
  have hs0 : ((w.alloc (.cells #[.slice A d.length c] 26)).alloc (.cells #[] 22)).heap.size = w.heap.size + 2 := by simp
  clear RA RS T BD
  go_wp2_with fail
  generalize ((w.alloc (.cells #[.slice A d.length c] 26)).alloc (.cells #[] 22)) = wl at *
  refine (implMq_c _ seeds _ i _ RS0 hns h1 h2 (by omega) (by omega)).mono ?_
  rintro e w1 ⟨v1, rfl, FQ⟩
  have T2 := T0.trans (FQ.below.mono T0.size)
  have BD2 := Lib.hid (BD0.below FQ.below BD0.lt)
  obtain ⟨Aq, nq, cq, rfl⟩ := fresh_slice FQ
  obtain ⟨q, hq⟩ : ∃ q, mq (d.length : Int) i seeds = q := ⟨_, rfl⟩
  rw [hq] at FQ
  have hqn : q.length = nq := ((FQ.iv OII_good).rd (R' := Rd RI) (fun q => q.rd (fun z => z.ri))).at_same.1
  subst hqn
  have hrp : rp d i seeds = q.map (aq d) := by unfold rp; rw [hq]
  have hq4 : q.length ≤ 4 := by rw [← hq]; exact mq_le4 _ _ _
  have K0 := Lib.hid (KeepL.before OII_good (w0 := w) (B := w.heap.size + 1) (vo := .slice (some ⟨w.heap.size + 1, 0, none⟩) 0 0) FQ (fun b hb => by simp [Value.ownBlock] at hb; omega))
  have N0 := Lib.hid (N1.below (Own_good FB_good) FQ.below)
  have RA2 := Lib.hid (Rd_reads (Rd_reads RB_reads) _ _ _ _ RA0 FQ.below)
  clear FQ T0 BD0 q0 RA0 RS0 N1 hs0 hq
  go_wp2
  go_loopw [8, 19] (fun o i' wr => ∃ (k : Nat) (vo : Value), k ≤ q.length ∧ i' = .int .i64 k ∧ o = vo ∧ Hid (NRow 22 (Own 5 FB) (w.heap.size + 1) wr vo k ((q.map (aq d)).take k) []) ∧ Hid (KeepL (w.heap.size + 1) w wr vo (fun W => ∃ F, OII W (.slice Aq q.length cq) q F)) ∧ Hid (Box wr w.heap.size 26 #[.slice A d.length c]) ∧ Below w.heap.size w wr) (fun _ i' _ => q.length - (intOf i').toNat)
  case atStart => exact ⟨0, _, Nat.zero_le _, rfl, rfl, N0, K0, BD2, T2⟩
  case round =>
    obtain ⟨k, vo, hk, rfl, hvo, NR, KE, Br, Tr⟩ := hrel
    subst hvo
    clear N0 K0 BD2 T2 RA2
    have ra0 : Rd (Rd RB) wr (.slice A d.length c) d := Rd_reads (Rd_reads RB_reads) _ _ _ _ RW.out Tr
    obtain ⟨cells, F0, k1, k2, k3, k4⟩ := NR.out.open_
    obtain ⟨Ao, lo, co, rfl⟩ := own_shape k1
    have K := Lib.hid (And.intro k1 (And.intro k2 (And.intro k3 k4)))
    have hwr : w.heap.size + 1 ≤ wr.heap.size := Br.out.lt
    clear k1 k2 k3 k4
    by_cases hlt : k < q.length
    · obtain ⟨Fq, hFq⟩ := KE.out.here Tr
      obtain ⟨b, off, s, us, rfl, hbb, hx, hu, hr⟩ := (Own.rd (R' := Rd RI) hFq (fun q => q.rd (fun z => z.ri))).at_same.at_ hlt
      obtain ⟨As, ns, cs, rfl, hrs⟩ := hr
      have HZ := Lib.hid (take_succ_get (q.map (aq d)) k _ (map_get q (aq d) hx))
      clear hx hFq Fq
      have c0 : wr.cell? ⟨w.heap.size, 0, none⟩ = some (.slice A d.length c) := Br.out.cell 0
      have c1 : wr.cell? ⟨b, off + k, none⟩ = some (.slice As ns cs) := hu
      have rs : Rd RI wr (.slice As ns cs) s := ⟨_, _, _, rfl, hrs⟩
      clear hu hrs
      go_wp2_with fail
      refine (implAq_c _ _ d s _ ra0 rs hn).mono ?_
      rintro e w3 ⟨u3, rfl, FU⟩
      obtain ⟨Au, lu, cu, rfl⟩ := fresh_slice FU
      have hs3 := FU.below.size
      have B3 := Lib.hid (Br.out.below FU.below Br.out.lt)
      have KW := Lib.hid (ownsRow_at (w' := w3) K.out.1 (fun q hq => FU.below.block q (K.out.1.lt q (by simpa using hq)).2))
      have T3 := Lib.hid (Tr.trans (FU.below.mono Tr.size))
      have FH := Lib.hid FU
      clear FU
      go_wp2_with (at_builtin; refine wpList_app elBB rfl (.tmp 23) (.tmp 27) rfl _ k cells rfl (KW.out.alloc _) (some ⟨w3.heap.size, 0, none⟩) 1 1 [.slice Au lu cu] rfl (Src_one _ _ _) (one_single _ rfl) (by simp only [maxLen]; omega) (by omega) ?_; intro v4 w4 hown hg hat)
      have PH := Lib.hid (keep_app (Own_good FB_good) K.out.1 K.out.2.1 K.out.2.2.1 K.out.2.2.2 FH.out hwr KE.out hown hg hat)
      clear hown hg hat
      have N4 : Hid (NRow 22 (Own 5 FB) (w.heap.size + 1) w4 v4 (k + 1) ((q.map (aq d)).take (k + 1)) []) := Lib.hid (by rw [HZ.out]; exact PH.out.1)
      go_roundw
      case rel => exact ⟨k + 1, _, by omega, by go_num, rfl, N4, Lib.hid PH.out.2.1, Lib.hid (PH.out.2.2.1 _ _ _ (by omega) B3.out), PH.out.2.2.2 _ _ (by omega) T3.out⟩
      case measure => simp [intOf]; omega
    · have hkn : k = q.length := by omega
      subst hkn
      have hr0 := NR.out.rd (R' := Rd RB) (fun q => q.rd (fun z => z.rb))
      rw [List.take_of_length_le (by simp), ← hrp] at hr0
      have hcc := implComb_c _ _ ok wr hr0 hok (by omega)
      clear hr0 ra0
      go_wp2_with fail
      refine hcc.mono ?_
      rintro e w5 ⟨v5, rfl, F5⟩
      have FF := Lib.hid (F5.pre Tr)
      clear F5
      go_wp2
      refine bodyPost_ret (v := .tuple #[v5, .bool ok]) (by simp [results, Try.results15, go_sem]) rfl ⟨_, rfl, FF.out⟩
end Go.Proofs.Ytceogegjghmonaa
