/- JoinWrites of both sides. -/
import Derived.Test.YtokhogdocaeelaaJwP
import Derived.Deep.RegionHeld3
namespace Go.Proofs.Ytokhogdocaeelaa
set_option linter.unusedVariables false
open Go.RowKit

set_option maxHeartbeats 1000000 in
set_option maxRecDepth 100000 in
theorem implJw_c (v : Value) (l : List Db) (ok : Bool) (w : World) (h : Rd (Rd (Rd RB)) w v l) (hok : Hid ((jw l).isSome = ok)) (hn : totD l ≤ 1048576) :
    Calls Try.prog 16 #[v] w fun e w' => ∃ A n c, e = .returned (.tuple #[.agg #[.slice A n c], .bool ok]) ∧ Fresh OBB w w' (.slice A n c) ((jw l).getD []) := by
  obtain ⟨A, n, cc, rfl, h'⟩ := h
  obtain rfl := h'.1
  have hnc := h'.2.1
  have hcm := h'.2.2.1
  unfold maxLen at hcm
  have bx := below_alloc w (.cells #[.slice none 0 0] 31)
  have BX := Lib.hid (Box.new w 31 #[.slice none 0 0])
  by_cases hc : 2 ≤ l.length ∧ l.length ≤ 4
  · obtain ⟨d, t, rfl⟩ : ∃ d t, l = d :: t := by
      cases l with
      | nil => simp at hc
      | cons d t => exact ⟨d, t, rfl⟩
    have hjy : jw (d :: t) = xfold d t := jw_yes hc rfl
    have HJY := Lib.hid hjy
    obtain ⟨b, off, x, B0, q0, r0, rfl, hbb0, hx, hu0, hr0⟩ := dbs_at h' (show 0 < (d :: t).length by simp)
    obtain rfl : d = x := by simpa using hx
    have EL : Hid (∀ j, j < t.length → ∃ s, t[j]? = some s ∧ ∃ B q r, b < w.heap.size ∧ w.cell? ⟨b, off + 1 + j, none⟩ = some (.slice B q r) ∧ Rd (Rd RB) w (.slice B q r) s) := Lib.hid (fun j hj => by
      obtain ⟨b', off', s, B, q, r, e, hbb, hs, hu, hr⟩ := dbs_at h' (show j + 1 < (d :: t).length by simp; omega)
      simp only [Option.some.injEq, Addr.mk.injEq] at e
      obtain ⟨rfl, rfl, _⟩ := e
      exact ⟨s, by simpa using hs, B, q, r, hbb, by rwa [show off + 1 + j = off + (j + 1) by omega], hr⟩)
    have HTS : Hid (∀ j s, t[j]? = some s → tot s ≤ 1048576) := Lib.hid (fun j s hs => by have := get_le_totD (d :: t) (j + 1) s (by simpa using hs); omega)
    have htd0 : tot d ≤ 1048576 := by have := get_le_totD (d :: t) 0 d rfl; omega
    have g0 : (w.alloc (.cells #[.slice none 0 0] 31)).cell? ⟨b, off, none⟩ = some (.slice B0 q0 r0) := (bx.cell (p := ⟨b, off, none⟩) hbb0).trans hu0
    have hr0 := Lib.hid (Rd_reads (Rd_reads RB_reads) _ _ _ _ hr0 bx)
    simp only [List.length_cons] at hc hnc hcm
    have hlen : (d :: t).length = t.length + 1 := rfl
    rw [hlen]
    have hcc1 : ¬ cc = 1 := by omega
    have hcI : (2 : Int) ≤ ((t.length + 1 : Nat) : Int) ∧ ((t.length + 1 : Nat) : Int) ≤ 4 := by omega
    have hT0 := Lib.hid htd0
    clear h' hjy hx hu0 htd0 hlen hn
    go_enter Try.func16, Try.ntmps16
    go_wp2_with fail
    refine (iCnt_t _ _ hcI.1 hcI.2).mono ?_
    rintro e w' ⟨rfl, rfl⟩
    go_wp2_with fail
    refine (implCopyDb_c _ d _ hr0.out hT0.out).mono ?_
    rintro e w1 ⟨A1, l1, c1, rfl, F1⟩
    have JS0 := Lib.hid (JS.start BX.out bx F1)
    have HT0 := hT0
    clear F1
    go_wp2
    generalize w1.heap.size = g at *
    generalize w1.alloc (.cells #[.slice A1 l1 c1] 31) = wS at *
    go_loopw [21] (fun i wr => ∃ j : Nat, j ≤ t.length ∧ i = .int .i64 (j : Int) ∧ ∃ Ax lx cx D, Hid (xfold d (t.take j) = some D) ∧ Hid (tot D ≤ 1048576) ∧ Hid (JS w g wr Ax lx cx D)) (fun i _ => t.length + 0 - (intOf i).toNat)
    case atStart => exact ⟨0, Nat.zero_le _, rfl, _, _, _, _, Lib.hid rfl, HT0, JS0⟩
    case round =>
      obtain ⟨j, hj, rfl, Ax, lx, cx, D, hfd, htd, hJ⟩ := hrel
      have cg := hJ.out.b.cell 0
      by_cases hlt : j < t.length
      · obtain ⟨s, hs, B, q, r, hbb, cu, hrs⟩ := EL.out j hlt
        have g1 := (hJ.out.t.cell (p := ⟨b, off + 1 + j, none⟩) hbb).trans cu
        have hst := HTS.out j s hs
        obtain ⟨o, ho⟩ : ∃ o, xdOk D s = o := ⟨_, rfl⟩
        have J6 := Lib.hid (hJ.out.step (below_alloc wr (.cells #[.slice B q r] 31)))
        have XR := Lib.hid (implXorDb_c _ _ D s o _ J6.out.rd (Rd_reads (Rd_reads RB_reads) _ _ _ _ hrs J6.out.t) (Lib.hid ho) htd.out hst)
        have cg6 := J6.out.b.cell 0
        have HS := Lib.hid hs
        have HO := Lib.hid ho
        clear hs cu hrs hst ho J6
        go_wp2_with fail
        refine XR.out.mono ?_
        rintro e w2 ⟨A2, l2, c2, rfl, F2⟩
        have b2 := (below_alloc wr (.cells #[.slice B q r] 31)).trans (F2.below.mono (below_alloc wr _).size)
        have b7 := below_alloc w2 (.cells #[.slice A2 l2 c2] 31)
        have Bn := Lib.hid (Box.new w2 31 #[.slice A2 l2 c2])
        have n0 := Bn.out.cell 0
        have J7 := Lib.hid ((hJ.out.step b2).step b7)
        have h0 := J7.out.b.cell 0
        have h1 := J7.out.b.frozen 0
        have h2 := J7.out.r.cell 0
        have h3 := J7.out.r.frozen 0
        cases o with
        | true =>
          have hD2 : xorDb D s = xorDb D s := rfl
          have JN := Lib.hid (hJ.out.next (below_alloc wr (.cells #[.slice B q r] 31)) F2 _ b7)
          have HF2 := Lib.hid (xfold_yes hfd.out HS.out HO.out)
          have HT2 : Hid (tot (xorDb D s) ≤ 1048576) := Lib.hid (Nat.le_trans (xd_tot HO.out) (by omega))
          clear F2 b2 b7 XR
          go_wp2
          go_roundw
          case rel => exact ⟨j + 1, by omega, by go_num, _, _, _, _, HF2, HT2, JN⟩
          case measure => simp [intOf]; omega
        | false =>
          have e0 := (J7.out.r.set_ 0 (.slice none 0 0)).cell 0
          have hno : jw (d :: t) = none := by rw [HJY.out]; exact xfold_no hfd.out HS.out HO.out
          have hk2 : ok = false := by rw [← hok.out, hno]; rfl
          subst hk2
          have FF : Hid (Fresh OBB w ((w2.alloc (.cells #[.slice A2 l2 c2] 31)).setCell ⟨w.heap.size, 0, none⟩ (.slice none 0 0)) (.slice none 0 0) ((jw (d :: t)).getD [])) := Lib.hid (by rw [hno]; exact J7.out.nil)
          clear F2 b2 b7 XR
          go_wp2
          refine bodyPost_ret (v := .tuple #[.agg #[.slice none 0 0], .bool false]) (by simp [results, Try.results16, go_sem, e0]) rfl ⟨_, _, _, rfl, FF.out⟩
      · have hjn : j = t.length := by omega
        subst hjn
        have hfd := hfd.out
        rw [List.take_of_length_le (Nat.le_refl _)] at hfd
        have hye : jw (d :: t) = some D := by rw [HJY.out]; exact hfd
        have hk2 : ok = true := by rw [← hok.out, hye]; rfl
        subst hk2
        have h2 := hJ.out.r.cell 0
        have h3 := hJ.out.r.frozen 0
        have e0 := (hJ.out.r.set_ 0 (.slice Ax lx cx)).cell 0
        have FF : Hid (Fresh OBB w (wr.setCell ⟨w.heap.size, 0, none⟩ (.slice Ax lx cx)) (.slice Ax lx cx) ((jw (d :: t)).getD [])) := Lib.hid (by rw [hye]; exact hJ.out.fin)
        go_wp2
        refine bodyPost_ret (v := .tuple #[.agg #[.slice Ax lx cx], .bool true]) (by simp [results, Try.results16, go_sem, e0]) rfl ⟨_, _, _, rfl, FF.out⟩
  · have hno := jw_no hc
    have hk2 : ok = false := by rw [← hok.out, hno]; rfl
    subst hk2
    have hcI : ¬ ((2 : Int) ≤ (l.length : Int) ∧ (l.length : Int) ≤ 4) := by omega
    have HCI := Lib.hid hcI
    have e0 := BX.out.cell 0
    have FF : Hid (Fresh OBB w (w.alloc (.cells #[.slice none 0 0] 31)) (.slice none 0 0) ((jw l).getD [])) := Lib.hid (by rw [hno]; exact fresh_nilDB _ _ bx)
    clear hc hcI
    go_enter Try.func16, Try.ntmps16
    go_wp2_with fail
    refine (iCnt_f _ _ HCI.out).mono ?_
    rintro e w' ⟨rfl, rfl⟩
    go_wp2
    refine bodyPost_ret (v := .tuple #[.agg #[.slice none 0 0], .bool false]) (by simp [results, Try.results16, go_sem, e0]) rfl ⟨_, _, _, rfl, FF.out⟩
set_option maxHeartbeats 1000000 in
set_option maxRecDepth 100000 in
theorem specJw_c (v : Value) (l : List Db) (ok : Bool) (w : World) (h : Rd (Rd (Rd RB)) w v l) (hok : Hid ((jw l).isSome = ok)) (hn : totD l ≤ 1048576) :
    Calls Try.prog 21 #[v] w fun e w' => ∃ A n c, e = .returned (.tuple #[.agg #[.slice A n c], .bool ok]) ∧ Fresh OBB w w' (.slice A n c) ((jw l).getD []) := by
  obtain ⟨A, n, cc, rfl, h'⟩ := h
  obtain rfl := h'.1
  have hnc := h'.2.1
  have hcm := h'.2.2.1
  unfold maxLen at hcm
  have bx := below_alloc w (.cells #[.slice none 0 0] 31)
  have BX := Lib.hid (Box.new w 31 #[.slice none 0 0])
  by_cases hc : 2 ≤ l.length ∧ l.length ≤ 4
  · obtain ⟨d, t, rfl⟩ : ∃ d t, l = d :: t := by
      cases l with
      | nil => simp at hc
      | cons d t => exact ⟨d, t, rfl⟩
    have hjy : jw (d :: t) = xfold d t := jw_yes hc rfl
    have HJY := Lib.hid hjy
    obtain ⟨b, off, x, B0, q0, r0, rfl, hbb0, hx, hu0, hr0⟩ := dbs_at h' (show 0 < (d :: t).length by simp)
    obtain rfl : d = x := by simpa using hx
    have EL : Hid (∀ j, j < t.length → ∃ s, t[j]? = some s ∧ ∃ B q r, b < w.heap.size ∧ w.cell? ⟨b, off + (j + 1), none⟩ = some (.slice B q r) ∧ Rd (Rd RB) w (.slice B q r) s) := Lib.hid (fun j hj => by
      obtain ⟨b', off', s, B, q, r, e, hbb, hs, hu, hr⟩ := dbs_at h' (show j + 1 < (d :: t).length by simp; omega)
      simp only [Option.some.injEq, Addr.mk.injEq] at e
      obtain ⟨rfl, rfl, _⟩ := e
      exact ⟨s, by simpa using hs, B, q, r, hbb, by rwa [show off + (j + 1) = off + (j + 1) by rfl], hr⟩)
    have HTS : Hid (∀ j s, t[j]? = some s → tot s ≤ 1048576) := Lib.hid (fun j s hs => by have := get_le_totD (d :: t) (j + 1) s (by simpa using hs); omega)
    have htd0 : tot d ≤ 1048576 := by have := get_le_totD (d :: t) 0 d rfl; omega
    have g0 : (w.alloc (.cells #[.slice none 0 0] 31)).cell? ⟨b, off, none⟩ = some (.slice B0 q0 r0) := (bx.cell (p := ⟨b, off, none⟩) hbb0).trans hu0
    have hr0 := Lib.hid (Rd_reads (Rd_reads RB_reads) _ _ _ _ hr0 bx)
    simp only [List.length_cons] at hc hnc hcm
    have hlen : (d :: t).length = t.length + 1 := rfl
    rw [hlen]
    have hcc1 : ¬ cc = 1 := by omega
    have hcI : (2 : Int) ≤ ((t.length + 1 : Nat) : Int) ∧ ((t.length + 1 : Nat) : Int) ≤ 4 := by omega
    have hT0 := Lib.hid htd0
    clear h' hjy hx hu0 htd0 hlen hn
    have VD := Lib.hid (specIsValidDatabase_c _ d _ hr0.out)
    obtain ⟨vo, hvo⟩ : ∃ b : Bool, dbOk d = b := ⟨_, rfl⟩
    rw [hvo] at VD
    cases vo with
    | false =>
      obtain ⟨s, hs, _⟩ := EL.out 0 (by omega)
      have hno : jw (d :: t) = none := by
        rw [HJY.out]
        exact xfold_no (k := 0) (s := s) (D := d) rfl hs (by unfold xdOk; rw [hvo]; rfl)
      have hk2 : ok = false := by rw [← hok.out, hno]; rfl
      subst hk2
      have Bn := BX.out
      clear hs hvo EL HTS
      go_enter Try.func21, Try.ntmps21
      go_wp2_with fail
      refine (sCnt_t _ _ hcI.1 hcI.2).mono ?_
      rintro e w' ⟨rfl, rfl⟩
      go_wp2_with fail
      refine VD.out.mono ?_
      rintro e w1 ⟨rfl, b1⟩
      have B1 := Bn.below b1 Bn.lt
      have h2 := B1.cell 0
      have h3 := B1.frozen 0
      have e0 := (B1.set_ 0 (.slice none 0 0)).cell 0
      have T1 := bx.trans (b1.mono bx.size)
      have FF : Hid (Fresh OBB w (w1.setCell ⟨w.heap.size, 0, none⟩ (.slice none 0 0)) (.slice none 0 0) ((jw (d :: t)).getD [])) := Lib.hid (by rw [hno]; exact fresh_nilDB _ _ (T1.setCell (Nat.le_refl _) _))
      go_wp2
      refine bodyPost_ret (v := .tuple #[.agg #[.slice none 0 0], .bool false]) (by simp [results, Try.results21, go_sem, e0]) rfl ⟨_, _, _, rfl, FF.out⟩
    | true =>
      clear hvo
      go_enter Try.func21, Try.ntmps21
      go_wp2_with fail
      refine (sCnt_t _ _ hcI.1 hcI.2).mono ?_
      rintro e w' ⟨rfl, rfl⟩
      go_wp2_with fail
      refine VD.out.mono ?_
      rintro e w1 ⟨rfl, b1⟩
      have T1 := Lib.hid (bx.trans (b1.mono bx.size))
      have BX1 := Lib.hid (BX.out.below b1 BX.out.lt)
      have g0 := (b1.cell (p := ⟨b, off, none⟩) (Nat.lt_of_lt_of_le hbb0 bx.size)).trans g0
      have hr1 := Lib.hid (Rd_reads (Rd_reads RB_reads) _ _ _ _ hr0.out b1)
      clear b1 VD
      go_wp2_with fail
      refine (specCopyDb_c _ d _ hr1.out hT0.out).mono ?_
      rintro e w2 ⟨A1, l1, c1, rfl, F1⟩
      have JS0 := Lib.hid (JS.start BX1.out T1.out F1)
      have HT0 := hT0
      clear F1
      go_wp2
      generalize w2.heap.size = g at *
      generalize w2.alloc (.cells #[.slice A1 l1 c1] 31) = wS at *
      go_loopw [5] (fun i wr => ∃ j : Nat, j ≤ t.length ∧ i = .int .i64 ((j + 1 : Nat) : Int) ∧ ∃ Ax lx cx D, Hid (xfold d (t.take j) = some D) ∧ Hid (tot D ≤ 1048576) ∧ Hid (JS w g wr Ax lx cx D)) (fun i _ => t.length + 1 - (intOf i).toNat)
      case atStart => exact ⟨0, Nat.zero_le _, rfl, _, _, _, _, Lib.hid rfl, HT0, JS0⟩
      case round =>
        obtain ⟨j, hj, rfl, Ax, lx, cx, D, hfd, htd, hJ⟩ := hrel
        have cg := hJ.out.b.cell 0
        by_cases hlt : j < t.length
        · obtain ⟨s, hs, B, q, r, hbb, cu, hrs⟩ := EL.out j hlt
          have g1 := (hJ.out.t.cell (p := ⟨b, off + (j + 1), none⟩) hbb).trans cu
          have hst := HTS.out j s hs
          obtain ⟨o, ho⟩ : ∃ o, xdOk D s = o := ⟨_, rfl⟩
          have dL : Below wr.heap.size wr wr.drew := (Below.refl _ _).drew
          have dA : Below wr.heap.size wr (wr.alloc (.cells #[.slice none 0 0] 31)).drew := (below_alloc wr (.cells #[.slice none 0 0] 31)).drew
          have hbw : b < wr.heap.size := Nat.lt_of_lt_of_le hbb hJ.out.t.size
          have KC : Hid (∀ W, Below wr.heap.size wr W → W.cell? ⟨g, 0, none⟩ = some (.slice Ax lx cx) ∧ W.cell? ⟨b, off + (j + 1), none⟩ = some (.slice B q r)) := Lib.hid (fun W hW => ⟨(hJ.out.step hW).b.cell 0, (hW.cell (p := ⟨b, off + (j + 1), none⟩) hbw).trans g1⟩)
          have XR : Hid (∀ W, Below wr.heap.size wr W → Calls Try.prog 22 #[.agg #[.slice Ax lx cx], .agg #[.slice B q r]] W fun e w' => ∃ A l c, e = .returned (.tuple #[.agg #[.slice A l c], .bool o]) ∧ Fresh OBB W w' (.slice A l c) (xorDb D s)) := Lib.hid (fun W hW => specXorDb_c _ _ D s o W (hJ.out.step hW).rd (Rd_reads (Rd_reads RB_reads) _ _ _ _ hrs (hJ.out.t.trans (hW.mono hJ.out.t.size))) (Lib.hid ho) htd.out hst)
          have kc := KC.out _ dL
          have kcA := KC.out _ dA
          have HS := Lib.hid hs
          have HO := Lib.hid ho
          have hj0 : (0 : Int) ≤ (j : Int) + 1 := by omega
          have hj1 : (j : Int) + 1 < (t.length : Int) + 1 := by omega
          have hj2 : ((j : Int) + 1).toNat = j + 1 := by omega
          have hj3 : ((j + 1 : Nat) : Int) = (j : Int) + 1 := by omega
          clear hs cu hrs hst ho
          go_wp2_with fail
          go_region_held3 (fun W => W.cell? ⟨g, 0, none⟩ = some (.slice Ax lx cx) ∧ W.cell? ⟨b, off + (j + 1), none⟩ = some (.slice B q r))
            (first | assumption | exact ⟨kcS.1, kcS.2⟩ | exact ⟨kcB.1, kcB.2⟩ | go_keep)
            (first | (go_at_call 22; refine (XR.out _ (by first | exact dL | exact dA)).mono ?_; rintro e w2 ⟨A2, l2, c2, rfl, F2⟩; have b2 : Below wr.heap.size wr w2 := (by first | exact dL.trans (F2.below.mono dL.size) | exact dA.trans (F2.below.mono dA.size)); have kc := KC.out _ b2; have kcS := KC.out _ (b2.setCell (p := ⟨wr.heap.size, 0, none⟩) (Nat.le_refl _) (.slice A2 l2 c2)); have kcB := KC.out _ (b2.alloc b2.size (.cells #[(.slice A2 l2 c2)] 31)); (try (have BN : Hid (Box w2 wr.heap.size 31 #[.slice none 0 0]) := Lib.hid (Box.below (show Box (wr.alloc (.cells #[.slice none 0 0] 31)).drew wr.heap.size 31 #[.slice none 0 0] from Box.new wr _ _) F2.below (by simp)); have x0 := BN.out.cell 0; have x1 := BN.out.frozen 0))))
          · have bW := Lib.hid (b2.alloc b2.size (.cells #[(.slice A2 l2 c2)] 31))
            have Bn := Lib.hid (Box.new w2 31 #[(.slice A2 l2 c2)])
            have JN := Lib.hid (hJ.out.next2 (W1 := wr.drew) (Nat.le_refl _) F2 bW.out (fun q h1 h2 => Below.heap_alloc _ _ _ h2))
            have J7 := Lib.hid (hJ.out.step bW.out)
            clear kcS kcB kcA kc dL dA XR KC F2 b2
            generalize (w2.alloc (.cells #[(.slice A2 l2 c2)] 31)) = w7 at *
            generalize w2.heap.size = gn at *
            have n0 := Bn.out.cell 0
            have h0 := J7.out.b.cell 0
            have h1 := J7.out.b.frozen 0
            have h2 := J7.out.r.cell 0
            have h3 := J7.out.r.frozen 0
            cases o with
            | true =>
              have HF2 := Lib.hid (xfold_yes hfd.out HS.out HO.out)
              have HT2 : Hid (tot (xorDb D s) ≤ 1048576) := Lib.hid (Nat.le_trans (xd_tot HO.out) (by omega))
              go_wp2
              go_roundw
              case rel => exact ⟨j + 1, by omega, by go_num, _, _, _, _, HF2, HT2, JN⟩
              case measure => simp [intOf]; omega
            | false =>
              have e0 := (J7.out.r.set_ 0 (.slice none 0 0)).cell 0
              have hno : jw (d :: t) = none := by rw [HJY.out]; exact xfold_no hfd.out HS.out HO.out
              have hk2 : ok = false := by rw [← hok.out, hno]; rfl
              subst hk2
              have FF : Hid (Fresh OBB w (w7.setCell ⟨w.heap.size, 0, none⟩ (.slice none 0 0)) (.slice none 0 0) ((jw (d :: t)).getD [])) := Lib.hid (by rw [hno]; exact J7.out.nil)
              go_wp2
              refine bodyPost_ret (v := .tuple #[.agg #[.slice none 0 0], .bool false]) (by simp [results, Try.results21, go_sem, e0]) rfl ⟨_, _, _, rfl, FF.out⟩
          · have bW := Lib.hid (b2.setCell (p := ⟨wr.heap.size, 0, none⟩) (Nat.le_refl _) (.slice A2 l2 c2))
            have Bn := Lib.hid (BN.out.set_ 0 (.slice A2 l2 c2))
            have JN := Lib.hid (hJ.out.next2 (W1 := (wr.alloc (.cells #[.slice none 0 0] 31)).drew) (by simp) F2 bW.out (fun q h1 h2 => Below.heap_setCell _ _ _ _ (by have h3 : wr.heap.size + 1 ≤ q := (by simpa using h1); show q ≠ wr.heap.size; omega)))
            have J7 := Lib.hid (hJ.out.step bW.out)
            clear kcS kcB kcA kc dL dA XR KC F2 b2 BN x0 x1
            generalize (w2.setCell ⟨wr.heap.size, 0, none⟩ (.slice A2 l2 c2)) = w7 at *
            generalize wr.heap.size = gn at *
            have n0 := Bn.out.cell 0
            have h0 := J7.out.b.cell 0
            have h1 := J7.out.b.frozen 0
            have h2 := J7.out.r.cell 0
            have h3 := J7.out.r.frozen 0
            cases o with
            | true =>
              have HF2 := Lib.hid (xfold_yes hfd.out HS.out HO.out)
              have HT2 : Hid (tot (xorDb D s) ≤ 1048576) := Lib.hid (Nat.le_trans (xd_tot HO.out) (by omega))
              go_wp2
              go_roundw
              case rel => exact ⟨j + 1, by omega, by go_num, _, _, _, _, HF2, HT2, JN⟩
              case measure => simp [intOf]; omega
            | false =>
              have e0 := (J7.out.r.set_ 0 (.slice none 0 0)).cell 0
              have hno : jw (d :: t) = none := by rw [HJY.out]; exact xfold_no hfd.out HS.out HO.out
              have hk2 : ok = false := by rw [← hok.out, hno]; rfl
              subst hk2
              have FF : Hid (Fresh OBB w (w7.setCell ⟨w.heap.size, 0, none⟩ (.slice none 0 0)) (.slice none 0 0) ((jw (d :: t)).getD [])) := Lib.hid (by rw [hno]; exact J7.out.nil)
              go_wp2
              refine bodyPost_ret (v := .tuple #[.agg #[.slice none 0 0], .bool false]) (by simp [results, Try.results21, go_sem, e0]) rfl ⟨_, _, _, rfl, FF.out⟩
        · have hjn : j = t.length := by omega
          subst hjn
          have hfd := hfd.out
          rw [List.take_of_length_le (Nat.le_refl _)] at hfd
          have hye : jw (d :: t) = some D := by rw [HJY.out]; exact hfd
          have hk2 : ok = true := by rw [← hok.out, hye]; rfl
          subst hk2
          have h2 := hJ.out.r.cell 0
          have h3 := hJ.out.r.frozen 0
          have e0 := (hJ.out.r.set_ 0 (.slice Ax lx cx)).cell 0
          have FF : Hid (Fresh OBB w (wr.setCell ⟨w.heap.size, 0, none⟩ (.slice Ax lx cx)) (.slice Ax lx cx) ((jw (d :: t)).getD [])) := Lib.hid (by rw [hye]; exact hJ.out.fin)
          have hj0 : ((t.length + 1 : Nat) : Int) = (t.length : Int) + 1 := by omega
          go_wp2
          refine bodyPost_ret (v := .tuple #[.agg #[.slice Ax lx cx], .bool true]) (by simp [results, Try.results21, go_sem, e0]) rfl ⟨_, _, _, rfl, FF.out⟩
  · have hno := jw_no hc
    have hk2 : ok = false := by rw [← hok.out, hno]; rfl
    subst hk2
    have hcI : ¬ ((2 : Int) ≤ (l.length : Int) ∧ (l.length : Int) ≤ 4) := by omega
    have HCI := Lib.hid hcI
    have e0 := BX.out.cell 0
    have FF : Hid (Fresh OBB w (w.alloc (.cells #[.slice none 0 0] 31)) (.slice none 0 0) ((jw l).getD [])) := Lib.hid (by rw [hno]; exact fresh_nilDB _ _ bx)
    clear hc hcI
    go_enter Try.func21, Try.ntmps21
    go_wp2_with fail
    refine (sCnt_f _ _ HCI.out).mono ?_
    rintro e w' ⟨rfl, rfl⟩
    go_wp2
    refine bodyPost_ret (v := .tuple #[.agg #[.slice none 0 0], .bool false]) (by simp [results, Try.results21, go_sem, e0]) rfl ⟨_, _, _, rfl, FF.out⟩
end Go.Proofs.Ytokhogdocaeelaa
