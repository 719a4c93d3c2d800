/- FnPointKeys, for every argument, no condition: the selections of both keys differ exactly at the point. -/
import Derived.Test.YtceogegjghmonaaPkLaw
import Derived.Test.YtceogegjghmonaaAt
import Derived.Test.YtceogegjghmonaaSame
import Derived.Test.YtceogegjghmonaaAqAlg
import Derived.Deep.QuietTactic
import Derived.BigQuiet
namespace Go.Proofs.Ytceogegjghmonaa.fnPointKeys
set_option linter.unusedVariables false
open Go.RowKit Go.ChangeShapes Go.WideShapes Go.ChangeAt

set_option maxHeartbeats 1000000 in
set_option maxRecDepth 100000 in
theorem walk (w : World) (v0 : Value) (x0 : List UInt8) (y0 : Rd RB w v0 x0) :
    Calls Try.prog 8 #[v0] w fun e w' => e = .returned (.bool true) ∧ Below w.heap.size w w' := by
  by_cases hl : x0.length ≤ 1048576
  · have HB := Lib.hid (big_f _ x0 w y0 hl)
    have AT : Hid (∀ i : Int, ∀ W, Below w.heap.size w W → 0 ≤ i → i ≤ 1000000 → Calls Try.prog 27 #[v0, .int .i64 i] W fun e w' => e = .returned (.int .i64 (atI x0 i)) ∧ W = w') := Lib.hid (fun i W hb h0 h1 => at_c _ x0 i W (Rd_reads RB_reads _ _ _ _ y0 hb) hl h0 h1)
    have b0 := atI_bd x0 0
    have b1 := atI_bd x0 1
    have b2 := atI_bd x0 2
    have b3 := atI_bd x0 3
    obtain ⟨a0, e0⟩ : ∃ a, atI x0 0 = a := ⟨_, rfl⟩
    obtain ⟨a1, e1⟩ : ∃ a, atI x0 1 = a := ⟨_, rfl⟩
    obtain ⟨a2, e2⟩ : ∃ a, atI x0 2 = a := ⟨_, rfl⟩
    obtain ⟨a3, e3⟩ : ∃ a, atI x0 3 = a := ⟨_, rfl⟩
    rw [e0] at b0
    rw [e1] at b1
    rw [e2] at b2
    rw [e3] at b3
    have E0 := Lib.hid e0
    have E1 := Lib.hid e1
    have E2 := Lib.hid e2
    have E3 := Lib.hid e3
    clear e0 e1 e2 e3 y0 hl
    obtain ⟨n, hn⟩ : ∃ n : Nat, 1 + a0 % 6 = (n : Int) := ⟨(1 + a0 % 6).toNat, by omega⟩
    have hn1 : 1 ≤ n := by omega
    have hn6 : n ≤ 6 := by omega
    obtain ⟨q, hq, hq1, hq6⟩ := pow_bd n hn6
    obtain ⟨p, hp⟩ : ∃ p : Nat, a1 % (q : Int) = (p : Int) := ⟨(a1 % (q : Int)).toNat, by have := Int.emod_nonneg a1 (show (q : Int) ≠ 0 by omega); omega⟩
    have hpq : p < q := by have := Int.emod_lt_of_pos a1 (show 0 < (q : Int) by omega); omega
    have hqN : 2 ^ n = q := by
      have hc : ((2 ^ n : Nat) : Int) = 2 ^ n := by simp
      omega
    obtain ⟨ra, hra⟩ : ∃ ra, a2 * 77 = ra := ⟨_, rfl⟩
    obtain ⟨rb, hrb⟩ : ∃ rb, a3 * 91 + 5 = rb := ⟨_, rfl⟩
    have ra0 : 0 ≤ ra := by omega
    have ra1 : ra ≤ 2147483646 := by omega
    have rb0 : 0 ≤ rb := by omega
    have rb1 : rb ≤ 2147483646 := by omega
    have KL := keys_law ra rb (p : Int) n hn1 hn6 ⟨ra0, ra1⟩ ⟨rb0, rb1⟩ (by omega) (by rw [hq]; omega)
    have MP : Hid (∀ W, Calls Try.prog 44 #[.int .i64 (n : Int), .int .i64 (p : Int), .int .i64 ra, .int .i64 rb] W (MkFin W ra rb n (kcs ra rb p n n))) := Lib.hid (fun W => implMpk_c n (p : Int) ra rb W hn1 hn6 (by omega) (by rw [hq]; omega) ra0 ra1 rb0 rb1)
    have ka := kpk_ok ra rb (p : Int) n ra 0 hn1 hn6 ⟨ra0, ra1⟩ (by omega)
    have kb := kpk_ok ra rb (p : Int) n rb 1 hn1 hn6 ⟨rb0, rb1⟩ (by omega)
    have kl := kcs_len ra rb (p : Int) n n
    generalize kcs ra rb (p : Int) n n = K at *
    rw [hqN] at KL
    obtain ⟨sa, sb, _, hxs, hne⟩ := KL
    have la := sa.2.1
    have lb := sb.2.1
    have hpe : pkEq ra rb 0 1 K K = false := decide_eq_false (fun h => by omega)
    have hel := encPk_low ka
    have HXS := Lib.hid hxs
    have HKA := Lib.hid ka
    have HKB := Lib.hid kb
    have HKL := Lib.hid kl
    have HPE := Lib.hid hpe
    have HEL := Lib.hid hel
    have HLA := Lib.hid la
    have HLB := Lib.hid lb
    have HNE := Lib.hid hne
    have HQ := Lib.hid hq
    clear hxs ka kb kl hpe hel la lb hne sa sb
    go_enter Try.func8, Try.ntmps8
    go_wp2_with fail
    refine HB.out.mono ?_
    rintro e w' ⟨rfl, rfl⟩
    go_wp2_with fail
    refine (AT.out 0 _ (Below.refl _ _) (by omega) (by omega)).mono ?_
    rintro e w' ⟨rfl, rfl⟩
    rw [E0.out]
    go_wp2_with fail
    have hm : a1.tmod (q : Int) = (p : Int) := by rw [Int.tmod_eq_emod_of_nonneg (by omega)]; exact hp
    have A1 : Hid (Calls Try.prog 27 #[v0, .int .i64 1] w fun e w' => e = .returned (.int .i64 a1) ∧ w = w') := Lib.hid (by have := AT.out 1 w (Below.refl _ _) (by omega) (by omega); rwa [E1.out] at this)
    have A1 : Hid (∀ W, Below w.heap.size w W → Calls Try.prog 27 #[v0, .int .i64 1] W fun e w' => e = .returned (.int .i64 a1) ∧ W = w') := Lib.hid (fun W hb => by have := AT.out 1 W hb (by omega) (by omega); rwa [E1.out] at this)
    have hn0 : (0 : Int) ≤ (n : Int) := by omega
    have hq0 : ¬ q = 0 := by omega
    have hsh : IntKind.i64.wrap ((q : Int)) = (q : Int) := IntWalk.i64_in _ (by omega)
    have tL : Below w.heap.size w w.drew := (Below.refl _ _).drew
    go_region_law
      (first | (go_simp; ((with_reducible refine (A1.out _ tL).mono ?_); rintro e wa ⟨rfl, rfl⟩)))
    all_goals
      generalize hwd : w.drew = wd at *
      clear hwd
      go_wp2_with fail
      refine (AT.out 2 _ tL (by omega) (by omega)).mono ?_
      rintro e w' ⟨rfl, rfl⟩
      rw [E2.out]
      go_wp2_with fail
      refine (AT.out 3 _ tL (by omega) (by omega)).mono ?_
      rintro e w' ⟨rfl, rfl⟩
      rw [E3.out]
      go_wp2_with fail
      refine (MP.out _).mono ?_
      rintro e w1 ⟨A1, l1, c1, A2, l2, c2, rfl, o1, o2, _, _, _, bM⟩
      have T1 := tL.trans (bM.mono tL.size)
      obtain ⟨KA, KB, bX⟩ := HeldK_two (ra := ra) (rb := rb) HKL.out o1 o2
      have T2 := T1.trans (bX.mono T1.size)
      have tw := Below.refl (((w1.alloc (.cells #[.int .i64 ra, .int .i64 0, .slice A1 l1 c1] 63)).alloc (.cells #[.int .i64 rb, .int .i64 1, .slice A2 l2 c2] 63)).heap.size) ((w1.alloc (.cells #[.int .i64 ra, .int .i64 0, .slice A1 l1 c1] 63)).alloc (.cells #[.int .i64 rb, .int .i64 1, .slice A2 l2 c2] 63))
      obtain ⟨⟨pa0, pa1, pa2⟩, ra_⟩ := KA _ tw
      obtain ⟨⟨pb0, pb1, pb2⟩, rb_⟩ := KB _ tw
      have n1 : l1 = n := by
        obtain ⟨_, _, _, hv, h'⟩ := ra_
        injection hv with _ e2 _
        have := h'.1
        have := HKL.out
        omega
      subst n1
      have HKa := Lib.hid KA
      have HKb := Lib.hid KB
      clear KA KB o1 o2 bX bM T1
      go_wp2_with fail
      generalize hW0 : ((w1.alloc (.cells #[.int .i64 ra, .int .i64 0, .slice A1 l1 c1] 63)).alloc (.cells #[.int .i64 rb, .int .i64 1, .slice A2 l2 c2] 63)) = W0 at *
      generalize w1.heap.size = g at *
      clear hW0 ra_ rb_
      have VA : Hid (∀ W, Below W0.heap.size W0 W → Calls Try.prog 46 #[.agg #[.int .i64 ra, .int .i64 0, .slice A1 l1 c1]] W fun e w' => e = .returned (.bool true) ∧ Below W.heap.size W w') := Lib.hid (fun W hW => by have := implIsValidPointKey_c ra 0 _ K W (HKa.out W hW).2; rwa [HKA.out] at this)
      have VB : Hid (∀ W, Below W0.heap.size W0 W → Calls Try.prog 46 #[.agg #[.int .i64 rb, .int .i64 1, .slice A2 l2 c2]] W fun e w' => e = .returned (.bool true) ∧ Below W.heap.size W w') := Lib.hid (fun W hW => by have := implIsValidPointKey_c rb 1 _ K W (HKb.out W hW).2; rwa [HKB.out] at this)
      have tL := tw
      refine (VA.out _ tL).mono ?_
      rintro e wa ⟨rfl, ba⟩
      have tL := tL.trans (ba.mono tL.size)
      obtain ⟨⟨qa0, qa1, qa2⟩, _⟩ := HKa.out _ tL
      obtain ⟨⟨qb0, qb1, qb2⟩, _⟩ := HKb.out _ tL
      clear ba
      go_wp2_with fail
      refine (VB.out _ tL).mono ?_
      rintro e wb ⟨rfl, ba⟩
      have tL := tL.trans (ba.mono tL.size)
      obtain ⟨⟨ua0, ua1, ua2⟩, ra_⟩ := HKa.out _ tL
      obtain ⟨⟨ub0, ub1, ub2⟩, _⟩ := HKb.out _ tL
      clear ba qa0 qa1 qa2 qb0 qb1 qb2
      go_wp2_with fail
      refine (implEvAll_c ra 0 _ K _ ra_).mono ?_
      rintro e w3 ⟨vx, rfl, FX⟩
      have bx := FX.below
      have tL := tL.trans (bx.mono tL.size)
      have rdx : Hid (Rd RI w3 vx (evAll ra 0 K)) := Lib.hid ((FX.iv (Own_good FI_good)).rd (R' := RI) (fun q => q.ri))
      obtain ⟨⟨qa0, qa1, qa2⟩, _⟩ := HKa.out _ tL
      obtain ⟨⟨qb0, qb1, qb2⟩, rb_⟩ := HKb.out _ tL
      obtain ⟨Ax, lx, cx, rfl⟩ := fresh_slice FX
      clear FX bx ra_ ua0 ua1 ua2 ub0 ub1 ub2
      go_wp2_with fail
      refine (implEvAll_c rb 1 _ K _ rb_).mono ?_
      rintro e w4 ⟨vy, rfl, FY⟩
      have bY := FY.below
      have rdy : Hid (Rd RI w4 vy (evAll rb 1 K)) := Lib.hid ((FY.iv (Own_good FI_good)).rd (R' := RI) (fun q => q.ri))
      have rdx4 : Hid (Rd RI w4 (.slice Ax lx cx) (evAll ra 0 K)) := Lib.hid (Rd_reads RI_reads _ _ _ _ rdx.out bY)
      have tL := tL.trans (bY.mono tL.size)
      obtain ⟨Ay, ly, cy, rfl⟩ := fresh_slice FY
      have lx1 : lx = q := by have := rdx.out.at_same.1; have := HLA.out; omega
      subst lx1
      have tM := Lib.hid tL
      obtain ⟨ex, hex⟩ : ∃ z, evPt ra 0 K (p : Int) = z := ⟨_, rfl⟩
      obtain ⟨ey, hey⟩ : ∃ z, evPt rb 1 K (p : Int) = z := ⟨_, rfl⟩
      have hne : ¬ ex = ey := by rw [← hex, ← hey]; exact HNE.out
      have hne1 : (ex == ey) = false := by simpa using hne
      have hne2 : (ex != ey) = true := by simpa using hne
      have C1 : Hid (∀ W, Below w4.heap.size w4 W → Calls Try.prog 47 #[.slice Ax lx cx, .slice Ay ly cy] W fun e w' => ∃ v', e = .returned v' ∧ Fresh (Own 3 FI) W w' v' (unitSel (lx : Int) (p : Int))) := Lib.hid (fun W hW => by
        have := specXorSel_c _ _ _ _ W (Rd_reads RI_reads _ _ _ _ rdx4.out hW) (Rd_reads RI_reads _ _ _ _ rdy.out hW) (by have := HLA.out; omega)
        rwa [HXS.out] at this)
      have C2 : Hid (∀ W, Calls Try.prog 23 #[.int .i64 (lx : Int), .int .i64 (p : Int)] W fun e w' => ∃ v', e = .returned v' ∧ Fresh (Own 3 FI) W w' v' (unitSel (lx : Int) (p : Int))) := Lib.hid (fun W => specUnit_c _ _ W (by omega) (by omega) (by omega) (by omega))
      have C3 : Hid (∀ W v1 v2, Rd RI W v1 (unitSel (lx : Int) (p : Int)) → Rd RI W v2 (unitSel (lx : Int) (p : Int)) → Calls Try.prog 21 #[v1, v2] W fun e w' => e = .returned (.bool true) ∧ Below W.heap.size W w') := Lib.hid (fun W v1 v2 h1 h2 => sameI_c v1 v2 _ W h1 h2)
      have C4 : Hid (∀ W, Below W0.heap.size W0 W → Calls Try.prog 48 #[.agg #[.int .i64 ra, .int .i64 0, .slice A1 l1 c1], .int .i64 (p : Int)] W fun e w' => e = .returned (.int .i64 ex) ∧ Below W.heap.size W w') := Lib.hid (fun W hW => by have := implEvPt_c ra 0 _ K (p : Int) W (HKa.out W hW).2 (by omega) (by omega); rwa [hex] at this)
      have C5 : Hid (∀ W, Below W0.heap.size W0 W → Calls Try.prog 48 #[.agg #[.int .i64 rb, .int .i64 1, .slice A2 l2 c2], .int .i64 (p : Int)] W fun e w' => e = .returned (.int .i64 ey) ∧ Below W.heap.size W w') := Lib.hid (fun W hW => by have := implEvPt_c rb 1 _ K (p : Int) W (HKb.out W hW).2 (by omega) (by omega); rwa [hey] at this)
      have C6 : Hid (∀ W, Below W0.heap.size W0 W → Calls Try.prog 49 #[.agg #[.int .i64 ra, .int .i64 0, .slice A1 l1 c1], .agg #[.int .i64 rb, .int .i64 1, .slice A2 l2 c2]] W fun e w' => e = .returned (.bool false) ∧ Below W.heap.size W w') := Lib.hid (fun W hW => by have := implEqualPointKeys_c ra 0 rb 1 _ _ K K W (HKa.out W hW).2 (HKb.out W hW).2; rwa [HPE.out] at this)
      have C7 : Hid (∀ W, Below W0.heap.size W0 W → Calls Try.prog 50 #[.agg #[.int .i64 ra, .int .i64 0, .slice A1 l1 c1]] W fun e w' => ∃ A l c, e = .returned (.slice A l c) ∧ (2 : Int) < (l : Int) ∧ Below W.heap.size W w') := Lib.hid (fun W hW => by
        refine (implEncPk_c ra 0 _ K W (HKa.out W hW).2).mono ?_
        rintro e w' ⟨v', rfl, F⟩
        have rd : Rd RB w' v' (encPk ra 0 K) := (F.iv (Own_good FB_good)).rd (R' := RB) (fun q => q.rb)
        have hb := F.below
        obtain ⟨A, l, c, rfl⟩ := fresh_slice F
        exact ⟨A, l, c, rfl, by have := rd.at_same.1; have := HEL.out; omega, hb⟩)
      have C8 : Hid (∀ W, Calls Try.prog 51 #[.int .i64 (l1 : Int)] W fun e w' => e = .returned (.int .i64 ((lx : Int) - 2 - 3 * (l1 : Int))) ∧ W = w') := Lib.hid (fun W => implSav_c l1 lx W hn1 hn6 HQ.out hq6)
      have KC : Hid (∀ W, Below W0.heap.size W0 W → W.cell? ⟨g, 0, none⟩ = some (.int .i64 ra) ∧ W.cell? ⟨g, 1, none⟩ = some (.int .i64 0) ∧ W.cell? ⟨g, 2, none⟩ = some (.slice A1 l1 c1) ∧ W.cell? ⟨g + 1, 0, none⟩ = some (.int .i64 rb) ∧ W.cell? ⟨g + 1, 1, none⟩ = some (.int .i64 1) ∧ W.cell? ⟨g + 1, 2, none⟩ = some (.slice A2 l2 c2)) := Lib.hid (fun W hW => ⟨(HKa.out W hW).1.1, (HKa.out W hW).1.2.1, (HKa.out W hW).1.2.2, (HKb.out W hW).1.1, (HKb.out W hW).1.2.1, (HKb.out W hW).1.2.2⟩)
      have hs1 : IntKind.i64.wrap ((lx : Int) - 2) = (lx : Int) - 2 := IntWalk.i64_in _ (by omega)
      have hs2 : IntKind.i64.wrap (3 * (l1 : Int)) = 3 * (l1 : Int) := IntWalk.i64_in _ (by omega)
      have hs3 : IntKind.i64.wrap ((lx : Int) - 2 - 3 * (l1 : Int)) = (lx : Int) - 2 - 3 * (l1 : Int) := IntWalk.i64_in _ (by omega)
      have t4 : Below w4.heap.size w4 w4.drew := (Below.refl _ _).drew
      have tL := tM.out.trans (t4.mono tM.out.size)
      have kc := KC.out _ tL
      clear FY bY rb_ qa0 qa1 qa2 qb0 qb1 qb2 rdx hex hey HKa HKb MP VA VB AT
      go_wp2_with fail
      go_region_held3 (fun w' => w'.cell? ⟨g, 0, none⟩ = some (.int .i64 ra) ∧ w'.cell? ⟨g, 1, none⟩ = some (.int .i64 0) ∧ w'.cell? ⟨g, 2, none⟩ = some (.slice A1 l1 c1) ∧ w'.cell? ⟨g + 1, 0, none⟩ = some (.int .i64 rb) ∧ w'.cell? ⟨g + 1, 1, none⟩ = some (.int .i64 1) ∧ w'.cell? ⟨g + 1, 2, none⟩ = some (.slice A2 l2 c2))
        (first | (exact kc) | go_keep)
        (first
          | (go_at_call 47; ((with_reducible refine (C1.out _ t4).mono ?_); rintro e wa ⟨v1, rfl, FA⟩; have ra1_ : Rd RI wa v1 (unitSel (lx : Int) (p : Int)) := (FA.iv (Own_good FI_good)).rd (R' := RI) (fun q => q.ri); have ba := FA.below; have tL := tL.trans (ba.mono tL.size); have kc := KC.out _ tL; clear FA))
          | (go_at_call 23; ((with_reducible refine (C2.out _).mono ?_); rintro e wa ⟨v2, rfl, FA⟩; have rb1_ : Rd RI wa v2 (unitSel (lx : Int) (p : Int)) := (FA.iv (Own_good FI_good)).rd (R' := RI) (fun q => q.ri); have ba := FA.below; have ra2_ := Rd_reads RI_reads _ _ _ _ ra1_ ba; have tL := tL.trans (ba.mono tL.size); have kc := KC.out _ tL; clear FA))
          | (go_at_call 21; ((with_reducible refine (C3.out _ _ _ ra2_ rb1_).mono ?_); rintro e wa ⟨rfl, ba⟩; have tL := tL.trans (ba.mono tL.size); have kc := KC.out _ tL))
          | (go_at_call 48; ((with_reducible refine (C4.out _ tL).mono ?_); rintro e wa ⟨rfl, ba⟩; have tL := tL.trans (ba.mono tL.size); have kc := KC.out _ tL))
          | (go_at_call 48; ((with_reducible refine (C5.out _ tL).mono ?_); rintro e wa ⟨rfl, ba⟩; have tL := tL.trans (ba.mono tL.size); have kc := KC.out _ tL))
          | (go_at_call 49; ((with_reducible refine (C6.out _ tL).mono ?_); rintro e wa ⟨rfl, ba⟩; have tL := tL.trans (ba.mono tL.size); have kc := KC.out _ tL))
          | (go_at_call 50; ((with_reducible refine (C7.out _ tL).mono ?_); rintro e wa ⟨Ae, le, ce, rfl, hle, ba⟩; have tL := tL.trans (ba.mono tL.size); have kc := KC.out _ tL))
          | (go_at_call 51; ((with_reducible refine (C8.out _).mono ?_); rintro e wa ⟨rfl, rfl⟩)))
      all_goals
        go_wp2
        go_ret
        exact ⟨rfl, T2.trans (tL.mono T2.size)⟩
  · have HB := Lib.hid (big_t _ x0 w y0 hl)
    clear y0 hl
    go_enter Try.func8, Try.ntmps8
    go_wp2_with fail
    refine HB.out.mono ?_
    rintro e w' ⟨rfl, rfl⟩
    go_wp2
    go_ret
    exact ⟨rfl, Below.refl _ _⟩

set_option maxRecDepth 100000 in
theorem lifted (os : Os) (started : os.Started) (H : Type) (enc : TypeId × Value → H) :
    ReturnsInHanded {} Try.checked os 8 .any (Rows.fnPointKeysSpec.pre6 enc Try.prog Try.f8 Rows.fnPointKeysRow.domain false) (Rows.fnPointKeysSpec.post enc Try.prog Try.f8 false true false false) := by
  refine returnsInHanded_of_change (C := Try.checked) own_ started (by kernel_rfl) Try.func8
    (ChangeSpec.witness6 (enc := enc) (C := Try.checked) false ⟨#[], #[.slice none 0 0], []⟩ 8 (by kernel_rfl) (by kernel_rfl) (by kernel_rfl) (by kernel_rfl)) ?_
  intro W base args ds gs before hval0 hW hcnd _
  have hval : ∀ (j : Nat) t v, Try.f8.params[j]? = some t → args[j]? = some v → Value.okWide Try.prog W .any base t v := hval0
  have hW' := hW
  obtain ⟨p, q, hA0, hV, rfl, hfz, hnd⟩ := hW
  have hA : DataW.TrodAll enc Try.prog W 0 (fun _ => true) true Try.f8.params.toList args.toList ds p := hA0
  rw [Try.params8] at hA hval
  obtain ⟨v0, vs0, d0, ds0, p0, q0, hargs, rfl, rfl, h0, r0⟩ := trodAll_cons hA
  obtain ⟨rfl, rfl, rfl⟩ := trodAll_nil r0
  obtain rfl : args = #[v0] := by cases args; simp_all
  obtain ⟨rfl, rfl⟩ := trodVars_none hV
  have k0 := h0
  have lt0 : ∀ x ∈ p0, x.block < W.heap.size := by obtain ⟨m, hm⟩ := k0; exact DataW.trod_lt m _ _ _ hm
  obtain ⟨x0, y0⟩ := open_val Try.underlying22 (opens_slice Try.underlying22 (by kernel_rfl) (opens_u8 Try.underlying5)) (hval 0 22 v0 rfl rfl) h0
  clear hA0 hval0
  refine (walk W v0 x0 y0).mono fun e W' ⟨he, bel⟩ => ?_
  subst he
  exact ⟨_, rfl, _, _, _, [], _, [], hW', trodAll_mk1 (shut_bool Try.underlying4 _), (trodAll_cons_mk (Below.trod laid_ (by kernel_rfl) (of_decide_eq_true (by kernel_rfl)) k0 bel lt0) trodAll_mk0), rfl, bel.frame _, fun h => by cases h⟩

theorem over : Rows.fnPointKeysRow.holds Try.pinned (OpenSpec.ofChange Rows.fnPointKeysSpec) :=
  OpenClaim.holds_of_wide 8 Try.f8 rfl rfl rfl rfl rfl rfl rfl ⟨rfl, rfl, rfl, rfl, rfl⟩ rfl rfl rfl rfl rfl (by kernel_rfl) Try.func8 (by kernel_rfl)
    (of_decide_eq_true (by kernel_rfl)) (by unfold Func.isWrapper; first | (rw [if_pos (by decide +kernel)]; kernel_rfl) | (rw [if_neg (by decide +kernel)]; exact ⟨rfl, rfl⟩))
    (fun os started H enc _ => lifted os started H enc)

theorem proved : Rows.FnPointKeysSaid := over
end Go.Proofs.Ytceogegjghmonaa.fnPointKeys
