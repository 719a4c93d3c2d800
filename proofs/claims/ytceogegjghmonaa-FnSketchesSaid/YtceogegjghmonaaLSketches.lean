/- FnSketches, for every argument, no condition: a shared vector with at most one nonzero component is always accepted, however it is shared. -/
import Derived.Test.YtceogegjghmonaaDrawSk
import Derived.Test.YtceogegjghmonaaSkP
import Derived.Test.YtceogegjghmonaaAt
import Derived.Test.YtceogegjghmonaaXorAlg
import Derived.Test.YtceogegjghmonaaKeep
namespace Go.Proofs.Ytceogegjghmonaa.fnSketches
set_option linter.unusedVariables false
open Go.RowKit Go.ChangeShapes Go.WideShapes Go.ChangeAt

set_option maxHeartbeats 1000000 in
set_option maxRecDepth 100000 in
theorem walk (w : World) (v0 : Value) (x0 : List UInt8) (y0 : Rd RB w v0 x0) :
    Calls Try.prog 12 #[v0] w fun e w' => e = .returned (.bool true) ∧ Below w.heap.size w w' := by
  by_cases hl : x0.length ≤ 1048576
  · have HB := Lib.hid (big_f _ x0 w y0 hl)
    have AT : Hid (∀ i : Int, ∀ W, Below w.heap.size w W → 0 ≤ i → i ≤ 1000000 → Calls Try.prog 27 #[v0, .int .i64 i] W fun e w' => e = .returned (.int .i64 (atI x0 i)) ∧ W = w') := Lib.hid (fun i W hb h0 h1 => at_c _ x0 i W (Rd_reads RB_reads _ _ _ _ y0 hb) hl h0 h1)
    have DC : Hid (∀ W, Below w.heap.size w W → Calls Try.prog 73 #[v0] W fun e w' => ∃ v' ls s, e = .returned (.tuple #[v', .int .i64 s]) ∧ Rd (Rd RI) w' v' ls ∧ Below W.heap.size W w') := Lib.hid (fun W hb => drawCs_c _ x0 W (Rd_reads RB_reads _ _ _ _ y0 hb) hl)
    have b0 := atI_bd x0 0
    have b1 := atI_bd x0 1
    have b2 := atI_bd x0 2
    have b3 := atI_bd x0 3
    have b4 := atI_bd x0 4
    have b5 := atI_bd x0 5
    obtain ⟨a0, e0⟩ : ∃ a, atI x0 0 = a := ⟨_, rfl⟩
    obtain ⟨a1, e1⟩ : ∃ a, atI x0 1 = a := ⟨_, rfl⟩
    obtain ⟨a2, e2⟩ : ∃ a, atI x0 2 = a := ⟨_, rfl⟩
    obtain ⟨a3, e3⟩ : ∃ a, atI x0 3 = a := ⟨_, rfl⟩
    obtain ⟨a4, e4⟩ : ∃ a, atI x0 4 = a := ⟨_, rfl⟩
    obtain ⟨a5, e5⟩ : ∃ a, atI x0 5 = a := ⟨_, rfl⟩
    rw [e0] at b0
    rw [e1] at b1
    rw [e2] at b2
    rw [e3] at b3
    rw [e4] at b4
    rw [e5] at b5
    have E0 := Lib.hid e0
    have E1 := Lib.hid e1
    have E2 := Lib.hid e2
    have E3 := Lib.hid e3
    have E4 := Lib.hid e4
    have E5 := Lib.hid e5
    clear e0 e1 e2 e3 e4 e5 y0 hl
    obtain ⟨n, hn⟩ : ∃ n : Nat, 1 + a0 % 20 = (n : Int) := ⟨(1 + a0 % 20).toNat, by omega⟩
    have hn1 : 1 ≤ n := by omega
    have hn20 : n ≤ 20 := by omega
    obtain ⟨i, hi⟩ : ∃ i : Nat, a1 % (n : Int) = (i : Int) := ⟨(a1 % (n : Int)).toNat, by have := Int.emod_nonneg a1 (show (n : Int) ≠ 0 by omega); omega⟩
    have hin : i < n := by have := Int.emod_lt_of_pos a1 (show 0 < (n : Int) by omega); omega
    obtain ⟨x, hx⟩ : ∃ x, a2 * 4 % 1019 = x := ⟨_, rfl⟩
    have hxb : 0 ≤ x ∧ x ≤ 1018 := by omega
    have CK := chk_one n i x a5 [a3 * 5, a4 * 3] hin (by omega) hxb (by simp) (by simp)
    have CA := cntA_one n i x 0 20 hin (by omega) hxb
    obtain ⟨ck1, ck2, ck3, ck4, ck5⟩ := CK
    have K1 := Lib.hid ck1
    have K2 := Lib.hid ck2
    have K3 := Lib.hid ck3
    have K4 := Lib.hid ck4
    have K5 := Lib.hid ck5
    have HCA := Lib.hid CA
    clear ck1 ck2 ck3 ck4 ck5 CA
    have hmk : ∀ W : World, (Instr.makeSlice 27 (.int .i64 n) (.int .i64 n)).run Try.prog W = .ok (.slice (some ⟨W.heap.size, 0, none⟩) n n) (W.alloc (.cells (madeCells #[.int .i64 0] n) 3)) := fun W => by
      simpa using run_mk elI .i64 .i64 n (by omega) (by omega) W
    have R1 := RowI_made 3 w.heap.size w n (Nat.le_refl _) (by omega)
    have b1w := below_alloc w (.cells (madeCells #[.int .i64 0] n) 3)
    go_enter Try.func12, Try.ntmps12
    go_wp2_with fail
    refine HB.out.mono ?_
    rintro e w' ⟨rfl, rfl⟩
    go_wp2_with fail
    refine (AT.out 0 _ (Below.refl _ _) (by omega) (by omega)).mono ?_
    rintro e w' ⟨rfl, rfl⟩
    rw [E0.out]
    go_wp2_with fail
    generalize hw1 : w.alloc (.cells (madeCells #[.int .i64 0] n) 3) = w1 at *
    have hgv : w.heap.size < w1.heap.size := by rw [← hw1]; simp
    clear hw1
    have cst : w1.drew.cell? ⟨w.heap.size, i, none⟩ = some (.int .i64 0) := (R1.1.cellAt i (by omega)).trans (by simp [hin])
    have fst_ : w1.drew.frozen? ⟨w.heap.size, i, none⟩ = false := R1.1.frozenAt i
    have hm1 : a1.tmod (n : Int) = (i : Int) := by rw [Int.tmod_eq_emod_of_nonneg (by omega)]; exact hi
    have hn0 : ¬ n = 0 := by omega
    have hi0 : (0 : Int) ≤ (i : Int) := by omega
    have hin' : (i : Int) < (n : Int) := by omega
    have hw2 : IntKind.i64.wrap (a2 * 4) = a2 * 4 := IntWalk.i64_in _ (by omega)
    have hm2 : (a2 * 4).tmod 1019 = x := by rw [Int.tmod_eq_emod_of_nonneg (by omega)]; exact hx
    have tL : Below w.heap.size w w1.drew := b1w.drew
    have A1 : Hid (Calls Try.prog 27 #[v0, .int .i64 1] w1.drew fun e w' => e = .returned (.int .i64 a1) ∧ w1.drew = w') := Lib.hid (by have := AT.out 1 _ tL (by omega) (by omega); rwa [E1.out] at this)
    have A2 : Hid (Calls Try.prog 27 #[v0, .int .i64 2] w1.drew fun e w' => e = .returned (.int .i64 a2) ∧ w1.drew = w') := Lib.hid (by have := AT.out 2 _ tL (by omega) (by omega); rwa [E2.out] at this)
    go_region_law (first
      | (go_simp; ((with_reducible refine A1.out.mono ?_); rintro e wa ⟨rfl, rfl⟩))
      | (go_simp; ((with_reducible refine A2.out.mono ?_); rintro e wa ⟨rfl, rfl⟩)))
    all_goals
      have R5 : Row 3 w.heap.size (w1.setCell ⟨w.heap.size, i, none⟩ (.int .i64 x)).drew (.slice (some ⟨w.heap.size, 0, none⟩) n n) n ((one n i x).map fun x => Value.int .i64 x) := (R1.setI x).below (Below.refl _ _).drew
      have T5 : Below w.heap.size w (w1.setCell ⟨w.heap.size, i, none⟩ (.int .i64 x)).drew := (b1w.setCell (p := ⟨w.heap.size, i, none⟩) (Nat.le_refl _) (.int .i64 x)).drew
      generalize (w1.setCell ⟨w.heap.size, i, none⟩ (.int .i64 x)).drew = w5 at *
      have RV : Hid (∀ W, Below w5.heap.size w5 W → Rd RI W (.slice (some ⟨w.heap.size, 0, none⟩) n n) (one n i x)) := Lib.hid (fun W hW => Rd_reads RI_reads _ _ _ _ (rd_rowI R5.1 rfl) hW)
      have tM := Below.refl w5.heap.size w5
      have bl := below_alloc w5 (.cells #[.int .i64 (a3 * 5), .int .i64 (a4 * 3)] 3)
      have RS := Lib.hid (rd_rowI (Row_lit (E := 3) (B := w5.heap.size) w5 #[.int .i64 (a3 * 5), .int .i64 (a4 * 3)] (Nat.le_refl _) (by simp [maxLen])).1 (xs := [a3 * 5, a4 * 3]) rfl)
      have SV := Lib.hid (implShVec_c _ _ _ _ _ (RV.out _ bl) RS.out (by rw [one_len]; omega) (by simp))
      clear R1 R5 b1w cst fst_ A1 A2 tL hmk
      go_wp2_with fail
      refine (AT.out 3 _ T5 (by omega) (by omega)).mono ?_
      rintro e w' ⟨rfl, rfl⟩
      rw [E3.out]
      go_wp2_with fail
      refine (AT.out 4 _ T5 (by omega) (by omega)).mono ?_
      rintro e w' ⟨rfl, rfl⟩
      rw [E4.out]
      go_wp2_with fail
      refine SV.out.mono ?_
      rintro e w6 ⟨v6, rfl, F6⟩
      have t6 := bl.trans (F6.below.mono bl.size)
      have rl := (F6.iv OII_good).rd (R' := Rd RI) (fun q => q.rd (fun z => z.ri))
      obtain ⟨A6, l6, c6, rfl⟩ := fresh_slice F6
      obtain rfl : l6 = 3 := by have h1 := rl.at_same.1; have h2 := K1.out; simp at h2; omega
      have RL : Hid (∀ W, Below w6.heap.size w6 W → Rd (Rd RI) W (.slice A6 3 c6) (shVec (one n i x) [a3 * 5, a4 * 3])) := Lib.hid (fun W hW => Rd_reads (Rd_reads RI_reads) _ _ _ _ rl hW)
      have T6 := T5.trans (t6.mono T5.size)
      clear F6 rl SV RS bl
      go_wp2_with fail
      refine (AT.out 5 _ T6 (by omega) (by omega)).mono ?_
      rintro e w' ⟨rfl, rfl⟩
      rw [E5.out]
      have CC := implCheck_c _ _ a5 w6 (RL.out _ (Below.refl _ _))
      rw [K2.out] at CC
      go_wp2_with fail
      refine CC.mono ?_
      rintro e w7 ⟨rfl, b7⟩
      have T7 := T6.trans (b7.mono T6.size)
      clear CC
      go_wp2_with fail
      refine (AT.out 5 _ T7 (by omega) (by omega)).mono ?_
      rintro e w' ⟨rfl, rfl⟩
      rw [E5.out]
      have JJ := implJoinSk_c _ _ a5 w7 (RL.out _ b7)
      rw [K3.out, K4.out, K5.out] at JJ
      go_wp2_with fail
      refine JJ.mono ?_
      rintro e w8 ⟨rfl, b8⟩
      have T8 := T7.trans (b8.mono T7.size)
      have t8 := t6.trans ((b7.trans (b8.mono b7.size)).mono t6.size)
      clear JJ
      go_wp2_with fail
      refine (AT.out 5 _ T8 (by omega) (by omega)).mono ?_
      rintro e w' ⟨rfl, rfl⟩
      rw [E5.out]
      go_wp2_with fail
      refine (implSketch_c _ _ a5 w8 (RV.out _ t8)).mono ?_
      rintro e w9 ⟨rfl, b9⟩
      have T9 := T8.trans (b9.mono T8.size)
      have t9 := t8.trans (b9.mono t8.size)
      go_wp2_with fail
      refine (DC.out _ T9).mono ?_
      rintro e w10 ⟨vs, ls, s, rfl, rs, b10⟩
      have T10 := T9.trans (b10.mono T9.size)
      have t10 := t9.trans (b10.mono t9.size)
      have RSS : Hid (∀ W, Below w10.heap.size w10 W → Rd (Rd RI) W vs ls) := Lib.hid (fun W hW => Rd_reads (Rd_reads RI_reads) _ _ _ _ rs hW)
      obtain ⟨r, hr⟩ : ∃ r, chal s 3 = r := ⟨_, rfl⟩
      have hrb := chal_range s 3
      rw [hr] at hrb
      have CH := implChallenge_c s 3 w10
      rw [hr] at CH
      clear rs hr b9
      go_wp2_with fail
      refine CH.mono ?_
      rintro e w11 ⟨rfl, b11⟩
      have T11 := T10.trans (b11.mono T10.size)
      have t11 := t10.trans (b11.mono t10.size)
      have CT := implCount_c _ _ 0 20 w11 (RV.out _ t11)
      rw [show clampN 20 200 = 20 from rfl, HCA.out] at CT
      generalize sk1 (one n i x) a5 = z1 at *
      generalize sk2 (one n i x) a5 = z2 at *
      generalize sk3 (one n i x) a5 = z3 at *
      have hr1 : (1 : Int) ≤ r := hrb.1
      have hr2 : r < 1019 := by omega
      clear CH
      go_wp2_with fail
      refine CT.mono ?_
      rintro e w12 ⟨rfl, b12⟩
      have T12 := T11.trans (b12.mono T11.size)
      have s12 := b11.trans (b12.mono b11.size)
      obtain ⟨ok, hok⟩ : ∃ ok, chk ls s = ok := ⟨_, rfl⟩
      have C1 := implCheck_c _ _ s w12 (RSS.out _ s12)
      rw [hok] at C1
      go_wp2_with fail
      refine C1.mono ?_
      rintro e w13 ⟨rfl, b13⟩
      have T13 := T12.trans (b13.mono T12.size)
      have s13 := s12.trans (b13.mono s12.size)
      have C2 := specCheck_c _ _ s w13 (RSS.out _ s13)
      rw [hok] at C2
      go_wp2_with fail
      refine C2.mono ?_
      rintro e w14 ⟨rfl, b14⟩
      have T14 := T13.trans (b14.mono T13.size)
      clear C1 C2 hok
      go_wp2
      go_ret
      exact ⟨rfl, T14⟩
  · have HB := Lib.hid (big_t _ x0 w y0 hl)
    clear y0 hl
    go_enter Try.func12, Try.ntmps12
    go_wp2_with fail
    refine HB.out.mono ?_
    rintro e w' ⟨rfl, rfl⟩
    go_wp2
    go_ret
    exact ⟨rfl, Below.refl _ _⟩

set_option maxRecDepth 100000 in
theorem lifted (os : Os) (started : os.Started) (H : Type) (enc : TypeId × Value → H) :
    ReturnsInHanded {} Try.checked os 12 .any (Rows.fnSketchesSpec.pre6 enc Try.prog Try.f12 Rows.fnSketchesRow.domain false) (Rows.fnSketchesSpec.post enc Try.prog Try.f12 false true false false) := by
  refine returnsInHanded_of_change (C := Try.checked) own_ started (by kernel_rfl) Try.func12
    (ChangeSpec.witness6 (enc := enc) (C := Try.checked) false ⟨#[], #[.slice none 0 0], []⟩ 8 (by kernel_rfl) (by kernel_rfl) (by kernel_rfl) (by kernel_rfl)) ?_
  intro W base args ds gs before hval0 hW hcnd _
  have hval : ∀ (j : Nat) t v, Try.f12.params[j]? = some t → args[j]? = some v → Value.okWide Try.prog W .any base t v := hval0
  have hW' := hW
  obtain ⟨p, q, hA0, hV, rfl, hfz, hnd⟩ := hW
  have hA : DataW.TrodAll enc Try.prog W 0 (fun _ => true) true Try.f12.params.toList args.toList ds p := hA0
  rw [Try.params12] at hA hval
  obtain ⟨v0, vs0, d0, ds0, p0, q0, hargs, rfl, rfl, h0, r0⟩ := trodAll_cons hA
  obtain ⟨rfl, rfl, rfl⟩ := trodAll_nil r0
  obtain rfl : args = #[v0] := by cases args; simp_all
  obtain ⟨rfl, rfl⟩ := trodVars_none hV
  have k0 := h0
  have lt0 : ∀ x ∈ p0, x.block < W.heap.size := by obtain ⟨m, hm⟩ := k0; exact DataW.trod_lt m _ _ _ hm
  obtain ⟨x0, y0⟩ := open_val Try.underlying22 (opens_slice Try.underlying22 (by kernel_rfl) (opens_u8 Try.underlying5)) (hval 0 22 v0 rfl rfl) h0
  clear hA0 hval0
  refine (walk W v0 x0 y0).mono fun e W' ⟨he, bel⟩ => ?_
  subst he
  exact ⟨_, rfl, _, _, _, [], _, [], hW', trodAll_mk1 (shut_bool Try.underlying4 _), (trodAll_cons_mk (Below.trod laid_ (by kernel_rfl) (of_decide_eq_true (by kernel_rfl)) k0 bel lt0) trodAll_mk0), rfl, bel.frame _, fun h => by cases h⟩

theorem over : Rows.fnSketchesRow.holds Try.pinned (OpenSpec.ofChange Rows.fnSketchesSpec) :=
  OpenClaim.holds_of_wide 12 Try.f12 rfl rfl rfl rfl rfl rfl rfl ⟨rfl, rfl, rfl, rfl, rfl⟩ rfl rfl rfl rfl rfl (by kernel_rfl) Try.func12 (by kernel_rfl)
    (of_decide_eq_true (by kernel_rfl)) (by unfold Func.isWrapper; first | (rw [if_pos (by decide +kernel)]; kernel_rfl) | (rw [if_neg (by decide +kernel)]; exact ⟨rfl, rfl⟩))
    (fun os started H enc _ => lifted os started H enc)

theorem proved : Rows.FnSketchesSaid := over
end Go.Proofs.Ytceogegjghmonaa.fnSketches
