/- FnExactShareVector, for every argument, no condition: the program's ShareVector returns what the reference's returns, in memory of its own, and leaves its arguments as they were. -/
import Derived.Test.YtceogegjghmonaaShVec
import Derived.Test.YtceogegjghmonaaNestFns
namespace Go.Proofs.Ytceogegjghmonaa.fnExactShareVector
set_option linter.unusedVariables false
open Go.RowKit Go.ChangeShapes Go.WideShapes Go.ChangeAt

set_option maxHeartbeats 4000000 in
set_option maxRecDepth 100000 in
theorem walk (w : World) (v0 : Value) (x0 : List Int) (y0 : (Rd RI) w v0 x0) (v1 : Value) (x1 : List Int) (y1 : (Rd RI) w v1 x1) :
    Calls Try.prog 11 #[v0, v1] w fun e w' => e = .returned (.bool true) ∧ Below w.heap.size w w' := by
  obtain ⟨A0, l0, c0, rfl, g0⟩ := y0
  obtain rfl := g0.1
  have hc0 := Nat.le_trans g0.2.1 g0.2.2.1
  unfold maxLen at hc0
  replace y0 : (Rd RI) w (.slice A0 x0.length c0) x0 := ⟨_, _, _, rfl, g0⟩
  clear g0
  obtain ⟨A1, l1, c1, rfl, g1⟩ := y1
  obtain rfl := g1.1
  have hc1 := Nat.le_trans g1.2.1 g1.2.2.1
  unfold maxLen at hc1
  replace y1 : (Rd RI) w (.slice A1 x1.length c1) x1 := ⟨_, _, _, rfl, g1⟩
  clear g1
  by_cases hl0 : x0.length ≤ 1048576
  rotate_left
  · go_enter Try.func11, Try.ntmps11
    go_wp2
    go_ret
    exact ⟨rfl, Below.refl _ _⟩
  by_cases hl1 : x1.length ≤ 1048576
  rotate_left
  · go_enter Try.func11, Try.ntmps11
    go_wp2
    go_ret
    exact ⟨rfl, Below.refl _ _⟩
  have hrl := shVec_len x0 x1
  have hrs := shVec_sum x0 x1
  have hrs2 : sumL (shVec x0 x1) ≤ 256 := shVec_sum x0 x1
  go_enter Try.func11, Try.ntmps11
  have T := Below.refl w.heap.size w
  go_wp2_with fail
  refine (to_ints _ _ _  ((Rd_reads RI_reads) _ _ _ _ y0 T) (by omega)).mono ?_
  rintro e w1_ ⟨Vs0, rfl, F⟩
  have b := F.below
  replace T := T.trans (b.mono T.size)
  have s0 := Fresh.iv (Own_good FI_good) F
  have s1_ := b.size
  clear F b
  go_wp2_with fail
  refine (to_ints _ _ _  ((Rd_reads RI_reads) _ _ _ _ y1 T) (by omega)).mono ?_
  rintro e w2_ ⟨Vs1, rfl, F⟩
  have b := F.below
  replace s0 := Iv.below (Own_good FI_good) s0 b
  replace T := T.trans (b.mono T.size)
  have s1 := Fresh.iv (Own_good FI_good) F
  have s2_ := b.size
  clear F b
  go_wp2_with fail
  refine (specShVec_c _ _ _ _ _ (rd_ints s0) (rd_ints s1) (by omega) (by omega)).mono ?_
  rintro e w3_ ⟨Vw, rfl, F⟩
  have b := F.below
  replace s0 := Iv.below (Own_good FI_good) s0 b
  replace s1 := Iv.below (Own_good FI_good) s1 b
  replace T := T.trans (b.mono T.size)
  have fw := Fresh.iv OII_good F
  have s3_ := b.size
  clear F b
  clear s0
  clear s1
  go_wp2_with fail
  refine (to_ints _ _ _  ((Rd_reads RI_reads) _ _ _ _ y0 T) (by omega)).mono ?_
  rintro e w4_ ⟨Vx_0, rfl, F⟩
  have b := F.below
  replace fw := Iv.below OII_good fw b
  replace T := T.trans (b.mono T.size)
  have x_0 := Fresh.iv (Own_good FI_good) F
  have s4_ := b.size
  clear F b
  go_wp2_with fail
  refine (to_ints _ _ _  ((Rd_reads RI_reads) _ _ _ _ y1 T) (by omega)).mono ?_
  rintro e w5_ ⟨Vx_1, rfl, F⟩
  have b := F.below
  replace fw := Iv.below OII_good fw b
  replace x_0 := Iv.below (Own_good FI_good) x_0 b
  replace T := T.trans (b.mono T.size)
  have x_1 := Fresh.iv (Own_good FI_good) F
  have s5_ := b.size
  clear F b
  go_wp2_with fail
  refine (implShVec_c _ _ _ _ _ (rd_ints x_0) (rd_ints x_1) (by omega) (by omega)).mono ?_
  rintro e w6_ ⟨Vg, rfl, F⟩
  have b := F.below
  replace fw := Iv.below OII_good fw b
  replace x_0 := Iv.below (Own_good FI_good) x_0 b
  replace x_1 := Iv.below (Own_good FI_good) x_1 b
  replace T := T.trans (b.mono T.size)
  have fg := Fresh.iv OII_good F
  have s6_ := b.size
  clear F b
  go_wp2_with fail
  refine (eq_intss _ _ _ _  (rd_intss fg) (rd_intss fw)).mono ?_
  rintro e w7_ ⟨rfl, b⟩
  replace fw := Iv.below OII_good fw b
  replace x_0 := Iv.below (Own_good FI_good) x_0 b
  replace x_1 := Iv.below (Own_good FI_good) x_1 b
  replace fg := Iv.below OII_good fg b
  replace T := T.trans (b.mono T.size)
  have s7_ := b.size
  clear b
  go_wp2_with fail
  refine (to_ints _ _ _  ((Rd_reads RI_reads) _ _ _ _ y0 T) (by omega)).mono ?_
  rintro e w8_ ⟨Vft, rfl, F⟩
  have b := F.below
  replace fw := Iv.below OII_good fw b
  replace x_0 := Iv.below (Own_good FI_good) x_0 b
  replace x_1 := Iv.below (Own_good FI_good) x_1 b
  replace fg := Iv.below OII_good fg b
  replace T := T.trans (b.mono T.size)
  have ft := Fresh.iv (Own_good FI_good) F
  have s8_ := b.size
  clear F b
  go_wp2_with fail
  refine (eq_ints _ _ _ _  (rd_ints x_0) (rd_ints ft)).mono ?_
  rintro e w9_ ⟨rfl, b⟩
  replace fw := Iv.below OII_good fw b
  replace x_0 := Iv.below (Own_good FI_good) x_0 b
  replace x_1 := Iv.below (Own_good FI_good) x_1 b
  replace fg := Iv.below OII_good fg b
  replace ft := Iv.below (Own_good FI_good) ft b
  replace T := T.trans (b.mono T.size)
  have s9_ := b.size
  clear b
  clear ft
  go_wp2_with fail
  refine (to_ints _ _ _  ((Rd_reads RI_reads) _ _ _ _ y1 T) (by omega)).mono ?_
  rintro e w10_ ⟨Vft, rfl, F⟩
  have b := F.below
  replace fw := Iv.below OII_good fw b
  replace x_0 := Iv.below (Own_good FI_good) x_0 b
  replace x_1 := Iv.below (Own_good FI_good) x_1 b
  replace fg := Iv.below OII_good fg b
  replace T := T.trans (b.mono T.size)
  have ft := Fresh.iv (Own_good FI_good) F
  have s10_ := b.size
  clear F b
  go_wp2_with fail
  refine (eq_ints _ _ _ _  (rd_ints x_1) (rd_ints ft)).mono ?_
  rintro e w11_ ⟨rfl, b⟩
  replace fw := Iv.below OII_good fw b
  replace x_0 := Iv.below (Own_good FI_good) x_0 b
  replace x_1 := Iv.below (Own_good FI_good) x_1 b
  replace fg := Iv.below OII_good fg b
  replace ft := Iv.below (Own_good FI_good) ft b
  replace T := T.trans (b.mono T.size)
  have s11_ := b.size
  clear b
  clear ft
  go_wp2_with fail
  refine (mark_ints _ _ _ _ _ _ x_0 (by omega) (by omega)).mono ?_
  rintro e w12_ ⟨rfl, f_, c⟩
  have s12_ := c.size
  replace fw := Iv.chg OII_good fw c (by omega)
  replace x_1 := Iv.chg (Own_good FI_good) x_1 c (by omega)
  replace fg := Iv.chg OII_good fg c (by omega)
  replace T := T.trans (c.below (by omega) T.size)
  clear x_0 c
  have x_0 := f_
  clear f_
  go_wp2_with fail
  refine (mark_ints _ _ _ _ _ _ x_1 (by omega) (by omega)).mono ?_
  rintro e w13_ ⟨rfl, f_, c⟩
  have s13_ := c.size
  replace fw := Iv.chg OII_good fw c (by omega)
  replace x_0 := Iv.chg (Own_good FI_good) x_0 c (by omega)
  replace fg := Iv.chg OII_good fg c (by omega)
  replace T := T.trans (c.below (by omega) T.size)
  clear x_1 c
  have x_1 := f_
  clear f_
  go_wp2_with fail
  refine (eq_intss _ _ _ _  (rd_intss fg) (rd_intss fw)).mono ?_
  rintro e w14_ ⟨rfl, b⟩
  replace fw := Iv.below OII_good fw b
  replace x_0 := Iv.below (Own_good FI_good) x_0 b
  replace x_1 := Iv.below (Own_good FI_good) x_1 b
  replace fg := Iv.below OII_good fg b
  replace T := T.trans (b.mono T.size)
  have s14_ := b.size
  clear b
  clear x_0
  clear x_1
  go_wp2_with fail
  refine (mark_intss _ _ _ _ _ _ fg (by omega) (by omega)).mono ?_
  rintro e w15_ ⟨rfl, f_, c⟩
  have s15_ := c.size
  replace fw := Iv.chg OII_good fw c (by omega)
  replace T := T.trans (c.below (by omega) T.size)
  clear fg c
  have fg := f_
  clear f_
  go_wp2_with fail
  refine (held_intss _ _ _ _  (rd_intss fg) (by omega) (by omega)).mono ?_
  rintro e w16_ ⟨rfl, b⟩
  replace fw := Iv.below OII_good fw b
  replace fg := Iv.below OII_good fg b
  replace T := T.trans (b.mono T.size)
  have s16_ := b.size
  clear b
  go_wp2_with fail
  refine (to_ints _ _ _  ((Rd_reads RI_reads) _ _ _ _ y0 T) (by omega)).mono ?_
  rintro e w17_ ⟨Vz_0, rfl, F⟩
  have b := F.below
  replace fw := Iv.below OII_good fw b
  replace fg := Iv.below OII_good fg b
  replace T := T.trans (b.mono T.size)
  have z_0 := Fresh.iv (Own_good FI_good) F
  have s17_ := b.size
  clear F b
  go_wp2_with fail
  refine (to_ints _ _ _  ((Rd_reads RI_reads) _ _ _ _ y1 T) (by omega)).mono ?_
  rintro e w18_ ⟨Vz_1, rfl, F⟩
  have b := F.below
  replace fw := Iv.below OII_good fw b
  replace fg := Iv.below OII_good fg b
  replace z_0 := Iv.below (Own_good FI_good) z_0 b
  replace T := T.trans (b.mono T.size)
  have z_1 := Fresh.iv (Own_good FI_good) F
  have s18_ := b.size
  clear F b
  go_wp2_with fail
  refine (implShVec_c _ _ _ _ _ (rd_ints z_0) (rd_ints z_1) (by omega) (by omega)).mono ?_
  rintro e w19_ ⟨Vh, rfl, F⟩
  have b := F.below
  replace fw := Iv.below OII_good fw b
  replace fg := Iv.below OII_good fg b
  replace z_0 := Iv.below (Own_good FI_good) z_0 b
  replace z_1 := Iv.below (Own_good FI_good) z_1 b
  replace T := T.trans (b.mono T.size)
  have fh := Fresh.iv OII_good F
  have s19_ := b.size
  clear F b
  go_wp2_with fail
  refine (eq_intss _ _ _ _  (rd_intss fh) (rd_intss fw)).mono ?_
  rintro e w20_ ⟨rfl, b⟩
  replace fw := Iv.below OII_good fw b
  replace fg := Iv.below OII_good fg b
  replace z_0 := Iv.below (Own_good FI_good) z_0 b
  replace z_1 := Iv.below (Own_good FI_good) z_1 b
  replace fh := Iv.below OII_good fh b
  replace T := T.trans (b.mono T.size)
  have s20_ := b.size
  clear b
  clear z_0
  clear z_1
  go_wp2_with fail
  refine (held_intss _ _ _ _  (rd_intss fg) (by omega) (by omega)).mono ?_
  rintro e w21_ ⟨rfl, b⟩
  replace fw := Iv.below OII_good fw b
  replace fg := Iv.below OII_good fg b
  replace fh := Iv.below OII_good fh b
  replace T := T.trans (b.mono T.size)
  have s21_ := b.size
  clear b
  go_wp2
  go_ret
  exact ⟨rfl, T⟩

set_option maxRecDepth 100000 in
theorem lifted (os : Os) (started : os.Started) (H : Type) (enc : TypeId × Value → H) :
    ReturnsInHanded {} Try.checked os 11 .any (Rows.fnExactShareVectorSpec.pre6 enc Try.prog Try.f11 Rows.fnExactShareVectorRow.domain false) (Rows.fnExactShareVectorSpec.post enc Try.prog Try.f11 false true false false) := by
  refine returnsInHanded_of_change (C := Try.checked) own_ started (by kernel_rfl) Try.func11
    (ChangeSpec.witness6 (enc := enc) (C := Try.checked) false ⟨#[], #[.slice none 0 0, .slice none 0 0], []⟩ 8 (by kernel_rfl) (by kernel_rfl) (by kernel_rfl) (by kernel_rfl)) ?_
  intro W base args ds gs before hval0 hW hcnd _
  have hval : ∀ (j : Nat) t v, Try.f11.params[j]? = some t → args[j]? = some v → Value.okWide Try.prog W .any base t v := hval0
  have hW' := hW
  obtain ⟨p, q, hA0, hV, rfl, hfz, hnd⟩ := hW
  have hA : DataW.TrodAll enc Try.prog W 0 (fun _ => true) true Try.f11.params.toList args.toList ds p := hA0
  rw [Try.params11] at hA hval
  obtain ⟨v0, vs0, d0, ds0, p0, q0, hargs, rfl, rfl, h0, r0⟩ := trodAll_cons hA
  obtain ⟨v1, vs1, d1, ds1, p1, q1, rfl, rfl, rfl, h1, r1⟩ := trodAll_cons r0
  obtain ⟨rfl, rfl, rfl⟩ := trodAll_nil r1
  obtain rfl : args = #[v0, v1] := by cases args; simp_all
  obtain ⟨rfl, rfl⟩ := trodVars_none hV
  have k0 := h0
  have lt0 : ∀ x ∈ p0, x.block < W.heap.size := by obtain ⟨m, hm⟩ := k0; exact DataW.trod_lt m _ _ _ hm
  obtain ⟨x0, y0⟩ := open_val Try.underlying27 (opens_slice Try.underlying27 (by kernel_rfl) (opens_i64 Try.underlying3)) (hval 0 27 v0 rfl rfl) h0
  have k1 := h1
  have lt1 : ∀ x ∈ p1, x.block < W.heap.size := by obtain ⟨m, hm⟩ := k1; exact DataW.trod_lt m _ _ _ hm
  obtain ⟨x1, y1⟩ := open_val Try.underlying27 (opens_slice Try.underlying27 (by kernel_rfl) (opens_i64 Try.underlying3)) (hval 1 27 v1 rfl rfl) h1
  clear hA0 hval0
  refine (walk W v0 x0 y0 v1 x1 y1).mono fun e W' ⟨he, bel⟩ => ?_
  subst he
  exact ⟨_, rfl, _, _, _, [], _, [], hW', trodAll_mk1 (shut_bool Try.underlying4 _), (trodAll_cons_mk (Below.trod laid_ (by kernel_rfl) (of_decide_eq_true (by kernel_rfl)) k0 bel lt0) (trodAll_cons_mk (Below.trod laid_ (by kernel_rfl) (of_decide_eq_true (by kernel_rfl)) k1 bel lt1) trodAll_mk0)), rfl, bel.frame _, fun h => by cases h⟩

theorem over : Rows.fnExactShareVectorRow.holds Try.pinned (OpenSpec.ofChange Rows.fnExactShareVectorSpec) :=
  OpenClaim.holds_of_wide 11 Try.f11 rfl rfl rfl rfl rfl rfl rfl ⟨rfl, rfl, rfl, rfl, rfl⟩ rfl rfl rfl rfl rfl (by kernel_rfl) Try.func11 (by kernel_rfl)
    (of_decide_eq_true (by kernel_rfl)) (by unfold Func.isWrapper; first | (rw [if_pos (by decide +kernel)]; kernel_rfl) | (rw [if_neg (by decide +kernel)]; exact ⟨rfl, rfl⟩))
    (fun os started H enc _ => lifted os started H enc)

theorem proved : Rows.FnExactShareVectorSaid := over
end Go.Proofs.Ytceogegjghmonaa.fnExactShareVector
