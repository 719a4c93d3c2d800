/- FnExactMakeWrite, for every argument, no condition: the program's MakeWrite returns what the reference's returns, in memory of its own, and leaves its arguments as they were. -/
import Derived.Test.YtokhogdocaeelaaMw
import Derived.Test.YtokhogdocaeelaaMwS
import Derived.Deep.RegionHeld3
namespace Go.Proofs.Ytokhogdocaeelaa.fnExactMakeWrite
set_option linter.unusedVariables false
open Go.RowKit Go.ChangeShapes Go.WideShapes Go.ChangeAt

set_option maxHeartbeats 4000000 in
set_option maxRecDepth 100000 in
theorem walk (w : World) (a0 : Int) (w0 : (Lit.int .i64 a0).wf = true) (a1 : Int) (w1 : (Lit.int .i64 a1).wf = true) (v2 : Value) (x2 : List UInt8) (y2 : (Rd RB) w v2 x2) (v3 : Value) (x3 : List Int) (y3 : (Rd RI) w v3 x3) :
    Calls Try.prog 7 #[.int .i64 a0, .int .i64 a1, v2, v3] w fun e w' => e = .returned (.bool true) ∧ Below w.heap.size w w' := by
  obtain ⟨A2, l2, c2, rfl, g2⟩ := y2
  obtain rfl := g2.1
  have hc2 := Nat.le_trans g2.2.1 g2.2.2.1
  unfold maxLen at hc2
  replace y2 : (Rd RB) w (.slice A2 x2.length c2) x2 := ⟨_, _, _, rfl, g2⟩
  clear g2
  obtain ⟨A3, l3, c3, rfl, g3⟩ := y3
  obtain rfl := g3.1
  have hc3 := Nat.le_trans g3.2.1 g3.2.2.1
  unfold maxLen at hc3
  replace y3 : (Rd RI) w (.slice A3 x3.length c3) x3 := ⟨_, _, _, rfl, g3⟩
  clear g3
  by_cases hl2 : x2.length ≤ 1048576
  rotate_left
  · go_enter Try.func7, Try.ntmps7
    go_wp2
    go_ret
    exact ⟨rfl, Below.refl _ _⟩
  by_cases hl3 : x3.length ≤ 1048576
  rotate_left
  · go_enter Try.func7, Try.ntmps7
    go_wp2
    go_ret
    exact ⟨rfl, Below.refl _ _⟩
  have hsl := mw_bd a0 a1 x2 x3
  have hw0 := wf_i64 w0
  have hw1 := wf_i64 w1
  go_enter Try.func7, Try.ntmps7
  have T := Below.refl w.heap.size w
  go_wp2_with fail
  refine (to_bytes _ _ _  ((Rd_reads RB_reads) _ _ _ _ y2 T) (by omega)).mono ?_
  rintro e w1_ ⟨Vs2, rfl, F⟩
  have b := F.below
  replace T := T.trans (b.mono T.size)
  have s2 := Fresh.iv (Own_good FB_good) F
  have s1_ := b.size
  clear F b
  go_wp2_with fail
  refine (to_ints _ _ _  ((Rd_reads RI_reads) _ _ _ _ y3 T) (by omega)).mono ?_
  rintro e w2_ ⟨Vs3, rfl, F⟩
  have b := F.below
  replace s2 := Iv.below (Own_good FB_good) s2 b
  replace T := T.trans (b.mono T.size)
  have s3 := Fresh.iv (Own_good FI_good) F
  have s2_ := b.size
  clear F b
  go_wp2_with fail
  refine (specMw_c _ _ _ _ _ _ _ (rd_bytes s2) (rd_ints s3) (by omega) (by omega) hw1.1 hw1.2 hw0.1 hw0.2).mono ?_
  rintro e w3_ ⟨Vw, rfl, F⟩
  have b := F.below
  replace s2 := Iv.below (Own_good FB_good) s2 b
  replace s3 := Iv.below (Own_good FI_good) s3 b
  replace T := T.trans (b.mono T.size)
  have fw := Fresh.iv ODB_good F
  have s3_ := b.size
  clear F b
  clear s2
  clear s3
  go_wp2_with fail
  refine (to_bytes _ _ _  ((Rd_reads RB_reads) _ _ _ _ y2 T) (by omega)).mono ?_
  rintro e w4_ ⟨Vx_2, rfl, F⟩
  have b := F.below
  replace fw := Iv.below ODB_good fw b
  replace T := T.trans (b.mono T.size)
  have x_2 := Fresh.iv (Own_good FB_good) F
  have s4_ := b.size
  clear F b
  go_wp2_with fail
  refine (to_ints _ _ _  ((Rd_reads RI_reads) _ _ _ _ y3 T) (by omega)).mono ?_
  rintro e w5_ ⟨Vx_3, rfl, F⟩
  have b := F.below
  replace fw := Iv.below ODB_good fw b
  replace x_2 := Iv.below (Own_good FB_good) x_2 b
  replace T := T.trans (b.mono T.size)
  have x_3 := Fresh.iv (Own_good FI_good) F
  have s5_ := b.size
  clear F b
  go_wp2_with fail
  refine (implMw_c _ _ _ _ _ _ _ (rd_bytes x_2) (rd_ints x_3) (by omega) (by omega) hw1.1 hw1.2 hw0.1 hw0.2).mono ?_
  rintro e w6_ ⟨Vg, rfl, F⟩
  have b := F.below
  replace fw := Iv.below ODB_good fw b
  replace x_2 := Iv.below (Own_good FB_good) x_2 b
  replace x_3 := Iv.below (Own_good FI_good) x_3 b
  replace T := T.trans (b.mono T.size)
  have fg := Fresh.iv ODB_good F
  have s6_ := b.size
  clear F b
  go_wp2_with fail
  refine (eq_dbs _ _ _ _  (rd_dbs fg) (rd_dbs fw)).mono ?_
  rintro e w7_ ⟨rfl, b⟩
  replace fw := Iv.below ODB_good fw b
  replace x_2 := Iv.below (Own_good FB_good) x_2 b
  replace x_3 := Iv.below (Own_good FI_good) x_3 b
  replace fg := Iv.below ODB_good fg b
  replace T := T.trans (b.mono T.size)
  have s7_ := b.size
  clear b
  go_wp2_with fail
  refine (to_bytes _ _ _  ((Rd_reads RB_reads) _ _ _ _ y2 T) (by omega)).mono ?_
  rintro e w8_ ⟨Vft, rfl, F⟩
  have b := F.below
  replace fw := Iv.below ODB_good fw b
  replace x_2 := Iv.below (Own_good FB_good) x_2 b
  replace x_3 := Iv.below (Own_good FI_good) x_3 b
  replace fg := Iv.below ODB_good fg b
  replace T := T.trans (b.mono T.size)
  have ft := Fresh.iv (Own_good FB_good) F
  have s8_ := b.size
  clear F b
  go_wp2_with fail
  refine (eq_bytes _ _ _ _  (rd_bytes x_2) (rd_bytes ft)).mono ?_
  rintro e w9_ ⟨rfl, b⟩
  replace fw := Iv.below ODB_good fw b
  replace x_2 := Iv.below (Own_good FB_good) x_2 b
  replace x_3 := Iv.below (Own_good FI_good) x_3 b
  replace fg := Iv.below ODB_good fg b
  replace ft := Iv.below (Own_good FB_good) ft b
  replace T := T.trans (b.mono T.size)
  have s9_ := b.size
  clear b
  clear ft
  go_wp2_with fail
  refine (to_ints _ _ _  ((Rd_reads RI_reads) _ _ _ _ y3 T) (by omega)).mono ?_
  rintro e w10_ ⟨Vft, rfl, F⟩
  have b := F.below
  replace fw := Iv.below ODB_good fw b
  replace x_2 := Iv.below (Own_good FB_good) x_2 b
  replace x_3 := Iv.below (Own_good FI_good) x_3 b
  replace fg := Iv.below ODB_good fg b
  replace T := T.trans (b.mono T.size)
  have ft := Fresh.iv (Own_good FI_good) F
  have s10_ := b.size
  clear F b
  go_wp2_with fail
  refine (eq_ints _ _ _ _  (rd_ints x_3) (rd_ints ft)).mono ?_
  rintro e w11_ ⟨rfl, b⟩
  replace fw := Iv.below ODB_good fw b
  replace x_2 := Iv.below (Own_good FB_good) x_2 b
  replace x_3 := Iv.below (Own_good FI_good) x_3 b
  replace fg := Iv.below ODB_good fg b
  replace ft := Iv.below (Own_good FI_good) ft b
  replace T := T.trans (b.mono T.size)
  have s11_ := b.size
  clear b
  clear ft
  go_wp2_with fail
  refine (mark_bytes _ _ _ _ _ _ x_2 (by omega) (by omega)).mono ?_
  rintro e w12_ ⟨rfl, f_, c⟩
  have s12_ := c.size
  replace fw := Iv.chg ODB_good fw c (by omega)
  replace x_3 := Iv.chg (Own_good FI_good) x_3 c (by omega)
  replace fg := Iv.chg ODB_good fg c (by omega)
  replace T := T.trans (c.below (by omega) T.size)
  clear x_2 c
  have x_2 := f_
  clear f_
  go_wp2_with fail
  refine (mark_ints _ _ _ _ _ _ x_3 (by omega) (by omega)).mono ?_
  rintro e w13_ ⟨rfl, f_, c⟩
  have s13_ := c.size
  replace fw := Iv.chg ODB_good fw c (by omega)
  replace x_2 := Iv.chg (Own_good FB_good) x_2 c (by omega)
  replace fg := Iv.chg ODB_good fg c (by omega)
  replace T := T.trans (c.below (by omega) T.size)
  clear x_3 c
  have x_3 := f_
  clear f_
  go_wp2_with fail
  refine (eq_dbs _ _ _ _  (rd_dbs fg) (rd_dbs fw)).mono ?_
  rintro e w14_ ⟨rfl, b⟩
  replace fw := Iv.below ODB_good fw b
  replace x_2 := Iv.below (Own_good FB_good) x_2 b
  replace x_3 := Iv.below (Own_good FI_good) x_3 b
  replace fg := Iv.below ODB_good fg b
  replace T := T.trans (b.mono T.size)
  have s14_ := b.size
  clear b
  clear x_2
  clear x_3
  go_wp2_with fail
  refine (mark_dbs _ _ _ _ _ _ fg (by omega) (by omega)).mono ?_
  rintro e w15_ ⟨rfl, f_, c⟩
  have s15_ := c.size
  replace fw := Iv.chg ODB_good fw c (by omega)
  replace T := T.trans (c.below (by omega) T.size)
  clear fg c
  have fg := f_
  clear f_
  go_wp2_with fail
  refine (held_dbs _ _ _ _  (rd_dbs fg) (by omega) (by omega)).mono ?_
  rintro e w16_ ⟨rfl, b⟩
  replace fw := Iv.below ODB_good fw b
  replace fg := Iv.below ODB_good fg b
  replace T := T.trans (b.mono T.size)
  have s16_ := b.size
  clear b
  go_wp2_with fail
  refine (to_bytes _ _ _  ((Rd_reads RB_reads) _ _ _ _ y2 T) (by omega)).mono ?_
  rintro e w17_ ⟨Vz_2, rfl, F⟩
  have b := F.below
  replace fw := Iv.below ODB_good fw b
  replace fg := Iv.below ODB_good fg b
  replace T := T.trans (b.mono T.size)
  have z_2 := Fresh.iv (Own_good FB_good) F
  have s17_ := b.size
  clear F b
  go_wp2_with fail
  refine (to_ints _ _ _  ((Rd_reads RI_reads) _ _ _ _ y3 T) (by omega)).mono ?_
  rintro e w18_ ⟨Vz_3, rfl, F⟩
  have b := F.below
  replace fw := Iv.below ODB_good fw b
  replace fg := Iv.below ODB_good fg b
  replace z_2 := Iv.below (Own_good FB_good) z_2 b
  replace T := T.trans (b.mono T.size)
  have z_3 := Fresh.iv (Own_good FI_good) F
  have s18_ := b.size
  clear F b
  go_wp2_with fail
  refine (implMw_c _ _ _ _ _ _ _ (rd_bytes z_2) (rd_ints z_3) (by omega) (by omega) hw1.1 hw1.2 hw0.1 hw0.2).mono ?_
  rintro e w19_ ⟨Vh, rfl, F⟩
  have b := F.below
  replace fw := Iv.below ODB_good fw b
  replace fg := Iv.below ODB_good fg b
  replace z_2 := Iv.below (Own_good FB_good) z_2 b
  replace z_3 := Iv.below (Own_good FI_good) z_3 b
  replace T := T.trans (b.mono T.size)
  have fh := Fresh.iv ODB_good F
  have s19_ := b.size
  clear F b
  go_wp2_with fail
  refine (eq_dbs _ _ _ _  (rd_dbs fh) (rd_dbs fw)).mono ?_
  rintro e w20_ ⟨rfl, b⟩
  replace fw := Iv.below ODB_good fw b
  replace fg := Iv.below ODB_good fg b
  replace z_2 := Iv.below (Own_good FB_good) z_2 b
  replace z_3 := Iv.below (Own_good FI_good) z_3 b
  replace fh := Iv.below ODB_good fh b
  replace T := T.trans (b.mono T.size)
  have s20_ := b.size
  clear b
  clear z_2
  clear z_3
  go_wp2_with fail
  refine (held_dbs _ _ _ _  (rd_dbs fg) (by omega) (by omega)).mono ?_
  rintro e w21_ ⟨rfl, b⟩
  replace fw := Iv.below ODB_good fw b
  replace fg := Iv.below ODB_good fg b
  replace fh := Iv.below ODB_good fh b
  replace T := T.trans (b.mono T.size)
  have s21_ := b.size
  clear b
  go_wp2
  go_ret
  exact ⟨rfl, T⟩

set_option maxRecDepth 100000 in
theorem lifted (os : Os) (started : os.Started) (H : Type) (enc : TypeId × Value → H) :
    ReturnsInHanded {} Try.checked os 7 .any (Rows.fnExactMakeWriteSpec.pre6 enc Try.prog Try.f7 Rows.fnExactMakeWriteRow.domain false) (Rows.fnExactMakeWriteSpec.post enc Try.prog Try.f7 false true false false) := by
  refine returnsInHanded_of_change (C := Try.checked) own_ started (by kernel_rfl) Try.func7
    (ChangeSpec.witness6 (enc := enc) (C := Try.checked) false ⟨#[], #[.int .i64 0, .int .i64 0, .slice none 0 0, .slice none 0 0], []⟩ 8 (by kernel_rfl) (by kernel_rfl) (by kernel_rfl) (by kernel_rfl)) ?_
  intro W base args ds gs before hval0 hW hcnd _
  have hval : ∀ (j : Nat) t v, Try.f7.params[j]? = some t → args[j]? = some v → Value.okWide Try.prog W .any base t v := hval0
  have hW' := hW
  obtain ⟨p, q, hA0, hV, rfl, hfz, hnd⟩ := hW
  have hA : DataW.TrodAll enc Try.prog W 0 (fun _ => true) true Try.f7.params.toList args.toList ds p := hA0
  rw [Try.params7] at hA hval
  obtain ⟨v0, vs0, d0, ds0, p0, q0, hargs, rfl, rfl, h0, r0⟩ := trodAll_cons hA
  obtain ⟨v1, vs1, d1, ds1, p1, q1, rfl, rfl, rfl, h1, r1⟩ := trodAll_cons r0
  obtain ⟨v2, vs2, d2, ds2, p2, q2, rfl, rfl, rfl, h2, r2⟩ := trodAll_cons r1
  obtain ⟨v3, vs3, d3, ds3, p3, q3, rfl, rfl, rfl, h3, r3⟩ := trodAll_cons r2
  obtain ⟨rfl, rfl, rfl⟩ := trodAll_nil r3
  obtain rfl : args = #[v0, v1, v2, v3] := by cases args; simp_all
  obtain ⟨rfl, rfl⟩ := trodVars_none hV
  obtain ⟨a0, rfl, rfl, rfl, w0⟩ := open_int Try.underlying3 (hval 0 3 v0 rfl rfl) h0
  obtain ⟨a1, rfl, rfl, rfl, w1⟩ := open_int Try.underlying3 (hval 1 3 v1 rfl rfl) h1
  have k2 := h2
  have lt2 : ∀ x ∈ p2, x.block < W.heap.size := by obtain ⟨m, hm⟩ := k2; exact DataW.trod_lt m _ _ _ hm
  obtain ⟨x2, y2⟩ := open_val Try.underlying22 (opens_slice Try.underlying22 (by kernel_rfl) (opens_u8 Try.underlying5)) (hval 2 22 v2 rfl rfl) h2
  have k3 := h3
  have lt3 : ∀ x ∈ p3, x.block < W.heap.size := by obtain ⟨m, hm⟩ := k3; exact DataW.trod_lt m _ _ _ hm
  obtain ⟨x3, y3⟩ := open_val Try.underlying24 (opens_slice Try.underlying24 (by kernel_rfl) (opens_i64 Try.underlying3)) (hval 3 24 v3 rfl rfl) h3
  clear hA0 hval0
  refine (walk W a0 w0 a1 w1 v2 x2 y2 v3 x3 y3).mono fun e W' ⟨he, bel⟩ => ?_
  subst he
  exact ⟨_, rfl, _, _, _, [], _, [], hW', trodAll_mk1 (shut_bool Try.underlying4 _), (trodAll_cons_mk (shut_int Try.underlying3 w0) (trodAll_cons_mk (shut_int Try.underlying3 w1) (trodAll_cons_mk (Below.trod laid_ (by kernel_rfl) (of_decide_eq_true (by kernel_rfl)) k2 bel lt2) (trodAll_cons_mk (Below.trod laid_ (by kernel_rfl) (of_decide_eq_true (by kernel_rfl)) k3 bel lt3) trodAll_mk0)))), rfl, bel.frame _, fun h => by cases h⟩

theorem over : Rows.fnExactMakeWriteRow.holds Try.pinned (OpenSpec.ofChange Rows.fnExactMakeWriteSpec) :=
  OpenClaim.holds_of_wide 7 Try.f7 rfl rfl rfl rfl rfl rfl rfl ⟨rfl, rfl, rfl, rfl, rfl⟩ rfl rfl rfl rfl rfl (by kernel_rfl) Try.func7 (by kernel_rfl)
    (of_decide_eq_true (by kernel_rfl)) (by unfold Func.isWrapper; first | (rw [if_pos (by decide +kernel)]; kernel_rfl) | (rw [if_neg (by decide +kernel)]; exact ⟨rfl, rfl⟩))
    (fun os started H enc _ => lifted os started H enc)

theorem proved : Rows.FnExactMakeWriteSaid := over
end Go.Proofs.Ytokhogdocaeelaa.fnExactMakeWrite
