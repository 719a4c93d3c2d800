/- FnExactRefreshShares, for every argument, no condition: the program's RefreshShares returns what the reference's returns, in memory of its own, and leaves its arguments as they were. -/
import Derived.Test.YtlnlkkgcfhngbaaRfS
import Derived.Test.YtlnlkkgcfhngbaaNestFns
namespace Go.Proofs.Ytlnlkkgcfhngbaa.fnExactRefreshShares
set_option linter.unusedVariables false
open Go.RowKit Go.ChangeShapes Go.WideShapes Go.ChangeAt

set_option maxHeartbeats 4000000 in
set_option maxRecDepth 100000 in
theorem walk (w : World) (v0 : Value) (x0 : List (List UInt8)) (y0 : (Rd (Rd RB)) w v0 x0) (v1 : Value) (x1 : List Int) (y1 : (Rd RI) w v1 x1) :
    Calls Try.prog 14 #[v0, v1] w fun e w' => e = .returned (.bool true) ∧ Below w.heap.size w w' := by
  obtain ⟨A1, l1, c1, rfl, g1⟩ := y1
  obtain rfl := g1.1
  have hc1 := Nat.le_trans g1.2.1 g1.2.2.1
  unfold maxLen at hc1
  replace y1 : (Rd RI) w (.slice A1 x1.length c1) x1 := ⟨_, _, _, rfl, g1⟩
  clear g1
  by_cases hl1 : x1.length ≤ 1048576
  rotate_left
  · go_enter Try.func14, Try.ntmps14
    go_wp2
    go_ret
    exact ⟨rfl, Below.refl _ _⟩
  by_cases hl0 : ((tot x0 : Nat) : Int) ≤ (1048576 : Int)
  rotate_left
  · go_enter Try.func14, Try.ntmps14
    have T := Below.refl w.heap.size w
    go_wp2_with fail
    refine (sz_bytess _ _ _ _ ((Rd_reads (Rd_reads RB_reads)) _ _ _ _ y0 T) (by omega) (by omega)).mono ?_
    rintro e w1_ ⟨rfl, b⟩
    rw [if_pos (by omega)]
    replace T := T.trans (b.mono T.size)
    clear b
    go_wp2
    go_ret
    exact ⟨rfl, T⟩
  have hrl := rf_len x0 x1
  have hrs := rf_sum x0 x1
  have hsx := sumL_le x0
  have hlx := len_le_tot x0
  obtain ⟨ok, hok⟩ : ∃ b : Bool, Hid (rfOk x0 x1 = b) := ⟨_, Lib.hid rfl⟩
  go_enter Try.func14, Try.ntmps14
  have T := Below.refl w.heap.size w
  go_wp2_with fail
  refine (sz_bytess _ _ _ _ ((Rd_reads (Rd_reads RB_reads)) _ _ _ _ y0 T) (by omega) (by omega)).mono ?_
  rintro e w1_ ⟨rfl, b⟩
  rw [if_neg (by omega)]
  replace T := T.trans (b.mono T.size)
  have s1_ := b.size
  clear b
  go_wp2_with fail
  refine (to_bytess _ _ _  ((Rd_reads (Rd_reads RB_reads)) _ _ _ _ y0 T) (by omega)).mono ?_
  rintro e w2_ ⟨Vs0, rfl, F⟩
  have b := F.below
  replace T := T.trans (b.mono T.size)
  have s0 := Fresh.iv OBB_good F
  have s2_ := b.size
  clear F b
  go_wp2_with fail
  refine (to_ints _ _ _  ((Rd_reads RI_reads) _ _ _ _ y1 T) (by omega)).mono ?_
  rintro e w3_ ⟨Vs1, rfl, F⟩
  have b := F.below
  replace s0 := Iv.below OBB_good s0 b
  replace T := T.trans (b.mono T.size)
  have s1 := Fresh.iv (Own_good FI_good) F
  have s3_ := b.size
  clear F b
  go_wp2_with fail
  refine (specRf_c _ _ _ _ _ _ (rd_bytess s0) (rd_ints s1) hok (by omega) (by omega)).mono ?_
  rintro e w4_ ⟨Vw, rfl, F⟩
  have b := F.below
  replace s0 := Iv.below OBB_good s0 b
  replace s1 := Iv.below (Own_good FI_good) s1 b
  replace T := T.trans (b.mono T.size)
  have fw := Fresh.iv OBB_good F
  have s4_ := b.size
  clear F b
  clear s0
  clear s1
  go_wp2_with fail
  refine (to_bytess _ _ _  ((Rd_reads (Rd_reads RB_reads)) _ _ _ _ y0 T) (by omega)).mono ?_
  rintro e w5_ ⟨Vx_0, rfl, F⟩
  have b := F.below
  replace fw := Iv.below OBB_good fw b
  replace T := T.trans (b.mono T.size)
  have x_0 := Fresh.iv OBB_good F
  have s5_ := b.size
  clear F b
  go_wp2_with fail
  refine (to_ints _ _ _  ((Rd_reads RI_reads) _ _ _ _ y1 T) (by omega)).mono ?_
  rintro e w6_ ⟨Vx_1, rfl, F⟩
  have b := F.below
  replace fw := Iv.below OBB_good fw b
  replace x_0 := Iv.below OBB_good x_0 b
  replace T := T.trans (b.mono T.size)
  have x_1 := Fresh.iv (Own_good FI_good) F
  have s6_ := b.size
  clear F b
  go_wp2_with fail
  refine (implRf_c _ _ _ _ _ _ (rd_bytess x_0) (rd_ints x_1) hok (by omega) (by omega)).mono ?_
  rintro e w7_ ⟨Vg, rfl, F⟩
  have b := F.below
  replace fw := Iv.below OBB_good fw b
  replace x_0 := Iv.below OBB_good x_0 b
  replace x_1 := Iv.below (Own_good FI_good) x_1 b
  replace T := T.trans (b.mono T.size)
  have fg := Fresh.iv OBB_good F
  have s7_ := b.size
  clear F b
  go_wp2_with fail
  refine (eq_bytess _ _ _ _  (rd_bytess fg) (rd_bytess fw)).mono ?_
  rintro e w8_ ⟨rfl, b⟩
  replace fw := Iv.below OBB_good fw b
  replace x_0 := Iv.below OBB_good x_0 b
  replace x_1 := Iv.below (Own_good FI_good) x_1 b
  replace fg := Iv.below OBB_good fg b
  replace T := T.trans (b.mono T.size)
  have s8_ := b.size
  clear b
  go_wp2_with fail
  refine (to_bytess _ _ _  ((Rd_reads (Rd_reads RB_reads)) _ _ _ _ y0 T) (by omega)).mono ?_
  rintro e w9_ ⟨Vft, rfl, F⟩
  have b := F.below
  replace fw := Iv.below OBB_good fw b
  replace x_0 := Iv.below OBB_good x_0 b
  replace x_1 := Iv.below (Own_good FI_good) x_1 b
  replace fg := Iv.below OBB_good fg b
  replace T := T.trans (b.mono T.size)
  have ft := Fresh.iv OBB_good F
  have s9_ := b.size
  clear F b
  go_wp2_with fail
  refine (eq_bytess _ _ _ _  (rd_bytess x_0) (rd_bytess ft)).mono ?_
  rintro e w10_ ⟨rfl, b⟩
  replace fw := Iv.below OBB_good fw b
  replace x_0 := Iv.below OBB_good x_0 b
  replace x_1 := Iv.below (Own_good FI_good) x_1 b
  replace fg := Iv.below OBB_good fg b
  replace ft := Iv.below OBB_good ft b
  replace T := T.trans (b.mono T.size)
  have s10_ := b.size
  clear b
  clear ft
  go_wp2_with fail
  refine (to_ints _ _ _  ((Rd_reads RI_reads) _ _ _ _ y1 T) (by omega)).mono ?_
  rintro e w11_ ⟨Vft, rfl, F⟩
  have b := F.below
  replace fw := Iv.below OBB_good fw b
  replace x_0 := Iv.below OBB_good x_0 b
  replace x_1 := Iv.below (Own_good FI_good) x_1 b
  replace fg := Iv.below OBB_good fg b
  replace T := T.trans (b.mono T.size)
  have ft := Fresh.iv (Own_good FI_good) F
  have s11_ := b.size
  clear F b
  go_wp2_with fail
  refine (eq_ints _ _ _ _  (rd_ints x_1) (rd_ints ft)).mono ?_
  rintro e w12_ ⟨rfl, b⟩
  replace fw := Iv.below OBB_good fw b
  replace x_0 := Iv.below OBB_good x_0 b
  replace x_1 := Iv.below (Own_good FI_good) x_1 b
  replace fg := Iv.below OBB_good fg b
  replace ft := Iv.below (Own_good FI_good) ft b
  replace T := T.trans (b.mono T.size)
  have s12_ := b.size
  clear b
  clear ft
  go_wp2_with fail
  refine (mark_bytess _ _ _ _ _ _ x_0 (by omega) (by omega)).mono ?_
  rintro e w13_ ⟨rfl, f_, c⟩
  have s13_ := c.size
  replace fw := Iv.chg OBB_good fw c (by omega)
  replace x_1 := Iv.chg (Own_good FI_good) x_1 c (by omega)
  replace fg := Iv.chg OBB_good fg c (by omega)
  replace T := T.trans (c.below (by omega) T.size)
  clear x_0 c
  have x_0 := f_
  clear f_
  go_wp2_with fail
  refine (mark_ints _ _ _ _ _ _ x_1 (by omega) (by omega)).mono ?_
  rintro e w14_ ⟨rfl, f_, c⟩
  have s14_ := c.size
  replace fw := Iv.chg OBB_good fw c (by omega)
  replace x_0 := Iv.chg OBB_good x_0 c (by omega)
  replace fg := Iv.chg OBB_good fg c (by omega)
  replace T := T.trans (c.below (by omega) T.size)
  clear x_1 c
  have x_1 := f_
  clear f_
  go_wp2_with fail
  refine (eq_bytess _ _ _ _  (rd_bytess fg) (rd_bytess fw)).mono ?_
  rintro e w15_ ⟨rfl, b⟩
  replace fw := Iv.below OBB_good fw b
  replace x_0 := Iv.below OBB_good x_0 b
  replace x_1 := Iv.below (Own_good FI_good) x_1 b
  replace fg := Iv.below OBB_good fg b
  replace T := T.trans (b.mono T.size)
  have s15_ := b.size
  clear b
  clear x_0
  clear x_1
  go_wp2_with fail
  refine (mark_bytess _ _ _ _ _ _ fg (by omega) (by omega)).mono ?_
  rintro e w16_ ⟨rfl, f_, c⟩
  have s16_ := c.size
  replace fw := Iv.chg OBB_good fw c (by omega)
  replace T := T.trans (c.below (by omega) T.size)
  clear fg c
  have fg := f_
  clear f_
  go_wp2_with fail
  refine (held_bytess _ _ _ _  (rd_bytess fg) (by omega) (by omega)).mono ?_
  rintro e w17_ ⟨rfl, b⟩
  replace fw := Iv.below OBB_good fw b
  replace fg := Iv.below OBB_good fg b
  replace T := T.trans (b.mono T.size)
  have s17_ := b.size
  clear b
  go_wp2_with fail
  refine (to_bytess _ _ _  ((Rd_reads (Rd_reads RB_reads)) _ _ _ _ y0 T) (by omega)).mono ?_
  rintro e w18_ ⟨Vz_0, rfl, F⟩
  have b := F.below
  replace fw := Iv.below OBB_good fw b
  replace fg := Iv.below OBB_good fg b
  replace T := T.trans (b.mono T.size)
  have z_0 := Fresh.iv OBB_good F
  have s18_ := b.size
  clear F b
  go_wp2_with fail
  refine (to_ints _ _ _  ((Rd_reads RI_reads) _ _ _ _ y1 T) (by omega)).mono ?_
  rintro e w19_ ⟨Vz_1, rfl, F⟩
  have b := F.below
  replace fw := Iv.below OBB_good fw b
  replace fg := Iv.below OBB_good fg b
  replace z_0 := Iv.below OBB_good z_0 b
  replace T := T.trans (b.mono T.size)
  have z_1 := Fresh.iv (Own_good FI_good) F
  have s19_ := b.size
  clear F b
  go_wp2_with fail
  refine (implRf_c _ _ _ _ _ _ (rd_bytess z_0) (rd_ints z_1) hok (by omega) (by omega)).mono ?_
  rintro e w20_ ⟨Vh, rfl, F⟩
  have b := F.below
  replace fw := Iv.below OBB_good fw b
  replace fg := Iv.below OBB_good fg b
  replace z_0 := Iv.below OBB_good z_0 b
  replace z_1 := Iv.below (Own_good FI_good) z_1 b
  replace T := T.trans (b.mono T.size)
  have fh := Fresh.iv OBB_good F
  have s20_ := b.size
  clear F b
  go_wp2_with fail
  refine (eq_bytess _ _ _ _  (rd_bytess fh) (rd_bytess fw)).mono ?_
  rintro e w21_ ⟨rfl, b⟩
  replace fw := Iv.below OBB_good fw b
  replace fg := Iv.below OBB_good fg b
  replace z_0 := Iv.below OBB_good z_0 b
  replace z_1 := Iv.below (Own_good FI_good) z_1 b
  replace fh := Iv.below OBB_good fh b
  replace T := T.trans (b.mono T.size)
  have s21_ := b.size
  clear b
  clear z_0
  clear z_1
  go_wp2_with fail
  refine (held_bytess _ _ _ _  (rd_bytess fg) (by omega) (by omega)).mono ?_
  rintro e w22_ ⟨rfl, b⟩
  replace fw := Iv.below OBB_good fw b
  replace fg := Iv.below OBB_good fg b
  replace fh := Iv.below OBB_good fh b
  replace T := T.trans (b.mono T.size)
  have s22_ := b.size
  clear b
  go_wp2
  go_ret
  exact ⟨rfl, T⟩

set_option maxRecDepth 100000 in
theorem lifted (os : Os) (started : os.Started) (H : Type) (enc : TypeId × Value → H) :
    ReturnsInHanded {} Try.checked os 14 .any (Rows.fnExactRefreshSharesSpec.pre6 enc Try.prog Try.f14 Rows.fnExactRefreshSharesRow.domain false) (Rows.fnExactRefreshSharesSpec.post enc Try.prog Try.f14 false true false false) := by
  refine returnsInHanded_of_change (C := Try.checked) own_ started (by kernel_rfl) Try.func14
    (ChangeSpec.witness6 (enc := enc) (C := Try.checked) false ⟨#[], #[.slice none 0 0, .slice none 0 0], []⟩ 8 (by kernel_rfl) (by kernel_rfl) (by kernel_rfl) (by kernel_rfl)) ?_
  intro W base args ds gs before hval0 hW hcnd _
  have hval : ∀ (j : Nat) t v, Try.f14.params[j]? = some t → args[j]? = some v → Value.okWide Try.prog W .any base t v := hval0
  have hW' := hW
  obtain ⟨p, q, hA0, hV, rfl, hfz, hnd⟩ := hW
  have hA : DataW.TrodAll enc Try.prog W 0 (fun _ => true) true Try.f14.params.toList args.toList ds p := hA0
  rw [Try.params14] at hA hval
  obtain ⟨v0, vs0, d0, ds0, p0, q0, hargs, rfl, rfl, h0, r0⟩ := trodAll_cons hA
  obtain ⟨v1, vs1, d1, ds1, p1, q1, rfl, rfl, rfl, h1, r1⟩ := trodAll_cons r0
  obtain ⟨rfl, rfl, rfl⟩ := trodAll_nil r1
  obtain rfl : args = #[v0, v1] := by cases args; simp_all
  obtain ⟨rfl, rfl⟩ := trodVars_none hV
  have k0 := h0
  have lt0 : ∀ x ∈ p0, x.block < W.heap.size := by obtain ⟨m, hm⟩ := k0; exact DataW.trod_lt m _ _ _ hm
  obtain ⟨x0, y0⟩ := open_val Try.underlying24 (opens_slice Try.underlying24 (by kernel_rfl) (opens_slice Try.underlying22 (by kernel_rfl) (opens_u8 Try.underlying5))) (hval 0 24 v0 rfl rfl) h0
  have k1 := h1
  have lt1 : ∀ x ∈ p1, x.block < W.heap.size := by obtain ⟨m, hm⟩ := k1; exact DataW.trod_lt m _ _ _ hm
  obtain ⟨x1, y1⟩ := open_val Try.underlying27 (opens_slice Try.underlying27 (by kernel_rfl) (opens_i64 Try.underlying3)) (hval 1 27 v1 rfl rfl) h1
  clear hA0 hval0
  refine (walk W v0 x0 y0 v1 x1 y1).mono fun e W' ⟨he, bel⟩ => ?_
  subst he
  exact ⟨_, rfl, _, _, _, [], _, [], hW', trodAll_mk1 (shut_bool Try.underlying4 _), (trodAll_cons_mk (Below.trod laid_ (by kernel_rfl) (of_decide_eq_true (by kernel_rfl)) k0 bel lt0) (trodAll_cons_mk (Below.trod laid_ (by kernel_rfl) (of_decide_eq_true (by kernel_rfl)) k1 bel lt1) trodAll_mk0)), rfl, bel.frame _, fun h => by cases h⟩

theorem over : Rows.fnExactRefreshSharesRow.holds Try.pinned (OpenSpec.ofChange Rows.fnExactRefreshSharesSpec) :=
  OpenClaim.holds_of_wide 14 Try.f14 rfl rfl rfl rfl rfl rfl rfl ⟨rfl, rfl, rfl, rfl, rfl⟩ rfl rfl rfl rfl rfl (by kernel_rfl) Try.func14 (by kernel_rfl)
    (of_decide_eq_true (by kernel_rfl)) (by unfold Func.isWrapper; first | (rw [if_pos (by decide +kernel)]; kernel_rfl) | (rw [if_neg (by decide +kernel)]; exact ⟨rfl, rfl⟩))
    (fun os started H enc _ => lifted os started H enc)

theorem proved : Rows.FnExactRefreshSharesSaid := over
end Go.Proofs.Ytlnlkkgcfhngbaa.fnExactRefreshShares
