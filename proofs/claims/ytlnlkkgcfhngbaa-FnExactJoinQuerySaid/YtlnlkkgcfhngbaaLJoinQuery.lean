/- FnExactJoinQuery, for every argument, no condition: the program's JoinQuery returns what the reference's returns, in memory of its own, and leaves its arguments as they were. -/
import Derived.Test.YtlnlkkgcfhngbaaJq
import Derived.Test.YtlnlkkgcfhngbaaNestFns
namespace Go.Proofs.Ytlnlkkgcfhngbaa.fnExactJoinQuery
set_option linter.unusedVariables false
open Go.RowKit Go.ChangeShapes Go.WideShapes Go.ChangeAt

set_option maxHeartbeats 4000000 in
set_option maxRecDepth 100000 in
theorem walk (w : World) (v0 : Value) (x0 : List (List Int)) (y0 : (Rd (Rd RI)) w v0 x0) :
    Calls Try.prog 6 #[v0] w fun e w' => e = .returned (.bool true) ∧ Below w.heap.size w w' := by
  by_cases hl0 : ((tot x0 : Nat) : Int) ≤ (1048576 : Int)
  rotate_left
  · go_enter Try.func6, Try.ntmps6
    have T := Below.refl w.heap.size w
    go_wp2_with fail
    refine (sz_intss _ _ _ _ ((Rd_reads (Rd_reads RI_reads)) _ _ _ _ y0 T) (by omega) (by omega)).mono ?_
    rintro e w1_ ⟨rfl, b⟩
    rw [if_pos (by omega)]
    replace T := T.trans (b.mono T.size)
    clear b
    go_wp2
    go_ret
    exact ⟨rfl, T⟩
  have hrl := jq_len x0
  have hsl := sumL_le x0
  go_enter Try.func6, Try.ntmps6
  have T := Below.refl w.heap.size w
  go_wp2_with fail
  refine (sz_intss _ _ _ _ ((Rd_reads (Rd_reads RI_reads)) _ _ _ _ y0 T) (by omega) (by omega)).mono ?_
  rintro e w1_ ⟨rfl, b⟩
  rw [if_neg (by omega)]
  replace T := T.trans (b.mono T.size)
  have s1_ := b.size
  clear b
  go_wp2_with fail
  refine (to_intss _ _ _  ((Rd_reads (Rd_reads RI_reads)) _ _ _ _ y0 T) (by omega)).mono ?_
  rintro e w2_ ⟨Vs0, rfl, F⟩
  have b := F.below
  replace T := T.trans (b.mono T.size)
  have s0 := Fresh.iv OII_good F
  have s2_ := b.size
  clear F b
  go_wp2_with fail
  refine (specJoinQ_c _ _ _ (rd_intss s0) (by omega)).mono ?_
  rintro e w3_ ⟨Vw, rfl, F⟩
  have b := F.below
  replace s0 := Iv.below OII_good s0 b
  replace T := T.trans (b.mono T.size)
  have fw := Fresh.iv (Own_good FI_good) F
  have s3_ := b.size
  clear F b
  clear s0
  go_wp2_with fail
  refine (to_intss _ _ _  ((Rd_reads (Rd_reads RI_reads)) _ _ _ _ y0 T) (by omega)).mono ?_
  rintro e w4_ ⟨Vx_0, rfl, F⟩
  have b := F.below
  replace fw := Iv.below (Own_good FI_good) fw b
  replace T := T.trans (b.mono T.size)
  have x_0 := Fresh.iv OII_good F
  have s4_ := b.size
  clear F b
  go_wp2_with fail
  refine (implJoinQ_c _ _ _ (rd_intss x_0) (by omega)).mono ?_
  rintro e w5_ ⟨Vg, rfl, F⟩
  have b := F.below
  replace fw := Iv.below (Own_good FI_good) fw b
  replace x_0 := Iv.below OII_good x_0 b
  replace T := T.trans (b.mono T.size)
  have fg := Fresh.iv (Own_good FI_good) F
  have s5_ := b.size
  clear F b
  go_wp2_with fail
  refine (eq_ints _ _ _ _  (rd_ints fg) (rd_ints fw)).mono ?_
  rintro e w6_ ⟨rfl, b⟩
  replace fw := Iv.below (Own_good FI_good) fw b
  replace x_0 := Iv.below OII_good x_0 b
  replace fg := Iv.below (Own_good FI_good) fg b
  replace T := T.trans (b.mono T.size)
  have s6_ := b.size
  clear b
  go_wp2_with fail
  refine (to_intss _ _ _  ((Rd_reads (Rd_reads RI_reads)) _ _ _ _ y0 T) (by omega)).mono ?_
  rintro e w7_ ⟨Vft, rfl, F⟩
  have b := F.below
  replace fw := Iv.below (Own_good FI_good) fw b
  replace x_0 := Iv.below OII_good x_0 b
  replace fg := Iv.below (Own_good FI_good) fg b
  replace T := T.trans (b.mono T.size)
  have ft := Fresh.iv OII_good F
  have s7_ := b.size
  clear F b
  go_wp2_with fail
  refine (eq_intss _ _ _ _  (rd_intss x_0) (rd_intss ft)).mono ?_
  rintro e w8_ ⟨rfl, b⟩
  replace fw := Iv.below (Own_good FI_good) fw b
  replace x_0 := Iv.below OII_good x_0 b
  replace fg := Iv.below (Own_good FI_good) fg b
  replace ft := Iv.below OII_good ft b
  replace T := T.trans (b.mono T.size)
  have s8_ := b.size
  clear b
  clear ft
  go_wp2_with fail
  refine (mark_intss _ _ _ _ _ _ x_0 (by omega) (by omega)).mono ?_
  rintro e w9_ ⟨rfl, f_, c⟩
  have s9_ := c.size
  replace fw := Iv.chg (Own_good FI_good) fw c (by omega)
  replace fg := Iv.chg (Own_good FI_good) fg c (by omega)
  replace T := T.trans (c.below (by omega) T.size)
  clear x_0 c
  have x_0 := f_
  clear f_
  go_wp2_with fail
  refine (eq_ints _ _ _ _  (rd_ints fg) (rd_ints fw)).mono ?_
  rintro e w10_ ⟨rfl, b⟩
  replace fw := Iv.below (Own_good FI_good) fw b
  replace x_0 := Iv.below OII_good x_0 b
  replace fg := Iv.below (Own_good FI_good) fg b
  replace T := T.trans (b.mono T.size)
  have s10_ := b.size
  clear b
  clear x_0
  go_wp2_with fail
  refine (mark_ints _ _ _ _ _ _ fg (by omega) (by omega)).mono ?_
  rintro e w11_ ⟨rfl, f_, c⟩
  have s11_ := c.size
  replace fw := Iv.chg (Own_good FI_good) fw c (by omega)
  replace T := T.trans (c.below (by omega) T.size)
  clear fg c
  have fg := f_
  clear f_
  go_wp2_with fail
  refine (held_ints _ _ _ _  (rd_ints fg) (by omega) (by omega)).mono ?_
  rintro e w12_ ⟨rfl, b⟩
  replace fw := Iv.below (Own_good FI_good) fw b
  replace fg := Iv.below (Own_good FI_good) fg b
  replace T := T.trans (b.mono T.size)
  have s12_ := b.size
  clear b
  go_wp2_with fail
  refine (to_intss _ _ _  ((Rd_reads (Rd_reads RI_reads)) _ _ _ _ y0 T) (by omega)).mono ?_
  rintro e w13_ ⟨Vz_0, rfl, F⟩
  have b := F.below
  replace fw := Iv.below (Own_good FI_good) fw b
  replace fg := Iv.below (Own_good FI_good) fg b
  replace T := T.trans (b.mono T.size)
  have z_0 := Fresh.iv OII_good F
  have s13_ := b.size
  clear F b
  go_wp2_with fail
  refine (implJoinQ_c _ _ _ (rd_intss z_0) (by omega)).mono ?_
  rintro e w14_ ⟨Vh, rfl, F⟩
  have b := F.below
  replace fw := Iv.below (Own_good FI_good) fw b
  replace fg := Iv.below (Own_good FI_good) fg b
  replace z_0 := Iv.below OII_good z_0 b
  replace T := T.trans (b.mono T.size)
  have fh := Fresh.iv (Own_good FI_good) F
  have s14_ := b.size
  clear F b
  go_wp2_with fail
  refine (eq_ints _ _ _ _  (rd_ints fh) (rd_ints fw)).mono ?_
  rintro e w15_ ⟨rfl, b⟩
  replace fw := Iv.below (Own_good FI_good) fw b
  replace fg := Iv.below (Own_good FI_good) fg b
  replace z_0 := Iv.below OII_good z_0 b
  replace fh := Iv.below (Own_good FI_good) fh b
  replace T := T.trans (b.mono T.size)
  have s15_ := b.size
  clear b
  clear z_0
  go_wp2_with fail
  refine (held_ints _ _ _ _  (rd_ints fg) (by omega) (by omega)).mono ?_
  rintro e w16_ ⟨rfl, b⟩
  replace fw := Iv.below (Own_good FI_good) fw b
  replace fg := Iv.below (Own_good FI_good) fg b
  replace fh := Iv.below (Own_good FI_good) fh b
  replace T := T.trans (b.mono T.size)
  have s16_ := b.size
  clear b
  go_wp2
  go_ret
  exact ⟨rfl, T⟩

set_option maxRecDepth 100000 in
theorem lifted (os : Os) (started : os.Started) (H : Type) (enc : TypeId × Value → H) :
    ReturnsInHanded {} Try.checked os 6 .any (Rows.fnExactJoinQuerySpec.pre6 enc Try.prog Try.f6 Rows.fnExactJoinQueryRow.domain false) (Rows.fnExactJoinQuerySpec.post enc Try.prog Try.f6 false true false false) := by
  refine returnsInHanded_of_change (C := Try.checked) own_ started (by kernel_rfl) Try.func6
    (ChangeSpec.witness6 (enc := enc) (C := Try.checked) false ⟨#[], #[.slice none 0 0], []⟩ 8 (by kernel_rfl) (by kernel_rfl) (by kernel_rfl) (by kernel_rfl)) ?_
  intro W base args ds gs before hval0 hW hcnd _
  have hval : ∀ (j : Nat) t v, Try.f6.params[j]? = some t → args[j]? = some v → Value.okWide Try.prog W .any base t v := hval0
  have hW' := hW
  obtain ⟨p, q, hA0, hV, rfl, hfz, hnd⟩ := hW
  have hA : DataW.TrodAll enc Try.prog W 0 (fun _ => true) true Try.f6.params.toList args.toList ds p := hA0
  rw [Try.params6] at hA hval
  obtain ⟨v0, vs0, d0, ds0, p0, q0, hargs, rfl, rfl, h0, r0⟩ := trodAll_cons hA
  obtain ⟨rfl, rfl, rfl⟩ := trodAll_nil r0
  obtain rfl : args = #[v0] := by cases args; simp_all
  obtain ⟨rfl, rfl⟩ := trodVars_none hV
  have k0 := h0
  have lt0 : ∀ x ∈ p0, x.block < W.heap.size := by obtain ⟨m, hm⟩ := k0; exact DataW.trod_lt m _ _ _ hm
  obtain ⟨x0, y0⟩ := open_val Try.underlying32 (opens_slice Try.underlying32 (by kernel_rfl) (opens_slice Try.underlying27 (by kernel_rfl) (opens_i64 Try.underlying3))) (hval 0 32 v0 rfl rfl) h0
  clear hA0 hval0
  refine (walk W v0 x0 y0).mono fun e W' ⟨he, bel⟩ => ?_
  subst he
  exact ⟨_, rfl, _, _, _, [], _, [], hW', trodAll_mk1 (shut_bool Try.underlying4 _), (trodAll_cons_mk (Below.trod laid_ (by kernel_rfl) (of_decide_eq_true (by kernel_rfl)) k0 bel lt0) trodAll_mk0), rfl, bel.frame _, fun h => by cases h⟩

theorem over : Rows.fnExactJoinQueryRow.holds Try.pinned (OpenSpec.ofChange Rows.fnExactJoinQuerySpec) :=
  OpenClaim.holds_of_wide 6 Try.f6 rfl rfl rfl rfl rfl rfl rfl ⟨rfl, rfl, rfl, rfl, rfl⟩ rfl rfl rfl rfl rfl (by kernel_rfl) Try.func6 (by kernel_rfl)
    (of_decide_eq_true (by kernel_rfl)) (by unfold Func.isWrapper; first | (rw [if_pos (by decide +kernel)]; kernel_rfl) | (rw [if_neg (by decide +kernel)]; exact ⟨rfl, rfl⟩))
    (fun os started H enc _ => lifted os started H enc)

theorem proved : Rows.FnExactJoinQuerySaid := over
end Go.Proofs.Ytlnlkkgcfhngbaa.fnExactJoinQuery
