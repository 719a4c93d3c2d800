/- FnExactExplainSelections, for every argument, no condition: the program's ExplainSelections returns what the reference's returns, in memory of its own, and leaves its arguments as they were. -/
import Derived.Test.YtlnlkkgcfhngbaaJq
import Derived.Test.YtlnlkkgcfhngbaaNestFns
namespace Go.Proofs.Ytlnlkkgcfhngbaa.fnExactExplainSelections
set_option linter.unusedVariables false
open Go.RowKit Go.ChangeShapes Go.WideShapes Go.ChangeAt

set_option maxHeartbeats 4000000 in
set_option maxRecDepth 100000 in
theorem walk (w : World) (v0 : Value) (x0 : List (List Int)) (y0 : (Rd (Rd RI)) w v0 x0) (a1 : Int) (w1 : (Lit.int .i64 a1).wf = true) (a2 : Int) (w2 : (Lit.int .i64 a2).wf = true) :
    Calls Try.prog 9 #[v0, .int .i64 a1, .int .i64 a2] w fun e w' => e = .returned (.bool true) ∧ Below w.heap.size w w' := by
  by_cases hl0 : ((tot x0 : Nat) : Int) ≤ (1048576 : Int)
  rotate_left
  · go_enter Try.func9, Try.ntmps9
    have T := Below.refl w.heap.size w
    go_wp2_with fail
    refine (sz_intss _ _ _ _ ((Rd_reads (Rd_reads RI_reads)) _ _ _ _ y0 T) (by omega) (by omega)).mono ?_
    rintro e w1_ ⟨rfl, b⟩
    rw [if_pos (by omega)]
    replace T := T.trans (b.mono T.size)
    clear b
    go_wp2
    go_ret
    exact ⟨rfl, T⟩
  have hrl := es_len x0 a1 a2
  have hsl := sumL_le x0
  have hw1 := wf_i64 w1
  have hw2 := wf_i64 w2
  obtain ⟨ok, hok⟩ : ∃ b : Bool, Hid (esOk x0 a1 a2 = b) := ⟨_, Lib.hid rfl⟩
  go_enter Try.func9, Try.ntmps9
  have T := Below.refl w.heap.size w
  go_wp2_with fail
  refine (sz_intss _ _ _ _ ((Rd_reads (Rd_reads RI_reads)) _ _ _ _ y0 T) (by omega) (by omega)).mono ?_
  rintro e w1_ ⟨rfl, b⟩
  rw [if_neg (by omega)]
  replace T := T.trans (b.mono T.size)
  have s1_ := b.size
  clear b
  go_wp2_with fail
  refine (to_intss _ _ _  ((Rd_reads (Rd_reads RI_reads)) _ _ _ _ y0 T) (by omega)).mono ?_
  rintro e w2_ ⟨Vs0, rfl, F⟩
  have b := F.below
  replace T := T.trans (b.mono T.size)
  have s0 := Fresh.iv OII_good F
  have s2_ := b.size
  clear F b
  go_wp2_with fail
  refine (specExpl_c _ _ _ _ _ _ (rd_intss s0) hok (by omega) hw2.1 hw2.2 hw1.1 hw1.2).mono ?_
  rintro e w3_ ⟨Vw, rfl, F⟩
  have b := F.below
  replace s0 := Iv.below OII_good s0 b
  replace T := T.trans (b.mono T.size)
  have fw := Fresh.iv (Own_good FI_good) F
  have s3_ := b.size
  clear F b
  clear s0
  go_wp2_with fail
  refine (to_intss _ _ _  ((Rd_reads (Rd_reads RI_reads)) _ _ _ _ y0 T) (by omega)).mono ?_
  rintro e w4_ ⟨Vx_0, rfl, F⟩
  have b := F.below
  replace fw := Iv.below (Own_good FI_good) fw b
  replace T := T.trans (b.mono T.size)
  have x_0 := Fresh.iv OII_good F
  have s4_ := b.size
  clear F b
  go_wp2_with fail
  refine (implExpl_c _ _ _ _ _ _ (rd_intss x_0) hok (by omega) hw2.1 hw2.2 hw1.1 hw1.2).mono ?_
  rintro e w5_ ⟨Vg, rfl, F⟩
  have b := F.below
  replace fw := Iv.below (Own_good FI_good) fw b
  replace x_0 := Iv.below OII_good x_0 b
  replace T := T.trans (b.mono T.size)
  have fg := Fresh.iv (Own_good FI_good) F
  have s5_ := b.size
  clear F b
  go_wp2_with fail
  refine (eq_ints _ _ _ _  (rd_ints fg) (rd_ints fw)).mono ?_
  rintro e w6_ ⟨rfl, b⟩
  replace fw := Iv.below (Own_good FI_good) fw b
  replace x_0 := Iv.below OII_good x_0 b
  replace fg := Iv.below (Own_good FI_good) fg b
  replace T := T.trans (b.mono T.size)
  have s6_ := b.size
  clear b
  go_wp2_with fail
  refine (to_intss _ _ _  ((Rd_reads (Rd_reads RI_reads)) _ _ _ _ y0 T) (by omega)).mono ?_
  rintro e w7_ ⟨Vft, rfl, F⟩
  have b := F.below
  replace fw := Iv.below (Own_good FI_good) fw b
  replace x_0 := Iv.below OII_good x_0 b
  replace fg := Iv.below (Own_good FI_good) fg b
  replace T := T.trans (b.mono T.size)
  have ft := Fresh.iv OII_good F
  have s7_ := b.size
  clear F b
  go_wp2_with fail
  refine (eq_intss _ _ _ _  (rd_intss x_0) (rd_intss ft)).mono ?_
  rintro e w8_ ⟨rfl, b⟩
  replace fw := Iv.below (Own_good FI_good) fw b
  replace x_0 := Iv.below OII_good x_0 b
  replace fg := Iv.below (Own_good FI_good) fg b
  replace ft := Iv.below OII_good ft b
  replace T := T.trans (b.mono T.size)
  have s8_ := b.size
  clear b
  clear ft
  go_wp2_with fail
  refine (mark_intss _ _ _ _ _ _ x_0 (by omega) (by omega)).mono ?_
  rintro e w9_ ⟨rfl, f_, c⟩
  have s9_ := c.size
  replace fw := Iv.chg (Own_good FI_good) fw c (by omega)
  replace fg := Iv.chg (Own_good FI_good) fg c (by omega)
  replace T := T.trans (c.below (by omega) T.size)
  clear x_0 c
  have x_0 := f_
  clear f_
  go_wp2_with fail
  refine (eq_ints _ _ _ _  (rd_ints fg) (rd_ints fw)).mono ?_
  rintro e w10_ ⟨rfl, b⟩
  replace fw := Iv.below (Own_good FI_good) fw b
  replace x_0 := Iv.below OII_good x_0 b
  replace fg := Iv.below (Own_good FI_good) fg b
  replace T := T.trans (b.mono T.size)
  have s10_ := b.size
  clear b
  clear x_0
  go_wp2_with fail
  refine (mark_ints _ _ _ _ _ _ fg (by omega) (by omega)).mono ?_
  rintro e w11_ ⟨rfl, f_, c⟩
  have s11_ := c.size
  replace fw := Iv.chg (Own_good FI_good) fw c (by omega)
  replace T := T.trans (c.below (by omega) T.size)
  clear fg c
  have fg := f_
  clear f_
  go_wp2_with fail
  refine (held_ints _ _ _ _  (rd_ints fg) (by omega) (by omega)).mono ?_
  rintro e w12_ ⟨rfl, b⟩
  replace fw := Iv.below (Own_good FI_good) fw b
  replace fg := Iv.below (Own_good FI_good) fg b
  replace T := T.trans (b.mono T.size)
  have s12_ := b.size
  clear b
  go_wp2_with fail
  refine (to_intss _ _ _  ((Rd_reads (Rd_reads RI_reads)) _ _ _ _ y0 T) (by omega)).mono ?_
  rintro e w13_ ⟨Vz_0, rfl, F⟩
  have b := F.below
  replace fw := Iv.below (Own_good FI_good) fw b
  replace fg := Iv.below (Own_good FI_good) fg b
  replace T := T.trans (b.mono T.size)
  have z_0 := Fresh.iv OII_good F
  have s13_ := b.size
  clear F b
  go_wp2_with fail
  refine (implExpl_c _ _ _ _ _ _ (rd_intss z_0) hok (by omega) hw2.1 hw2.2 hw1.1 hw1.2).mono ?_
  rintro e w14_ ⟨Vh, rfl, F⟩
  have b := F.below
  replace fw := Iv.below (Own_good FI_good) fw b
  replace fg := Iv.below (Own_good FI_good) fg b
  replace z_0 := Iv.below OII_good z_0 b
  replace T := T.trans (b.mono T.size)
  have fh := Fresh.iv (Own_good FI_good) F
  have s14_ := b.size
  clear F b
  go_wp2_with fail
  refine (eq_ints _ _ _ _  (rd_ints fh) (rd_ints fw)).mono ?_
  rintro e w15_ ⟨rfl, b⟩
  replace fw := Iv.below (Own_good FI_good) fw b
  replace fg := Iv.below (Own_good FI_good) fg b
  replace z_0 := Iv.below OII_good z_0 b
  replace fh := Iv.below (Own_good FI_good) fh b
  replace T := T.trans (b.mono T.size)
  have s15_ := b.size
  clear b
  clear z_0
  go_wp2_with fail
  refine (held_ints _ _ _ _  (rd_ints fg) (by omega) (by omega)).mono ?_
  rintro e w16_ ⟨rfl, b⟩
  replace fw := Iv.below (Own_good FI_good) fw b
  replace fg := Iv.below (Own_good FI_good) fg b
  replace fh := Iv.below (Own_good FI_good) fh b
  replace T := T.trans (b.mono T.size)
  have s16_ := b.size
  clear b
  go_wp2
  go_ret
  exact ⟨rfl, T⟩

set_option maxRecDepth 100000 in
theorem lifted (os : Os) (started : os.Started) (H : Type) (enc : TypeId × Value → H) :
    ReturnsInHanded {} Try.checked os 9 .any (Rows.fnExactExplainSelectionsSpec.pre6 enc Try.prog Try.f9 Rows.fnExactExplainSelectionsRow.domain false) (Rows.fnExactExplainSelectionsSpec.post enc Try.prog Try.f9 false true false false) := by
  refine returnsInHanded_of_change (C := Try.checked) own_ started (by kernel_rfl) Try.func9
    (ChangeSpec.witness6 (enc := enc) (C := Try.checked) false ⟨#[], #[.slice none 0 0, .int .i64 0, .int .i64 0], []⟩ 8 (by kernel_rfl) (by kernel_rfl) (by kernel_rfl) (by kernel_rfl)) ?_
  intro W base args ds gs before hval0 hW hcnd _
  have hval : ∀ (j : Nat) t v, Try.f9.params[j]? = some t → args[j]? = some v → Value.okWide Try.prog W .any base t v := hval0
  have hW' := hW
  obtain ⟨p, q, hA0, hV, rfl, hfz, hnd⟩ := hW
  have hA : DataW.TrodAll enc Try.prog W 0 (fun _ => true) true Try.f9.params.toList args.toList ds p := hA0
  rw [Try.params9] at hA hval
  obtain ⟨v0, vs0, d0, ds0, p0, q0, hargs, rfl, rfl, h0, r0⟩ := trodAll_cons hA
  obtain ⟨v1, vs1, d1, ds1, p1, q1, rfl, rfl, rfl, h1, r1⟩ := trodAll_cons r0
  obtain ⟨v2, vs2, d2, ds2, p2, q2, rfl, rfl, rfl, h2, r2⟩ := trodAll_cons r1
  obtain ⟨rfl, rfl, rfl⟩ := trodAll_nil r2
  obtain rfl : args = #[v0, v1, v2] := by cases args; simp_all
  obtain ⟨rfl, rfl⟩ := trodVars_none hV
  have k0 := h0
  have lt0 : ∀ x ∈ p0, x.block < W.heap.size := by obtain ⟨m, hm⟩ := k0; exact DataW.trod_lt m _ _ _ hm
  obtain ⟨x0, y0⟩ := open_val Try.underlying32 (opens_slice Try.underlying32 (by kernel_rfl) (opens_slice Try.underlying27 (by kernel_rfl) (opens_i64 Try.underlying3))) (hval 0 32 v0 rfl rfl) h0
  obtain ⟨a1, rfl, rfl, rfl, w1⟩ := open_int Try.underlying3 (hval 1 3 v1 rfl rfl) h1
  obtain ⟨a2, rfl, rfl, rfl, w2⟩ := open_int Try.underlying3 (hval 2 3 v2 rfl rfl) h2
  clear hA0 hval0
  refine (walk W v0 x0 y0 a1 w1 a2 w2).mono fun e W' ⟨he, bel⟩ => ?_
  subst he
  exact ⟨_, rfl, _, _, _, [], _, [], hW', trodAll_mk1 (shut_bool Try.underlying4 _), (trodAll_cons_mk (Below.trod laid_ (by kernel_rfl) (of_decide_eq_true (by kernel_rfl)) k0 bel lt0) (trodAll_cons_mk (shut_int Try.underlying3 w1) (trodAll_cons_mk (shut_int Try.underlying3 w2) trodAll_mk0))), rfl, bel.frame _, fun h => by cases h⟩

theorem over : Rows.fnExactExplainSelectionsRow.holds Try.pinned (OpenSpec.ofChange Rows.fnExactExplainSelectionsSpec) :=
  OpenClaim.holds_of_wide 9 Try.f9 rfl rfl rfl rfl rfl rfl rfl ⟨rfl, rfl, rfl, rfl, rfl⟩ rfl rfl rfl rfl rfl (by kernel_rfl) Try.func9 (by kernel_rfl)
    (of_decide_eq_true (by kernel_rfl)) (by unfold Func.isWrapper; first | (rw [if_pos (by decide +kernel)]; kernel_rfl) | (rw [if_neg (by decide +kernel)]; exact ⟨rfl, rfl⟩))
    (fun os started H enc _ => lifted os started H enc)

theorem proved : Rows.FnExactExplainSelectionsSaid := over
end Go.Proofs.Ytlnlkkgcfhngbaa.fnExactExplainSelections
