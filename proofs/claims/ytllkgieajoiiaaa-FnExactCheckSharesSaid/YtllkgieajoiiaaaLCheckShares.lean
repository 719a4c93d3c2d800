/- FnExactCheckShares, for every argument, no condition: the program's CheckShares returns what the reference's returns, and leaves its arguments as they were. -/
import Derived.Test.YtllkgieajoiiaaaCheck
import Derived.Test.YtllkgieajoiiaaaNestFns
namespace Go.Proofs.Ytllkgieajoiiaaa.fnExactCheckShares
set_option linter.unusedVariables false
open Go.RowKit Go.ChangeShapes Go.WideShapes Go.ChangeAt

set_option maxHeartbeats 4000000 in
set_option maxRecDepth 100000 in
theorem walk (w : World) (v0 : Value) (x0 : List (List Int)) (y0 : (Rd (Rd RI)) w v0 x0) (a1 : Int) (w1 : (Lit.int .i64 a1).wf = true) :
    Calls Try.prog 12 #[v0, .int .i64 a1] w fun e w' => e = .returned (.bool true) ∧ Below w.heap.size w w' := by
  by_cases hl0 : ((tot x0 : Nat) : Int) ≤ (1048576 : Int)
  rotate_left
  · go_enter Try.func12, Try.ntmps12
    have T := Below.refl w.heap.size w
    go_wp2_with fail
    refine (sz_intss _ _ _ _ ((Rd_reads (Rd_reads RI_reads)) _ _ _ _ y0 T) (by omega) (by omega)).mono ?_
    rintro e w1_ ⟨rfl, b⟩
    rw [if_pos (by omega)]
    replace T := T.trans (b.mono T.size)
    clear b
    go_wp2
    go_ret
    exact ⟨rfl, T⟩
  go_enter Try.func12, Try.ntmps12
  have T := Below.refl w.heap.size w
  go_wp2_with fail
  refine (sz_intss _ _ _ _ ((Rd_reads (Rd_reads RI_reads)) _ _ _ _ y0 T) (by omega) (by omega)).mono ?_
  rintro e w1_ ⟨rfl, b⟩
  rw [if_neg (by omega)]
  replace T := T.trans (b.mono T.size)
  have s1_ := b.size
  clear b
  go_wp2_with fail
  refine (to_intss _ _ _  ((Rd_reads (Rd_reads RI_reads)) _ _ _ _ y0 T) (by omega)).mono ?_
  rintro e w2_ ⟨Vs0, rfl, F⟩
  have b := F.below
  replace T := T.trans (b.mono T.size)
  have s0 := Fresh.iv OII_good F
  have s2_ := b.size
  clear F b
  go_wp2_with fail
  refine (specCheck_c _ _ _ _ (rd_intss s0)).mono ?_
  rintro e w3_ ⟨rfl, b⟩
  replace s0 := Iv.below OII_good s0 b
  replace T := T.trans (b.mono T.size)
  have s3_ := b.size
  clear b
  clear s0
  go_wp2_with fail
  refine (to_intss _ _ _  ((Rd_reads (Rd_reads RI_reads)) _ _ _ _ y0 T) (by omega)).mono ?_
  rintro e w4_ ⟨Vx_0, rfl, F⟩
  have b := F.below
  replace T := T.trans (b.mono T.size)
  have x_0 := Fresh.iv OII_good F
  have s4_ := b.size
  clear F b
  go_wp2_with fail
  refine (implCheck_c _ _ _ _ (rd_intss x_0)).mono ?_
  rintro e w5_ ⟨rfl, b⟩
  replace x_0 := Iv.below OII_good x_0 b
  replace T := T.trans (b.mono T.size)
  have s5_ := b.size
  clear b
  go_wp2_with fail
  refine (to_intss _ _ _  ((Rd_reads (Rd_reads RI_reads)) _ _ _ _ y0 T) (by omega)).mono ?_
  rintro e w6_ ⟨Vft, rfl, F⟩
  have b := F.below
  replace x_0 := Iv.below OII_good x_0 b
  replace T := T.trans (b.mono T.size)
  have ft := Fresh.iv OII_good F
  have s6_ := b.size
  clear F b
  go_wp2_with fail
  refine (eq_intss _ _ _ _  (rd_intss x_0) (rd_intss ft)).mono ?_
  rintro e w7_ ⟨rfl, b⟩
  replace x_0 := Iv.below OII_good x_0 b
  replace ft := Iv.below OII_good ft b
  replace T := T.trans (b.mono T.size)
  have s7_ := b.size
  clear b
  clear ft
  go_wp2
  go_ret
  exact ⟨rfl, T⟩

set_option maxRecDepth 100000 in
theorem lifted (os : Os) (started : os.Started) (H : Type) (enc : TypeId × Value → H) :
    ReturnsInHanded {} Try.checked os 12 .any (Rows.fnExactCheckSharesSpec.pre6 enc Try.prog Try.f12 Rows.fnExactCheckSharesRow.domain false) (Rows.fnExactCheckSharesSpec.post enc Try.prog Try.f12 false true false false) := by
  refine returnsInHanded_of_change (C := Try.checked) own_ started (by kernel_rfl) Try.func12
    (ChangeSpec.witness6 (enc := enc) (C := Try.checked) false ⟨#[], #[.slice none 0 0, .int .i64 0], []⟩ 8 (by kernel_rfl) (by kernel_rfl) (by kernel_rfl) (by kernel_rfl)) ?_
  intro W base args ds gs before hval0 hW hcnd _
  have hval : ∀ (j : Nat) t v, Try.f12.params[j]? = some t → args[j]? = some v → Value.okWide Try.prog W .any base t v := hval0
  have hW' := hW
  obtain ⟨p, q, hA0, hV, rfl, hfz, hnd⟩ := hW
  have hA : DataW.TrodAll enc Try.prog W 0 (fun _ => true) true Try.f12.params.toList args.toList ds p := hA0
  rw [Try.params12] at hA hval
  obtain ⟨v0, vs0, d0, ds0, p0, q0, hargs, rfl, rfl, h0, r0⟩ := trodAll_cons hA
  obtain ⟨v1, vs1, d1, ds1, p1, q1, rfl, rfl, rfl, h1, r1⟩ := trodAll_cons r0
  obtain ⟨rfl, rfl, rfl⟩ := trodAll_nil r1
  obtain rfl : args = #[v0, v1] := by cases args; simp_all
  obtain ⟨rfl, rfl⟩ := trodVars_none hV
  have k0 := h0
  have lt0 : ∀ x ∈ p0, x.block < W.heap.size := by obtain ⟨m, hm⟩ := k0; exact DataW.trod_lt m _ _ _ hm
  obtain ⟨x0, y0⟩ := open_val Try.underlying23 (opens_slice Try.underlying23 (by kernel_rfl) (opens_slice Try.underlying22 (by kernel_rfl) (opens_i64 Try.underlying3))) (hval 0 23 v0 rfl rfl) h0
  obtain ⟨a1, rfl, rfl, rfl, w1⟩ := open_int Try.underlying3 (hval 1 3 v1 rfl rfl) h1
  clear hA0 hval0
  refine (walk W v0 x0 y0 a1 w1).mono fun e W' ⟨he, bel⟩ => ?_
  subst he
  exact ⟨_, rfl, _, _, _, [], _, [], hW', trodAll_mk1 (shut_bool Try.underlying4 _), (trodAll_cons_mk (Below.trod laid_ (by kernel_rfl) (of_decide_eq_true (by kernel_rfl)) k0 bel lt0) (trodAll_cons_mk (shut_int Try.underlying3 w1) trodAll_mk0)), rfl, bel.frame _, fun h => by cases h⟩

theorem over : Rows.fnExactCheckSharesRow.holds Try.pinned (OpenSpec.ofChange Rows.fnExactCheckSharesSpec) :=
  OpenClaim.holds_of_wide 12 Try.f12 rfl rfl rfl rfl rfl rfl rfl ⟨rfl, rfl, rfl, rfl, rfl⟩ rfl rfl rfl rfl rfl (by kernel_rfl) Try.func12 (by kernel_rfl)
    (of_decide_eq_true (by kernel_rfl)) (by unfold Func.isWrapper; first | (rw [if_pos (by decide +kernel)]; kernel_rfl) | (rw [if_neg (by decide +kernel)]; exact ⟨rfl, rfl⟩))
    (fun os started H enc _ => lifted os started H enc)

theorem proved : Rows.FnExactCheckSharesSaid := over
end Go.Proofs.Ytllkgieajoiiaaa.fnExactCheckShares
