/- FnExactCountAccepting, for every argument, no condition: the program's CountAccepting returns what the reference's returns, and leaves its arguments as they were. -/
import Derived.Test.YtllkgieajoiiaaaSketch
namespace Go.Proofs.Ytllkgieajoiiaaa.fnExactCountAccepting
set_option linter.unusedVariables false
open Go.RowKit Go.ChangeShapes Go.WideShapes Go.ChangeAt

set_option maxHeartbeats 4000000 in
set_option maxRecDepth 100000 in
theorem walk (w : World) (v0 : Value) (x0 : List Int) (y0 : (Rd RI) w v0 x0) (a1 : Int) (w1 : (Lit.int .i64 a1).wf = true) (a2 : Int) (w2 : (Lit.int .i64 a2).wf = true) :
    Calls Try.prog 6 #[v0, .int .i64 a1, .int .i64 a2] w fun e w' => e = .returned (.bool true) ∧ Below w.heap.size w w' := by
  obtain ⟨A0, l0, c0, rfl, g0⟩ := y0
  obtain rfl := g0.1
  have hc0 := Nat.le_trans g0.2.1 g0.2.2.1
  unfold maxLen at hc0
  replace y0 : (Rd RI) w (.slice A0 x0.length c0) x0 := ⟨_, _, _, rfl, g0⟩
  clear g0
  by_cases hl0 : x0.length ≤ 1048576
  rotate_left
  · go_enter Try.func6, Try.ntmps6
    go_wp2
    go_ret
    exact ⟨rfl, Below.refl _ _⟩
  go_enter Try.func6, Try.ntmps6
  have T := Below.refl w.heap.size w
  go_wp2_with fail
  refine (to_ints _ _ _  ((Rd_reads RI_reads) _ _ _ _ y0 T) (by omega)).mono ?_
  rintro e w1_ ⟨Vs0, rfl, F⟩
  have b := F.below
  replace T := T.trans (b.mono T.size)
  have s0 := Fresh.iv (Own_good FI_good) F
  have s1_ := b.size
  clear F b
  go_wp2_with fail
  refine (specCount_c _ _ _ _ _ (rd_ints s0)).mono ?_
  rintro e w2_ ⟨rfl, b⟩
  replace s0 := Iv.below (Own_good FI_good) s0 b
  replace T := T.trans (b.mono T.size)
  have s2_ := b.size
  clear b
  clear s0
  go_wp2_with fail
  refine (to_ints _ _ _  ((Rd_reads RI_reads) _ _ _ _ y0 T) (by omega)).mono ?_
  rintro e w3_ ⟨Vx_0, rfl, F⟩
  have b := F.below
  replace T := T.trans (b.mono T.size)
  have x_0 := Fresh.iv (Own_good FI_good) F
  have s3_ := b.size
  clear F b
  go_wp2_with fail
  refine (implCount_c _ _ _ _ _ (rd_ints x_0)).mono ?_
  rintro e w4_ ⟨rfl, b⟩
  replace x_0 := Iv.below (Own_good FI_good) x_0 b
  replace T := T.trans (b.mono T.size)
  have s4_ := b.size
  clear b
  go_wp2_with fail
  refine (to_ints _ _ _  ((Rd_reads RI_reads) _ _ _ _ y0 T) (by omega)).mono ?_
  rintro e w5_ ⟨Vft, rfl, F⟩
  have b := F.below
  replace x_0 := Iv.below (Own_good FI_good) x_0 b
  replace T := T.trans (b.mono T.size)
  have ft := Fresh.iv (Own_good FI_good) F
  have s5_ := b.size
  clear F b
  go_wp2_with fail
  refine (eq_ints _ _ _ _  (rd_ints x_0) (rd_ints ft)).mono ?_
  rintro e w6_ ⟨rfl, b⟩
  replace x_0 := Iv.below (Own_good FI_good) x_0 b
  replace ft := Iv.below (Own_good FI_good) ft b
  replace T := T.trans (b.mono T.size)
  have s6_ := b.size
  clear b
  clear ft
  go_wp2
  go_ret
  exact ⟨rfl, T⟩

set_option maxRecDepth 100000 in
theorem lifted (os : Os) (started : os.Started) (H : Type) (enc : TypeId × Value → H) :
    ReturnsInHanded {} Try.checked os 6 .any (Rows.fnExactCountAcceptingSpec.pre6 enc Try.prog Try.f6 Rows.fnExactCountAcceptingRow.domain false) (Rows.fnExactCountAcceptingSpec.post enc Try.prog Try.f6 false true false false) := by
  refine returnsInHanded_of_change (C := Try.checked) own_ started (by kernel_rfl) Try.func6
    (ChangeSpec.witness6 (enc := enc) (C := Try.checked) false ⟨#[], #[.slice none 0 0, .int .i64 0, .int .i64 0], []⟩ 8 (by kernel_rfl) (by kernel_rfl) (by kernel_rfl) (by kernel_rfl)) ?_
  intro W base args ds gs before hval0 hW hcnd _
  have hval : ∀ (j : Nat) t v, Try.f6.params[j]? = some t → args[j]? = some v → Value.okWide Try.prog W .any base t v := hval0
  have hW' := hW
  obtain ⟨p, q, hA0, hV, rfl, hfz, hnd⟩ := hW
  have hA : DataW.TrodAll enc Try.prog W 0 (fun _ => true) true Try.f6.params.toList args.toList ds p := hA0
  rw [Try.params6] at hA hval
  obtain ⟨v0, vs0, d0, ds0, p0, q0, hargs, rfl, rfl, h0, r0⟩ := trodAll_cons hA
  obtain ⟨v1, vs1, d1, ds1, p1, q1, rfl, rfl, rfl, h1, r1⟩ := trodAll_cons r0
  obtain ⟨v2, vs2, d2, ds2, p2, q2, rfl, rfl, rfl, h2, r2⟩ := trodAll_cons r1
  obtain ⟨rfl, rfl, rfl⟩ := trodAll_nil r2
  obtain rfl : args = #[v0, v1, v2] := by cases args; simp_all
  obtain ⟨rfl, rfl⟩ := trodVars_none hV
  have k0 := h0
  have lt0 : ∀ x ∈ p0, x.block < W.heap.size := by obtain ⟨m, hm⟩ := k0; exact DataW.trod_lt m _ _ _ hm
  obtain ⟨x0, y0⟩ := open_val Try.underlying22 (opens_slice Try.underlying22 (by kernel_rfl) (opens_i64 Try.underlying3)) (hval 0 22 v0 rfl rfl) h0
  obtain ⟨a1, rfl, rfl, rfl, w1⟩ := open_int Try.underlying3 (hval 1 3 v1 rfl rfl) h1
  obtain ⟨a2, rfl, rfl, rfl, w2⟩ := open_int Try.underlying3 (hval 2 3 v2 rfl rfl) h2
  clear hA0 hval0
  refine (walk W v0 x0 y0 a1 w1 a2 w2).mono fun e W' ⟨he, bel⟩ => ?_
  subst he
  exact ⟨_, rfl, _, _, _, [], _, [], hW', trodAll_mk1 (shut_bool Try.underlying4 _), (trodAll_cons_mk (Below.trod laid_ (by kernel_rfl) (of_decide_eq_true (by kernel_rfl)) k0 bel lt0) (trodAll_cons_mk (shut_int Try.underlying3 w1) (trodAll_cons_mk (shut_int Try.underlying3 w2) trodAll_mk0))), rfl, bel.frame _, fun h => by cases h⟩

theorem over : Rows.fnExactCountAcceptingRow.holds Try.pinned (OpenSpec.ofChange Rows.fnExactCountAcceptingSpec) :=
  OpenClaim.holds_of_wide 6 Try.f6 rfl rfl rfl rfl rfl rfl rfl ⟨rfl, rfl, rfl, rfl, rfl⟩ rfl rfl rfl rfl rfl (by kernel_rfl) Try.func6 (by kernel_rfl)
    (of_decide_eq_true (by kernel_rfl)) (by unfold Func.isWrapper; first | (rw [if_pos (by decide +kernel)]; kernel_rfl) | (rw [if_neg (by decide +kernel)]; exact ⟨rfl, rfl⟩))
    (fun os started H enc _ => lifted os started H enc)

theorem proved : Rows.FnExactCountAcceptingSaid := over
end Go.Proofs.Ytllkgieajoiiaaa.fnExactCountAccepting
