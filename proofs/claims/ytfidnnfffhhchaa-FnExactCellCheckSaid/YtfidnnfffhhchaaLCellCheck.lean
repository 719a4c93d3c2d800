/- FnExactCellCheck, for every argument, no condition: the program's CellCheck returns what the reference's returns and leaves its argument as it was. -/
import Derived.Test.YtfidnnfffhhchaaCellCheck
import Derived.Test.YtfidnnfffhhchaaFlat
namespace Go.Proofs.Ytfidnnfffhhchaa.fnExactCellCheck
set_option linter.unusedVariables false
open Go.RowKit Go.ChangeShapes Go.WideShapes Go.ChangeAt

set_option maxHeartbeats 2000000 in
set_option maxRecDepth 100000 in
theorem walk (w : World) (a0 : Int) (w0 : (Lit.int .i64 a0).wf = true) (a1 : Int) (w1 : (Lit.int .i64 a1).wf = true) (v2 : Value) (x2 : List UInt8) (y2 : (Rd RB) w v2 x2) :
    Calls Try.prog 12 #[.int .i64 a0, .int .i64 a1, v2] w fun e w' => e = .returned (.bool true) ∧ Below w.heap.size w w' := by
  obtain ⟨A2, l2, c2, rfl, g2⟩ := y2
  obtain rfl := g2.1
  have hc2 := Nat.le_trans g2.2.1 g2.2.2.1
  unfold maxLen at hc2
  replace y2 : (Rd RB) w (.slice A2 x2.length c2) x2 := ⟨_, _, _, rfl, g2⟩
  clear g2
  by_cases hl2 : x2.length ≤ 1048576
  rotate_left
  · go_enter Try.func12, Try.ntmps12
    go_wp2
    go_ret
    exact ⟨rfl, Below.refl _ _⟩
  go_enter Try.func12, Try.ntmps12
  have T := Below.refl w.heap.size w
  go_wp2_with fail
  refine (to_bytes _ _ _ ((Rd_reads RB_reads) _ _ _ _ y2 T) (by omega)).mono ?_
  rintro e w1_ ⟨Vs2, rfl, F⟩
  have b := F.below
  replace T := T.trans (b.mono T.size)
  have s2 := Fresh.iv (Own_good FB_good) F
  have s1_ := b.size
  clear F b
  go_wp2_with fail
  refine (specCellCheck_c _ _ _ _ _ (rd_bytes s2) (by omega)).mono ?_
  rintro e w2_ ⟨rfl, b⟩
  replace s2 := Iv.below (Own_good FB_good) s2 b
  replace T := T.trans (b.mono T.size)
  have s2_ := b.size
  clear b
  clear s2
  go_wp2_with fail
  refine (to_bytes _ _ _ ((Rd_reads RB_reads) _ _ _ _ y2 T) (by omega)).mono ?_
  rintro e w3_ ⟨Vx_2, rfl, F⟩
  have b := F.below
  replace T := T.trans (b.mono T.size)
  have x_2 := Fresh.iv (Own_good FB_good) F
  have s3_ := b.size
  clear F b
  go_wp2_with fail
  refine (implCellCheck_c _ _ _ _ _ (rd_bytes x_2) (by omega)).mono ?_
  rintro e w4_ ⟨rfl, b⟩
  replace x_2 := Iv.below (Own_good FB_good) x_2 b
  replace T := T.trans (b.mono T.size)
  have s4_ := b.size
  clear b
  go_wp2_with fail
  refine (to_bytes _ _ _ ((Rd_reads RB_reads) _ _ _ _ y2 T) (by omega)).mono ?_
  rintro e w5_ ⟨Vt, rfl, F⟩
  have b := F.below
  replace x_2 := Iv.below (Own_good FB_good) x_2 b
  replace T := T.trans (b.mono T.size)
  have ft := Fresh.iv (Own_good FB_good) F
  have s5_ := b.size
  clear F b
  go_wp2_with fail
  refine (eq_bytes _ _ _ _ (rd_bytes x_2) (rd_bytes ft)).mono ?_
  rintro e w6_ ⟨rfl, b⟩
  replace x_2 := Iv.below (Own_good FB_good) x_2 b
  replace ft := Iv.below (Own_good FB_good) ft b
  replace T := T.trans (b.mono T.size)
  have s6_ := b.size
  clear b
  clear ft
  go_wp2
  go_ret
  exact ⟨rfl, T⟩

set_option maxRecDepth 100000 in
theorem lifted (os : Os) (started : os.Started) (H : Type) (enc : TypeId × Value → H) :
    ReturnsInHanded {} Try.checked os 12 .any (Rows.fnExactCellCheckSpec.pre6 enc Try.prog Try.f12 Rows.fnExactCellCheckRow.domain false) (Rows.fnExactCellCheckSpec.post enc Try.prog Try.f12 false true false false) := by
  refine returnsInHanded_of_change (C := Try.checked) own_ started (by kernel_rfl) Try.func12
    (ChangeSpec.witness6 (enc := enc) (C := Try.checked) false ⟨#[], #[.int .i64 0, .int .i64 0, .slice none 0 0], []⟩ 8 (by kernel_rfl) (by kernel_rfl) (by kernel_rfl) (by kernel_rfl)) ?_
  intro W base args ds gs before hval0 hW hcnd _
  have hval : ∀ (j : Nat) t v, Try.f12.params[j]? = some t → args[j]? = some v → Value.okWide Try.prog W .any base t v := hval0
  have hW' := hW
  obtain ⟨p, q, hA0, hV, rfl, hfz, hnd⟩ := hW
  have hA : DataW.TrodAll enc Try.prog W 0 (fun _ => true) true Try.f12.params.toList args.toList ds p := hA0
  rw [Try.params12] at hA hval
  obtain ⟨v0, vs0, d0, ds0, p0, q0, hargs, rfl, rfl, h0, r0⟩ := trodAll_cons hA
  obtain ⟨v1, vs1, d1, ds1, p1, q1, rfl, rfl, rfl, h1, r1⟩ := trodAll_cons r0
  obtain ⟨v2, vs2, d2, ds2, p2, q2, rfl, rfl, rfl, h2, r2⟩ := trodAll_cons r1
  obtain ⟨rfl, rfl, rfl⟩ := trodAll_nil r2
  obtain rfl : args = #[v0, v1, v2] := by cases args; simp_all
  obtain ⟨rfl, rfl⟩ := trodVars_none hV
  obtain ⟨a0, rfl, rfl, rfl, w0⟩ := open_int Try.underlying3 (hval 0 3 v0 rfl rfl) h0
  obtain ⟨a1, rfl, rfl, rfl, w1⟩ := open_int Try.underlying3 (hval 1 3 v1 rfl rfl) h1
  have k2 := h2
  have lt2 : ∀ x ∈ p2, x.block < W.heap.size := by obtain ⟨m, hm⟩ := k2; exact DataW.trod_lt m _ _ _ hm
  obtain ⟨x2, y2⟩ := open_val Try.underlying36 (opens_slice Try.underlying36 (by kernel_rfl) (opens_u8 Try.underlying5)) (hval 2 36 v2 rfl rfl) h2
  clear hA0 hval0
  refine (walk W a0 w0 a1 w1 v2 x2 y2).mono fun e W' ⟨he, bel⟩ => ?_
  subst he
  exact ⟨_, rfl, _, _, _, [], _, [], hW', trodAll_mk1 (shut_bool Try.underlying4 _), (trodAll_cons_mk (shut_int Try.underlying3 w0) (trodAll_cons_mk (shut_int Try.underlying3 w1) (trodAll_cons_mk (Below.trod laid_ (by kernel_rfl) (of_decide_eq_true (by kernel_rfl)) k2 bel lt2) trodAll_mk0))), rfl, bel.frame _, fun h => by cases h⟩

theorem over : Rows.fnExactCellCheckRow.holds Try.pinned (OpenSpec.ofChange Rows.fnExactCellCheckSpec) :=
  OpenClaim.holds_of_wide 12 Try.f12 rfl rfl rfl rfl rfl rfl rfl ⟨rfl, rfl, rfl, rfl, rfl⟩ rfl rfl rfl rfl rfl (by kernel_rfl) Try.func12 (by kernel_rfl)
    (of_decide_eq_true (by kernel_rfl)) (by unfold Func.isWrapper; first | (rw [if_pos (by decide +kernel)]; kernel_rfl) | (rw [if_neg (by decide +kernel)]; exact ⟨rfl, rfl⟩))
    (fun os started H enc _ => lifted os started H enc)

theorem proved : Rows.FnExactCellCheckSaid := over
end Go.Proofs.Ytfidnnfffhhchaa.fnExactCellCheck
