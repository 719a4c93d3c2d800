/- FnExactFindCounter, for every argument, no condition: the program's FindCounter returns what the reference's returns, and leaves its argument as it was. -/
import Derived.Test.YtokhogdocaeelaaFc
import Derived.Deep.RegionHeld3
namespace Go.Proofs.Ytokhogdocaeelaa.fnExactFindCounter
set_option linter.unusedVariables false
open Go.RowKit Go.ChangeShapes Go.WideShapes Go.ChangeAt

set_option maxHeartbeats 4000000 in
set_option maxRecDepth 100000 in
theorem walk (w : World) (a0 : Int) (w0 : (Lit.int .i64 a0).wf = true) (v1 : Value) (x1 : List UInt8) (y1 : (Rd RB) w v1 x1) (a2 : Int) (w2 : (Lit.int .i64 a2).wf = true) (a3 : Int) (w3 : (Lit.int .i64 a3).wf = true) :
    Calls Try.prog 8 #[.int .i64 a0, v1, .int .i64 a2, .int .i64 a3] w fun e w' => e = .returned (.bool true) ∧ Below w.heap.size w w' := by
  obtain ⟨A1, l1, c1, rfl, g1⟩ := y1
  obtain rfl := g1.1
  have hc1 := Nat.le_trans g1.2.1 g1.2.2.1
  unfold maxLen at hc1
  replace y1 : (Rd RB) w (.slice A1 x1.length c1) x1 := ⟨_, _, _, rfl, g1⟩
  clear g1
  by_cases hl1 : x1.length ≤ 1048576
  rotate_left
  · go_enter Try.func8, Try.ntmps8
    go_wp2
    go_ret
    exact ⟨rfl, Below.refl _ _⟩
  go_enter Try.func8, Try.ntmps8
  have T := Below.refl w.heap.size w
  go_wp2_with fail
  refine (to_bytes _ _ _  ((Rd_reads RB_reads) _ _ _ _ y1 T) (by omega)).mono ?_
  rintro e w1_ ⟨Vs1, rfl, F⟩
  have b := F.below
  replace T := T.trans (b.mono T.size)
  have s1 := Fresh.iv (Own_good FB_good) F
  have s1_ := b.size
  clear F b
  go_wp2_with fail
  refine (specFindCounter_c _ _ _ _ _ _ (rd_bytes s1)).mono ?_
  rintro e w2_ ⟨rfl, b⟩
  replace s1 := Iv.below (Own_good FB_good) s1 b
  replace T := T.trans (b.mono T.size)
  have s2_ := b.size
  clear b
  clear s1
  go_wp2_with fail
  refine (to_bytes _ _ _  ((Rd_reads RB_reads) _ _ _ _ y1 T) (by omega)).mono ?_
  rintro e w3_ ⟨Vx_1, rfl, F⟩
  have b := F.below
  replace T := T.trans (b.mono T.size)
  have x_1 := Fresh.iv (Own_good FB_good) F
  have s3_ := b.size
  clear F b
  go_wp2_with fail
  refine (implFindCounter_c _ _ _ _ _ _ (rd_bytes x_1)).mono ?_
  rintro e w4_ ⟨rfl, b⟩
  replace x_1 := Iv.below (Own_good FB_good) x_1 b
  replace T := T.trans (b.mono T.size)
  have s4_ := b.size
  clear b
  go_wp2_with fail
  refine (to_bytes _ _ _  ((Rd_reads RB_reads) _ _ _ _ y1 T) (by omega)).mono ?_
  rintro e w5_ ⟨Vft, rfl, F⟩
  have b := F.below
  replace x_1 := Iv.below (Own_good FB_good) x_1 b
  replace T := T.trans (b.mono T.size)
  have ft := Fresh.iv (Own_good FB_good) F
  have s5_ := b.size
  clear F b
  go_wp2_with fail
  refine (eq_bytes _ _ _ _  (rd_bytes x_1) (rd_bytes ft)).mono ?_
  rintro e w6_ ⟨rfl, b⟩
  replace x_1 := Iv.below (Own_good FB_good) x_1 b
  replace ft := Iv.below (Own_good FB_good) ft b
  replace T := T.trans (b.mono T.size)
  have s6_ := b.size
  clear b
  clear ft
  go_wp2
  go_ret
  exact ⟨rfl, T⟩

set_option maxRecDepth 100000 in
theorem lifted (os : Os) (started : os.Started) (H : Type) (enc : TypeId × Value → H) :
    ReturnsInHanded {} Try.checked os 8 .any (Rows.fnExactFindCounterSpec.pre6 enc Try.prog Try.f8 Rows.fnExactFindCounterRow.domain false) (Rows.fnExactFindCounterSpec.post enc Try.prog Try.f8 false true false false) := by
  refine returnsInHanded_of_change (C := Try.checked) own_ started (by kernel_rfl) Try.func8
    (ChangeSpec.witness6 (enc := enc) (C := Try.checked) false ⟨#[], #[.int .i64 0, .slice none 0 0, .int .i64 0, .int .i64 0], []⟩ 8 (by kernel_rfl) (by kernel_rfl) (by kernel_rfl) (by kernel_rfl)) ?_
  intro W base args ds gs before hval0 hW hcnd _
  have hval : ∀ (j : Nat) t v, Try.f8.params[j]? = some t → args[j]? = some v → Value.okWide Try.prog W .any base t v := hval0
  have hW' := hW
  obtain ⟨p, q, hA0, hV, rfl, hfz, hnd⟩ := hW
  have hA : DataW.TrodAll enc Try.prog W 0 (fun _ => true) true Try.f8.params.toList args.toList ds p := hA0
  rw [Try.params8] at hA hval
  obtain ⟨v0, vs0, d0, ds0, p0, q0, hargs, rfl, rfl, h0, r0⟩ := trodAll_cons hA
  obtain ⟨v1, vs1, d1, ds1, p1, q1, rfl, rfl, rfl, h1, r1⟩ := trodAll_cons r0
  obtain ⟨v2, vs2, d2, ds2, p2, q2, rfl, rfl, rfl, h2, r2⟩ := trodAll_cons r1
  obtain ⟨v3, vs3, d3, ds3, p3, q3, rfl, rfl, rfl, h3, r3⟩ := trodAll_cons r2
  obtain ⟨rfl, rfl, rfl⟩ := trodAll_nil r3
  obtain rfl : args = #[v0, v1, v2, v3] := by cases args; simp_all
  obtain ⟨rfl, rfl⟩ := trodVars_none hV
  obtain ⟨a0, rfl, rfl, rfl, w0⟩ := open_int Try.underlying3 (hval 0 3 v0 rfl rfl) h0
  have k1 := h1
  have lt1 : ∀ x ∈ p1, x.block < W.heap.size := by obtain ⟨m, hm⟩ := k1; exact DataW.trod_lt m _ _ _ hm
  obtain ⟨x1, y1⟩ := open_val Try.underlying22 (opens_slice Try.underlying22 (by kernel_rfl) (opens_u8 Try.underlying5)) (hval 1 22 v1 rfl rfl) h1
  obtain ⟨a2, rfl, rfl, rfl, w2⟩ := open_int Try.underlying3 (hval 2 3 v2 rfl rfl) h2
  obtain ⟨a3, rfl, rfl, rfl, w3⟩ := open_int Try.underlying3 (hval 3 3 v3 rfl rfl) h3
  clear hA0 hval0
  refine (walk W a0 w0 v1 x1 y1 a2 w2 a3 w3).mono fun e W' ⟨he, bel⟩ => ?_
  subst he
  exact ⟨_, rfl, _, _, _, [], _, [], hW', trodAll_mk1 (shut_bool Try.underlying4 _), (trodAll_cons_mk (shut_int Try.underlying3 w0) (trodAll_cons_mk (Below.trod laid_ (by kernel_rfl) (of_decide_eq_true (by kernel_rfl)) k1 bel lt1) (trodAll_cons_mk (shut_int Try.underlying3 w2) (trodAll_cons_mk (shut_int Try.underlying3 w3) trodAll_mk0)))), rfl, bel.frame _, fun h => by cases h⟩

theorem over : Rows.fnExactFindCounterRow.holds Try.pinned (OpenSpec.ofChange Rows.fnExactFindCounterSpec) :=
  OpenClaim.holds_of_wide 8 Try.f8 rfl rfl rfl rfl rfl rfl rfl ⟨rfl, rfl, rfl, rfl, rfl⟩ rfl rfl rfl rfl rfl (by kernel_rfl) Try.func8 (by kernel_rfl)
    (of_decide_eq_true (by kernel_rfl)) (by unfold Func.isWrapper; first | (rw [if_pos (by decide +kernel)]; kernel_rfl) | (rw [if_neg (by decide +kernel)]; exact ⟨rfl, rfl⟩))
    (fun os started H enc _ => lifted os started H enc)

theorem proved : Rows.FnExactFindCounterSaid := over
end Go.Proofs.Ytokhogdocaeelaa.fnExactFindCounter
