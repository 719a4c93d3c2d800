/- FnExactCoverCell, for every argument, no condition: the program's CoverCell returns what the reference's returns, in memory of its own. -/
import Derived.Test.YtdnifmcipbnncaaStream
namespace Go.Proofs.Ytdnifmcipbnncaa.fnExactCoverCell
set_option linter.unusedVariables false
open Go.RowKit Go.ChangeShapes Go.WideShapes Go.ChangeAt

set_option maxHeartbeats 4000000 in
set_option maxRecDepth 100000 in
theorem walk (w : World) (a0 : Int) (w0 : (Lit.int .i64 a0).wf = true) :
    Calls Try.prog 6 #[.int .i64 a0] w fun e w' => e = .returned (.bool true) ∧ Below w.heap.size w w' := by
  have hsl := streamI_len (khash a0 [73]) 24
  go_enter Try.func6, Try.ntmps6
  have T := Below.refl w.heap.size w
  go_wp2_with fail
  refine (specCoverCell_c _ _).mono ?_
  rintro e w1_ ⟨Vw, rfl, F⟩
  have b := F.below
  replace T := T.trans (b.mono T.size)
  have fw := Fresh.iv (Own_good FB_good) F
  have s1_ := b.size
  clear F b
  go_wp2_with fail
  refine (implCoverCell_c _ _).mono ?_
  rintro e w2_ ⟨Vg, rfl, F⟩
  have b := F.below
  replace fw := Iv.below (Own_good FB_good) fw b
  replace T := T.trans (b.mono T.size)
  have fg := Fresh.iv (Own_good FB_good) F
  have s2_ := b.size
  clear F b
  go_wp2_with fail
  refine (eq_bytes _ _ _ _  (rd_bytes fg) (rd_bytes fw)).mono ?_
  rintro e w3_ ⟨rfl, b⟩
  replace fw := Iv.below (Own_good FB_good) fw b
  replace fg := Iv.below (Own_good FB_good) fg b
  replace T := T.trans (b.mono T.size)
  have s3_ := b.size
  clear b
  go_wp2_with fail
  refine (mark_bytes _ _ _ _ _ _ fg (by omega) (by omega)).mono ?_
  rintro e w4_ ⟨rfl, f_, c⟩
  have s4_ := c.size
  replace fw := Iv.chg (Own_good FB_good) fw c (by omega)
  replace T := T.trans (c.below (by omega) T.size)
  clear fg c
  have fg := f_
  clear f_
  go_wp2_with fail
  refine (held_bytes _ _ _ _  (rd_bytes fg) (by omega) (by omega)).mono ?_
  rintro e w5_ ⟨rfl, b⟩
  replace fw := Iv.below (Own_good FB_good) fw b
  replace fg := Iv.below (Own_good FB_good) fg b
  replace T := T.trans (b.mono T.size)
  have s5_ := b.size
  clear b
  go_wp2_with fail
  refine (implCoverCell_c _ _).mono ?_
  rintro e w6_ ⟨Vh, rfl, F⟩
  have b := F.below
  replace fw := Iv.below (Own_good FB_good) fw b
  replace fg := Iv.below (Own_good FB_good) fg b
  replace T := T.trans (b.mono T.size)
  have fh := Fresh.iv (Own_good FB_good) F
  have s6_ := b.size
  clear F b
  go_wp2_with fail
  refine (eq_bytes _ _ _ _  (rd_bytes fh) (rd_bytes fw)).mono ?_
  rintro e w7_ ⟨rfl, b⟩
  replace fw := Iv.below (Own_good FB_good) fw b
  replace fg := Iv.below (Own_good FB_good) fg b
  replace fh := Iv.below (Own_good FB_good) fh b
  replace T := T.trans (b.mono T.size)
  have s7_ := b.size
  clear b
  go_wp2_with fail
  refine (held_bytes _ _ _ _  (rd_bytes fg) (by omega) (by omega)).mono ?_
  rintro e w8_ ⟨rfl, b⟩
  replace fw := Iv.below (Own_good FB_good) fw b
  replace fg := Iv.below (Own_good FB_good) fg b
  replace fh := Iv.below (Own_good FB_good) fh b
  replace T := T.trans (b.mono T.size)
  have s8_ := b.size
  clear b
  go_wp2
  go_ret
  exact ⟨rfl, T⟩

set_option maxRecDepth 100000 in
theorem lifted (os : Os) (started : os.Started) (H : Type) (enc : TypeId × Value → H) :
    ReturnsInHanded {} Try.checked os 6 .any (Rows.fnExactCoverCellSpec.pre6 enc Try.prog Try.f6 Rows.fnExactCoverCellRow.domain false) (Rows.fnExactCoverCellSpec.post enc Try.prog Try.f6 false true false false) := by
  refine returnsInHanded_of_change (C := Try.checked) own_ started (by kernel_rfl) Try.func6
    (ChangeSpec.witness6 (enc := enc) (C := Try.checked) false ⟨#[], #[.int .i64 0], []⟩ 8 (by kernel_rfl) (by kernel_rfl) (by kernel_rfl) (by kernel_rfl)) ?_
  intro W base args ds gs before hval0 hW hcnd _
  have hval : ∀ (j : Nat) t v, Try.f6.params[j]? = some t → args[j]? = some v → Value.okWide Try.prog W .any base t v := hval0
  have hW' := hW
  obtain ⟨p, q, hA0, hV, rfl, hfz, hnd⟩ := hW
  have hA : DataW.TrodAll enc Try.prog W 0 (fun _ => true) true Try.f6.params.toList args.toList ds p := hA0
  rw [Try.params6] at hA hval
  obtain ⟨v0, vs0, d0, ds0, p0, q0, hargs, rfl, rfl, h0, r0⟩ := trodAll_cons hA
  obtain ⟨rfl, rfl, rfl⟩ := trodAll_nil r0
  obtain rfl : args = #[v0] := by cases args; simp_all
  obtain ⟨rfl, rfl⟩ := trodVars_none hV
  obtain ⟨a0, rfl, rfl, rfl, w0⟩ := open_int Try.underlying3 (hval 0 3 v0 rfl rfl) h0
  clear hA0 hval0
  refine (walk W a0 w0).mono fun e W' ⟨he, bel⟩ => ?_
  subst he
  exact ⟨_, rfl, _, _, _, [], _, [], hW', trodAll_mk1 (shut_bool Try.underlying4 _), (trodAll_cons_mk (shut_int Try.underlying3 w0) trodAll_mk0), rfl, bel.frame _, fun h => by cases h⟩

theorem over : Rows.fnExactCoverCellRow.holds Try.pinned (OpenSpec.ofChange Rows.fnExactCoverCellSpec) :=
  OpenClaim.holds_of_wide 6 Try.f6 rfl rfl rfl rfl rfl rfl rfl ⟨rfl, rfl, rfl, rfl, rfl⟩ rfl rfl rfl rfl rfl (by kernel_rfl) Try.func6 (by kernel_rfl)
    (of_decide_eq_true (by kernel_rfl)) (by unfold Func.isWrapper; first | (rw [if_pos (by decide +kernel)]; kernel_rfl) | (rw [if_neg (by decide +kernel)]; exact ⟨rfl, rfl⟩))
    (fun os started H enc _ => lifted os started H enc)

theorem proved : Rows.FnExactCoverCellSaid := over
end Go.Proofs.Ytdnifmcipbnncaa.fnExactCoverCell
