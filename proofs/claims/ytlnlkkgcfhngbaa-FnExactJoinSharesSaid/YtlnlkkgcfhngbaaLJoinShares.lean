/- FnExactJoinShares, for every argument, no condition: the program's JoinShares returns what the reference's returns, in memory of its own, and leaves its argument as it was. -/
import Derived.Test.YtlnlkkgcfhngbaaJsh
namespace Go.Proofs.Ytlnlkkgcfhngbaa.fnExactJoinShares
set_option linter.unusedVariables false
open Go.RowKit Go.ChangeShapes Go.WideShapes Go.ChangeAt

set_option maxHeartbeats 4000000 in
set_option maxRecDepth 100000 in
theorem walk (w : World) (v0 : Value) (x0 : List (List UInt8)) (y0 : (Rd (Rd RB)) w v0 x0) :
    Calls Try.prog 7 #[v0] w fun e w' => e = .returned (.bool true) ∧ Below w.heap.size w w' := by
  by_cases hl0 : ((tot x0 : Nat) : Int) ≤ (1048576 : Int)
  rotate_left
  · go_enter Try.func7, Try.ntmps7
    have T := Below.refl w.heap.size w
    go_wp2_with fail
    refine (sz_bytess _ _ _ _ ((Rd_reads (Rd_reads RB_reads)) _ _ _ _ y0 T) (by omega) (by omega)).mono ?_
    rintro e w1_ ⟨rfl, b⟩
    rw [if_pos (by omega)]
    replace T := T.trans (b.mono T.size)
    clear b
    go_wp2
    go_ret
    exact ⟨rfl, T⟩
  have hrl := jsh_len x0
  have hsl := sumL_le x0
  obtain ⟨ok, hok⟩ : ∃ b : Bool, Hid (jsOk x0 = b) := ⟨_, Lib.hid rfl⟩
  go_enter Try.func7, Try.ntmps7
  have T := Below.refl w.heap.size w
  go_wp2_with fail
  refine (sz_bytess _ _ _ _ ((Rd_reads (Rd_reads RB_reads)) _ _ _ _ y0 T) (by omega) (by omega)).mono ?_
  rintro e w1_ ⟨rfl, b⟩
  rw [if_neg (by omega)]
  replace T := T.trans (b.mono T.size)
  have s1_ := b.size
  clear b
  go_wp2_with fail
  refine (to_bytess _ _ _  ((Rd_reads (Rd_reads RB_reads)) _ _ _ _ y0 T) (by omega)).mono ?_
  rintro e w2_ ⟨Vs0, rfl, F⟩
  have b := F.below
  replace T := T.trans (b.mono T.size)
  have s0 := Fresh.iv OBB_good F
  have s2_ := b.size
  clear F b
  go_wp2_with fail
  refine (specJoinSh_c _ _ _ _ (rd_bytess s0) hok (by omega)).mono ?_
  rintro e w3_ ⟨Vw, rfl, F⟩
  have b := F.below
  replace s0 := Iv.below OBB_good s0 b
  replace T := T.trans (b.mono T.size)
  have fw := Fresh.iv (Own_good FB_good) F
  have s3_ := b.size
  clear F b
  clear s0
  go_wp2_with fail
  refine (to_bytess _ _ _  ((Rd_reads (Rd_reads RB_reads)) _ _ _ _ y0 T) (by omega)).mono ?_
  rintro e w4_ ⟨Vx_0, rfl, F⟩
  have b := F.below
  replace fw := Iv.below (Own_good FB_good) fw b
  replace T := T.trans (b.mono T.size)
  have x_0 := Fresh.iv OBB_good F
  have s4_ := b.size
  clear F b
  go_wp2_with fail
  refine (implJoinSh_c _ _ _ _ (rd_bytess x_0) hok (by omega)).mono ?_
  rintro e w5_ ⟨Vg, rfl, F⟩
  have b := F.below
  replace fw := Iv.below (Own_good FB_good) fw b
  replace x_0 := Iv.below OBB_good x_0 b
  replace T := T.trans (b.mono T.size)
  have fg := Fresh.iv (Own_good FB_good) F
  have s5_ := b.size
  clear F b
  go_wp2_with fail
  refine (eq_bytes _ _ _ _  (rd_bytes fg) (rd_bytes fw)).mono ?_
  rintro e w6_ ⟨rfl, b⟩
  replace fw := Iv.below (Own_good FB_good) fw b
  replace x_0 := Iv.below OBB_good x_0 b
  replace fg := Iv.below (Own_good FB_good) fg b
  replace T := T.trans (b.mono T.size)
  have s6_ := b.size
  clear b
  go_wp2_with fail
  refine (to_bytess _ _ _  ((Rd_reads (Rd_reads RB_reads)) _ _ _ _ y0 T) (by omega)).mono ?_
  rintro e w7_ ⟨Vft, rfl, F⟩
  have b := F.below
  replace fw := Iv.below (Own_good FB_good) fw b
  replace x_0 := Iv.below OBB_good x_0 b
  replace fg := Iv.below (Own_good FB_good) fg b
  replace T := T.trans (b.mono T.size)
  have ft := Fresh.iv OBB_good F
  have s7_ := b.size
  clear F b
  go_wp2_with fail
  refine (eq_bytess _ _ _ _  (rd_bytess x_0) (rd_bytess ft)).mono ?_
  rintro e w8_ ⟨rfl, b⟩
  replace fw := Iv.below (Own_good FB_good) fw b
  replace x_0 := Iv.below OBB_good x_0 b
  replace fg := Iv.below (Own_good FB_good) fg b
  replace ft := Iv.below OBB_good ft b
  replace T := T.trans (b.mono T.size)
  have s8_ := b.size
  clear b
  clear ft
  go_wp2_with fail
  refine (mark_bytess _ _ _ _ _ _ x_0 (by omega) (by omega)).mono ?_
  rintro e w9_ ⟨rfl, f_, c⟩
  have s9_ := c.size
  replace fw := Iv.chg (Own_good FB_good) fw c (by omega)
  replace fg := Iv.chg (Own_good FB_good) fg c (by omega)
  replace T := T.trans (c.below (by omega) T.size)
  clear x_0 c
  have x_0 := f_
  clear f_
  go_wp2_with fail
  refine (eq_bytes _ _ _ _  (rd_bytes fg) (rd_bytes fw)).mono ?_
  rintro e w10_ ⟨rfl, b⟩
  replace fw := Iv.below (Own_good FB_good) fw b
  replace x_0 := Iv.below OBB_good x_0 b
  replace fg := Iv.below (Own_good FB_good) fg b
  replace T := T.trans (b.mono T.size)
  have s10_ := b.size
  clear b
  clear x_0
  go_wp2_with fail
  refine (mark_bytes _ _ _ _ _ _ fg (by omega) (by omega)).mono ?_
  rintro e w11_ ⟨rfl, f_, c⟩
  have s11_ := c.size
  replace fw := Iv.chg (Own_good FB_good) fw c (by omega)
  replace T := T.trans (c.below (by omega) T.size)
  clear fg c
  have fg := f_
  clear f_
  go_wp2_with fail
  refine (held_bytes _ _ _ _  (rd_bytes fg) (by omega) (by omega)).mono ?_
  rintro e w12_ ⟨rfl, b⟩
  replace fw := Iv.below (Own_good FB_good) fw b
  replace fg := Iv.below (Own_good FB_good) fg b
  replace T := T.trans (b.mono T.size)
  have s12_ := b.size
  clear b
  go_wp2_with fail
  refine (to_bytess _ _ _  ((Rd_reads (Rd_reads RB_reads)) _ _ _ _ y0 T) (by omega)).mono ?_
  rintro e w13_ ⟨Vz_0, rfl, F⟩
  have b := F.below
  replace fw := Iv.below (Own_good FB_good) fw b
  replace fg := Iv.below (Own_good FB_good) fg b
  replace T := T.trans (b.mono T.size)
  have z_0 := Fresh.iv OBB_good F
  have s13_ := b.size
  clear F b
  go_wp2_with fail
  refine (implJoinSh_c _ _ _ _ (rd_bytess z_0) hok (by omega)).mono ?_
  rintro e w14_ ⟨Vh, rfl, F⟩
  have b := F.below
  replace fw := Iv.below (Own_good FB_good) fw b
  replace fg := Iv.below (Own_good FB_good) fg b
  replace z_0 := Iv.below OBB_good z_0 b
  replace T := T.trans (b.mono T.size)
  have fh := Fresh.iv (Own_good FB_good) F
  have s14_ := b.size
  clear F b
  go_wp2_with fail
  refine (eq_bytes _ _ _ _  (rd_bytes fh) (rd_bytes fw)).mono ?_
  rintro e w15_ ⟨rfl, b⟩
  replace fw := Iv.below (Own_good FB_good) fw b
  replace fg := Iv.below (Own_good FB_good) fg b
  replace z_0 := Iv.below OBB_good z_0 b
  replace fh := Iv.below (Own_good FB_good) fh b
  replace T := T.trans (b.mono T.size)
  have s15_ := b.size
  clear b
  clear z_0
  go_wp2_with fail
  refine (held_bytes _ _ _ _  (rd_bytes fg) (by omega) (by omega)).mono ?_
  rintro e w16_ ⟨rfl, b⟩
  replace fw := Iv.below (Own_good FB_good) fw b
  replace fg := Iv.below (Own_good FB_good) fg b
  replace fh := Iv.below (Own_good FB_good) fh b
  replace T := T.trans (b.mono T.size)
  have s16_ := b.size
  clear b
  go_wp2
  go_ret
  exact ⟨rfl, T⟩

set_option maxRecDepth 100000 in
theorem lifted (os : Os) (started : os.Started) (H : Type) (enc : TypeId × Value → H) :
    ReturnsInHanded {} Try.checked os 7 .any (Rows.fnExactJoinSharesSpec.pre6 enc Try.prog Try.f7 Rows.fnExactJoinSharesRow.domain false) (Rows.fnExactJoinSharesSpec.post enc Try.prog Try.f7 false true false false) := by
  refine returnsInHanded_of_change (C := Try.checked) own_ started (by kernel_rfl) Try.func7
    (ChangeSpec.witness6 (enc := enc) (C := Try.checked) false ⟨#[], #[.slice none 0 0], []⟩ 8 (by kernel_rfl) (by kernel_rfl) (by kernel_rfl) (by kernel_rfl)) ?_
  intro W base args ds gs before hval0 hW hcnd _
  have hval : ∀ (j : Nat) t v, Try.f7.params[j]? = some t → args[j]? = some v → Value.okWide Try.prog W .any base t v := hval0
  have hW' := hW
  obtain ⟨p, q, hA0, hV, rfl, hfz, hnd⟩ := hW
  have hA : DataW.TrodAll enc Try.prog W 0 (fun _ => true) true Try.f7.params.toList args.toList ds p := hA0
  rw [Try.params7] at hA hval
  obtain ⟨v0, vs0, d0, ds0, p0, q0, hargs, rfl, rfl, h0, r0⟩ := trodAll_cons hA
  obtain ⟨rfl, rfl, rfl⟩ := trodAll_nil r0
  obtain rfl : args = #[v0] := by cases args; simp_all
  obtain ⟨rfl, rfl⟩ := trodVars_none hV
  have k0 := h0
  have lt0 : ∀ x ∈ p0, x.block < W.heap.size := by obtain ⟨m, hm⟩ := k0; exact DataW.trod_lt m _ _ _ hm
  obtain ⟨x0, y0⟩ := open_val Try.underlying24 (opens_slice Try.underlying24 (by kernel_rfl) (opens_slice Try.underlying22 (by kernel_rfl) (opens_u8 Try.underlying5))) (hval 0 24 v0 rfl rfl) h0
  clear hA0 hval0
  refine (walk W v0 x0 y0).mono fun e W' ⟨he, bel⟩ => ?_
  subst he
  exact ⟨_, rfl, _, _, _, [], _, [], hW', trodAll_mk1 (shut_bool Try.underlying4 _), (trodAll_cons_mk (Below.trod laid_ (by kernel_rfl) (of_decide_eq_true (by kernel_rfl)) k0 bel lt0) trodAll_mk0), rfl, bel.frame _, fun h => by cases h⟩

theorem over : Rows.fnExactJoinSharesRow.holds Try.pinned (OpenSpec.ofChange Rows.fnExactJoinSharesSpec) :=
  OpenClaim.holds_of_wide 7 Try.f7 rfl rfl rfl rfl rfl rfl rfl ⟨rfl, rfl, rfl, rfl, rfl⟩ rfl rfl rfl rfl rfl (by kernel_rfl) Try.func7 (by kernel_rfl)
    (of_decide_eq_true (by kernel_rfl)) (by unfold Func.isWrapper; first | (rw [if_pos (by decide +kernel)]; kernel_rfl) | (rw [if_neg (by decide +kernel)]; exact ⟨rfl, rfl⟩))
    (fun os started H enc _ => lifted os started H enc)

theorem proved : Rows.FnExactJoinSharesSaid := over
end Go.Proofs.Ytlnlkkgcfhngbaa.fnExactJoinShares
