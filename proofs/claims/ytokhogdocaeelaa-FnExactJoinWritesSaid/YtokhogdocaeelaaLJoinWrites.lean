/- FnExactJoinWrites, for every argument, no condition: the program's JoinWrites returns what the reference's returns, in memory of its own, and leaves its argument as it was. -/
import Derived.Test.YtokhogdocaeelaaJw
import Derived.Deep.RegionHeld3
namespace Go.Proofs.Ytokhogdocaeelaa.fnExactJoinWrites
set_option linter.unusedVariables false
open Go.RowKit Go.ChangeShapes Go.WideShapes Go.ChangeAt

set_option maxHeartbeats 4000000 in
set_option maxRecDepth 100000 in
theorem walk (w : World) (v0 : Value) (x0 : List (List (List UInt8))) (y0 : (Rd (Rd (Rd RB))) w v0 x0) :
    Calls Try.prog 5 #[v0] w fun e w' => e = .returned (.bool true) ∧ Below w.heap.size w w' := by
  by_cases hl0 : ((totD x0 : Nat) : Int) ≤ (1048576 : Int)
  rotate_left
  · go_enter Try.func5, Try.ntmps5
    have T := Below.refl w.heap.size w
    go_wp2_with fail
    refine (sz_dbs _ _ _ _ ((Rd_reads (Rd_reads (Rd_reads RB_reads))) _ _ _ _ y0 T) (by omega) (by omega)).mono ?_
    rintro e w1_ ⟨rfl, b⟩
    rw [if_pos (by omega)]
    replace T := T.trans (b.mono T.size)
    clear b
    go_wp2
    go_ret
    exact ⟨rfl, T⟩
  have hsl := jw_bd x0
  have hsd := sumD_le_tot x0
  obtain ⟨ok, hok⟩ : ∃ b : Bool, Hid ((jw x0).isSome = b) := ⟨_, Lib.hid rfl⟩
  go_enter Try.func5, Try.ntmps5
  have T := Below.refl w.heap.size w
  go_wp2_with fail
  refine (sz_dbs _ _ _ _ ((Rd_reads (Rd_reads (Rd_reads RB_reads))) _ _ _ _ y0 T) (by omega) (by omega)).mono ?_
  rintro e w1_ ⟨rfl, b⟩
  rw [if_neg (by omega)]
  replace T := T.trans (b.mono T.size)
  have s1_ := b.size
  clear b
  go_wp2_with fail
  refine (to_dbs _ _ _  ((Rd_reads (Rd_reads (Rd_reads RB_reads))) _ _ _ _ y0 T) (by omega)).mono ?_
  rintro e w2_ ⟨Vs0, rfl, F⟩
  have b := F.below
  replace T := T.trans (b.mono T.size)
  have s0 := Fresh.iv ODB_good F
  have s2_ := b.size
  clear F b
  go_wp2_with fail
  refine (specJw_c _ _ _ _ (rd_dbs s0) hok (by omega)).mono ?_
  rintro e w3_ ⟨AVw, lVw, cVw, rfl, F⟩
  have b := F.below
  replace s0 := Iv.below ODB_good s0 b
  replace T := T.trans (b.mono T.size)
  have fw := Fresh.iv OBB_good F
  have s3_ := b.size
  clear F b
  clear s0
  have b := below_alloc w3_ (.cells #[.slice AVw lVw cVw] 31)
  replace fw := Iv.below OBB_good fw b
  replace T := T.trans (b.mono T.size)
  have bx_fw_0 : (World.alloc w3_ (.cells #[.slice AVw lVw cVw] 31)).cell? ⟨w3_.heap.size, 0, none⟩ = some (.slice AVw lVw cVw) := by rw [World.cell?_alloc_at _ _ _ _ (by simp)]; rfl
  have hb_fw : w3_.heap.size < (World.alloc w3_ (.cells #[.slice AVw lVw cVw] 31)).heap.size := by simp
  have sfw_ : w3_.heap.size < (World.alloc w3_ (.cells #[.slice AVw lVw cVw] 31)).heap.size := by simp
  clear b
  go_wp2_with fail
  generalize (World.alloc w3_ (.cells #[.slice AVw lVw cVw] 31)) = w4_ at *
  refine (to_dbs _ _ _  ((Rd_reads (Rd_reads (Rd_reads RB_reads))) _ _ _ _ y0 T) (by omega)).mono ?_
  rintro e w5_ ⟨Vx_0, rfl, F⟩
  have b := F.below
  replace fw := Iv.below OBB_good fw b
  replace bx_fw_0 := (b.cell (p := ⟨w3_.heap.size, 0, none⟩) hb_fw).trans bx_fw_0
  replace hb_fw := Nat.lt_of_lt_of_le hb_fw b.size
  replace T := T.trans (b.mono T.size)
  have x_0 := Fresh.iv ODB_good F
  have s5_ := b.size
  clear F b
  go_wp2_with fail
  refine (implJw_c _ _ _ _ (rd_dbs x_0) hok (by omega)).mono ?_
  rintro e w6_ ⟨AVg, lVg, cVg, rfl, F⟩
  have b := F.below
  replace fw := Iv.below OBB_good fw b
  replace x_0 := Iv.below ODB_good x_0 b
  replace bx_fw_0 := (b.cell (p := ⟨w3_.heap.size, 0, none⟩) hb_fw).trans bx_fw_0
  replace hb_fw := Nat.lt_of_lt_of_le hb_fw b.size
  replace T := T.trans (b.mono T.size)
  have fg := Fresh.iv OBB_good F
  have s6_ := b.size
  clear F b
  have b := below_alloc w6_ (.cells #[.slice AVg lVg cVg] 31)
  replace fw := Iv.below OBB_good fw b
  replace x_0 := Iv.below ODB_good x_0 b
  replace fg := Iv.below OBB_good fg b
  replace bx_fw_0 := (b.cell (p := ⟨w3_.heap.size, 0, none⟩) hb_fw).trans bx_fw_0
  replace hb_fw := Nat.lt_of_lt_of_le hb_fw b.size
  replace T := T.trans (b.mono T.size)
  have bx_fg_0 : (World.alloc w6_ (.cells #[.slice AVg lVg cVg] 31)).cell? ⟨w6_.heap.size, 0, none⟩ = some (.slice AVg lVg cVg) := by rw [World.cell?_alloc_at _ _ _ _ (by simp)]; rfl
  have hb_fg : w6_.heap.size < (World.alloc w6_ (.cells #[.slice AVg lVg cVg] 31)).heap.size := by simp
  have sfg_ : w6_.heap.size < (World.alloc w6_ (.cells #[.slice AVg lVg cVg] 31)).heap.size := by simp
  clear b
  go_wp2_with fail
  generalize (World.alloc w6_ (.cells #[.slice AVg lVg cVg] 31)) = w7_ at *
  refine (eq_db _ _ _ _  (rd_db fg) (rd_db fw)).mono ?_
  rintro e w8_ ⟨rfl, b⟩
  replace fw := Iv.below OBB_good fw b
  replace x_0 := Iv.below ODB_good x_0 b
  replace fg := Iv.below OBB_good fg b
  replace bx_fw_0 := (b.cell (p := ⟨w3_.heap.size, 0, none⟩) hb_fw).trans bx_fw_0
  replace hb_fw := Nat.lt_of_lt_of_le hb_fw b.size
  replace bx_fg_0 := (b.cell (p := ⟨w6_.heap.size, 0, none⟩) hb_fg).trans bx_fg_0
  replace hb_fg := Nat.lt_of_lt_of_le hb_fg b.size
  replace T := T.trans (b.mono T.size)
  have s8_ := b.size
  clear b
  go_wp2_with fail
  refine (to_dbs _ _ _  ((Rd_reads (Rd_reads (Rd_reads RB_reads))) _ _ _ _ y0 T) (by omega)).mono ?_
  rintro e w9_ ⟨Vft, rfl, F⟩
  have b := F.below
  replace fw := Iv.below OBB_good fw b
  replace x_0 := Iv.below ODB_good x_0 b
  replace fg := Iv.below OBB_good fg b
  replace bx_fw_0 := (b.cell (p := ⟨w3_.heap.size, 0, none⟩) hb_fw).trans bx_fw_0
  replace hb_fw := Nat.lt_of_lt_of_le hb_fw b.size
  replace bx_fg_0 := (b.cell (p := ⟨w6_.heap.size, 0, none⟩) hb_fg).trans bx_fg_0
  replace hb_fg := Nat.lt_of_lt_of_le hb_fg b.size
  replace T := T.trans (b.mono T.size)
  have ft := Fresh.iv ODB_good F
  have s9_ := b.size
  clear F b
  go_wp2_with fail
  refine (eq_dbs _ _ _ _  (rd_dbs x_0) (rd_dbs ft)).mono ?_
  rintro e w10_ ⟨rfl, b⟩
  replace fw := Iv.below OBB_good fw b
  replace x_0 := Iv.below ODB_good x_0 b
  replace fg := Iv.below OBB_good fg b
  replace ft := Iv.below ODB_good ft b
  replace bx_fw_0 := (b.cell (p := ⟨w3_.heap.size, 0, none⟩) hb_fw).trans bx_fw_0
  replace hb_fw := Nat.lt_of_lt_of_le hb_fw b.size
  replace bx_fg_0 := (b.cell (p := ⟨w6_.heap.size, 0, none⟩) hb_fg).trans bx_fg_0
  replace hb_fg := Nat.lt_of_lt_of_le hb_fg b.size
  replace T := T.trans (b.mono T.size)
  have s10_ := b.size
  clear b
  clear ft
  go_wp2_with fail
  refine (mark_dbs _ _ _ _ _ _ x_0 (by omega) (by omega)).mono ?_
  rintro e w11_ ⟨rfl, f_, c⟩
  have s11_ := c.size
  replace fw := Iv.chg OBB_good fw c (by omega)
  replace fg := Iv.chg OBB_good fg c (by omega)
  replace bx_fw_0 := (World.cell?_of_block (a := ⟨w3_.heap.size, 0, none⟩) (c.block (w3_.heap.size) hb_fw (by omega))).trans bx_fw_0
  replace hb_fw := Nat.lt_of_lt_of_le hb_fw c.size
  replace bx_fg_0 := (World.cell?_of_block (a := ⟨w6_.heap.size, 0, none⟩) (c.block (w6_.heap.size) hb_fg (by omega))).trans bx_fg_0
  replace hb_fg := Nat.lt_of_lt_of_le hb_fg c.size
  replace T := T.trans (c.below (by omega) T.size)
  clear x_0 c
  have x_0 := f_
  clear f_
  go_wp2_with fail
  refine (eq_db _ _ _ _  (rd_db fg) (rd_db fw)).mono ?_
  rintro e w12_ ⟨rfl, b⟩
  replace fw := Iv.below OBB_good fw b
  replace x_0 := Iv.below ODB_good x_0 b
  replace fg := Iv.below OBB_good fg b
  replace bx_fw_0 := (b.cell (p := ⟨w3_.heap.size, 0, none⟩) hb_fw).trans bx_fw_0
  replace hb_fw := Nat.lt_of_lt_of_le hb_fw b.size
  replace bx_fg_0 := (b.cell (p := ⟨w6_.heap.size, 0, none⟩) hb_fg).trans bx_fg_0
  replace hb_fg := Nat.lt_of_lt_of_le hb_fg b.size
  replace T := T.trans (b.mono T.size)
  have s12_ := b.size
  clear b
  clear x_0
  go_wp2_with fail
  refine (mark_db _ _ _ _ _ _ fg (by omega) (by omega)).mono ?_
  rintro e w13_ ⟨rfl, f_, c⟩
  have s13_ := c.size
  replace fw := Iv.chg OBB_good fw c (by omega)
  replace bx_fw_0 := (World.cell?_of_block (a := ⟨w3_.heap.size, 0, none⟩) (c.block (w3_.heap.size) hb_fw (by omega))).trans bx_fw_0
  replace hb_fw := Nat.lt_of_lt_of_le hb_fw c.size
  replace bx_fg_0 := (World.cell?_of_block (a := ⟨w6_.heap.size, 0, none⟩) (c.block (w6_.heap.size) hb_fg (by omega))).trans bx_fg_0
  replace hb_fg := Nat.lt_of_lt_of_le hb_fg c.size
  replace T := T.trans (c.below (by omega) T.size)
  clear fg c
  have fg := f_
  clear f_
  go_wp2_with fail
  refine (held_db _ _ _ _  (rd_db fg) (by omega) (by omega)).mono ?_
  rintro e w14_ ⟨rfl, b⟩
  replace fw := Iv.below OBB_good fw b
  replace fg := Iv.below OBB_good fg b
  replace bx_fw_0 := (b.cell (p := ⟨w3_.heap.size, 0, none⟩) hb_fw).trans bx_fw_0
  replace hb_fw := Nat.lt_of_lt_of_le hb_fw b.size
  replace bx_fg_0 := (b.cell (p := ⟨w6_.heap.size, 0, none⟩) hb_fg).trans bx_fg_0
  replace hb_fg := Nat.lt_of_lt_of_le hb_fg b.size
  replace T := T.trans (b.mono T.size)
  have s14_ := b.size
  clear b
  go_wp2_with fail
  refine (to_dbs _ _ _  ((Rd_reads (Rd_reads (Rd_reads RB_reads))) _ _ _ _ y0 T) (by omega)).mono ?_
  rintro e w15_ ⟨Vz_0, rfl, F⟩
  have b := F.below
  replace fw := Iv.below OBB_good fw b
  replace fg := Iv.below OBB_good fg b
  replace bx_fw_0 := (b.cell (p := ⟨w3_.heap.size, 0, none⟩) hb_fw).trans bx_fw_0
  replace hb_fw := Nat.lt_of_lt_of_le hb_fw b.size
  replace bx_fg_0 := (b.cell (p := ⟨w6_.heap.size, 0, none⟩) hb_fg).trans bx_fg_0
  replace hb_fg := Nat.lt_of_lt_of_le hb_fg b.size
  replace T := T.trans (b.mono T.size)
  have z_0 := Fresh.iv ODB_good F
  have s15_ := b.size
  clear F b
  go_wp2_with fail
  refine (implJw_c _ _ _ _ (rd_dbs z_0) hok (by omega)).mono ?_
  rintro e w16_ ⟨AVh, lVh, cVh, rfl, F⟩
  have b := F.below
  replace fw := Iv.below OBB_good fw b
  replace fg := Iv.below OBB_good fg b
  replace z_0 := Iv.below ODB_good z_0 b
  replace bx_fw_0 := (b.cell (p := ⟨w3_.heap.size, 0, none⟩) hb_fw).trans bx_fw_0
  replace hb_fw := Nat.lt_of_lt_of_le hb_fw b.size
  replace bx_fg_0 := (b.cell (p := ⟨w6_.heap.size, 0, none⟩) hb_fg).trans bx_fg_0
  replace hb_fg := Nat.lt_of_lt_of_le hb_fg b.size
  replace T := T.trans (b.mono T.size)
  have fh := Fresh.iv OBB_good F
  have s16_ := b.size
  clear F b
  have b := below_alloc w16_ (.cells #[.slice AVh lVh cVh] 31)
  replace fw := Iv.below OBB_good fw b
  replace fg := Iv.below OBB_good fg b
  replace z_0 := Iv.below ODB_good z_0 b
  replace fh := Iv.below OBB_good fh b
  replace bx_fw_0 := (b.cell (p := ⟨w3_.heap.size, 0, none⟩) hb_fw).trans bx_fw_0
  replace hb_fw := Nat.lt_of_lt_of_le hb_fw b.size
  replace bx_fg_0 := (b.cell (p := ⟨w6_.heap.size, 0, none⟩) hb_fg).trans bx_fg_0
  replace hb_fg := Nat.lt_of_lt_of_le hb_fg b.size
  replace T := T.trans (b.mono T.size)
  have bx_fh_0 : (World.alloc w16_ (.cells #[.slice AVh lVh cVh] 31)).cell? ⟨w16_.heap.size, 0, none⟩ = some (.slice AVh lVh cVh) := by rw [World.cell?_alloc_at _ _ _ _ (by simp)]; rfl
  have hb_fh : w16_.heap.size < (World.alloc w16_ (.cells #[.slice AVh lVh cVh] 31)).heap.size := by simp
  have sfh_ : w16_.heap.size < (World.alloc w16_ (.cells #[.slice AVh lVh cVh] 31)).heap.size := by simp
  clear b
  go_wp2_with fail
  generalize (World.alloc w16_ (.cells #[.slice AVh lVh cVh] 31)) = w17_ at *
  refine (eq_db _ _ _ _  (rd_db fh) (rd_db fw)).mono ?_
  rintro e w18_ ⟨rfl, b⟩
  replace fw := Iv.below OBB_good fw b
  replace fg := Iv.below OBB_good fg b
  replace z_0 := Iv.below ODB_good z_0 b
  replace fh := Iv.below OBB_good fh b
  replace bx_fw_0 := (b.cell (p := ⟨w3_.heap.size, 0, none⟩) hb_fw).trans bx_fw_0
  replace hb_fw := Nat.lt_of_lt_of_le hb_fw b.size
  replace bx_fg_0 := (b.cell (p := ⟨w6_.heap.size, 0, none⟩) hb_fg).trans bx_fg_0
  replace hb_fg := Nat.lt_of_lt_of_le hb_fg b.size
  replace bx_fh_0 := (b.cell (p := ⟨w16_.heap.size, 0, none⟩) hb_fh).trans bx_fh_0
  replace hb_fh := Nat.lt_of_lt_of_le hb_fh b.size
  replace T := T.trans (b.mono T.size)
  have s18_ := b.size
  clear b
  clear z_0
  go_wp2_with fail
  refine (held_db _ _ _ _  (rd_db fg) (by omega) (by omega)).mono ?_
  rintro e w19_ ⟨rfl, b⟩
  replace fw := Iv.below OBB_good fw b
  replace fg := Iv.below OBB_good fg b
  replace fh := Iv.below OBB_good fh b
  replace bx_fw_0 := (b.cell (p := ⟨w3_.heap.size, 0, none⟩) hb_fw).trans bx_fw_0
  replace hb_fw := Nat.lt_of_lt_of_le hb_fw b.size
  replace bx_fg_0 := (b.cell (p := ⟨w6_.heap.size, 0, none⟩) hb_fg).trans bx_fg_0
  replace hb_fg := Nat.lt_of_lt_of_le hb_fg b.size
  replace bx_fh_0 := (b.cell (p := ⟨w16_.heap.size, 0, none⟩) hb_fh).trans bx_fh_0
  replace hb_fh := Nat.lt_of_lt_of_le hb_fh b.size
  replace T := T.trans (b.mono T.size)
  have s19_ := b.size
  clear b
  go_wp2
  go_ret
  exact ⟨rfl, T⟩

set_option maxRecDepth 100000 in
theorem lifted (os : Os) (started : os.Started) (H : Type) (enc : TypeId × Value → H) :
    ReturnsInHanded {} Try.checked os 5 .any (Rows.fnExactJoinWritesSpec.pre6 enc Try.prog Try.f5 Rows.fnExactJoinWritesRow.domain false) (Rows.fnExactJoinWritesSpec.post enc Try.prog Try.f5 false true false false) := by
  refine returnsInHanded_of_change (C := Try.checked) own_ started (by kernel_rfl) Try.func5
    (ChangeSpec.witness6 (enc := enc) (C := Try.checked) false ⟨#[], #[.slice none 0 0], []⟩ 8 (by kernel_rfl) (by kernel_rfl) (by kernel_rfl) (by kernel_rfl)) ?_
  intro W base args ds gs before hval0 hW hcnd _
  have hval : ∀ (j : Nat) t v, Try.f5.params[j]? = some t → args[j]? = some v → Value.okWide Try.prog W .any base t v := hval0
  have hW' := hW
  obtain ⟨p, q, hA0, hV, rfl, hfz, hnd⟩ := hW
  have hA : DataW.TrodAll enc Try.prog W 0 (fun _ => true) true Try.f5.params.toList args.toList ds p := hA0
  rw [Try.params5] at hA hval
  obtain ⟨v0, vs0, d0, ds0, p0, q0, hargs, rfl, rfl, h0, r0⟩ := trodAll_cons hA
  obtain ⟨rfl, rfl, rfl⟩ := trodAll_nil r0
  obtain rfl : args = #[v0] := by cases args; simp_all
  obtain ⟨rfl, rfl⟩ := trodVars_none hV
  have k0 := h0
  have lt0 : ∀ x ∈ p0, x.block < W.heap.size := by obtain ⟨m, hm⟩ := k0; exact DataW.trod_lt m _ _ _ hm
  obtain ⟨x0, y0⟩ := open_val Try.underlying42 (opens_slice Try.underlying42 (by kernel_rfl) (opens_struct1 Try.underlying89 (by kernel_rfl) (opens_slice Try.underlying29 (by kernel_rfl) (opens_slice Try.underlying22 (by kernel_rfl) (opens_u8 Try.underlying5))))) (hval 0 42 v0 rfl rfl) h0
  clear hA0 hval0
  refine (walk W v0 x0 y0).mono fun e W' ⟨he, bel⟩ => ?_
  subst he
  exact ⟨_, rfl, _, _, _, [], _, [], hW', trodAll_mk1 (shut_bool Try.underlying4 _), (trodAll_cons_mk (Below.trod laid_ (by kernel_rfl) (of_decide_eq_true (by kernel_rfl)) k0 bel lt0) trodAll_mk0), rfl, bel.frame _, fun h => by cases h⟩

theorem over : Rows.fnExactJoinWritesRow.holds Try.pinned (OpenSpec.ofChange Rows.fnExactJoinWritesSpec) :=
  OpenClaim.holds_of_wide 5 Try.f5 rfl rfl rfl rfl rfl rfl rfl ⟨rfl, rfl, rfl, rfl, rfl⟩ rfl rfl rfl rfl rfl (by kernel_rfl) Try.func5 (by kernel_rfl)
    (of_decide_eq_true (by kernel_rfl)) (by unfold Func.isWrapper; first | (rw [if_pos (by decide +kernel)]; kernel_rfl) | (rw [if_neg (by decide +kernel)]; exact ⟨rfl, rfl⟩))
    (fun os started H enc _ => lifted os started H enc)

theorem proved : Rows.FnExactJoinWritesSaid := over
end Go.Proofs.Ytokhogdocaeelaa.fnExactJoinWrites
