/- FnExactNewDatabase, for every argument, no condition: the program's NewDatabase returns what the reference's returns, in memory of its own. -/
import Derived.Test.YtfidnnfffhhchaaDb
namespace Go.Proofs.Ytfidnnfffhhchaa.fnExactNewDatabase
set_option linter.unusedVariables false
open Go.RowKit Go.ChangeShapes Go.WideShapes Go.ChangeAt

theorem newDb_sum (r : Int) : sumL (newDb r) ≤ 1536 := by
  unfold newDb
  split
  · rename_i h
    simp only [sumL, List.map_replicate, zcell, List.length_replicate, List.sum_replicate_nat]
    have : r.toNat ≤ 64 := by omega
    omega
  · simp [sumL]

set_option maxHeartbeats 4000000 in
set_option maxRecDepth 100000 in
theorem walk (w : World) (a0 : Int) (w0 : (Lit.int .i64 a0).wf = true) :
    Calls Try.prog 10 #[.int .i64 a0] w fun e w' => e = .returned (.bool true) ∧ Below w.heap.size w w' := by
  have hw0 := wf_i64 w0
  have hs0 := newDb_sum a0
  go_enter Try.func10, Try.ntmps10
  have T := Below.refl w.heap.size w
  go_wp2_with fail
  refine (specNewDatabase_c _ _ hw0.1 hw0.2).mono ?_
  rintro e w1_ ⟨AVw, lVw, cVw, rfl, F⟩
  have b := F.below
  replace T := T.trans (b.mono T.size)
  have fw := Fresh.iv OBB_good F
  have s1_ := b.size
  clear F b
  have b := below_alloc w1_ (.cells #[.slice AVw lVw cVw] 53)
  replace fw := Iv.below OBB_good fw b
  replace T := T.trans (b.mono T.size)
  have bx_fw_0 : (World.alloc w1_ (.cells #[.slice AVw lVw cVw] 53)).cell? ⟨w1_.heap.size, 0, none⟩ = some (.slice AVw lVw cVw) := by rw [World.cell?_alloc_at _ _ _ _ rfl]; rfl
  have hb_fw : w1_.heap.size < (World.alloc w1_ (.cells #[.slice AVw lVw cVw] 53)).heap.size := by simp
  have sfw_ : w1_.heap.size < (World.alloc w1_ (.cells #[.slice AVw lVw cVw] 53)).heap.size := by simp
  clear b
  go_wp2_with fail
  generalize (World.alloc w1_ (.cells #[.slice AVw lVw cVw] 53)) = w2_ at *
  refine (implNewDatabase_c _ _ hw0.1 hw0.2).mono ?_
  rintro e w3_ ⟨AVg, lVg, cVg, rfl, F⟩
  have b := F.below
  replace fw := Iv.below OBB_good fw b
  replace bx_fw_0 := (b.cell (p := ⟨w1_.heap.size, 0, none⟩) hb_fw).trans bx_fw_0
  replace hb_fw := Nat.lt_of_lt_of_le hb_fw b.size
  replace T := T.trans (b.mono T.size)
  have fg := Fresh.iv OBB_good F
  have s3_ := b.size
  clear F b
  have b := below_alloc w3_ (.cells #[.slice AVg lVg cVg] 53)
  replace fw := Iv.below OBB_good fw b
  replace fg := Iv.below OBB_good fg b
  replace bx_fw_0 := (b.cell (p := ⟨w1_.heap.size, 0, none⟩) hb_fw).trans bx_fw_0
  replace hb_fw := Nat.lt_of_lt_of_le hb_fw b.size
  replace T := T.trans (b.mono T.size)
  have bx_fg_0 : (World.alloc w3_ (.cells #[.slice AVg lVg cVg] 53)).cell? ⟨w3_.heap.size, 0, none⟩ = some (.slice AVg lVg cVg) := by rw [World.cell?_alloc_at _ _ _ _ rfl]; rfl
  have hb_fg : w3_.heap.size < (World.alloc w3_ (.cells #[.slice AVg lVg cVg] 53)).heap.size := by simp
  have sfg_ : w3_.heap.size < (World.alloc w3_ (.cells #[.slice AVg lVg cVg] 53)).heap.size := by simp
  clear b
  go_wp2_with fail
  generalize (World.alloc w3_ (.cells #[.slice AVg lVg cVg] 53)) = w4_ at *
  refine (eq_db _ _ _ _  (rd_db fg) (rd_db fw)).mono ?_
  rintro e w5_ ⟨rfl, b⟩
  replace fw := Iv.below OBB_good fw b
  replace fg := Iv.below OBB_good fg b
  replace bx_fw_0 := (b.cell (p := ⟨w1_.heap.size, 0, none⟩) hb_fw).trans bx_fw_0
  replace hb_fw := Nat.lt_of_lt_of_le hb_fw b.size
  replace bx_fg_0 := (b.cell (p := ⟨w3_.heap.size, 0, none⟩) hb_fg).trans bx_fg_0
  replace hb_fg := Nat.lt_of_lt_of_le hb_fg b.size
  replace T := T.trans (b.mono T.size)
  have s5_ := b.size
  clear b
  go_wp2_with fail
  refine (mark_db _ _ _ _ _ _ fg (by omega) (by omega)).mono ?_
  rintro e w6_ ⟨rfl, f_, c⟩
  have s6_ := c.size
  replace fw := Iv.chg OBB_good fw c (by omega)
  replace bx_fw_0 := (World.cell?_of_block (a := ⟨w1_.heap.size, 0, none⟩) (c.block (w1_.heap.size) hb_fw (by omega))).trans bx_fw_0
  replace hb_fw := Nat.lt_of_lt_of_le hb_fw c.size
  replace bx_fg_0 := (World.cell?_of_block (a := ⟨w3_.heap.size, 0, none⟩) (c.block (w3_.heap.size) hb_fg (by omega))).trans bx_fg_0
  replace hb_fg := Nat.lt_of_lt_of_le hb_fg c.size
  replace T := T.trans (c.below (by omega) T.size)
  clear fg c
  have fg := f_
  clear f_
  go_wp2_with fail
  refine (held_db _ _ _ _  (rd_db fg) (by omega) (by omega)).mono ?_
  rintro e w7_ ⟨rfl, b⟩
  replace fw := Iv.below OBB_good fw b
  replace fg := Iv.below OBB_good fg b
  replace bx_fw_0 := (b.cell (p := ⟨w1_.heap.size, 0, none⟩) hb_fw).trans bx_fw_0
  replace hb_fw := Nat.lt_of_lt_of_le hb_fw b.size
  replace bx_fg_0 := (b.cell (p := ⟨w3_.heap.size, 0, none⟩) hb_fg).trans bx_fg_0
  replace hb_fg := Nat.lt_of_lt_of_le hb_fg b.size
  replace T := T.trans (b.mono T.size)
  have s7_ := b.size
  clear b
  go_wp2_with fail
  refine (implNewDatabase_c _ _ hw0.1 hw0.2).mono ?_
  rintro e w8_ ⟨AVh, lVh, cVh, rfl, F⟩
  have b := F.below
  replace fw := Iv.below OBB_good fw b
  replace fg := Iv.below OBB_good fg b
  replace bx_fw_0 := (b.cell (p := ⟨w1_.heap.size, 0, none⟩) hb_fw).trans bx_fw_0
  replace hb_fw := Nat.lt_of_lt_of_le hb_fw b.size
  replace bx_fg_0 := (b.cell (p := ⟨w3_.heap.size, 0, none⟩) hb_fg).trans bx_fg_0
  replace hb_fg := Nat.lt_of_lt_of_le hb_fg b.size
  replace T := T.trans (b.mono T.size)
  have fh := Fresh.iv OBB_good F
  have s8_ := b.size
  clear F b
  have b := below_alloc w8_ (.cells #[.slice AVh lVh cVh] 53)
  replace fw := Iv.below OBB_good fw b
  replace fg := Iv.below OBB_good fg b
  replace fh := Iv.below OBB_good fh b
  replace bx_fw_0 := (b.cell (p := ⟨w1_.heap.size, 0, none⟩) hb_fw).trans bx_fw_0
  replace hb_fw := Nat.lt_of_lt_of_le hb_fw b.size
  replace bx_fg_0 := (b.cell (p := ⟨w3_.heap.size, 0, none⟩) hb_fg).trans bx_fg_0
  replace hb_fg := Nat.lt_of_lt_of_le hb_fg b.size
  replace T := T.trans (b.mono T.size)
  have bx_fh_0 : (World.alloc w8_ (.cells #[.slice AVh lVh cVh] 53)).cell? ⟨w8_.heap.size, 0, none⟩ = some (.slice AVh lVh cVh) := by rw [World.cell?_alloc_at _ _ _ _ rfl]; rfl
  have hb_fh : w8_.heap.size < (World.alloc w8_ (.cells #[.slice AVh lVh cVh] 53)).heap.size := by simp
  have sfh_ : w8_.heap.size < (World.alloc w8_ (.cells #[.slice AVh lVh cVh] 53)).heap.size := by simp
  clear b
  go_wp2_with fail
  generalize (World.alloc w8_ (.cells #[.slice AVh lVh cVh] 53)) = w9_ at *
  refine (eq_db _ _ _ _  (rd_db fh) (rd_db fw)).mono ?_
  rintro e w10_ ⟨rfl, b⟩
  replace fw := Iv.below OBB_good fw b
  replace fg := Iv.below OBB_good fg b
  replace fh := Iv.below OBB_good fh b
  replace bx_fw_0 := (b.cell (p := ⟨w1_.heap.size, 0, none⟩) hb_fw).trans bx_fw_0
  replace hb_fw := Nat.lt_of_lt_of_le hb_fw b.size
  replace bx_fg_0 := (b.cell (p := ⟨w3_.heap.size, 0, none⟩) hb_fg).trans bx_fg_0
  replace hb_fg := Nat.lt_of_lt_of_le hb_fg b.size
  replace bx_fh_0 := (b.cell (p := ⟨w8_.heap.size, 0, none⟩) hb_fh).trans bx_fh_0
  replace hb_fh := Nat.lt_of_lt_of_le hb_fh b.size
  replace T := T.trans (b.mono T.size)
  have s10_ := b.size
  clear b
  go_wp2_with fail
  refine (held_db _ _ _ _  (rd_db fg) (by omega) (by omega)).mono ?_
  rintro e w11_ ⟨rfl, b⟩
  replace fw := Iv.below OBB_good fw b
  replace fg := Iv.below OBB_good fg b
  replace fh := Iv.below OBB_good fh b
  replace bx_fw_0 := (b.cell (p := ⟨w1_.heap.size, 0, none⟩) hb_fw).trans bx_fw_0
  replace hb_fw := Nat.lt_of_lt_of_le hb_fw b.size
  replace bx_fg_0 := (b.cell (p := ⟨w3_.heap.size, 0, none⟩) hb_fg).trans bx_fg_0
  replace hb_fg := Nat.lt_of_lt_of_le hb_fg b.size
  replace bx_fh_0 := (b.cell (p := ⟨w8_.heap.size, 0, none⟩) hb_fh).trans bx_fh_0
  replace hb_fh := Nat.lt_of_lt_of_le hb_fh b.size
  replace T := T.trans (b.mono T.size)
  have s11_ := b.size
  clear b
  go_wp2
  go_ret
  exact ⟨rfl, T⟩

set_option maxRecDepth 100000 in
theorem lifted (os : Os) (started : os.Started) (H : Type) (enc : TypeId × Value → H) :
    ReturnsInHanded {} Try.checked os 10 .any (Rows.fnExactNewDatabaseSpec.pre6 enc Try.prog Try.f10 Rows.fnExactNewDatabaseRow.domain false) (Rows.fnExactNewDatabaseSpec.post enc Try.prog Try.f10 false true false false) := by
  refine returnsInHanded_of_change (C := Try.checked) own_ started (by kernel_rfl) Try.func10
    (ChangeSpec.witness6 (enc := enc) (C := Try.checked) false ⟨#[], #[.int .i64 0], []⟩ 8 (by kernel_rfl) (by kernel_rfl) (by kernel_rfl) (by kernel_rfl)) ?_
  intro W base args ds gs before hval0 hW hcnd _
  have hval : ∀ (j : Nat) t v, Try.f10.params[j]? = some t → args[j]? = some v → Value.okWide Try.prog W .any base t v := hval0
  have hW' := hW
  obtain ⟨p, q, hA0, hV, rfl, hfz, hnd⟩ := hW
  have hA : DataW.TrodAll enc Try.prog W 0 (fun _ => true) true Try.f10.params.toList args.toList ds p := hA0
  rw [Try.params10] at hA hval
  obtain ⟨v0, vs0, d0, ds0, p0, q0, hargs, rfl, rfl, h0, r0⟩ := trodAll_cons hA
  obtain ⟨rfl, rfl, rfl⟩ := trodAll_nil r0
  obtain rfl : args = #[v0] := by cases args; simp_all
  obtain ⟨rfl, rfl⟩ := trodVars_none hV
  obtain ⟨a0, rfl, rfl, rfl, w0⟩ := open_int Try.underlying3 (hval 0 3 v0 rfl rfl) h0
  clear hA0 hval0
  refine (walk W a0 w0).mono fun e W' ⟨he, bel⟩ => ?_
  subst he
  exact ⟨_, rfl, _, _, _, [], _, [], hW', trodAll_mk1 (shut_bool Try.underlying4 _), (trodAll_cons_mk (shut_int Try.underlying3 w0) trodAll_mk0), rfl, bel.frame _, fun h => by cases h⟩

theorem over : Rows.fnExactNewDatabaseRow.holds Try.pinned (OpenSpec.ofChange Rows.fnExactNewDatabaseSpec) :=
  OpenClaim.holds_of_wide 10 Try.f10 rfl rfl rfl rfl rfl rfl rfl ⟨rfl, rfl, rfl, rfl, rfl⟩ rfl rfl rfl rfl rfl (by kernel_rfl) Try.func10 (by kernel_rfl)
    (of_decide_eq_true (by kernel_rfl)) (by unfold Func.isWrapper; first | (rw [if_pos (by decide +kernel)]; kernel_rfl) | (rw [if_neg (by decide +kernel)]; exact ⟨rfl, rfl⟩))
    (fun os started H enc _ => lifted os started H enc)

theorem proved : Rows.FnExactNewDatabaseSaid := over
end Go.Proofs.Ytfidnnfffhhchaa.fnExactNewDatabase
