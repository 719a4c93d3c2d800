/- FnExactExplainWrite, for every argument, no condition: the program's ExplainWrite returns what the reference's returns, in memory of its own, and leaves its arguments as they were. -/
import Derived.Test.YtokhogdocaeelaaEw
import Derived.Deep.RegionHeld3
namespace Go.Proofs.Ytokhogdocaeelaa.fnExactExplainWrite
set_option linter.unusedVariables false
open Go.RowKit Go.ChangeShapes Go.WideShapes Go.ChangeAt

set_option maxHeartbeats 4000000 in
set_option maxRecDepth 100000 in
theorem walk (w : World) (v0 : Value) (x0 : List (List (List UInt8))) (y0 : (Rd (Rd (Rd RB))) w v0 x0) (a1 : Int) (w1 : (Lit.int .i64 a1).wf = true) (a2 : Int) (w2 : (Lit.int .i64 a2).wf = true) (v3 : Value) (x3 : List UInt8) (y3 : (Rd RB) w v3 x3) :
    Calls Try.prog 6 #[v0, .int .i64 a1, .int .i64 a2, v3] w fun e w' => e = .returned (.bool true) ∧ Below w.heap.size w w' := by
  obtain ⟨A3, l3, c3, rfl, g3⟩ := y3
  obtain rfl := g3.1
  have hc3 := Nat.le_trans g3.2.1 g3.2.2.1
  unfold maxLen at hc3
  replace y3 : (Rd RB) w (.slice A3 x3.length c3) x3 := ⟨_, _, _, rfl, g3⟩
  clear g3
  by_cases hl3 : x3.length ≤ 1048576
  rotate_left
  · go_enter Try.func6, Try.ntmps6
    go_wp2
    go_ret
    exact ⟨rfl, Below.refl _ _⟩
  by_cases hl0 : ((totD x0 : Nat) : Int) ≤ (1048576 : Int)
  rotate_left
  · go_enter Try.func6, Try.ntmps6
    have T := Below.refl w.heap.size w
    go_wp2_with fail
    refine (sz_dbs _ _ _ _ ((Rd_reads (Rd_reads (Rd_reads RB_reads))) _ _ _ _ y0 T) (by omega) (by omega)).mono ?_
    rintro e w1_ ⟨rfl, b⟩
    rw [if_pos (by omega)]
    replace T := T.trans (b.mono T.size)
    clear b
    go_wp2
    go_ret
    exact ⟨rfl, T⟩
  have hsl := ew_bd x0 a1 a2 x3
  have hsd := sumD_le_tot x0
  have hw1 := wf_i64 w1
  have hw2 := wf_i64 w2
  obtain ⟨ok, hok⟩ : ∃ b : Bool, Hid ((ew x0 a1 a2 x3).isSome = b) := ⟨_, Lib.hid rfl⟩
  go_enter Try.func6, Try.ntmps6
  have T := Below.refl w.heap.size w
  go_wp2_with fail
  refine (sz_dbs _ _ _ _ ((Rd_reads (Rd_reads (Rd_reads RB_reads))) _ _ _ _ y0 T) (by omega) (by omega)).mono ?_
  rintro e w1_ ⟨rfl, b⟩
  rw [if_neg (by omega)]
  replace T := T.trans (b.mono T.size)
  have s1_ := b.size
  clear b
  go_wp2_with fail
  refine (to_dbs _ _ _  ((Rd_reads (Rd_reads (Rd_reads RB_reads))) _ _ _ _ y0 T) (by omega)).mono ?_
  rintro e w2_ ⟨Vs0, rfl, F⟩
  have b := F.below
  replace T := T.trans (b.mono T.size)
  have s0 := Fresh.iv ODB_good F
  have s2_ := b.size
  clear F b
  go_wp2_with fail
  refine (to_bytes _ _ _  ((Rd_reads RB_reads) _ _ _ _ y3 T) (by omega)).mono ?_
  rintro e w3_ ⟨Vs3, rfl, F⟩
  have b := F.below
  replace s0 := Iv.below ODB_good s0 b
  replace T := T.trans (b.mono T.size)
  have s3 := Fresh.iv (Own_good FB_good) F
  have s3_ := b.size
  clear F b
  go_wp2_with fail
  refine (specEw_c _ _ _ _ _ _ _ _ (rd_dbs s0) (rd_bytes s3) hok (by omega) (by omega) hw2.1 hw2.2 hw1.1 hw1.2).mono ?_
  rintro e w4_ ⟨AVw, lVw, cVw, rfl, F⟩
  have b := F.below
  replace s0 := Iv.below ODB_good s0 b
  replace s3 := Iv.below (Own_good FB_good) s3 b
  replace T := T.trans (b.mono T.size)
  have fw := Fresh.iv OBB_good F
  have s4_ := b.size
  clear F b
  clear s0
  clear s3
  have b := below_alloc w4_ (.cells #[.slice AVw lVw cVw] 31)
  replace fw := Iv.below OBB_good fw b
  replace T := T.trans (b.mono T.size)
  have bx_fw_0 : (World.alloc w4_ (.cells #[.slice AVw lVw cVw] 31)).cell? ⟨w4_.heap.size, 0, none⟩ = some (.slice AVw lVw cVw) := by rw [World.cell?_alloc_at _ _ _ _ (by simp)]; rfl
  have hb_fw : w4_.heap.size < (World.alloc w4_ (.cells #[.slice AVw lVw cVw] 31)).heap.size := by simp
  have sfw_ : w4_.heap.size < (World.alloc w4_ (.cells #[.slice AVw lVw cVw] 31)).heap.size := by simp
  clear b
  go_wp2_with fail
  generalize (World.alloc w4_ (.cells #[.slice AVw lVw cVw] 31)) = w5_ at *
  refine (to_dbs _ _ _  ((Rd_reads (Rd_reads (Rd_reads RB_reads))) _ _ _ _ y0 T) (by omega)).mono ?_
  rintro e w6_ ⟨Vx_0, rfl, F⟩
  have b := F.below
  replace fw := Iv.below OBB_good fw b
  replace bx_fw_0 := (b.cell (p := ⟨w4_.heap.size, 0, none⟩) hb_fw).trans bx_fw_0
  replace hb_fw := Nat.lt_of_lt_of_le hb_fw b.size
  replace T := T.trans (b.mono T.size)
  have x_0 := Fresh.iv ODB_good F
  have s6_ := b.size
  clear F b
  go_wp2_with fail
  refine (to_bytes _ _ _  ((Rd_reads RB_reads) _ _ _ _ y3 T) (by omega)).mono ?_
  rintro e w7_ ⟨Vx_3, rfl, F⟩
  have b := F.below
  replace fw := Iv.below OBB_good fw b
  replace x_0 := Iv.below ODB_good x_0 b
  replace bx_fw_0 := (b.cell (p := ⟨w4_.heap.size, 0, none⟩) hb_fw).trans bx_fw_0
  replace hb_fw := Nat.lt_of_lt_of_le hb_fw b.size
  replace T := T.trans (b.mono T.size)
  have x_3 := Fresh.iv (Own_good FB_good) F
  have s7_ := b.size
  clear F b
  go_wp2_with fail
  refine (implEw_c _ _ _ _ _ _ _ _ (rd_dbs x_0) (rd_bytes x_3) hok (by omega) (by omega) hw2.1 hw2.2 hw1.1 hw1.2).mono ?_
  rintro e w8_ ⟨AVg, lVg, cVg, rfl, F⟩
  have b := F.below
  replace fw := Iv.below OBB_good fw b
  replace x_0 := Iv.below ODB_good x_0 b
  replace x_3 := Iv.below (Own_good FB_good) x_3 b
  replace bx_fw_0 := (b.cell (p := ⟨w4_.heap.size, 0, none⟩) hb_fw).trans bx_fw_0
  replace hb_fw := Nat.lt_of_lt_of_le hb_fw b.size
  replace T := T.trans (b.mono T.size)
  have fg := Fresh.iv OBB_good F
  have s8_ := b.size
  clear F b
  have b := below_alloc w8_ (.cells #[.slice AVg lVg cVg] 31)
  replace fw := Iv.below OBB_good fw b
  replace x_0 := Iv.below ODB_good x_0 b
  replace x_3 := Iv.below (Own_good FB_good) x_3 b
  replace fg := Iv.below OBB_good fg b
  replace bx_fw_0 := (b.cell (p := ⟨w4_.heap.size, 0, none⟩) hb_fw).trans bx_fw_0
  replace hb_fw := Nat.lt_of_lt_of_le hb_fw b.size
  replace T := T.trans (b.mono T.size)
  have bx_fg_0 : (World.alloc w8_ (.cells #[.slice AVg lVg cVg] 31)).cell? ⟨w8_.heap.size, 0, none⟩ = some (.slice AVg lVg cVg) := by rw [World.cell?_alloc_at _ _ _ _ (by simp)]; rfl
  have hb_fg : w8_.heap.size < (World.alloc w8_ (.cells #[.slice AVg lVg cVg] 31)).heap.size := by simp
  have sfg_ : w8_.heap.size < (World.alloc w8_ (.cells #[.slice AVg lVg cVg] 31)).heap.size := by simp
  clear b
  go_wp2_with fail
  generalize (World.alloc w8_ (.cells #[.slice AVg lVg cVg] 31)) = w9_ at *
  refine (eq_db _ _ _ _  (rd_db fg) (rd_db fw)).mono ?_
  rintro e w10_ ⟨rfl, b⟩
  replace fw := Iv.below OBB_good fw b
  replace x_0 := Iv.below ODB_good x_0 b
  replace x_3 := Iv.below (Own_good FB_good) x_3 b
  replace fg := Iv.below OBB_good fg b
  replace bx_fw_0 := (b.cell (p := ⟨w4_.heap.size, 0, none⟩) hb_fw).trans bx_fw_0
  replace hb_fw := Nat.lt_of_lt_of_le hb_fw b.size
  replace bx_fg_0 := (b.cell (p := ⟨w8_.heap.size, 0, none⟩) hb_fg).trans bx_fg_0
  replace hb_fg := Nat.lt_of_lt_of_le hb_fg b.size
  replace T := T.trans (b.mono T.size)
  have s10_ := b.size
  clear b
  go_wp2_with fail
  refine (to_dbs _ _ _  ((Rd_reads (Rd_reads (Rd_reads RB_reads))) _ _ _ _ y0 T) (by omega)).mono ?_
  rintro e w11_ ⟨Vft, rfl, F⟩
  have b := F.below
  replace fw := Iv.below OBB_good fw b
  replace x_0 := Iv.below ODB_good x_0 b
  replace x_3 := Iv.below (Own_good FB_good) x_3 b
  replace fg := Iv.below OBB_good fg b
  replace bx_fw_0 := (b.cell (p := ⟨w4_.heap.size, 0, none⟩) hb_fw).trans bx_fw_0
  replace hb_fw := Nat.lt_of_lt_of_le hb_fw b.size
  replace bx_fg_0 := (b.cell (p := ⟨w8_.heap.size, 0, none⟩) hb_fg).trans bx_fg_0
  replace hb_fg := Nat.lt_of_lt_of_le hb_fg b.size
  replace T := T.trans (b.mono T.size)
  have ft := Fresh.iv ODB_good F
  have s11_ := b.size
  clear F b
  go_wp2_with fail
  refine (eq_dbs _ _ _ _  (rd_dbs x_0) (rd_dbs ft)).mono ?_
  rintro e w12_ ⟨rfl, b⟩
  replace fw := Iv.below OBB_good fw b
  replace x_0 := Iv.below ODB_good x_0 b
  replace x_3 := Iv.below (Own_good FB_good) x_3 b
  replace fg := Iv.below OBB_good fg b
  replace ft := Iv.below ODB_good ft b
  replace bx_fw_0 := (b.cell (p := ⟨w4_.heap.size, 0, none⟩) hb_fw).trans bx_fw_0
  replace hb_fw := Nat.lt_of_lt_of_le hb_fw b.size
  replace bx_fg_0 := (b.cell (p := ⟨w8_.heap.size, 0, none⟩) hb_fg).trans bx_fg_0
  replace hb_fg := Nat.lt_of_lt_of_le hb_fg b.size
  replace T := T.trans (b.mono T.size)
  have s12_ := b.size
  clear b
  clear ft
  go_wp2_with fail
  refine (to_bytes _ _ _  ((Rd_reads RB_reads) _ _ _ _ y3 T) (by omega)).mono ?_
  rintro e w13_ ⟨Vft, rfl, F⟩
  have b := F.below
  replace fw := Iv.below OBB_good fw b
  replace x_0 := Iv.below ODB_good x_0 b
  replace x_3 := Iv.below (Own_good FB_good) x_3 b
  replace fg := Iv.below OBB_good fg b
  replace bx_fw_0 := (b.cell (p := ⟨w4_.heap.size, 0, none⟩) hb_fw).trans bx_fw_0
  replace hb_fw := Nat.lt_of_lt_of_le hb_fw b.size
  replace bx_fg_0 := (b.cell (p := ⟨w8_.heap.size, 0, none⟩) hb_fg).trans bx_fg_0
  replace hb_fg := Nat.lt_of_lt_of_le hb_fg b.size
  replace T := T.trans (b.mono T.size)
  have ft := Fresh.iv (Own_good FB_good) F
  have s13_ := b.size
  clear F b
  go_wp2_with fail
  refine (eq_bytes _ _ _ _  (rd_bytes x_3) (rd_bytes ft)).mono ?_
  rintro e w14_ ⟨rfl, b⟩
  replace fw := Iv.below OBB_good fw b
  replace x_0 := Iv.below ODB_good x_0 b
  replace x_3 := Iv.below (Own_good FB_good) x_3 b
  replace fg := Iv.below OBB_good fg b
  replace ft := Iv.below (Own_good FB_good) ft b
  replace bx_fw_0 := (b.cell (p := ⟨w4_.heap.size, 0, none⟩) hb_fw).trans bx_fw_0
  replace hb_fw := Nat.lt_of_lt_of_le hb_fw b.size
  replace bx_fg_0 := (b.cell (p := ⟨w8_.heap.size, 0, none⟩) hb_fg).trans bx_fg_0
  replace hb_fg := Nat.lt_of_lt_of_le hb_fg b.size
  replace T := T.trans (b.mono T.size)
  have s14_ := b.size
  clear b
  clear ft
  go_wp2_with fail
  refine (mark_dbs _ _ _ _ _ _ x_0 (by omega) (by omega)).mono ?_
  rintro e w15_ ⟨rfl, f_, c⟩
  have s15_ := c.size
  replace fw := Iv.chg OBB_good fw c (by omega)
  replace x_3 := Iv.chg (Own_good FB_good) x_3 c (by omega)
  replace fg := Iv.chg OBB_good fg c (by omega)
  replace bx_fw_0 := (World.cell?_of_block (a := ⟨w4_.heap.size, 0, none⟩) (c.block (w4_.heap.size) hb_fw (by omega))).trans bx_fw_0
  replace hb_fw := Nat.lt_of_lt_of_le hb_fw c.size
  replace bx_fg_0 := (World.cell?_of_block (a := ⟨w8_.heap.size, 0, none⟩) (c.block (w8_.heap.size) hb_fg (by omega))).trans bx_fg_0
  replace hb_fg := Nat.lt_of_lt_of_le hb_fg c.size
  replace T := T.trans (c.below (by omega) T.size)
  clear x_0 c
  have x_0 := f_
  clear f_
  go_wp2_with fail
  refine (mark_bytes _ _ _ _ _ _ x_3 (by omega) (by omega)).mono ?_
  rintro e w16_ ⟨rfl, f_, c⟩
  have s16_ := c.size
  replace fw := Iv.chg OBB_good fw c (by omega)
  replace x_0 := Iv.chg ODB_good x_0 c (by omega)
  replace fg := Iv.chg OBB_good fg c (by omega)
  replace bx_fw_0 := (World.cell?_of_block (a := ⟨w4_.heap.size, 0, none⟩) (c.block (w4_.heap.size) hb_fw (by omega))).trans bx_fw_0
  replace hb_fw := Nat.lt_of_lt_of_le hb_fw c.size
  replace bx_fg_0 := (World.cell?_of_block (a := ⟨w8_.heap.size, 0, none⟩) (c.block (w8_.heap.size) hb_fg (by omega))).trans bx_fg_0
  replace hb_fg := Nat.lt_of_lt_of_le hb_fg c.size
  replace T := T.trans (c.below (by omega) T.size)
  clear x_3 c
  have x_3 := f_
  clear f_
  go_wp2_with fail
  refine (eq_db _ _ _ _  (rd_db fg) (rd_db fw)).mono ?_
  rintro e w17_ ⟨rfl, b⟩
  replace fw := Iv.below OBB_good fw b
  replace x_0 := Iv.below ODB_good x_0 b
  replace x_3 := Iv.below (Own_good FB_good) x_3 b
  replace fg := Iv.below OBB_good fg b
  replace bx_fw_0 := (b.cell (p := ⟨w4_.heap.size, 0, none⟩) hb_fw).trans bx_fw_0
  replace hb_fw := Nat.lt_of_lt_of_le hb_fw b.size
  replace bx_fg_0 := (b.cell (p := ⟨w8_.heap.size, 0, none⟩) hb_fg).trans bx_fg_0
  replace hb_fg := Nat.lt_of_lt_of_le hb_fg b.size
  replace T := T.trans (b.mono T.size)
  have s17_ := b.size
  clear b
  clear x_0
  clear x_3
  go_wp2_with fail
  refine (mark_db _ _ _ _ _ _ fg (by omega) (by omega)).mono ?_
  rintro e w18_ ⟨rfl, f_, c⟩
  have s18_ := c.size
  replace fw := Iv.chg OBB_good fw c (by omega)
  replace bx_fw_0 := (World.cell?_of_block (a := ⟨w4_.heap.size, 0, none⟩) (c.block (w4_.heap.size) hb_fw (by omega))).trans bx_fw_0
  replace hb_fw := Nat.lt_of_lt_of_le hb_fw c.size
  replace bx_fg_0 := (World.cell?_of_block (a := ⟨w8_.heap.size, 0, none⟩) (c.block (w8_.heap.size) hb_fg (by omega))).trans bx_fg_0
  replace hb_fg := Nat.lt_of_lt_of_le hb_fg c.size
  replace T := T.trans (c.below (by omega) T.size)
  clear fg c
  have fg := f_
  clear f_
  go_wp2_with fail
  refine (held_db _ _ _ _  (rd_db fg) (by omega) (by omega)).mono ?_
  rintro e w19_ ⟨rfl, b⟩
  replace fw := Iv.below OBB_good fw b
  replace fg := Iv.below OBB_good fg b
  replace bx_fw_0 := (b.cell (p := ⟨w4_.heap.size, 0, none⟩) hb_fw).trans bx_fw_0
  replace hb_fw := Nat.lt_of_lt_of_le hb_fw b.size
  replace bx_fg_0 := (b.cell (p := ⟨w8_.heap.size, 0, none⟩) hb_fg).trans bx_fg_0
  replace hb_fg := Nat.lt_of_lt_of_le hb_fg b.size
  replace T := T.trans (b.mono T.size)
  have s19_ := b.size
  clear b
  go_wp2_with fail
  refine (to_dbs _ _ _  ((Rd_reads (Rd_reads (Rd_reads RB_reads))) _ _ _ _ y0 T) (by omega)).mono ?_
  rintro e w20_ ⟨Vz_0, rfl, F⟩
  have b := F.below
  replace fw := Iv.below OBB_good fw b
  replace fg := Iv.below OBB_good fg b
  replace bx_fw_0 := (b.cell (p := ⟨w4_.heap.size, 0, none⟩) hb_fw).trans bx_fw_0
  replace hb_fw := Nat.lt_of_lt_of_le hb_fw b.size
  replace bx_fg_0 := (b.cell (p := ⟨w8_.heap.size, 0, none⟩) hb_fg).trans bx_fg_0
  replace hb_fg := Nat.lt_of_lt_of_le hb_fg b.size
  replace T := T.trans (b.mono T.size)
  have z_0 := Fresh.iv ODB_good F
  have s20_ := b.size
  clear F b
  go_wp2_with fail
  refine (to_bytes _ _ _  ((Rd_reads RB_reads) _ _ _ _ y3 T) (by omega)).mono ?_
  rintro e w21_ ⟨Vz_3, rfl, F⟩
  have b := F.below
  replace fw := Iv.below OBB_good fw b
  replace fg := Iv.below OBB_good fg b
  replace z_0 := Iv.below ODB_good z_0 b
  replace bx_fw_0 := (b.cell (p := ⟨w4_.heap.size, 0, none⟩) hb_fw).trans bx_fw_0
  replace hb_fw := Nat.lt_of_lt_of_le hb_fw b.size
  replace bx_fg_0 := (b.cell (p := ⟨w8_.heap.size, 0, none⟩) hb_fg).trans bx_fg_0
  replace hb_fg := Nat.lt_of_lt_of_le hb_fg b.size
  replace T := T.trans (b.mono T.size)
  have z_3 := Fresh.iv (Own_good FB_good) F
  have s21_ := b.size
  clear F b
  go_wp2_with fail
  refine (implEw_c _ _ _ _ _ _ _ _ (rd_dbs z_0) (rd_bytes z_3) hok (by omega) (by omega) hw2.1 hw2.2 hw1.1 hw1.2).mono ?_
  rintro e w22_ ⟨AVh, lVh, cVh, rfl, F⟩
  have b := F.below
  replace fw := Iv.below OBB_good fw b
  replace fg := Iv.below OBB_good fg b
  replace z_0 := Iv.below ODB_good z_0 b
  replace z_3 := Iv.below (Own_good FB_good) z_3 b
  replace bx_fw_0 := (b.cell (p := ⟨w4_.heap.size, 0, none⟩) hb_fw).trans bx_fw_0
  replace hb_fw := Nat.lt_of_lt_of_le hb_fw b.size
  replace bx_fg_0 := (b.cell (p := ⟨w8_.heap.size, 0, none⟩) hb_fg).trans bx_fg_0
  replace hb_fg := Nat.lt_of_lt_of_le hb_fg b.size
  replace T := T.trans (b.mono T.size)
  have fh := Fresh.iv OBB_good F
  have s22_ := b.size
  clear F b
  have b := below_alloc w22_ (.cells #[.slice AVh lVh cVh] 31)
  replace fw := Iv.below OBB_good fw b
  replace fg := Iv.below OBB_good fg b
  replace z_0 := Iv.below ODB_good z_0 b
  replace z_3 := Iv.below (Own_good FB_good) z_3 b
  replace fh := Iv.below OBB_good fh b
  replace bx_fw_0 := (b.cell (p := ⟨w4_.heap.size, 0, none⟩) hb_fw).trans bx_fw_0
  replace hb_fw := Nat.lt_of_lt_of_le hb_fw b.size
  replace bx_fg_0 := (b.cell (p := ⟨w8_.heap.size, 0, none⟩) hb_fg).trans bx_fg_0
  replace hb_fg := Nat.lt_of_lt_of_le hb_fg b.size
  replace T := T.trans (b.mono T.size)
  have bx_fh_0 : (World.alloc w22_ (.cells #[.slice AVh lVh cVh] 31)).cell? ⟨w22_.heap.size, 0, none⟩ = some (.slice AVh lVh cVh) := by rw [World.cell?_alloc_at _ _ _ _ (by simp)]; rfl
  have hb_fh : w22_.heap.size < (World.alloc w22_ (.cells #[.slice AVh lVh cVh] 31)).heap.size := by simp
  have sfh_ : w22_.heap.size < (World.alloc w22_ (.cells #[.slice AVh lVh cVh] 31)).heap.size := by simp
  clear b
  go_wp2_with fail
  generalize (World.alloc w22_ (.cells #[.slice AVh lVh cVh] 31)) = w23_ at *
  refine (eq_db _ _ _ _  (rd_db fh) (rd_db fw)).mono ?_
  rintro e w24_ ⟨rfl, b⟩
  replace fw := Iv.below OBB_good fw b
  replace fg := Iv.below OBB_good fg b
  replace z_0 := Iv.below ODB_good z_0 b
  replace z_3 := Iv.below (Own_good FB_good) z_3 b
  replace fh := Iv.below OBB_good fh b
  replace bx_fw_0 := (b.cell (p := ⟨w4_.heap.size, 0, none⟩) hb_fw).trans bx_fw_0
  replace hb_fw := Nat.lt_of_lt_of_le hb_fw b.size
  replace bx_fg_0 := (b.cell (p := ⟨w8_.heap.size, 0, none⟩) hb_fg).trans bx_fg_0
  replace hb_fg := Nat.lt_of_lt_of_le hb_fg b.size
  replace bx_fh_0 := (b.cell (p := ⟨w22_.heap.size, 0, none⟩) hb_fh).trans bx_fh_0
  replace hb_fh := Nat.lt_of_lt_of_le hb_fh b.size
  replace T := T.trans (b.mono T.size)
  have s24_ := b.size
  clear b
  clear z_0
  clear z_3
  go_wp2_with fail
  refine (held_db _ _ _ _  (rd_db fg) (by omega) (by omega)).mono ?_
  rintro e w25_ ⟨rfl, b⟩
  replace fw := Iv.below OBB_good fw b
  replace fg := Iv.below OBB_good fg b
  replace fh := Iv.below OBB_good fh b
  replace bx_fw_0 := (b.cell (p := ⟨w4_.heap.size, 0, none⟩) hb_fw).trans bx_fw_0
  replace hb_fw := Nat.lt_of_lt_of_le hb_fw b.size
  replace bx_fg_0 := (b.cell (p := ⟨w8_.heap.size, 0, none⟩) hb_fg).trans bx_fg_0
  replace hb_fg := Nat.lt_of_lt_of_le hb_fg b.size
  replace bx_fh_0 := (b.cell (p := ⟨w22_.heap.size, 0, none⟩) hb_fh).trans bx_fh_0
  replace hb_fh := Nat.lt_of_lt_of_le hb_fh b.size
  replace T := T.trans (b.mono T.size)
  have s25_ := b.size
  clear b
  go_wp2
  go_ret
  exact ⟨rfl, T⟩

set_option maxRecDepth 100000 in
theorem lifted (os : Os) (started : os.Started) (H : Type) (enc : TypeId × Value → H) :
    ReturnsInHanded {} Try.checked os 6 .any (Rows.fnExactExplainWriteSpec.pre6 enc Try.prog Try.f6 Rows.fnExactExplainWriteRow.domain false) (Rows.fnExactExplainWriteSpec.post enc Try.prog Try.f6 false true false false) := by
  refine returnsInHanded_of_change (C := Try.checked) own_ started (by kernel_rfl) Try.func6
    (ChangeSpec.witness6 (enc := enc) (C := Try.checked) false ⟨#[], #[.slice none 0 0, .int .i64 0, .int .i64 0, .slice none 0 0], []⟩ 8 (by kernel_rfl) (by kernel_rfl) (by kernel_rfl) (by kernel_rfl)) ?_
  intro W base args ds gs before hval0 hW hcnd _
  have hval : ∀ (j : Nat) t v, Try.f6.params[j]? = some t → args[j]? = some v → Value.okWide Try.prog W .any base t v := hval0
  have hW' := hW
  obtain ⟨p, q, hA0, hV, rfl, hfz, hnd⟩ := hW
  have hA : DataW.TrodAll enc Try.prog W 0 (fun _ => true) true Try.f6.params.toList args.toList ds p := hA0
  rw [Try.params6] at hA hval
  obtain ⟨v0, vs0, d0, ds0, p0, q0, hargs, rfl, rfl, h0, r0⟩ := trodAll_cons hA
  obtain ⟨v1, vs1, d1, ds1, p1, q1, rfl, rfl, rfl, h1, r1⟩ := trodAll_cons r0
  obtain ⟨v2, vs2, d2, ds2, p2, q2, rfl, rfl, rfl, h2, r2⟩ := trodAll_cons r1
  obtain ⟨v3, vs3, d3, ds3, p3, q3, rfl, rfl, rfl, h3, r3⟩ := trodAll_cons r2
  obtain ⟨rfl, rfl, rfl⟩ := trodAll_nil r3
  obtain rfl : args = #[v0, v1, v2, v3] := by cases args; simp_all
  obtain ⟨rfl, rfl⟩ := trodVars_none hV
  have k0 := h0
  have lt0 : ∀ x ∈ p0, x.block < W.heap.size := by obtain ⟨m, hm⟩ := k0; exact DataW.trod_lt m _ _ _ hm
  obtain ⟨x0, y0⟩ := open_val Try.underlying42 (opens_slice Try.underlying42 (by kernel_rfl) (opens_struct1 Try.underlying89 (by kernel_rfl) (opens_slice Try.underlying29 (by kernel_rfl) (opens_slice Try.underlying22 (by kernel_rfl) (opens_u8 Try.underlying5))))) (hval 0 42 v0 rfl rfl) h0
  obtain ⟨a1, rfl, rfl, rfl, w1⟩ := open_int Try.underlying3 (hval 1 3 v1 rfl rfl) h1
  obtain ⟨a2, rfl, rfl, rfl, w2⟩ := open_int Try.underlying3 (hval 2 3 v2 rfl rfl) h2
  have k3 := h3
  have lt3 : ∀ x ∈ p3, x.block < W.heap.size := by obtain ⟨m, hm⟩ := k3; exact DataW.trod_lt m _ _ _ hm
  obtain ⟨x3, y3⟩ := open_val Try.underlying22 (opens_slice Try.underlying22 (by kernel_rfl) (opens_u8 Try.underlying5)) (hval 3 22 v3 rfl rfl) h3
  clear hA0 hval0
  refine (walk W v0 x0 y0 a1 w1 a2 w2 v3 x3 y3).mono fun e W' ⟨he, bel⟩ => ?_
  subst he
  exact ⟨_, rfl, _, _, _, [], _, [], hW', trodAll_mk1 (shut_bool Try.underlying4 _), (trodAll_cons_mk (Below.trod laid_ (by kernel_rfl) (of_decide_eq_true (by kernel_rfl)) k0 bel lt0) (trodAll_cons_mk (shut_int Try.underlying3 w1) (trodAll_cons_mk (shut_int Try.underlying3 w2) (trodAll_cons_mk (Below.trod laid_ (by kernel_rfl) (of_decide_eq_true (by kernel_rfl)) k3 bel lt3) trodAll_mk0)))), rfl, bel.frame _, fun h => by cases h⟩

theorem over : Rows.fnExactExplainWriteRow.holds Try.pinned (OpenSpec.ofChange Rows.fnExactExplainWriteSpec) :=
  OpenClaim.holds_of_wide 6 Try.f6 rfl rfl rfl rfl rfl rfl rfl ⟨rfl, rfl, rfl, rfl, rfl⟩ rfl rfl rfl rfl rfl (by kernel_rfl) Try.func6 (by kernel_rfl)
    (of_decide_eq_true (by kernel_rfl)) (by unfold Func.isWrapper; first | (rw [if_pos (by decide +kernel)]; kernel_rfl) | (rw [if_neg (by decide +kernel)]; exact ⟨rfl, rfl⟩))
    (fun os started H enc _ => lifted os started H enc)

theorem proved : Rows.FnExactExplainWriteSaid := over
end Go.Proofs.Ytokhogdocaeelaa.fnExactExplainWrite
