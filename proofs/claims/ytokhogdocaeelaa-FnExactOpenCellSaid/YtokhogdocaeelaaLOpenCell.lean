/- FnExactOpenCell, for every argument, no condition: the program's OpenCell returns what the reference's returns, in memory of its own, and leaves its argument as it was. -/
import Derived.Test.YtokhogdocaeelaaOpJ
import Derived.Deep.RegionHeld3
namespace Go.Proofs.Ytokhogdocaeelaa.fnExactOpenCell
set_option linter.unusedVariables false
open Go.RowKit Go.ChangeShapes Go.WideShapes Go.ChangeAt

set_option maxHeartbeats 4000000 in
set_option maxRecDepth 100000 in
theorem walk (w : World) (a0 : Int) (w0 : (Lit.int .i64 a0).wf = true) (a1 : Int) (w1 : (Lit.int .i64 a1).wf = true) (v2 : Value) (x2 : List UInt8) (y2 : (Rd RB) w v2 x2) :
    Calls Try.prog 9 #[.int .i64 a0, .int .i64 a1, v2] w fun e w' => e = .returned (.bool true) ∧ Below w.heap.size w w' := by
  obtain ⟨A2, l2, c2, rfl, g2⟩ := y2
  obtain rfl := g2.1
  have hc2 := Nat.le_trans g2.2.1 g2.2.2.1
  unfold maxLen at hc2
  replace y2 : (Rd RB) w (.slice A2 x2.length c2) x2 := ⟨_, _, _, rfl, g2⟩
  clear g2
  by_cases hl2 : x2.length ≤ 1048576
  rotate_left
  · go_enter Try.func9, Try.ntmps9
    go_wp2
    go_ret
    exact ⟨rfl, Below.refl _ _⟩
  have hsl := opnB_le a0 a1 x2
  obtain ⟨ok, hok⟩ : ∃ b : Bool, Hid (openOk a0 a1 x2 = b) := ⟨_, Lib.hid rfl⟩
  go_enter Try.func9, Try.ntmps9
  have T := Below.refl w.heap.size w
  go_wp2_with fail
  refine (to_bytes _ _ _  ((Rd_reads RB_reads) _ _ _ _ y2 T) (by omega)).mono ?_
  rintro e w1_ ⟨Vs2, rfl, F⟩
  have b := F.below
  replace T := T.trans (b.mono T.size)
  have s2 := Fresh.iv (Own_good FB_good) F
  have s1_ := b.size
  clear F b
  go_wp2_with fail
  refine (specOpenCell_c _ _ _ _ _ _ (rd_bytes s2) hok).mono ?_
  rintro e w2_ ⟨AVw, lVw, cVw, rfl, F⟩
  have b := F.below
  replace s2 := Iv.below (Own_good FB_good) s2 b
  replace T := T.trans (b.mono T.size)
  have fw := Fresh.iv (Own_good FB_good) F
  have s2_ := b.size
  clear F b
  clear s2
  have b := below_alloc w2_ (.cells #[.int .i64 (opnM a0 a1 x2), .slice AVw lVw cVw] 58)
  replace fw := Iv.below (Own_good FB_good) fw b
  replace T := T.trans (b.mono T.size)
  have bx_fw_0 : (World.alloc w2_ (.cells #[.int .i64 (opnM a0 a1 x2), .slice AVw lVw cVw] 58)).cell? ⟨w2_.heap.size, 0, none⟩ = some (.int .i64 (opnM a0 a1 x2)) := by rw [World.cell?_alloc_at _ _ _ _ (by simp)]; rfl
  have bx_fw_1 : (World.alloc w2_ (.cells #[.int .i64 (opnM a0 a1 x2), .slice AVw lVw cVw] 58)).cell? ⟨w2_.heap.size, 1, none⟩ = some (.slice AVw lVw cVw) := by rw [World.cell?_alloc_at _ _ _ _ (by simp)]; rfl
  have hb_fw : w2_.heap.size < (World.alloc w2_ (.cells #[.int .i64 (opnM a0 a1 x2), .slice AVw lVw cVw] 58)).heap.size := by simp
  have sfw_ : w2_.heap.size < (World.alloc w2_ (.cells #[.int .i64 (opnM a0 a1 x2), .slice AVw lVw cVw] 58)).heap.size := by simp
  clear b
  go_wp2_with fail
  generalize (World.alloc w2_ (.cells #[.int .i64 (opnM a0 a1 x2), .slice AVw lVw cVw] 58)) = w3_ at *
  refine (to_bytes _ _ _  ((Rd_reads RB_reads) _ _ _ _ y2 T) (by omega)).mono ?_
  rintro e w4_ ⟨Vx_2, rfl, F⟩
  have b := F.below
  replace fw := Iv.below (Own_good FB_good) fw b
  replace bx_fw_0 := (b.cell (p := ⟨w2_.heap.size, 0, none⟩) hb_fw).trans bx_fw_0
  replace bx_fw_1 := (b.cell (p := ⟨w2_.heap.size, 1, none⟩) hb_fw).trans bx_fw_1
  replace hb_fw := Nat.lt_of_lt_of_le hb_fw b.size
  replace T := T.trans (b.mono T.size)
  have x_2 := Fresh.iv (Own_good FB_good) F
  have s4_ := b.size
  clear F b
  go_wp2_with fail
  refine (implOpenCell_c _ _ _ _ _ _ (rd_bytes x_2) hok).mono ?_
  rintro e w5_ ⟨AVg, lVg, cVg, rfl, F⟩
  have b := F.below
  replace fw := Iv.below (Own_good FB_good) fw b
  replace x_2 := Iv.below (Own_good FB_good) x_2 b
  replace bx_fw_0 := (b.cell (p := ⟨w2_.heap.size, 0, none⟩) hb_fw).trans bx_fw_0
  replace bx_fw_1 := (b.cell (p := ⟨w2_.heap.size, 1, none⟩) hb_fw).trans bx_fw_1
  replace hb_fw := Nat.lt_of_lt_of_le hb_fw b.size
  replace T := T.trans (b.mono T.size)
  have fg := Fresh.iv (Own_good FB_good) F
  have s5_ := b.size
  clear F b
  have b := below_alloc w5_ (.cells #[.int .i64 (opnM a0 a1 x2), .slice AVg lVg cVg] 58)
  replace fw := Iv.below (Own_good FB_good) fw b
  replace x_2 := Iv.below (Own_good FB_good) x_2 b
  replace fg := Iv.below (Own_good FB_good) fg b
  replace bx_fw_0 := (b.cell (p := ⟨w2_.heap.size, 0, none⟩) hb_fw).trans bx_fw_0
  replace bx_fw_1 := (b.cell (p := ⟨w2_.heap.size, 1, none⟩) hb_fw).trans bx_fw_1
  replace hb_fw := Nat.lt_of_lt_of_le hb_fw b.size
  replace T := T.trans (b.mono T.size)
  have bx_fg_0 : (World.alloc w5_ (.cells #[.int .i64 (opnM a0 a1 x2), .slice AVg lVg cVg] 58)).cell? ⟨w5_.heap.size, 0, none⟩ = some (.int .i64 (opnM a0 a1 x2)) := by rw [World.cell?_alloc_at _ _ _ _ (by simp)]; rfl
  have bx_fg_1 : (World.alloc w5_ (.cells #[.int .i64 (opnM a0 a1 x2), .slice AVg lVg cVg] 58)).cell? ⟨w5_.heap.size, 1, none⟩ = some (.slice AVg lVg cVg) := by rw [World.cell?_alloc_at _ _ _ _ (by simp)]; rfl
  have hb_fg : w5_.heap.size < (World.alloc w5_ (.cells #[.int .i64 (opnM a0 a1 x2), .slice AVg lVg cVg] 58)).heap.size := by simp
  have sfg_ : w5_.heap.size < (World.alloc w5_ (.cells #[.int .i64 (opnM a0 a1 x2), .slice AVg lVg cVg] 58)).heap.size := by simp
  clear b
  go_wp2_with fail
  generalize (World.alloc w5_ (.cells #[.int .i64 (opnM a0 a1 x2), .slice AVg lVg cVg] 58)) = w6_ at *
  refine (eq_plain _ _ _ _ _  (rd_plain fg) (rd_plain fw)).mono ?_
  rintro e w7_ ⟨rfl, b⟩
  replace fw := Iv.below (Own_good FB_good) fw b
  replace x_2 := Iv.below (Own_good FB_good) x_2 b
  replace fg := Iv.below (Own_good FB_good) fg b
  replace bx_fw_0 := (b.cell (p := ⟨w2_.heap.size, 0, none⟩) hb_fw).trans bx_fw_0
  replace bx_fw_1 := (b.cell (p := ⟨w2_.heap.size, 1, none⟩) hb_fw).trans bx_fw_1
  replace hb_fw := Nat.lt_of_lt_of_le hb_fw b.size
  replace bx_fg_0 := (b.cell (p := ⟨w5_.heap.size, 0, none⟩) hb_fg).trans bx_fg_0
  replace bx_fg_1 := (b.cell (p := ⟨w5_.heap.size, 1, none⟩) hb_fg).trans bx_fg_1
  replace hb_fg := Nat.lt_of_lt_of_le hb_fg b.size
  replace T := T.trans (b.mono T.size)
  have s7_ := b.size
  clear b
  go_wp2_with fail
  refine (to_bytes _ _ _  ((Rd_reads RB_reads) _ _ _ _ y2 T) (by omega)).mono ?_
  rintro e w8_ ⟨Vft, rfl, F⟩
  have b := F.below
  replace fw := Iv.below (Own_good FB_good) fw b
  replace x_2 := Iv.below (Own_good FB_good) x_2 b
  replace fg := Iv.below (Own_good FB_good) fg b
  replace bx_fw_0 := (b.cell (p := ⟨w2_.heap.size, 0, none⟩) hb_fw).trans bx_fw_0
  replace bx_fw_1 := (b.cell (p := ⟨w2_.heap.size, 1, none⟩) hb_fw).trans bx_fw_1
  replace hb_fw := Nat.lt_of_lt_of_le hb_fw b.size
  replace bx_fg_0 := (b.cell (p := ⟨w5_.heap.size, 0, none⟩) hb_fg).trans bx_fg_0
  replace bx_fg_1 := (b.cell (p := ⟨w5_.heap.size, 1, none⟩) hb_fg).trans bx_fg_1
  replace hb_fg := Nat.lt_of_lt_of_le hb_fg b.size
  replace T := T.trans (b.mono T.size)
  have ft := Fresh.iv (Own_good FB_good) F
  have s8_ := b.size
  clear F b
  go_wp2_with fail
  refine (eq_bytes _ _ _ _  (rd_bytes x_2) (rd_bytes ft)).mono ?_
  rintro e w9_ ⟨rfl, b⟩
  replace fw := Iv.below (Own_good FB_good) fw b
  replace x_2 := Iv.below (Own_good FB_good) x_2 b
  replace fg := Iv.below (Own_good FB_good) fg b
  replace ft := Iv.below (Own_good FB_good) ft b
  replace bx_fw_0 := (b.cell (p := ⟨w2_.heap.size, 0, none⟩) hb_fw).trans bx_fw_0
  replace bx_fw_1 := (b.cell (p := ⟨w2_.heap.size, 1, none⟩) hb_fw).trans bx_fw_1
  replace hb_fw := Nat.lt_of_lt_of_le hb_fw b.size
  replace bx_fg_0 := (b.cell (p := ⟨w5_.heap.size, 0, none⟩) hb_fg).trans bx_fg_0
  replace bx_fg_1 := (b.cell (p := ⟨w5_.heap.size, 1, none⟩) hb_fg).trans bx_fg_1
  replace hb_fg := Nat.lt_of_lt_of_le hb_fg b.size
  replace T := T.trans (b.mono T.size)
  have s9_ := b.size
  clear b
  clear ft
  go_wp2_with fail
  refine (mark_bytes _ _ _ _ _ _ x_2 (by omega) (by omega)).mono ?_
  rintro e w10_ ⟨rfl, f_, c⟩
  have s10_ := c.size
  replace fw := Iv.chg (Own_good FB_good) fw c (by omega)
  replace fg := Iv.chg (Own_good FB_good) fg c (by omega)
  replace bx_fw_0 := (World.cell?_of_block (a := ⟨w2_.heap.size, 0, none⟩) (c.block (w2_.heap.size) hb_fw (by omega))).trans bx_fw_0
  replace bx_fw_1 := (World.cell?_of_block (a := ⟨w2_.heap.size, 1, none⟩) (c.block (w2_.heap.size) hb_fw (by omega))).trans bx_fw_1
  replace hb_fw := Nat.lt_of_lt_of_le hb_fw c.size
  replace bx_fg_0 := (World.cell?_of_block (a := ⟨w5_.heap.size, 0, none⟩) (c.block (w5_.heap.size) hb_fg (by omega))).trans bx_fg_0
  replace bx_fg_1 := (World.cell?_of_block (a := ⟨w5_.heap.size, 1, none⟩) (c.block (w5_.heap.size) hb_fg (by omega))).trans bx_fg_1
  replace hb_fg := Nat.lt_of_lt_of_le hb_fg c.size
  replace T := T.trans (c.below (by omega) T.size)
  clear x_2 c
  have x_2 := f_
  clear f_
  go_wp2_with fail
  refine (eq_plain _ _ _ _ _  (rd_plain fg) (rd_plain fw)).mono ?_
  rintro e w11_ ⟨rfl, b⟩
  replace fw := Iv.below (Own_good FB_good) fw b
  replace x_2 := Iv.below (Own_good FB_good) x_2 b
  replace fg := Iv.below (Own_good FB_good) fg b
  replace bx_fw_0 := (b.cell (p := ⟨w2_.heap.size, 0, none⟩) hb_fw).trans bx_fw_0
  replace bx_fw_1 := (b.cell (p := ⟨w2_.heap.size, 1, none⟩) hb_fw).trans bx_fw_1
  replace hb_fw := Nat.lt_of_lt_of_le hb_fw b.size
  replace bx_fg_0 := (b.cell (p := ⟨w5_.heap.size, 0, none⟩) hb_fg).trans bx_fg_0
  replace bx_fg_1 := (b.cell (p := ⟨w5_.heap.size, 1, none⟩) hb_fg).trans bx_fg_1
  replace hb_fg := Nat.lt_of_lt_of_le hb_fg b.size
  replace T := T.trans (b.mono T.size)
  have s11_ := b.size
  clear b
  clear x_2
  go_wp2_with fail
  refine (mark_plain _ _ _ _ _ _ _ fg (by omega) (by omega)).mono ?_
  rintro e w12_ ⟨rfl, f_, c⟩
  have s12_ := c.size
  replace fw := Iv.chg (Own_good FB_good) fw c (by omega)
  replace bx_fw_0 := (World.cell?_of_block (a := ⟨w2_.heap.size, 0, none⟩) (c.block (w2_.heap.size) hb_fw (by omega))).trans bx_fw_0
  replace bx_fw_1 := (World.cell?_of_block (a := ⟨w2_.heap.size, 1, none⟩) (c.block (w2_.heap.size) hb_fw (by omega))).trans bx_fw_1
  replace hb_fw := Nat.lt_of_lt_of_le hb_fw c.size
  replace bx_fg_0 := (World.cell?_of_block (a := ⟨w5_.heap.size, 0, none⟩) (c.block (w5_.heap.size) hb_fg (by omega))).trans bx_fg_0
  replace bx_fg_1 := (World.cell?_of_block (a := ⟨w5_.heap.size, 1, none⟩) (c.block (w5_.heap.size) hb_fg (by omega))).trans bx_fg_1
  replace hb_fg := Nat.lt_of_lt_of_le hb_fg c.size
  replace T := T.trans (c.below (by omega) T.size)
  clear fg c
  have fg := f_
  clear f_
  go_wp2_with fail
  refine (held_plain _ _ _ _ _  (rd_plain fg) (by omega) (by omega)).mono ?_
  rintro e w13_ ⟨rfl, b⟩
  replace fw := Iv.below (Own_good FB_good) fw b
  replace fg := Iv.below (Own_good FB_good) fg b
  replace bx_fw_0 := (b.cell (p := ⟨w2_.heap.size, 0, none⟩) hb_fw).trans bx_fw_0
  replace bx_fw_1 := (b.cell (p := ⟨w2_.heap.size, 1, none⟩) hb_fw).trans bx_fw_1
  replace hb_fw := Nat.lt_of_lt_of_le hb_fw b.size
  replace bx_fg_0 := (b.cell (p := ⟨w5_.heap.size, 0, none⟩) hb_fg).trans bx_fg_0
  replace bx_fg_1 := (b.cell (p := ⟨w5_.heap.size, 1, none⟩) hb_fg).trans bx_fg_1
  replace hb_fg := Nat.lt_of_lt_of_le hb_fg b.size
  replace T := T.trans (b.mono T.size)
  have s13_ := b.size
  clear b
  go_wp2_with fail
  refine (to_bytes _ _ _  ((Rd_reads RB_reads) _ _ _ _ y2 T) (by omega)).mono ?_
  rintro e w14_ ⟨Vz_2, rfl, F⟩
  have b := F.below
  replace fw := Iv.below (Own_good FB_good) fw b
  replace fg := Iv.below (Own_good FB_good) fg b
  replace bx_fw_0 := (b.cell (p := ⟨w2_.heap.size, 0, none⟩) hb_fw).trans bx_fw_0
  replace bx_fw_1 := (b.cell (p := ⟨w2_.heap.size, 1, none⟩) hb_fw).trans bx_fw_1
  replace hb_fw := Nat.lt_of_lt_of_le hb_fw b.size
  replace bx_fg_0 := (b.cell (p := ⟨w5_.heap.size, 0, none⟩) hb_fg).trans bx_fg_0
  replace bx_fg_1 := (b.cell (p := ⟨w5_.heap.size, 1, none⟩) hb_fg).trans bx_fg_1
  replace hb_fg := Nat.lt_of_lt_of_le hb_fg b.size
  replace T := T.trans (b.mono T.size)
  have z_2 := Fresh.iv (Own_good FB_good) F
  have s14_ := b.size
  clear F b
  go_wp2_with fail
  refine (implOpenCell_c _ _ _ _ _ _ (rd_bytes z_2) hok).mono ?_
  rintro e w15_ ⟨AVh, lVh, cVh, rfl, F⟩
  have b := F.below
  replace fw := Iv.below (Own_good FB_good) fw b
  replace fg := Iv.below (Own_good FB_good) fg b
  replace z_2 := Iv.below (Own_good FB_good) z_2 b
  replace bx_fw_0 := (b.cell (p := ⟨w2_.heap.size, 0, none⟩) hb_fw).trans bx_fw_0
  replace bx_fw_1 := (b.cell (p := ⟨w2_.heap.size, 1, none⟩) hb_fw).trans bx_fw_1
  replace hb_fw := Nat.lt_of_lt_of_le hb_fw b.size
  replace bx_fg_0 := (b.cell (p := ⟨w5_.heap.size, 0, none⟩) hb_fg).trans bx_fg_0
  replace bx_fg_1 := (b.cell (p := ⟨w5_.heap.size, 1, none⟩) hb_fg).trans bx_fg_1
  replace hb_fg := Nat.lt_of_lt_of_le hb_fg b.size
  replace T := T.trans (b.mono T.size)
  have fh := Fresh.iv (Own_good FB_good) F
  have s15_ := b.size
  clear F b
  have b := below_alloc w15_ (.cells #[.int .i64 (opnM a0 a1 x2), .slice AVh lVh cVh] 58)
  replace fw := Iv.below (Own_good FB_good) fw b
  replace fg := Iv.below (Own_good FB_good) fg b
  replace z_2 := Iv.below (Own_good FB_good) z_2 b
  replace fh := Iv.below (Own_good FB_good) fh b
  replace bx_fw_0 := (b.cell (p := ⟨w2_.heap.size, 0, none⟩) hb_fw).trans bx_fw_0
  replace bx_fw_1 := (b.cell (p := ⟨w2_.heap.size, 1, none⟩) hb_fw).trans bx_fw_1
  replace hb_fw := Nat.lt_of_lt_of_le hb_fw b.size
  replace bx_fg_0 := (b.cell (p := ⟨w5_.heap.size, 0, none⟩) hb_fg).trans bx_fg_0
  replace bx_fg_1 := (b.cell (p := ⟨w5_.heap.size, 1, none⟩) hb_fg).trans bx_fg_1
  replace hb_fg := Nat.lt_of_lt_of_le hb_fg b.size
  replace T := T.trans (b.mono T.size)
  have bx_fh_0 : (World.alloc w15_ (.cells #[.int .i64 (opnM a0 a1 x2), .slice AVh lVh cVh] 58)).cell? ⟨w15_.heap.size, 0, none⟩ = some (.int .i64 (opnM a0 a1 x2)) := by rw [World.cell?_alloc_at _ _ _ _ (by simp)]; rfl
  have bx_fh_1 : (World.alloc w15_ (.cells #[.int .i64 (opnM a0 a1 x2), .slice AVh lVh cVh] 58)).cell? ⟨w15_.heap.size, 1, none⟩ = some (.slice AVh lVh cVh) := by rw [World.cell?_alloc_at _ _ _ _ (by simp)]; rfl
  have hb_fh : w15_.heap.size < (World.alloc w15_ (.cells #[.int .i64 (opnM a0 a1 x2), .slice AVh lVh cVh] 58)).heap.size := by simp
  have sfh_ : w15_.heap.size < (World.alloc w15_ (.cells #[.int .i64 (opnM a0 a1 x2), .slice AVh lVh cVh] 58)).heap.size := by simp
  clear b
  go_wp2_with fail
  generalize (World.alloc w15_ (.cells #[.int .i64 (opnM a0 a1 x2), .slice AVh lVh cVh] 58)) = w16_ at *
  refine (eq_plain _ _ _ _ _  (rd_plain fh) (rd_plain fw)).mono ?_
  rintro e w17_ ⟨rfl, b⟩
  replace fw := Iv.below (Own_good FB_good) fw b
  replace fg := Iv.below (Own_good FB_good) fg b
  replace z_2 := Iv.below (Own_good FB_good) z_2 b
  replace fh := Iv.below (Own_good FB_good) fh b
  replace bx_fw_0 := (b.cell (p := ⟨w2_.heap.size, 0, none⟩) hb_fw).trans bx_fw_0
  replace bx_fw_1 := (b.cell (p := ⟨w2_.heap.size, 1, none⟩) hb_fw).trans bx_fw_1
  replace hb_fw := Nat.lt_of_lt_of_le hb_fw b.size
  replace bx_fg_0 := (b.cell (p := ⟨w5_.heap.size, 0, none⟩) hb_fg).trans bx_fg_0
  replace bx_fg_1 := (b.cell (p := ⟨w5_.heap.size, 1, none⟩) hb_fg).trans bx_fg_1
  replace hb_fg := Nat.lt_of_lt_of_le hb_fg b.size
  replace bx_fh_0 := (b.cell (p := ⟨w15_.heap.size, 0, none⟩) hb_fh).trans bx_fh_0
  replace bx_fh_1 := (b.cell (p := ⟨w15_.heap.size, 1, none⟩) hb_fh).trans bx_fh_1
  replace hb_fh := Nat.lt_of_lt_of_le hb_fh b.size
  replace T := T.trans (b.mono T.size)
  have s17_ := b.size
  clear b
  clear z_2
  go_wp2_with fail
  refine (held_plain _ _ _ _ _  (rd_plain fg) (by omega) (by omega)).mono ?_
  rintro e w18_ ⟨rfl, b⟩
  replace fw := Iv.below (Own_good FB_good) fw b
  replace fg := Iv.below (Own_good FB_good) fg b
  replace fh := Iv.below (Own_good FB_good) fh b
  replace bx_fw_0 := (b.cell (p := ⟨w2_.heap.size, 0, none⟩) hb_fw).trans bx_fw_0
  replace bx_fw_1 := (b.cell (p := ⟨w2_.heap.size, 1, none⟩) hb_fw).trans bx_fw_1
  replace hb_fw := Nat.lt_of_lt_of_le hb_fw b.size
  replace bx_fg_0 := (b.cell (p := ⟨w5_.heap.size, 0, none⟩) hb_fg).trans bx_fg_0
  replace bx_fg_1 := (b.cell (p := ⟨w5_.heap.size, 1, none⟩) hb_fg).trans bx_fg_1
  replace hb_fg := Nat.lt_of_lt_of_le hb_fg b.size
  replace bx_fh_0 := (b.cell (p := ⟨w15_.heap.size, 0, none⟩) hb_fh).trans bx_fh_0
  replace bx_fh_1 := (b.cell (p := ⟨w15_.heap.size, 1, none⟩) hb_fh).trans bx_fh_1
  replace hb_fh := Nat.lt_of_lt_of_le hb_fh b.size
  replace T := T.trans (b.mono T.size)
  have s18_ := b.size
  clear b
  go_wp2
  go_ret
  exact ⟨rfl, T⟩

set_option maxRecDepth 100000 in
theorem lifted (os : Os) (started : os.Started) (H : Type) (enc : TypeId × Value → H) :
    ReturnsInHanded {} Try.checked os 9 .any (Rows.fnExactOpenCellSpec.pre6 enc Try.prog Try.f9 Rows.fnExactOpenCellRow.domain false) (Rows.fnExactOpenCellSpec.post enc Try.prog Try.f9 false true false false) := by
  refine returnsInHanded_of_change (C := Try.checked) own_ started (by kernel_rfl) Try.func9
    (ChangeSpec.witness6 (enc := enc) (C := Try.checked) false ⟨#[], #[.int .i64 0, .int .i64 0, .slice none 0 0], []⟩ 8 (by kernel_rfl) (by kernel_rfl) (by kernel_rfl) (by kernel_rfl)) ?_
  intro W base args ds gs before hval0 hW hcnd _
  have hval : ∀ (j : Nat) t v, Try.f9.params[j]? = some t → args[j]? = some v → Value.okWide Try.prog W .any base t v := hval0
  have hW' := hW
  obtain ⟨p, q, hA0, hV, rfl, hfz, hnd⟩ := hW
  have hA : DataW.TrodAll enc Try.prog W 0 (fun _ => true) true Try.f9.params.toList args.toList ds p := hA0
  rw [Try.params9] at hA hval
  obtain ⟨v0, vs0, d0, ds0, p0, q0, hargs, rfl, rfl, h0, r0⟩ := trodAll_cons hA
  obtain ⟨v1, vs1, d1, ds1, p1, q1, rfl, rfl, rfl, h1, r1⟩ := trodAll_cons r0
  obtain ⟨v2, vs2, d2, ds2, p2, q2, rfl, rfl, rfl, h2, r2⟩ := trodAll_cons r1
  obtain ⟨rfl, rfl, rfl⟩ := trodAll_nil r2
  obtain rfl : args = #[v0, v1, v2] := by cases args; simp_all
  obtain ⟨rfl, rfl⟩ := trodVars_none hV
  obtain ⟨a0, rfl, rfl, rfl, w0⟩ := open_int Try.underlying3 (hval 0 3 v0 rfl rfl) h0
  obtain ⟨a1, rfl, rfl, rfl, w1⟩ := open_int Try.underlying3 (hval 1 3 v1 rfl rfl) h1
  have k2 := h2
  have lt2 : ∀ x ∈ p2, x.block < W.heap.size := by obtain ⟨m, hm⟩ := k2; exact DataW.trod_lt m _ _ _ hm
  obtain ⟨x2, y2⟩ := open_val Try.underlying22 (opens_slice Try.underlying22 (by kernel_rfl) (opens_u8 Try.underlying5)) (hval 2 22 v2 rfl rfl) h2
  clear hA0 hval0
  refine (walk W a0 w0 a1 w1 v2 x2 y2).mono fun e W' ⟨he, bel⟩ => ?_
  subst he
  exact ⟨_, rfl, _, _, _, [], _, [], hW', trodAll_mk1 (shut_bool Try.underlying4 _), (trodAll_cons_mk (shut_int Try.underlying3 w0) (trodAll_cons_mk (shut_int Try.underlying3 w1) (trodAll_cons_mk (Below.trod laid_ (by kernel_rfl) (of_decide_eq_true (by kernel_rfl)) k2 bel lt2) trodAll_mk0))), rfl, bel.frame _, fun h => by cases h⟩

theorem over : Rows.fnExactOpenCellRow.holds Try.pinned (OpenSpec.ofChange Rows.fnExactOpenCellSpec) :=
  OpenClaim.holds_of_wide 9 Try.f9 rfl rfl rfl rfl rfl rfl rfl ⟨rfl, rfl, rfl, rfl, rfl⟩ rfl rfl rfl rfl rfl (by kernel_rfl) Try.func9 (by kernel_rfl)
    (of_decide_eq_true (by kernel_rfl)) (by unfold Func.isWrapper; first | (rw [if_pos (by decide +kernel)]; kernel_rfl) | (rw [if_neg (by decide +kernel)]; exact ⟨rfl, rfl⟩))
    (fun os started H enc _ => lifted os started H enc)

theorem proved : Rows.FnExactOpenCellSaid := over
end Go.Proofs.Ytokhogdocaeelaa.fnExactOpenCell
