/- FnExactReadPrivately, for every argument, no condition: the program's ReadPrivately returns what the reference's returns, in memory of its own, and leaves its arguments as they were. -/
import Derived.Test.YtlnlkkgcfhngbaaRp
import Derived.Test.YtlnlkkgcfhngbaaNestFns
namespace Go.Proofs.Ytlnlkkgcfhngbaa.fnExactReadPrivately
set_option linter.unusedVariables false
open Go.RowKit Go.ChangeShapes Go.WideShapes Go.ChangeAt

set_option maxHeartbeats 4000000 in
set_option maxRecDepth 100000 in
theorem walk (w : World) (v0 : Value) (x0 : List (List UInt8)) (y0 : (Rd (Rd RB)) w v0 x0) (a1 : Int) (w1 : (Lit.int .i64 a1).wf = true) (v2 : Value) (x2 : List Int) (y2 : (Rd RI) w v2 x2) :
    Calls Try.prog 4 #[.agg #[v0], .int .i64 a1, v2] w fun e w' => e = .returned (.bool true) ∧ Below w.heap.size w w' := by
  obtain ⟨A0, l0, c0, rfl, g0⟩ := y0
  replace y0 : (Rd (Rd RB)) w (.slice A0 l0 c0) x0 := ⟨_, _, _, rfl, g0⟩
  clear g0
  obtain ⟨A2, l2, c2, rfl, g2⟩ := y2
  obtain rfl := g2.1
  have hc2 := Nat.le_trans g2.2.1 g2.2.2.1
  unfold maxLen at hc2
  replace y2 : (Rd RI) w (.slice A2 x2.length c2) x2 := ⟨_, _, _, rfl, g2⟩
  clear g2
  by_cases hl2 : x2.length ≤ 1048576
  rotate_left
  · go_enter Try.func4, Try.ntmps4
    go_wp2
    go_ret
    exact ⟨rfl, (Below.refl _ _).alloc (by simp; try omega) _⟩
  by_cases hl0 : ((tot x0 : Nat) : Int) ≤ (1048576 : Int)
  rotate_left
  · go_enter Try.func4, Try.ntmps4
    have T := Below.refl w.heap.size w
    have b := below_alloc w (.cells #[.slice A0 l0 c0] 40)
    replace T := T.trans (b.mono T.size)
    have bx_p0_0 : (World.alloc w (.cells #[.slice A0 l0 c0] 40)).cell? ⟨w.heap.size, 0, none⟩ = some (.slice A0 l0 c0) := by rw [World.cell?_alloc_at _ _ _ _ (by simp)]; rfl
    have hb_p0 : w.heap.size < (World.alloc w (.cells #[.slice A0 l0 c0] 40)).heap.size := by simp
    have sp0_ : w.heap.size < (World.alloc w (.cells #[.slice A0 l0 c0] 40)).heap.size := by simp
    clear b
    go_wp2_with fail
    generalize (World.alloc w (.cells #[.slice A0 l0 c0] 40)) = w1_ at *
    refine (sz_db _ _ _ _ ((Rd_reads (Rd_reads RB_reads)) _ _ _ _ y0 T) (by omega) (by omega)).mono ?_
    rintro e w2_ ⟨rfl, b⟩
    rw [if_pos (by omega)]
    replace bx_p0_0 := (b.cell (p := ⟨w.heap.size, 0, none⟩) hb_p0).trans bx_p0_0
    replace hb_p0 := Nat.lt_of_lt_of_le hb_p0 b.size
    replace T := T.trans (b.mono T.size)
    clear b
    go_wp2
    go_ret
    exact ⟨rfl, T⟩
  have hrl := cmb_len (rp x0 a1 x2)
  have hrt := rp_tot x0 a1 x2
  have hsl := sumL_le (rp x0 a1 x2)
  have hsx := sumL_le x0
  have hw1 := wf_i64 w1
  obtain ⟨ok, hok⟩ : ∃ b : Bool, Hid (cmbOk (rp x0 a1 x2) = b) := ⟨_, Lib.hid rfl⟩
  go_enter Try.func4, Try.ntmps4
  have T := Below.refl w.heap.size w
  have b := below_alloc w (.cells #[.slice A0 l0 c0] 40)
  replace T := T.trans (b.mono T.size)
  have bx_p0_0 : (World.alloc w (.cells #[.slice A0 l0 c0] 40)).cell? ⟨w.heap.size, 0, none⟩ = some (.slice A0 l0 c0) := by rw [World.cell?_alloc_at _ _ _ _ (by simp)]; rfl
  have hb_p0 : w.heap.size < (World.alloc w (.cells #[.slice A0 l0 c0] 40)).heap.size := by simp
  have sp0_ : w.heap.size < (World.alloc w (.cells #[.slice A0 l0 c0] 40)).heap.size := by simp
  clear b
  go_wp2_with fail
  generalize (World.alloc w (.cells #[.slice A0 l0 c0] 40)) = w1_ at *
  refine (sz_db _ _ _ _ ((Rd_reads (Rd_reads RB_reads)) _ _ _ _ y0 T) (by omega) (by omega)).mono ?_
  rintro e w2_ ⟨rfl, b⟩
  rw [if_neg (by omega)]
  replace bx_p0_0 := (b.cell (p := ⟨w.heap.size, 0, none⟩) hb_p0).trans bx_p0_0
  replace hb_p0 := Nat.lt_of_lt_of_le hb_p0 b.size
  replace T := T.trans (b.mono T.size)
  have s2_ := b.size
  clear b
  go_wp2_with fail
  refine (to_db _ _ _  ((Rd_reads (Rd_reads RB_reads)) _ _ _ _ y0 T) (by omega)).mono ?_
  rintro e w3_ ⟨AVs0, lVs0, cVs0, rfl, F⟩
  have b := F.below
  replace bx_p0_0 := (b.cell (p := ⟨w.heap.size, 0, none⟩) hb_p0).trans bx_p0_0
  replace hb_p0 := Nat.lt_of_lt_of_le hb_p0 b.size
  replace T := T.trans (b.mono T.size)
  have s0 := Fresh.iv OBB_good F
  have s3_ := b.size
  clear F b
  go_wp2_with fail
  refine (to_ints _ _ _  ((Rd_reads RI_reads) _ _ _ _ y2 T) (by omega)).mono ?_
  rintro e w4_ ⟨Vs2, rfl, F⟩
  have b := F.below
  replace s0 := Iv.below OBB_good s0 b
  replace bx_p0_0 := (b.cell (p := ⟨w.heap.size, 0, none⟩) hb_p0).trans bx_p0_0
  replace hb_p0 := Nat.lt_of_lt_of_le hb_p0 b.size
  replace T := T.trans (b.mono T.size)
  have s2 := Fresh.iv (Own_good FI_good) F
  have s4_ := b.size
  clear F b
  go_wp2_with fail
  refine (specRp_c _ _ _ _ _ _ _ (rd_db s0) (rd_ints s2) hok (by omega) (by omega) hw1.1 hw1.2).mono ?_
  rintro e w5_ ⟨Vw, rfl, F⟩
  have b := F.below
  replace s0 := Iv.below OBB_good s0 b
  replace s2 := Iv.below (Own_good FI_good) s2 b
  replace bx_p0_0 := (b.cell (p := ⟨w.heap.size, 0, none⟩) hb_p0).trans bx_p0_0
  replace hb_p0 := Nat.lt_of_lt_of_le hb_p0 b.size
  replace T := T.trans (b.mono T.size)
  have fw := Fresh.iv (Own_good FB_good) F
  have s5_ := b.size
  clear F b
  clear s0
  clear s2
  go_wp2_with fail
  refine (to_db _ _ _  ((Rd_reads (Rd_reads RB_reads)) _ _ _ _ y0 T) (by omega)).mono ?_
  rintro e w6_ ⟨AVx_0, lVx_0, cVx_0, rfl, F⟩
  have b := F.below
  replace fw := Iv.below (Own_good FB_good) fw b
  replace bx_p0_0 := (b.cell (p := ⟨w.heap.size, 0, none⟩) hb_p0).trans bx_p0_0
  replace hb_p0 := Nat.lt_of_lt_of_le hb_p0 b.size
  replace T := T.trans (b.mono T.size)
  have x_0 := Fresh.iv OBB_good F
  have s6_ := b.size
  clear F b
  have b := below_alloc w6_ (.cells #[.slice AVx_0 lVx_0 cVx_0] 26)
  replace fw := Iv.below (Own_good FB_good) fw b
  replace x_0 := Iv.below OBB_good x_0 b
  replace bx_p0_0 := (b.cell (p := ⟨w.heap.size, 0, none⟩) hb_p0).trans bx_p0_0
  replace hb_p0 := Nat.lt_of_lt_of_le hb_p0 b.size
  replace T := T.trans (b.mono T.size)
  have bx_x_0_0 : (World.alloc w6_ (.cells #[.slice AVx_0 lVx_0 cVx_0] 26)).cell? ⟨w6_.heap.size, 0, none⟩ = some (.slice AVx_0 lVx_0 cVx_0) := by rw [World.cell?_alloc_at _ _ _ _ (by simp)]; rfl
  have hb_x_0 : w6_.heap.size < (World.alloc w6_ (.cells #[.slice AVx_0 lVx_0 cVx_0] 26)).heap.size := by simp
  have sx_0_ : w6_.heap.size < (World.alloc w6_ (.cells #[.slice AVx_0 lVx_0 cVx_0] 26)).heap.size := by simp
  clear b
  go_wp2_with fail
  generalize (World.alloc w6_ (.cells #[.slice AVx_0 lVx_0 cVx_0] 26)) = w7_ at *
  refine (to_ints _ _ _  ((Rd_reads RI_reads) _ _ _ _ y2 T) (by omega)).mono ?_
  rintro e w8_ ⟨Vx_2, rfl, F⟩
  have b := F.below
  replace fw := Iv.below (Own_good FB_good) fw b
  replace x_0 := Iv.below OBB_good x_0 b
  replace bx_p0_0 := (b.cell (p := ⟨w.heap.size, 0, none⟩) hb_p0).trans bx_p0_0
  replace hb_p0 := Nat.lt_of_lt_of_le hb_p0 b.size
  replace bx_x_0_0 := (b.cell (p := ⟨w6_.heap.size, 0, none⟩) hb_x_0).trans bx_x_0_0
  replace hb_x_0 := Nat.lt_of_lt_of_le hb_x_0 b.size
  replace T := T.trans (b.mono T.size)
  have x_2 := Fresh.iv (Own_good FI_good) F
  have s8_ := b.size
  clear F b
  go_wp2_with fail
  refine (implRp_c _ _ _ _ _ _ _ (rd_db x_0) (rd_ints x_2) hok (by omega) (by omega) hw1.1 hw1.2).mono ?_
  rintro e w9_ ⟨Vg, rfl, F⟩
  have b := F.below
  replace fw := Iv.below (Own_good FB_good) fw b
  replace x_0 := Iv.below OBB_good x_0 b
  replace x_2 := Iv.below (Own_good FI_good) x_2 b
  replace bx_p0_0 := (b.cell (p := ⟨w.heap.size, 0, none⟩) hb_p0).trans bx_p0_0
  replace hb_p0 := Nat.lt_of_lt_of_le hb_p0 b.size
  replace bx_x_0_0 := (b.cell (p := ⟨w6_.heap.size, 0, none⟩) hb_x_0).trans bx_x_0_0
  replace hb_x_0 := Nat.lt_of_lt_of_le hb_x_0 b.size
  replace T := T.trans (b.mono T.size)
  have fg := Fresh.iv (Own_good FB_good) F
  have s9_ := b.size
  clear F b
  go_wp2_with fail
  refine (eq_bytes _ _ _ _  (rd_bytes fg) (rd_bytes fw)).mono ?_
  rintro e w10_ ⟨rfl, b⟩
  replace fw := Iv.below (Own_good FB_good) fw b
  replace x_0 := Iv.below OBB_good x_0 b
  replace x_2 := Iv.below (Own_good FI_good) x_2 b
  replace fg := Iv.below (Own_good FB_good) fg b
  replace bx_p0_0 := (b.cell (p := ⟨w.heap.size, 0, none⟩) hb_p0).trans bx_p0_0
  replace hb_p0 := Nat.lt_of_lt_of_le hb_p0 b.size
  replace bx_x_0_0 := (b.cell (p := ⟨w6_.heap.size, 0, none⟩) hb_x_0).trans bx_x_0_0
  replace hb_x_0 := Nat.lt_of_lt_of_le hb_x_0 b.size
  replace T := T.trans (b.mono T.size)
  have s10_ := b.size
  clear b
  go_wp2_with fail
  replace fw := Iv.drew (Own_good FB_good) fw
  replace x_0 := Iv.drew OBB_good x_0
  replace x_2 := Iv.drew (Own_good FI_good) x_2
  replace fg := Iv.drew (Own_good FB_good) fg
  replace bx_p0_0 : (World.drew w10_).cell? ⟨w.heap.size, 0, none⟩ = some (.slice A0 l0 c0) := bx_p0_0
  replace hb_p0 : w.heap.size < (World.drew w10_).heap.size := hb_p0
  replace bx_x_0_0 : (World.drew w10_).cell? ⟨w6_.heap.size, 0, none⟩ = some (.slice AVx_0 lVx_0 cVx_0) := bx_x_0_0
  replace hb_x_0 : w6_.heap.size < (World.drew w10_).heap.size := hb_x_0
  replace T := T.drew
  have sd10_ : w10_.heap.size ≤ (World.drew w10_).heap.size := Nat.le_refl _
  go_region_held3 (fun w' => w'.cell? ⟨w6_.heap.size, 0, none⟩ = some (.slice AVx_0 lVx_0 cVx_0) ∧ w'.cell? ⟨w.heap.size, 0, none⟩ = some (.slice A0 l0 c0))
    (first | ((repeat' apply And.intro) <;> assumption) | go_keep)
    (first
      | (go_at_call 27
         refine (to_db _ _ _  ((Rd_reads (Rd_reads RB_reads)) _ _ _ _ y0 T) (by omega)).mono ?_
         rintro e w11_ ⟨AVft, lVft, cVft, rfl, F⟩
         have b := F.below
         replace fw := Iv.below (Own_good FB_good) fw b
         replace x_0 := Iv.below OBB_good x_0 b
         replace x_2 := Iv.below (Own_good FI_good) x_2 b
         replace fg := Iv.below (Own_good FB_good) fg b
         replace bx_p0_0 := (b.cell (p := ⟨w.heap.size, 0, none⟩) hb_p0).trans bx_p0_0
         replace hb_p0 := Nat.lt_of_lt_of_le hb_p0 b.size
         replace bx_x_0_0 := (b.cell (p := ⟨w6_.heap.size, 0, none⟩) hb_x_0).trans bx_x_0_0
         replace hb_x_0 := Nat.lt_of_lt_of_le hb_x_0 b.size
         replace T := T.trans (b.mono T.size)
         have ft := Fresh.iv OBB_good F
         have s11_ := b.size
         clear F b)
      | (go_at_call 30
         refine (eq_db _ _ _ _  (rd_db x_0) (rd_db ft)).mono ?_
         rintro e w12_ ⟨rfl, b⟩
         replace fw := Iv.below (Own_good FB_good) fw b
         replace x_0 := Iv.below OBB_good x_0 b
         replace x_2 := Iv.below (Own_good FI_good) x_2 b
         replace fg := Iv.below (Own_good FB_good) fg b
         replace ft := Iv.below OBB_good ft b
         replace bx_p0_0 := (b.cell (p := ⟨w.heap.size, 0, none⟩) hb_p0).trans bx_p0_0
         replace hb_p0 := Nat.lt_of_lt_of_le hb_p0 b.size
         replace bx_x_0_0 := (b.cell (p := ⟨w6_.heap.size, 0, none⟩) hb_x_0).trans bx_x_0_0
         replace hb_x_0 := Nat.lt_of_lt_of_le hb_x_0 b.size
         replace T := T.trans (b.mono T.size)
         have s12_ := b.size
         clear b))
  clear ft
  go_wp2_with fail
  refine (to_ints _ _ _  ((Rd_reads RI_reads) _ _ _ _ y2 T) (by omega)).mono ?_
  rintro e w13_ ⟨Vft, rfl, F⟩
  have b := F.below
  replace fw := Iv.below (Own_good FB_good) fw b
  replace x_0 := Iv.below OBB_good x_0 b
  replace x_2 := Iv.below (Own_good FI_good) x_2 b
  replace fg := Iv.below (Own_good FB_good) fg b
  replace bx_p0_0 := (b.cell (p := ⟨w.heap.size, 0, none⟩) hb_p0).trans bx_p0_0
  replace hb_p0 := Nat.lt_of_lt_of_le hb_p0 b.size
  replace bx_x_0_0 := (b.cell (p := ⟨w6_.heap.size, 0, none⟩) hb_x_0).trans bx_x_0_0
  replace hb_x_0 := Nat.lt_of_lt_of_le hb_x_0 b.size
  replace T := T.trans (b.mono T.size)
  have ft := Fresh.iv (Own_good FI_good) F
  have s13_ := b.size
  clear F b
  go_wp2_with fail
  refine (eq_ints _ _ _ _  (rd_ints x_2) (rd_ints ft)).mono ?_
  rintro e w14_ ⟨rfl, b⟩
  replace fw := Iv.below (Own_good FB_good) fw b
  replace x_0 := Iv.below OBB_good x_0 b
  replace x_2 := Iv.below (Own_good FI_good) x_2 b
  replace fg := Iv.below (Own_good FB_good) fg b
  replace ft := Iv.below (Own_good FI_good) ft b
  replace bx_p0_0 := (b.cell (p := ⟨w.heap.size, 0, none⟩) hb_p0).trans bx_p0_0
  replace hb_p0 := Nat.lt_of_lt_of_le hb_p0 b.size
  replace bx_x_0_0 := (b.cell (p := ⟨w6_.heap.size, 0, none⟩) hb_x_0).trans bx_x_0_0
  replace hb_x_0 := Nat.lt_of_lt_of_le hb_x_0 b.size
  replace T := T.trans (b.mono T.size)
  have s14_ := b.size
  clear b
  clear ft
  go_wp2_with fail
  refine (mark_db _ _ _ _ _ _ x_0 (by omega) (by omega)).mono ?_
  rintro e w15_ ⟨rfl, f_, c⟩
  have s15_ := c.size
  replace fw := Iv.chg (Own_good FB_good) fw c (by omega)
  replace x_2 := Iv.chg (Own_good FI_good) x_2 c (by omega)
  replace fg := Iv.chg (Own_good FB_good) fg c (by omega)
  replace bx_p0_0 := (World.cell?_of_block (a := ⟨w.heap.size, 0, none⟩) (c.block (w.heap.size) hb_p0 (by omega))).trans bx_p0_0
  replace hb_p0 := Nat.lt_of_lt_of_le hb_p0 c.size
  replace bx_x_0_0 := (World.cell?_of_block (a := ⟨w6_.heap.size, 0, none⟩) (c.block (w6_.heap.size) hb_x_0 (by omega))).trans bx_x_0_0
  replace hb_x_0 := Nat.lt_of_lt_of_le hb_x_0 c.size
  replace T := T.trans (c.below (by omega) T.size)
  clear x_0 c
  have x_0 := f_
  clear f_
  go_wp2_with fail
  refine (mark_ints _ _ _ _ _ _ x_2 (by omega) (by omega)).mono ?_
  rintro e w16_ ⟨rfl, f_, c⟩
  have s16_ := c.size
  replace fw := Iv.chg (Own_good FB_good) fw c (by omega)
  replace x_0 := Iv.chg OBB_good x_0 c (by omega)
  replace fg := Iv.chg (Own_good FB_good) fg c (by omega)
  replace bx_p0_0 := (World.cell?_of_block (a := ⟨w.heap.size, 0, none⟩) (c.block (w.heap.size) hb_p0 (by omega))).trans bx_p0_0
  replace hb_p0 := Nat.lt_of_lt_of_le hb_p0 c.size
  replace bx_x_0_0 := (World.cell?_of_block (a := ⟨w6_.heap.size, 0, none⟩) (c.block (w6_.heap.size) hb_x_0 (by omega))).trans bx_x_0_0
  replace hb_x_0 := Nat.lt_of_lt_of_le hb_x_0 c.size
  replace T := T.trans (c.below (by omega) T.size)
  clear x_2 c
  have x_2 := f_
  clear f_
  go_wp2_with fail
  refine (eq_bytes _ _ _ _  (rd_bytes fg) (rd_bytes fw)).mono ?_
  rintro e w17_ ⟨rfl, b⟩
  replace fw := Iv.below (Own_good FB_good) fw b
  replace x_0 := Iv.below OBB_good x_0 b
  replace x_2 := Iv.below (Own_good FI_good) x_2 b
  replace fg := Iv.below (Own_good FB_good) fg b
  replace bx_p0_0 := (b.cell (p := ⟨w.heap.size, 0, none⟩) hb_p0).trans bx_p0_0
  replace hb_p0 := Nat.lt_of_lt_of_le hb_p0 b.size
  replace bx_x_0_0 := (b.cell (p := ⟨w6_.heap.size, 0, none⟩) hb_x_0).trans bx_x_0_0
  replace hb_x_0 := Nat.lt_of_lt_of_le hb_x_0 b.size
  replace T := T.trans (b.mono T.size)
  have s17_ := b.size
  clear b
  clear x_0
  clear x_2
  go_wp2_with fail
  refine (mark_bytes _ _ _ _ _ _ fg (by omega) (by omega)).mono ?_
  rintro e w18_ ⟨rfl, f_, c⟩
  have s18_ := c.size
  replace fw := Iv.chg (Own_good FB_good) fw c (by omega)
  replace bx_p0_0 := (World.cell?_of_block (a := ⟨w.heap.size, 0, none⟩) (c.block (w.heap.size) hb_p0 (by omega))).trans bx_p0_0
  replace hb_p0 := Nat.lt_of_lt_of_le hb_p0 c.size
  replace bx_x_0_0 := (World.cell?_of_block (a := ⟨w6_.heap.size, 0, none⟩) (c.block (w6_.heap.size) hb_x_0 (by omega))).trans bx_x_0_0
  replace hb_x_0 := Nat.lt_of_lt_of_le hb_x_0 c.size
  replace T := T.trans (c.below (by omega) T.size)
  clear fg c
  have fg := f_
  clear f_
  go_wp2_with fail
  refine (held_bytes _ _ _ _  (rd_bytes fg) (by omega) (by omega)).mono ?_
  rintro e w19_ ⟨rfl, b⟩
  replace fw := Iv.below (Own_good FB_good) fw b
  replace fg := Iv.below (Own_good FB_good) fg b
  replace bx_p0_0 := (b.cell (p := ⟨w.heap.size, 0, none⟩) hb_p0).trans bx_p0_0
  replace hb_p0 := Nat.lt_of_lt_of_le hb_p0 b.size
  replace bx_x_0_0 := (b.cell (p := ⟨w6_.heap.size, 0, none⟩) hb_x_0).trans bx_x_0_0
  replace hb_x_0 := Nat.lt_of_lt_of_le hb_x_0 b.size
  replace T := T.trans (b.mono T.size)
  have s19_ := b.size
  clear b
  go_wp2_with fail
  refine (to_db _ _ _  ((Rd_reads (Rd_reads RB_reads)) _ _ _ _ y0 T) (by omega)).mono ?_
  rintro e w20_ ⟨AVz_0, lVz_0, cVz_0, rfl, F⟩
  have b := F.below
  replace fw := Iv.below (Own_good FB_good) fw b
  replace fg := Iv.below (Own_good FB_good) fg b
  replace bx_p0_0 := (b.cell (p := ⟨w.heap.size, 0, none⟩) hb_p0).trans bx_p0_0
  replace hb_p0 := Nat.lt_of_lt_of_le hb_p0 b.size
  replace bx_x_0_0 := (b.cell (p := ⟨w6_.heap.size, 0, none⟩) hb_x_0).trans bx_x_0_0
  replace hb_x_0 := Nat.lt_of_lt_of_le hb_x_0 b.size
  replace T := T.trans (b.mono T.size)
  have z_0 := Fresh.iv OBB_good F
  have s20_ := b.size
  clear F b
  go_wp2_with fail
  refine (to_ints _ _ _  ((Rd_reads RI_reads) _ _ _ _ y2 T) (by omega)).mono ?_
  rintro e w21_ ⟨Vz_2, rfl, F⟩
  have b := F.below
  replace fw := Iv.below (Own_good FB_good) fw b
  replace fg := Iv.below (Own_good FB_good) fg b
  replace z_0 := Iv.below OBB_good z_0 b
  replace bx_p0_0 := (b.cell (p := ⟨w.heap.size, 0, none⟩) hb_p0).trans bx_p0_0
  replace hb_p0 := Nat.lt_of_lt_of_le hb_p0 b.size
  replace bx_x_0_0 := (b.cell (p := ⟨w6_.heap.size, 0, none⟩) hb_x_0).trans bx_x_0_0
  replace hb_x_0 := Nat.lt_of_lt_of_le hb_x_0 b.size
  replace T := T.trans (b.mono T.size)
  have z_2 := Fresh.iv (Own_good FI_good) F
  have s21_ := b.size
  clear F b
  go_wp2_with fail
  refine (implRp_c _ _ _ _ _ _ _ (rd_db z_0) (rd_ints z_2) hok (by omega) (by omega) hw1.1 hw1.2).mono ?_
  rintro e w22_ ⟨Vh, rfl, F⟩
  have b := F.below
  replace fw := Iv.below (Own_good FB_good) fw b
  replace fg := Iv.below (Own_good FB_good) fg b
  replace z_0 := Iv.below OBB_good z_0 b
  replace z_2 := Iv.below (Own_good FI_good) z_2 b
  replace bx_p0_0 := (b.cell (p := ⟨w.heap.size, 0, none⟩) hb_p0).trans bx_p0_0
  replace hb_p0 := Nat.lt_of_lt_of_le hb_p0 b.size
  replace bx_x_0_0 := (b.cell (p := ⟨w6_.heap.size, 0, none⟩) hb_x_0).trans bx_x_0_0
  replace hb_x_0 := Nat.lt_of_lt_of_le hb_x_0 b.size
  replace T := T.trans (b.mono T.size)
  have fh := Fresh.iv (Own_good FB_good) F
  have s22_ := b.size
  clear F b
  go_wp2_with fail
  refine (eq_bytes _ _ _ _  (rd_bytes fh) (rd_bytes fw)).mono ?_
  rintro e w23_ ⟨rfl, b⟩
  replace fw := Iv.below (Own_good FB_good) fw b
  replace fg := Iv.below (Own_good FB_good) fg b
  replace z_0 := Iv.below OBB_good z_0 b
  replace z_2 := Iv.below (Own_good FI_good) z_2 b
  replace fh := Iv.below (Own_good FB_good) fh b
  replace bx_p0_0 := (b.cell (p := ⟨w.heap.size, 0, none⟩) hb_p0).trans bx_p0_0
  replace hb_p0 := Nat.lt_of_lt_of_le hb_p0 b.size
  replace bx_x_0_0 := (b.cell (p := ⟨w6_.heap.size, 0, none⟩) hb_x_0).trans bx_x_0_0
  replace hb_x_0 := Nat.lt_of_lt_of_le hb_x_0 b.size
  replace T := T.trans (b.mono T.size)
  have s23_ := b.size
  clear b
  clear z_0
  clear z_2
  go_wp2_with fail
  refine (held_bytes _ _ _ _  (rd_bytes fg) (by omega) (by omega)).mono ?_
  rintro e w24_ ⟨rfl, b⟩
  replace fw := Iv.below (Own_good FB_good) fw b
  replace fg := Iv.below (Own_good FB_good) fg b
  replace fh := Iv.below (Own_good FB_good) fh b
  replace bx_p0_0 := (b.cell (p := ⟨w.heap.size, 0, none⟩) hb_p0).trans bx_p0_0
  replace hb_p0 := Nat.lt_of_lt_of_le hb_p0 b.size
  replace bx_x_0_0 := (b.cell (p := ⟨w6_.heap.size, 0, none⟩) hb_x_0).trans bx_x_0_0
  replace hb_x_0 := Nat.lt_of_lt_of_le hb_x_0 b.size
  replace T := T.trans (b.mono T.size)
  have s24_ := b.size
  clear b
  go_wp2
  go_ret
  exact ⟨rfl, T⟩

set_option maxRecDepth 100000 in
theorem lifted (os : Os) (started : os.Started) (H : Type) (enc : TypeId × Value → H) :
    ReturnsInHanded {} Try.checked os 4 .any (Rows.fnExactReadPrivatelySpec.pre6 enc Try.prog Try.f4 Rows.fnExactReadPrivatelyRow.domain false) (Rows.fnExactReadPrivatelySpec.post enc Try.prog Try.f4 false true false false) := by
  refine returnsInHanded_of_change (C := Try.checked) own_ started (by kernel_rfl) Try.func4
    (ChangeSpec.witness6 (enc := enc) (C := Try.checked) false ⟨#[], #[.agg #[.slice none 0 0], .int .i64 0, .slice none 0 0], []⟩ 8 (by kernel_rfl) (by kernel_rfl) (by kernel_rfl) (by kernel_rfl)) ?_
  intro W base args ds gs before hval0 hW hcnd _
  have hval : ∀ (j : Nat) t v, Try.f4.params[j]? = some t → args[j]? = some v → Value.okWide Try.prog W .any base t v := hval0
  have hW' := hW
  obtain ⟨p, q, hA0, hV, rfl, hfz, hnd⟩ := hW
  have hA : DataW.TrodAll enc Try.prog W 0 (fun _ => true) true Try.f4.params.toList args.toList ds p := hA0
  rw [Try.params4] at hA hval
  obtain ⟨v0, vs0, d0, ds0, p0, q0, hargs, rfl, rfl, h0, r0⟩ := trodAll_cons hA
  obtain ⟨v1, vs1, d1, ds1, p1, q1, rfl, rfl, rfl, h1, r1⟩ := trodAll_cons r0
  obtain ⟨v2, vs2, d2, ds2, p2, q2, rfl, rfl, rfl, h2, r2⟩ := trodAll_cons r1
  obtain ⟨rfl, rfl, rfl⟩ := trodAll_nil r2
  obtain rfl : args = #[v0, v1, v2] := by cases args; simp_all
  obtain ⟨rfl, rfl⟩ := trodVars_none hV
  have k0 := h0
  have lt0 : ∀ x ∈ p0, x.block < W.heap.size := by obtain ⟨m, hm⟩ := k0; exact DataW.trod_lt m _ _ _ hm
  obtain ⟨u0, x0, rfl, y0⟩ := open_val1 Try.underlying40 (by kernel_rfl) (opens_struct1 Try.underlying40 (by kernel_rfl) (opens_slice Try.underlying24 (by kernel_rfl) (opens_slice Try.underlying22 (by kernel_rfl) (opens_u8 Try.underlying5)))) (hval 0 40 v0 rfl rfl) h0
  obtain ⟨a1, rfl, rfl, rfl, w1⟩ := open_int Try.underlying3 (hval 1 3 v1 rfl rfl) h1
  have k2 := h2
  have lt2 : ∀ x ∈ p2, x.block < W.heap.size := by obtain ⟨m, hm⟩ := k2; exact DataW.trod_lt m _ _ _ hm
  obtain ⟨x2, y2⟩ := open_val Try.underlying27 (opens_slice Try.underlying27 (by kernel_rfl) (opens_i64 Try.underlying3)) (hval 2 27 v2 rfl rfl) h2
  clear hA0 hval0
  refine (walk W u0 x0 y0 a1 w1 v2 x2 y2).mono fun e W' ⟨he, bel⟩ => ?_
  subst he
  exact ⟨_, rfl, _, _, _, [], _, [], hW', trodAll_mk1 (shut_bool Try.underlying4 _), (trodAll_cons_mk (Below.trod laid_ (by kernel_rfl) (of_decide_eq_true (by kernel_rfl)) k0 bel lt0) (trodAll_cons_mk (shut_int Try.underlying3 w1) (trodAll_cons_mk (Below.trod laid_ (by kernel_rfl) (of_decide_eq_true (by kernel_rfl)) k2 bel lt2) trodAll_mk0))), rfl, bel.frame _, fun h => by cases h⟩

theorem over : Rows.fnExactReadPrivatelyRow.holds Try.pinned (OpenSpec.ofChange Rows.fnExactReadPrivatelySpec) :=
  OpenClaim.holds_of_wide 4 Try.f4 rfl rfl rfl rfl rfl rfl rfl ⟨rfl, rfl, rfl, rfl, rfl⟩ rfl rfl rfl rfl rfl (by kernel_rfl) Try.func4 (by kernel_rfl)
    (of_decide_eq_true (by kernel_rfl)) (by unfold Func.isWrapper; first | (rw [if_pos (by decide +kernel)]; kernel_rfl) | (rw [if_neg (by decide +kernel)]; exact ⟨rfl, rfl⟩))
    (fun os started H enc _ => lifted os started H enc)

theorem proved : Rows.FnExactReadPrivatelySaid := over
end Go.Proofs.Ytlnlkkgcfhngbaa.fnExactReadPrivately
