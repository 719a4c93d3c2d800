/- FnExactEncodePointKey, for every argument, no condition: the program's EncodePointKey returns what the reference's returns, in memory of its own, and leaves its argument as it was. -/
import Derived.Test.YtceogegjghmonaaEncPk
import Derived.Test.YtceogegjghmonaaPkMark
import Derived.Test.YtceogegjghmonaaNestFns
namespace Go.Proofs.Ytceogegjghmonaa.fnExactEncodePointKey
set_option linter.unusedVariables false
open Go.RowKit Go.ChangeShapes Go.WideShapes Go.ChangeAt

set_option maxHeartbeats 4000000 in
set_option maxRecDepth 100000 in
theorem walk (w : World) (m0 n0 : Int) (v0 : Value) (x0 : List (Int × Int × Int)) (y0 : RdC w v0 x0) (z0 : (Lit.int .i64 m0).wf = true ∧ (Lit.int .i64 n0).wf = true) :
    Calls Try.prog 10 #[.agg #[.int .i64 m0, .int .i64 n0, v0]] w fun e w' => e = .returned (.bool true) ∧ Below w.heap.size w w' := by
  obtain ⟨A0, l0, c0, rfl, g0⟩ := y0
  replace y0 : RdC w (.slice A0 l0 c0) x0 := ⟨_, _, _, rfl, g0⟩
  clear g0
  by_cases hl0 : ((x0.length : Nat) : Int) ≤ (1048576 : Int)
  rotate_left
  · go_enter Try.func10, Try.ntmps10
    have T := Below.refl w.heap.size w
    have b := below_alloc w (.cells #[.int .i64 m0, .int .i64 n0, .slice A0 l0 c0] 76)
    replace T := T.trans (b.mono T.size)
    have bx_p0_0 : (World.alloc w (.cells #[.int .i64 m0, .int .i64 n0, .slice A0 l0 c0] 76)).cell? ⟨w.heap.size, 0, none⟩ = some (.int .i64 m0) := by rw [World.cell?_alloc_at _ _ _ _ (by simp)]; rfl
    have bx_p0_1 : (World.alloc w (.cells #[.int .i64 m0, .int .i64 n0, .slice A0 l0 c0] 76)).cell? ⟨w.heap.size, 1, none⟩ = some (.int .i64 n0) := by rw [World.cell?_alloc_at _ _ _ _ (by simp)]; rfl
    have bx_p0_2 : (World.alloc w (.cells #[.int .i64 m0, .int .i64 n0, .slice A0 l0 c0] 76)).cell? ⟨w.heap.size, 2, none⟩ = some (.slice A0 l0 c0) := by rw [World.cell?_alloc_at _ _ _ _ (by simp)]; rfl
    have hb_p0 : w.heap.size < (World.alloc w (.cells #[.int .i64 m0, .int .i64 n0, .slice A0 l0 c0] 76)).heap.size := by simp
    have sp0_ : w.heap.size < (World.alloc w (.cells #[.int .i64 m0, .int .i64 n0, .slice A0 l0 c0] 76)).heap.size := by simp
    clear b
    go_wp2_with fail
    generalize (World.alloc w (.cells #[.int .i64 m0, .int .i64 n0, .slice A0 l0 c0] 76)) = w1_ at *
    refine (sz_pk _ _ _ _ _ _ (RdC_reads _ _ _ _ y0 T) (by omega) (by omega)).mono ?_
    rintro e w2_ ⟨rfl, b⟩
    rw [if_pos (by omega)]
    replace bx_p0_0 := (b.cell (p := ⟨w.heap.size, 0, none⟩) hb_p0).trans bx_p0_0
    replace bx_p0_1 := (b.cell (p := ⟨w.heap.size, 1, none⟩) hb_p0).trans bx_p0_1
    replace bx_p0_2 := (b.cell (p := ⟨w.heap.size, 2, none⟩) hb_p0).trans bx_p0_2
    replace hb_p0 := Nat.lt_of_lt_of_le hb_p0 b.size
    replace T := T.trans (b.mono T.size)
    clear b
    go_wp2
    go_ret
    exact ⟨rfl, T⟩
  have hrl := encPk_len m0 n0 x0
  go_enter Try.func10, Try.ntmps10
  have T := Below.refl w.heap.size w
  have b := below_alloc w (.cells #[.int .i64 m0, .int .i64 n0, .slice A0 l0 c0] 76)
  replace T := T.trans (b.mono T.size)
  have bx_p0_0 : (World.alloc w (.cells #[.int .i64 m0, .int .i64 n0, .slice A0 l0 c0] 76)).cell? ⟨w.heap.size, 0, none⟩ = some (.int .i64 m0) := by rw [World.cell?_alloc_at _ _ _ _ (by simp)]; rfl
  have bx_p0_1 : (World.alloc w (.cells #[.int .i64 m0, .int .i64 n0, .slice A0 l0 c0] 76)).cell? ⟨w.heap.size, 1, none⟩ = some (.int .i64 n0) := by rw [World.cell?_alloc_at _ _ _ _ (by simp)]; rfl
  have bx_p0_2 : (World.alloc w (.cells #[.int .i64 m0, .int .i64 n0, .slice A0 l0 c0] 76)).cell? ⟨w.heap.size, 2, none⟩ = some (.slice A0 l0 c0) := by rw [World.cell?_alloc_at _ _ _ _ (by simp)]; rfl
  have hb_p0 : w.heap.size < (World.alloc w (.cells #[.int .i64 m0, .int .i64 n0, .slice A0 l0 c0] 76)).heap.size := by simp
  have sp0_ : w.heap.size < (World.alloc w (.cells #[.int .i64 m0, .int .i64 n0, .slice A0 l0 c0] 76)).heap.size := by simp
  clear b
  go_wp2_with fail
  generalize (World.alloc w (.cells #[.int .i64 m0, .int .i64 n0, .slice A0 l0 c0] 76)) = w1_ at *
  refine (sz_pk _ _ _ _ _ _ (RdC_reads _ _ _ _ y0 T) (by omega) (by omega)).mono ?_
  rintro e w2_ ⟨rfl, b⟩
  rw [if_neg (by omega)]
  replace bx_p0_0 := (b.cell (p := ⟨w.heap.size, 0, none⟩) hb_p0).trans bx_p0_0
  replace bx_p0_1 := (b.cell (p := ⟨w.heap.size, 1, none⟩) hb_p0).trans bx_p0_1
  replace bx_p0_2 := (b.cell (p := ⟨w.heap.size, 2, none⟩) hb_p0).trans bx_p0_2
  replace hb_p0 := Nat.lt_of_lt_of_le hb_p0 b.size
  replace T := T.trans (b.mono T.size)
  have s2_ := b.size
  clear b
  go_wp2_with fail
  refine (to_pk _ _ _ _ _  (RdC_reads _ _ _ _ y0 T) (by omega)).mono ?_
  rintro e w3_ ⟨AVs0, lVs0, cVs0, rfl, F⟩
  have b := F.below
  replace bx_p0_0 := (b.cell (p := ⟨w.heap.size, 0, none⟩) hb_p0).trans bx_p0_0
  replace bx_p0_1 := (b.cell (p := ⟨w.heap.size, 1, none⟩) hb_p0).trans bx_p0_1
  replace bx_p0_2 := (b.cell (p := ⟨w.heap.size, 2, none⟩) hb_p0).trans bx_p0_2
  replace hb_p0 := Nat.lt_of_lt_of_le hb_p0 b.size
  replace T := T.trans (b.mono T.size)
  have s0 := Fresh.iv OwnC_good F
  have s3_ := b.size
  clear F b
  go_wp2_with fail
  refine (specEncPk_c _ _ _ _ _ (rd_pk s0)).mono ?_
  rintro e w4_ ⟨Vw, rfl, F⟩
  have b := F.below
  replace s0 := Iv.below OwnC_good s0 b
  replace bx_p0_0 := (b.cell (p := ⟨w.heap.size, 0, none⟩) hb_p0).trans bx_p0_0
  replace bx_p0_1 := (b.cell (p := ⟨w.heap.size, 1, none⟩) hb_p0).trans bx_p0_1
  replace bx_p0_2 := (b.cell (p := ⟨w.heap.size, 2, none⟩) hb_p0).trans bx_p0_2
  replace hb_p0 := Nat.lt_of_lt_of_le hb_p0 b.size
  replace T := T.trans (b.mono T.size)
  have fw := Fresh.iv (Own_good FB_good) F
  have s4_ := b.size
  clear F b
  clear s0
  go_wp2_with fail
  refine (to_pk _ _ _ _ _  (RdC_reads _ _ _ _ y0 T) (by omega)).mono ?_
  rintro e w5_ ⟨AVx_0, lVx_0, cVx_0, rfl, F⟩
  have b := F.below
  replace fw := Iv.below (Own_good FB_good) fw b
  replace bx_p0_0 := (b.cell (p := ⟨w.heap.size, 0, none⟩) hb_p0).trans bx_p0_0
  replace bx_p0_1 := (b.cell (p := ⟨w.heap.size, 1, none⟩) hb_p0).trans bx_p0_1
  replace bx_p0_2 := (b.cell (p := ⟨w.heap.size, 2, none⟩) hb_p0).trans bx_p0_2
  replace hb_p0 := Nat.lt_of_lt_of_le hb_p0 b.size
  replace T := T.trans (b.mono T.size)
  have x_0 := Fresh.iv OwnC_good F
  have s5_ := b.size
  clear F b
  have b := below_alloc w5_ (.cells #[.int .i64 m0, .int .i64 n0, .slice AVx_0 lVx_0 cVx_0] 63)
  replace fw := Iv.below (Own_good FB_good) fw b
  replace x_0 := Iv.below OwnC_good x_0 b
  replace bx_p0_0 := (b.cell (p := ⟨w.heap.size, 0, none⟩) hb_p0).trans bx_p0_0
  replace bx_p0_1 := (b.cell (p := ⟨w.heap.size, 1, none⟩) hb_p0).trans bx_p0_1
  replace bx_p0_2 := (b.cell (p := ⟨w.heap.size, 2, none⟩) hb_p0).trans bx_p0_2
  replace hb_p0 := Nat.lt_of_lt_of_le hb_p0 b.size
  replace T := T.trans (b.mono T.size)
  have bx_x_0_0 : (World.alloc w5_ (.cells #[.int .i64 m0, .int .i64 n0, .slice AVx_0 lVx_0 cVx_0] 63)).cell? ⟨w5_.heap.size, 0, none⟩ = some (.int .i64 m0) := by rw [World.cell?_alloc_at _ _ _ _ (by simp)]; rfl
  have bx_x_0_1 : (World.alloc w5_ (.cells #[.int .i64 m0, .int .i64 n0, .slice AVx_0 lVx_0 cVx_0] 63)).cell? ⟨w5_.heap.size, 1, none⟩ = some (.int .i64 n0) := by rw [World.cell?_alloc_at _ _ _ _ (by simp)]; rfl
  have bx_x_0_2 : (World.alloc w5_ (.cells #[.int .i64 m0, .int .i64 n0, .slice AVx_0 lVx_0 cVx_0] 63)).cell? ⟨w5_.heap.size, 2, none⟩ = some (.slice AVx_0 lVx_0 cVx_0) := by rw [World.cell?_alloc_at _ _ _ _ (by simp)]; rfl
  have hb_x_0 : w5_.heap.size < (World.alloc w5_ (.cells #[.int .i64 m0, .int .i64 n0, .slice AVx_0 lVx_0 cVx_0] 63)).heap.size := by simp
  have sx_0_ : w5_.heap.size < (World.alloc w5_ (.cells #[.int .i64 m0, .int .i64 n0, .slice AVx_0 lVx_0 cVx_0] 63)).heap.size := by simp
  clear b
  go_wp2_with fail
  generalize (World.alloc w5_ (.cells #[.int .i64 m0, .int .i64 n0, .slice AVx_0 lVx_0 cVx_0] 63)) = w6_ at *
  refine (implEncPk_c _ _ _ _ _ (rd_pk x_0)).mono ?_
  rintro e w7_ ⟨Vg, rfl, F⟩
  have b := F.below
  replace fw := Iv.below (Own_good FB_good) fw b
  replace x_0 := Iv.below OwnC_good x_0 b
  replace bx_p0_0 := (b.cell (p := ⟨w.heap.size, 0, none⟩) hb_p0).trans bx_p0_0
  replace bx_p0_1 := (b.cell (p := ⟨w.heap.size, 1, none⟩) hb_p0).trans bx_p0_1
  replace bx_p0_2 := (b.cell (p := ⟨w.heap.size, 2, none⟩) hb_p0).trans bx_p0_2
  replace hb_p0 := Nat.lt_of_lt_of_le hb_p0 b.size
  replace bx_x_0_0 := (b.cell (p := ⟨w5_.heap.size, 0, none⟩) hb_x_0).trans bx_x_0_0
  replace bx_x_0_1 := (b.cell (p := ⟨w5_.heap.size, 1, none⟩) hb_x_0).trans bx_x_0_1
  replace bx_x_0_2 := (b.cell (p := ⟨w5_.heap.size, 2, none⟩) hb_x_0).trans bx_x_0_2
  replace hb_x_0 := Nat.lt_of_lt_of_le hb_x_0 b.size
  replace T := T.trans (b.mono T.size)
  have fg := Fresh.iv (Own_good FB_good) F
  have s7_ := b.size
  clear F b
  go_wp2_with fail
  refine (eq_bytes _ _ _ _  (rd_bytes fg) (rd_bytes fw)).mono ?_
  rintro e w8_ ⟨rfl, b⟩
  replace fw := Iv.below (Own_good FB_good) fw b
  replace x_0 := Iv.below OwnC_good x_0 b
  replace fg := Iv.below (Own_good FB_good) fg b
  replace bx_p0_0 := (b.cell (p := ⟨w.heap.size, 0, none⟩) hb_p0).trans bx_p0_0
  replace bx_p0_1 := (b.cell (p := ⟨w.heap.size, 1, none⟩) hb_p0).trans bx_p0_1
  replace bx_p0_2 := (b.cell (p := ⟨w.heap.size, 2, none⟩) hb_p0).trans bx_p0_2
  replace hb_p0 := Nat.lt_of_lt_of_le hb_p0 b.size
  replace bx_x_0_0 := (b.cell (p := ⟨w5_.heap.size, 0, none⟩) hb_x_0).trans bx_x_0_0
  replace bx_x_0_1 := (b.cell (p := ⟨w5_.heap.size, 1, none⟩) hb_x_0).trans bx_x_0_1
  replace bx_x_0_2 := (b.cell (p := ⟨w5_.heap.size, 2, none⟩) hb_x_0).trans bx_x_0_2
  replace hb_x_0 := Nat.lt_of_lt_of_le hb_x_0 b.size
  replace T := T.trans (b.mono T.size)
  have s8_ := b.size
  clear b
  go_wp2_with fail
  replace fw := Iv.drew (Own_good FB_good) fw
  replace x_0 := Iv.drew OwnC_good x_0
  replace fg := Iv.drew (Own_good FB_good) fg
  replace bx_p0_0 : (World.drew w8_).cell? ⟨w.heap.size, 0, none⟩ = some (.int .i64 m0) := bx_p0_0
  replace bx_p0_1 : (World.drew w8_).cell? ⟨w.heap.size, 1, none⟩ = some (.int .i64 n0) := bx_p0_1
  replace bx_p0_2 : (World.drew w8_).cell? ⟨w.heap.size, 2, none⟩ = some (.slice A0 l0 c0) := bx_p0_2
  replace hb_p0 : w.heap.size < (World.drew w8_).heap.size := hb_p0
  replace bx_x_0_0 : (World.drew w8_).cell? ⟨w5_.heap.size, 0, none⟩ = some (.int .i64 m0) := bx_x_0_0
  replace bx_x_0_1 : (World.drew w8_).cell? ⟨w5_.heap.size, 1, none⟩ = some (.int .i64 n0) := bx_x_0_1
  replace bx_x_0_2 : (World.drew w8_).cell? ⟨w5_.heap.size, 2, none⟩ = some (.slice AVx_0 lVx_0 cVx_0) := bx_x_0_2
  replace hb_x_0 : w5_.heap.size < (World.drew w8_).heap.size := hb_x_0
  replace T := T.drew
  have sd8_ : w8_.heap.size ≤ (World.drew w8_).heap.size := Nat.le_refl _
  go_region_held3 (fun w' => w'.cell? ⟨w5_.heap.size, 0, none⟩ = some (.int .i64 m0) ∧ w'.cell? ⟨w5_.heap.size, 1, none⟩ = some (.int .i64 n0) ∧ w'.cell? ⟨w5_.heap.size, 2, none⟩ = some (.slice AVx_0 lVx_0 cVx_0) ∧ w'.cell? ⟨w.heap.size, 0, none⟩ = some (.int .i64 m0) ∧ w'.cell? ⟨w.heap.size, 1, none⟩ = some (.int .i64 n0) ∧ w'.cell? ⟨w.heap.size, 2, none⟩ = some (.slice A0 l0 c0))
    (first | ((repeat' apply And.intro) <;> assumption) | go_keep)
    (first
      | (go_at_call 58
         refine (to_pk _ _ _ _ _  (RdC_reads _ _ _ _ y0 T) (by omega)).mono ?_
         rintro e w9_ ⟨AVft, lVft, cVft, rfl, F⟩
         have b := F.below
         replace fw := Iv.below (Own_good FB_good) fw b
         replace x_0 := Iv.below OwnC_good x_0 b
         replace fg := Iv.below (Own_good FB_good) fg b
         replace bx_p0_0 := (b.cell (p := ⟨w.heap.size, 0, none⟩) hb_p0).trans bx_p0_0
         replace bx_p0_1 := (b.cell (p := ⟨w.heap.size, 1, none⟩) hb_p0).trans bx_p0_1
         replace bx_p0_2 := (b.cell (p := ⟨w.heap.size, 2, none⟩) hb_p0).trans bx_p0_2
         replace hb_p0 := Nat.lt_of_lt_of_le hb_p0 b.size
         replace bx_x_0_0 := (b.cell (p := ⟨w5_.heap.size, 0, none⟩) hb_x_0).trans bx_x_0_0
         replace bx_x_0_1 := (b.cell (p := ⟨w5_.heap.size, 1, none⟩) hb_x_0).trans bx_x_0_1
         replace bx_x_0_2 := (b.cell (p := ⟨w5_.heap.size, 2, none⟩) hb_x_0).trans bx_x_0_2
         replace hb_x_0 := Nat.lt_of_lt_of_le hb_x_0 b.size
         replace T := T.trans (b.mono T.size)
         have ft := Fresh.iv OwnC_good F
         have s9_ := b.size
         clear F b)
      | (go_at_call 53
         refine (eq_pk _ _ _ _ _ _  (rd_pk x_0) (rd_pk ft)).mono ?_
         rintro e w10_ ⟨rfl, b⟩
         replace fw := Iv.below (Own_good FB_good) fw b
         replace x_0 := Iv.below OwnC_good x_0 b
         replace fg := Iv.below (Own_good FB_good) fg b
         replace ft := Iv.below OwnC_good ft b
         replace bx_p0_0 := (b.cell (p := ⟨w.heap.size, 0, none⟩) hb_p0).trans bx_p0_0
         replace bx_p0_1 := (b.cell (p := ⟨w.heap.size, 1, none⟩) hb_p0).trans bx_p0_1
         replace bx_p0_2 := (b.cell (p := ⟨w.heap.size, 2, none⟩) hb_p0).trans bx_p0_2
         replace hb_p0 := Nat.lt_of_lt_of_le hb_p0 b.size
         replace bx_x_0_0 := (b.cell (p := ⟨w5_.heap.size, 0, none⟩) hb_x_0).trans bx_x_0_0
         replace bx_x_0_1 := (b.cell (p := ⟨w5_.heap.size, 1, none⟩) hb_x_0).trans bx_x_0_1
         replace bx_x_0_2 := (b.cell (p := ⟨w5_.heap.size, 2, none⟩) hb_x_0).trans bx_x_0_2
         replace hb_x_0 := Nat.lt_of_lt_of_le hb_x_0 b.size
         replace T := T.trans (b.mono T.size)
         have s10_ := b.size
         clear b))
  clear ft
  go_wp2_with fail
  refine (mark_pk _ _ _ _ _ _ _ _ x_0 (by omega) (by omega)).mono ?_
  rintro e w11_ ⟨rfl, f_, c⟩
  have s11_ := c.size
  replace fw := Iv.chg (Own_good FB_good) fw c (by omega)
  replace fg := Iv.chg (Own_good FB_good) fg c (by omega)
  replace bx_p0_0 := (World.cell?_of_block (a := ⟨w.heap.size, 0, none⟩) (c.block (w.heap.size) hb_p0 (by omega))).trans bx_p0_0
  replace bx_p0_1 := (World.cell?_of_block (a := ⟨w.heap.size, 1, none⟩) (c.block (w.heap.size) hb_p0 (by omega))).trans bx_p0_1
  replace bx_p0_2 := (World.cell?_of_block (a := ⟨w.heap.size, 2, none⟩) (c.block (w.heap.size) hb_p0 (by omega))).trans bx_p0_2
  replace hb_p0 := Nat.lt_of_lt_of_le hb_p0 c.size
  replace bx_x_0_0 := (World.cell?_of_block (a := ⟨w5_.heap.size, 0, none⟩) (c.block (w5_.heap.size) hb_x_0 (by omega))).trans bx_x_0_0
  replace bx_x_0_1 := (World.cell?_of_block (a := ⟨w5_.heap.size, 1, none⟩) (c.block (w5_.heap.size) hb_x_0 (by omega))).trans bx_x_0_1
  replace bx_x_0_2 := (World.cell?_of_block (a := ⟨w5_.heap.size, 2, none⟩) (c.block (w5_.heap.size) hb_x_0 (by omega))).trans bx_x_0_2
  replace hb_x_0 := Nat.lt_of_lt_of_le hb_x_0 c.size
  replace T := T.trans (c.below (by omega) T.size)
  clear x_0 c
  have x_0 := f_
  clear f_
  go_wp2_with fail
  refine (eq_bytes _ _ _ _  (rd_bytes fg) (rd_bytes fw)).mono ?_
  rintro e w12_ ⟨rfl, b⟩
  replace fw := Iv.below (Own_good FB_good) fw b
  replace x_0 := Iv.below OwnC_good x_0 b
  replace fg := Iv.below (Own_good FB_good) fg b
  replace bx_p0_0 := (b.cell (p := ⟨w.heap.size, 0, none⟩) hb_p0).trans bx_p0_0
  replace bx_p0_1 := (b.cell (p := ⟨w.heap.size, 1, none⟩) hb_p0).trans bx_p0_1
  replace bx_p0_2 := (b.cell (p := ⟨w.heap.size, 2, none⟩) hb_p0).trans bx_p0_2
  replace hb_p0 := Nat.lt_of_lt_of_le hb_p0 b.size
  replace bx_x_0_0 := (b.cell (p := ⟨w5_.heap.size, 0, none⟩) hb_x_0).trans bx_x_0_0
  replace bx_x_0_1 := (b.cell (p := ⟨w5_.heap.size, 1, none⟩) hb_x_0).trans bx_x_0_1
  replace bx_x_0_2 := (b.cell (p := ⟨w5_.heap.size, 2, none⟩) hb_x_0).trans bx_x_0_2
  replace hb_x_0 := Nat.lt_of_lt_of_le hb_x_0 b.size
  replace T := T.trans (b.mono T.size)
  have s12_ := b.size
  clear b
  clear x_0
  go_wp2_with fail
  refine (mark_bytes _ _ _ _ _ _ fg (by omega) (by omega)).mono ?_
  rintro e w13_ ⟨rfl, f_, c⟩
  have s13_ := c.size
  replace fw := Iv.chg (Own_good FB_good) fw c (by omega)
  replace bx_p0_0 := (World.cell?_of_block (a := ⟨w.heap.size, 0, none⟩) (c.block (w.heap.size) hb_p0 (by omega))).trans bx_p0_0
  replace bx_p0_1 := (World.cell?_of_block (a := ⟨w.heap.size, 1, none⟩) (c.block (w.heap.size) hb_p0 (by omega))).trans bx_p0_1
  replace bx_p0_2 := (World.cell?_of_block (a := ⟨w.heap.size, 2, none⟩) (c.block (w.heap.size) hb_p0 (by omega))).trans bx_p0_2
  replace hb_p0 := Nat.lt_of_lt_of_le hb_p0 c.size
  replace bx_x_0_0 := (World.cell?_of_block (a := ⟨w5_.heap.size, 0, none⟩) (c.block (w5_.heap.size) hb_x_0 (by omega))).trans bx_x_0_0
  replace bx_x_0_1 := (World.cell?_of_block (a := ⟨w5_.heap.size, 1, none⟩) (c.block (w5_.heap.size) hb_x_0 (by omega))).trans bx_x_0_1
  replace bx_x_0_2 := (World.cell?_of_block (a := ⟨w5_.heap.size, 2, none⟩) (c.block (w5_.heap.size) hb_x_0 (by omega))).trans bx_x_0_2
  replace hb_x_0 := Nat.lt_of_lt_of_le hb_x_0 c.size
  replace T := T.trans (c.below (by omega) T.size)
  clear fg c
  have fg := f_
  clear f_
  go_wp2_with fail
  refine (held_bytes _ _ _ _  (rd_bytes fg) (by omega) (by omega)).mono ?_
  rintro e w14_ ⟨rfl, b⟩
  replace fw := Iv.below (Own_good FB_good) fw b
  replace fg := Iv.below (Own_good FB_good) fg b
  replace bx_p0_0 := (b.cell (p := ⟨w.heap.size, 0, none⟩) hb_p0).trans bx_p0_0
  replace bx_p0_1 := (b.cell (p := ⟨w.heap.size, 1, none⟩) hb_p0).trans bx_p0_1
  replace bx_p0_2 := (b.cell (p := ⟨w.heap.size, 2, none⟩) hb_p0).trans bx_p0_2
  replace hb_p0 := Nat.lt_of_lt_of_le hb_p0 b.size
  replace bx_x_0_0 := (b.cell (p := ⟨w5_.heap.size, 0, none⟩) hb_x_0).trans bx_x_0_0
  replace bx_x_0_1 := (b.cell (p := ⟨w5_.heap.size, 1, none⟩) hb_x_0).trans bx_x_0_1
  replace bx_x_0_2 := (b.cell (p := ⟨w5_.heap.size, 2, none⟩) hb_x_0).trans bx_x_0_2
  replace hb_x_0 := Nat.lt_of_lt_of_le hb_x_0 b.size
  replace T := T.trans (b.mono T.size)
  have s14_ := b.size
  clear b
  go_wp2_with fail
  refine (to_pk _ _ _ _ _  (RdC_reads _ _ _ _ y0 T) (by omega)).mono ?_
  rintro e w15_ ⟨AVz_0, lVz_0, cVz_0, rfl, F⟩
  have b := F.below
  replace fw := Iv.below (Own_good FB_good) fw b
  replace fg := Iv.below (Own_good FB_good) fg b
  replace bx_p0_0 := (b.cell (p := ⟨w.heap.size, 0, none⟩) hb_p0).trans bx_p0_0
  replace bx_p0_1 := (b.cell (p := ⟨w.heap.size, 1, none⟩) hb_p0).trans bx_p0_1
  replace bx_p0_2 := (b.cell (p := ⟨w.heap.size, 2, none⟩) hb_p0).trans bx_p0_2
  replace hb_p0 := Nat.lt_of_lt_of_le hb_p0 b.size
  replace bx_x_0_0 := (b.cell (p := ⟨w5_.heap.size, 0, none⟩) hb_x_0).trans bx_x_0_0
  replace bx_x_0_1 := (b.cell (p := ⟨w5_.heap.size, 1, none⟩) hb_x_0).trans bx_x_0_1
  replace bx_x_0_2 := (b.cell (p := ⟨w5_.heap.size, 2, none⟩) hb_x_0).trans bx_x_0_2
  replace hb_x_0 := Nat.lt_of_lt_of_le hb_x_0 b.size
  replace T := T.trans (b.mono T.size)
  have z_0 := Fresh.iv OwnC_good F
  have s15_ := b.size
  clear F b
  go_wp2_with fail
  refine (implEncPk_c _ _ _ _ _ (rd_pk z_0)).mono ?_
  rintro e w16_ ⟨Vh, rfl, F⟩
  have b := F.below
  replace fw := Iv.below (Own_good FB_good) fw b
  replace fg := Iv.below (Own_good FB_good) fg b
  replace z_0 := Iv.below OwnC_good z_0 b
  replace bx_p0_0 := (b.cell (p := ⟨w.heap.size, 0, none⟩) hb_p0).trans bx_p0_0
  replace bx_p0_1 := (b.cell (p := ⟨w.heap.size, 1, none⟩) hb_p0).trans bx_p0_1
  replace bx_p0_2 := (b.cell (p := ⟨w.heap.size, 2, none⟩) hb_p0).trans bx_p0_2
  replace hb_p0 := Nat.lt_of_lt_of_le hb_p0 b.size
  replace bx_x_0_0 := (b.cell (p := ⟨w5_.heap.size, 0, none⟩) hb_x_0).trans bx_x_0_0
  replace bx_x_0_1 := (b.cell (p := ⟨w5_.heap.size, 1, none⟩) hb_x_0).trans bx_x_0_1
  replace bx_x_0_2 := (b.cell (p := ⟨w5_.heap.size, 2, none⟩) hb_x_0).trans bx_x_0_2
  replace hb_x_0 := Nat.lt_of_lt_of_le hb_x_0 b.size
  replace T := T.trans (b.mono T.size)
  have fh := Fresh.iv (Own_good FB_good) F
  have s16_ := b.size
  clear F b
  go_wp2_with fail
  refine (eq_bytes _ _ _ _  (rd_bytes fh) (rd_bytes fw)).mono ?_
  rintro e w17_ ⟨rfl, b⟩
  replace fw := Iv.below (Own_good FB_good) fw b
  replace fg := Iv.below (Own_good FB_good) fg b
  replace z_0 := Iv.below OwnC_good z_0 b
  replace fh := Iv.below (Own_good FB_good) fh b
  replace bx_p0_0 := (b.cell (p := ⟨w.heap.size, 0, none⟩) hb_p0).trans bx_p0_0
  replace bx_p0_1 := (b.cell (p := ⟨w.heap.size, 1, none⟩) hb_p0).trans bx_p0_1
  replace bx_p0_2 := (b.cell (p := ⟨w.heap.size, 2, none⟩) hb_p0).trans bx_p0_2
  replace hb_p0 := Nat.lt_of_lt_of_le hb_p0 b.size
  replace bx_x_0_0 := (b.cell (p := ⟨w5_.heap.size, 0, none⟩) hb_x_0).trans bx_x_0_0
  replace bx_x_0_1 := (b.cell (p := ⟨w5_.heap.size, 1, none⟩) hb_x_0).trans bx_x_0_1
  replace bx_x_0_2 := (b.cell (p := ⟨w5_.heap.size, 2, none⟩) hb_x_0).trans bx_x_0_2
  replace hb_x_0 := Nat.lt_of_lt_of_le hb_x_0 b.size
  replace T := T.trans (b.mono T.size)
  have s17_ := b.size
  clear b
  clear z_0
  go_wp2_with fail
  refine (held_bytes _ _ _ _  (rd_bytes fg) (by omega) (by omega)).mono ?_
  rintro e w18_ ⟨rfl, b⟩
  replace fw := Iv.below (Own_good FB_good) fw b
  replace fg := Iv.below (Own_good FB_good) fg b
  replace fh := Iv.below (Own_good FB_good) fh b
  replace bx_p0_0 := (b.cell (p := ⟨w.heap.size, 0, none⟩) hb_p0).trans bx_p0_0
  replace bx_p0_1 := (b.cell (p := ⟨w.heap.size, 1, none⟩) hb_p0).trans bx_p0_1
  replace bx_p0_2 := (b.cell (p := ⟨w.heap.size, 2, none⟩) hb_p0).trans bx_p0_2
  replace hb_p0 := Nat.lt_of_lt_of_le hb_p0 b.size
  replace bx_x_0_0 := (b.cell (p := ⟨w5_.heap.size, 0, none⟩) hb_x_0).trans bx_x_0_0
  replace bx_x_0_1 := (b.cell (p := ⟨w5_.heap.size, 1, none⟩) hb_x_0).trans bx_x_0_1
  replace bx_x_0_2 := (b.cell (p := ⟨w5_.heap.size, 2, none⟩) hb_x_0).trans bx_x_0_2
  replace hb_x_0 := Nat.lt_of_lt_of_le hb_x_0 b.size
  replace T := T.trans (b.mono T.size)
  have s18_ := b.size
  clear b
  go_wp2
  go_ret
  exact ⟨rfl, T⟩

set_option maxRecDepth 100000 in
theorem lifted (os : Os) (started : os.Started) (H : Type) (enc : TypeId × Value → H) :
    ReturnsInHanded {} Try.checked os 10 .any (Rows.fnExactEncodePointKeySpec.pre6 enc Try.prog Try.f10 Rows.fnExactEncodePointKeyRow.domain false) (Rows.fnExactEncodePointKeySpec.post enc Try.prog Try.f10 false true false false) := by
  refine returnsInHanded_of_change (C := Try.checked) own_ started (by kernel_rfl) Try.func10
    (ChangeSpec.witness6 (enc := enc) (C := Try.checked) false ⟨#[], #[.agg #[.int .i64 0, .int .i64 0, .slice none 0 0]], []⟩ 8 (by kernel_rfl) (by kernel_rfl) (by kernel_rfl) (by kernel_rfl)) ?_
  intro W base args ds gs before hval0 hW hcnd _
  have hval : ∀ (j : Nat) t v, Try.f10.params[j]? = some t → args[j]? = some v → Value.okWide Try.prog W .any base t v := hval0
  have hW' := hW
  obtain ⟨p, q, hA0, hV, rfl, hfz, hnd⟩ := hW
  have hA : DataW.TrodAll enc Try.prog W 0 (fun _ => true) true Try.f10.params.toList args.toList ds p := hA0
  rw [Try.params10] at hA hval
  obtain ⟨v0, vs0, d0, ds0, p0, q0, hargs, rfl, rfl, h0, r0⟩ := trodAll_cons hA
  obtain ⟨rfl, rfl, rfl⟩ := trodAll_nil r0
  obtain rfl : args = #[v0] := by cases args; simp_all
  obtain ⟨rfl, rfl⟩ := trodVars_none hV
  have k0 := h0
  have lt0 : ∀ x ∈ p0, x.block < W.heap.size := by obtain ⟨m, hm⟩ := k0; exact DataW.trod_lt m _ _ _ hm
  obtain ⟨m0, n0, u0, x0, rfl, y0, z0⟩ := open_pk Try.underlying76 (by kernel_rfl) (by kernel_rfl) Try.underlying3 Try.underlying3 (opens_corrs Try.underlying74 Try.underlying136 (by kernel_rfl) (by kernel_rfl) Try.underlying3 Try.underlying3 Try.underlying3) (hval 0 76 v0 rfl rfl) h0
  clear hA0 hval0
  refine (walk W m0 n0 u0 x0 y0 z0).mono fun e W' ⟨he, bel⟩ => ?_
  subst he
  exact ⟨_, rfl, _, _, _, [], _, [], hW', trodAll_mk1 (shut_bool Try.underlying4 _), (trodAll_cons_mk (Below.trod laid_ (by kernel_rfl) (of_decide_eq_true (by kernel_rfl)) k0 bel lt0) trodAll_mk0), rfl, bel.frame _, fun h => by cases h⟩

theorem over : Rows.fnExactEncodePointKeyRow.holds Try.pinned (OpenSpec.ofChange Rows.fnExactEncodePointKeySpec) :=
  OpenClaim.holds_of_wide 10 Try.f10 rfl rfl rfl rfl rfl rfl rfl ⟨rfl, rfl, rfl, rfl, rfl⟩ rfl rfl rfl rfl rfl (by kernel_rfl) Try.func10 (by kernel_rfl)
    (of_decide_eq_true (by kernel_rfl)) (by unfold Func.isWrapper; first | (rw [if_pos (by decide +kernel)]; kernel_rfl) | (rw [if_neg (by decide +kernel)]; exact ⟨rfl, rfl⟩))
    (fun os started H enc _ => lifted os started H enc)

theorem proved : Rows.FnExactEncodePointKeySaid := over
end Go.Proofs.Ytceogegjghmonaa.fnExactEncodePointKey
