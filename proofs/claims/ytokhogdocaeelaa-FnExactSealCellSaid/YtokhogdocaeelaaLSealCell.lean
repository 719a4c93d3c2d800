/- FnExactSealCell, for every argument, no condition: the program's SealCell returns what the reference's returns, in memory of its own, and leaves its argument as it was. -/
import Derived.Test.YtokhogdocaeelaaSealJ
import Derived.Deep.RegionHeld3
namespace Go.Proofs.Ytokhogdocaeelaa.fnExactSealCell
set_option linter.unusedVariables false
open Go.RowKit Go.ChangeShapes Go.WideShapes Go.ChangeAt

set_option maxHeartbeats 4000000 in
set_option maxRecDepth 100000 in
theorem walk (w : World) (a0 : Int) (w0 : (Lit.int .i64 a0).wf = true) (a1 : Int) (w1 : (Lit.int .i64 a1).wf = true) (m2 : Int) (v2 : Value) (x2 : List UInt8) (y2 : Rd RB w v2 x2) (z2 : (Lit.int .i64 m2).wf = true) :
    Calls Try.prog 10 #[.int .i64 a0, .int .i64 a1, .agg #[.int .i64 m2, v2]] w fun e w' => e = .returned (.bool true) ∧ Below w.heap.size w w' := by
  obtain ⟨A2, l2, c2, rfl, g2⟩ := y2
  replace y2 : (Rd RB) w (.slice A2 l2 c2) x2 := ⟨_, _, _, rfl, g2⟩
  clear g2
  by_cases hl2 : ((x2.length : Nat) : Int) ≤ (1048576 : Int)
  rotate_left
  · go_enter Try.func10, Try.ntmps10
    have T := Below.refl w.heap.size w
    have b := below_alloc w (.cells #[.int .i64 m2, .slice A2 l2 c2] 64)
    replace T := T.trans (b.mono T.size)
    have bx_p2_0 : (World.alloc w (.cells #[.int .i64 m2, .slice A2 l2 c2] 64)).cell? ⟨w.heap.size, 0, none⟩ = some (.int .i64 m2) := by rw [World.cell?_alloc_at _ _ _ _ (by simp)]; rfl
    have bx_p2_1 : (World.alloc w (.cells #[.int .i64 m2, .slice A2 l2 c2] 64)).cell? ⟨w.heap.size, 1, none⟩ = some (.slice A2 l2 c2) := by rw [World.cell?_alloc_at _ _ _ _ (by simp)]; rfl
    have hb_p2 : w.heap.size < (World.alloc w (.cells #[.int .i64 m2, .slice A2 l2 c2] 64)).heap.size := by simp
    have sp2_ : w.heap.size < (World.alloc w (.cells #[.int .i64 m2, .slice A2 l2 c2] 64)).heap.size := by simp
    clear b
    go_wp2_with fail
    generalize (World.alloc w (.cells #[.int .i64 m2, .slice A2 l2 c2] 64)) = w1_ at *
    refine (sz_plain _ _ _ _ _ ((Rd_reads RB_reads) _ _ _ _ y2 T) (by omega) (by omega)).mono ?_
    rintro e w2_ ⟨rfl, b⟩
    rw [if_pos (by omega)]
    replace bx_p2_0 := (b.cell (p := ⟨w.heap.size, 0, none⟩) hb_p2).trans bx_p2_0
    replace bx_p2_1 := (b.cell (p := ⟨w.heap.size, 1, none⟩) hb_p2).trans bx_p2_1
    replace hb_p2 := Nat.lt_of_lt_of_le hb_p2 b.size
    replace T := T.trans (b.mono T.size)
    clear b
    go_wp2
    go_ret
    exact ⟨rfl, T⟩
  have hsl := sealC_le a0 a1 m2 x2
  obtain ⟨ok, hok⟩ : ∃ b : Bool, Hid (sealOk a0 a1 m2 x2 = b) := ⟨_, Lib.hid rfl⟩
  go_enter Try.func10, Try.ntmps10
  have T := Below.refl w.heap.size w
  have b := below_alloc w (.cells #[.int .i64 m2, .slice A2 l2 c2] 64)
  replace T := T.trans (b.mono T.size)
  have bx_p2_0 : (World.alloc w (.cells #[.int .i64 m2, .slice A2 l2 c2] 64)).cell? ⟨w.heap.size, 0, none⟩ = some (.int .i64 m2) := by rw [World.cell?_alloc_at _ _ _ _ (by simp)]; rfl
  have bx_p2_1 : (World.alloc w (.cells #[.int .i64 m2, .slice A2 l2 c2] 64)).cell? ⟨w.heap.size, 1, none⟩ = some (.slice A2 l2 c2) := by rw [World.cell?_alloc_at _ _ _ _ (by simp)]; rfl
  have hb_p2 : w.heap.size < (World.alloc w (.cells #[.int .i64 m2, .slice A2 l2 c2] 64)).heap.size := by simp
  have sp2_ : w.heap.size < (World.alloc w (.cells #[.int .i64 m2, .slice A2 l2 c2] 64)).heap.size := by simp
  clear b
  go_wp2_with fail
  generalize (World.alloc w (.cells #[.int .i64 m2, .slice A2 l2 c2] 64)) = w1_ at *
  refine (sz_plain _ _ _ _ _ ((Rd_reads RB_reads) _ _ _ _ y2 T) (by omega) (by omega)).mono ?_
  rintro e w2_ ⟨rfl, b⟩
  rw [if_neg (by omega)]
  replace bx_p2_0 := (b.cell (p := ⟨w.heap.size, 0, none⟩) hb_p2).trans bx_p2_0
  replace bx_p2_1 := (b.cell (p := ⟨w.heap.size, 1, none⟩) hb_p2).trans bx_p2_1
  replace hb_p2 := Nat.lt_of_lt_of_le hb_p2 b.size
  replace T := T.trans (b.mono T.size)
  have s2_ := b.size
  clear b
  go_wp2_with fail
  refine (to_plain _ _ _ _  ((Rd_reads RB_reads) _ _ _ _ y2 T) (by omega)).mono ?_
  rintro e w3_ ⟨AVs2, lVs2, cVs2, rfl, F⟩
  have b := F.below
  replace bx_p2_0 := (b.cell (p := ⟨w.heap.size, 0, none⟩) hb_p2).trans bx_p2_0
  replace bx_p2_1 := (b.cell (p := ⟨w.heap.size, 1, none⟩) hb_p2).trans bx_p2_1
  replace hb_p2 := Nat.lt_of_lt_of_le hb_p2 b.size
  replace T := T.trans (b.mono T.size)
  have s2 := Fresh.iv (Own_good FB_good) F
  have s3_ := b.size
  clear F b
  go_wp2_with fail
  refine (specSealCell_c _ _ _ _ _ _ _ (rd_plain s2) hok).mono ?_
  rintro e w4_ ⟨Vw, rfl, F⟩
  have b := F.below
  replace s2 := Iv.below (Own_good FB_good) s2 b
  replace bx_p2_0 := (b.cell (p := ⟨w.heap.size, 0, none⟩) hb_p2).trans bx_p2_0
  replace bx_p2_1 := (b.cell (p := ⟨w.heap.size, 1, none⟩) hb_p2).trans bx_p2_1
  replace hb_p2 := Nat.lt_of_lt_of_le hb_p2 b.size
  replace T := T.trans (b.mono T.size)
  have fw := Fresh.iv (Own_good FB_good) F
  have s4_ := b.size
  clear F b
  clear s2
  go_wp2_with fail
  refine (to_plain _ _ _ _  ((Rd_reads RB_reads) _ _ _ _ y2 T) (by omega)).mono ?_
  rintro e w5_ ⟨AVx_2, lVx_2, cVx_2, rfl, F⟩
  have b := F.below
  replace fw := Iv.below (Own_good FB_good) fw b
  replace bx_p2_0 := (b.cell (p := ⟨w.heap.size, 0, none⟩) hb_p2).trans bx_p2_0
  replace bx_p2_1 := (b.cell (p := ⟨w.heap.size, 1, none⟩) hb_p2).trans bx_p2_1
  replace hb_p2 := Nat.lt_of_lt_of_le hb_p2 b.size
  replace T := T.trans (b.mono T.size)
  have x_2 := Fresh.iv (Own_good FB_good) F
  have s5_ := b.size
  clear F b
  have b := below_alloc w5_ (.cells #[.int .i64 m2, .slice AVx_2 lVx_2 cVx_2] 58)
  replace fw := Iv.below (Own_good FB_good) fw b
  replace x_2 := Iv.below (Own_good FB_good) x_2 b
  replace bx_p2_0 := (b.cell (p := ⟨w.heap.size, 0, none⟩) hb_p2).trans bx_p2_0
  replace bx_p2_1 := (b.cell (p := ⟨w.heap.size, 1, none⟩) hb_p2).trans bx_p2_1
  replace hb_p2 := Nat.lt_of_lt_of_le hb_p2 b.size
  replace T := T.trans (b.mono T.size)
  have bx_x_2_0 : (World.alloc w5_ (.cells #[.int .i64 m2, .slice AVx_2 lVx_2 cVx_2] 58)).cell? ⟨w5_.heap.size, 0, none⟩ = some (.int .i64 m2) := by rw [World.cell?_alloc_at _ _ _ _ (by simp)]; rfl
  have bx_x_2_1 : (World.alloc w5_ (.cells #[.int .i64 m2, .slice AVx_2 lVx_2 cVx_2] 58)).cell? ⟨w5_.heap.size, 1, none⟩ = some (.slice AVx_2 lVx_2 cVx_2) := by rw [World.cell?_alloc_at _ _ _ _ (by simp)]; rfl
  have hb_x_2 : w5_.heap.size < (World.alloc w5_ (.cells #[.int .i64 m2, .slice AVx_2 lVx_2 cVx_2] 58)).heap.size := by simp
  have sx_2_ : w5_.heap.size < (World.alloc w5_ (.cells #[.int .i64 m2, .slice AVx_2 lVx_2 cVx_2] 58)).heap.size := by simp
  clear b
  go_wp2_with fail
  generalize (World.alloc w5_ (.cells #[.int .i64 m2, .slice AVx_2 lVx_2 cVx_2] 58)) = w6_ at *
  refine (implSealCell_c _ _ _ _ _ _ _ (rd_plain x_2) hok).mono ?_
  rintro e w7_ ⟨Vg, rfl, F⟩
  have b := F.below
  replace fw := Iv.below (Own_good FB_good) fw b
  replace x_2 := Iv.below (Own_good FB_good) x_2 b
  replace bx_p2_0 := (b.cell (p := ⟨w.heap.size, 0, none⟩) hb_p2).trans bx_p2_0
  replace bx_p2_1 := (b.cell (p := ⟨w.heap.size, 1, none⟩) hb_p2).trans bx_p2_1
  replace hb_p2 := Nat.lt_of_lt_of_le hb_p2 b.size
  replace bx_x_2_0 := (b.cell (p := ⟨w5_.heap.size, 0, none⟩) hb_x_2).trans bx_x_2_0
  replace bx_x_2_1 := (b.cell (p := ⟨w5_.heap.size, 1, none⟩) hb_x_2).trans bx_x_2_1
  replace hb_x_2 := Nat.lt_of_lt_of_le hb_x_2 b.size
  replace T := T.trans (b.mono T.size)
  have fg := Fresh.iv (Own_good FB_good) F
  have s7_ := b.size
  clear F b
  go_wp2_with fail
  refine (eq_bytes _ _ _ _  (rd_bytes fg) (rd_bytes fw)).mono ?_
  rintro e w8_ ⟨rfl, b⟩
  replace fw := Iv.below (Own_good FB_good) fw b
  replace x_2 := Iv.below (Own_good FB_good) x_2 b
  replace fg := Iv.below (Own_good FB_good) fg b
  replace bx_p2_0 := (b.cell (p := ⟨w.heap.size, 0, none⟩) hb_p2).trans bx_p2_0
  replace bx_p2_1 := (b.cell (p := ⟨w.heap.size, 1, none⟩) hb_p2).trans bx_p2_1
  replace hb_p2 := Nat.lt_of_lt_of_le hb_p2 b.size
  replace bx_x_2_0 := (b.cell (p := ⟨w5_.heap.size, 0, none⟩) hb_x_2).trans bx_x_2_0
  replace bx_x_2_1 := (b.cell (p := ⟨w5_.heap.size, 1, none⟩) hb_x_2).trans bx_x_2_1
  replace hb_x_2 := Nat.lt_of_lt_of_le hb_x_2 b.size
  replace T := T.trans (b.mono T.size)
  have s8_ := b.size
  clear b
  go_wp2_with fail
  replace fw := Iv.drew (Own_good FB_good) fw
  replace x_2 := Iv.drew (Own_good FB_good) x_2
  replace fg := Iv.drew (Own_good FB_good) fg
  replace bx_p2_0 : (World.drew w8_).cell? ⟨w.heap.size, 0, none⟩ = some (.int .i64 m2) := bx_p2_0
  replace bx_p2_1 : (World.drew w8_).cell? ⟨w.heap.size, 1, none⟩ = some (.slice A2 l2 c2) := bx_p2_1
  replace hb_p2 : w.heap.size < (World.drew w8_).heap.size := hb_p2
  replace bx_x_2_0 : (World.drew w8_).cell? ⟨w5_.heap.size, 0, none⟩ = some (.int .i64 m2) := bx_x_2_0
  replace bx_x_2_1 : (World.drew w8_).cell? ⟨w5_.heap.size, 1, none⟩ = some (.slice AVx_2 lVx_2 cVx_2) := bx_x_2_1
  replace hb_x_2 : w5_.heap.size < (World.drew w8_).heap.size := hb_x_2
  replace T := T.drew
  have sd8_ : w8_.heap.size ≤ (World.drew w8_).heap.size := Nat.le_refl _
  go_region_held3 (fun w' => w'.cell? ⟨w5_.heap.size, 0, none⟩ = some (.int .i64 m2) ∧ w'.cell? ⟨w5_.heap.size, 1, none⟩ = some (.slice AVx_2 lVx_2 cVx_2) ∧ w'.cell? ⟨w.heap.size, 0, none⟩ = some (.int .i64 m2) ∧ w'.cell? ⟨w.heap.size, 1, none⟩ = some (.slice A2 l2 c2))
    (first | ((repeat' apply And.intro) <;> assumption) | go_keep)
    (first
      | (go_at_call 51
         refine (to_plain _ _ _ _  ((Rd_reads RB_reads) _ _ _ _ y2 T) (by omega)).mono ?_
         rintro e w9_ ⟨AVft, lVft, cVft, rfl, F⟩
         have b := F.below
         replace fw := Iv.below (Own_good FB_good) fw b
         replace x_2 := Iv.below (Own_good FB_good) x_2 b
         replace fg := Iv.below (Own_good FB_good) fg b
         replace bx_p2_0 := (b.cell (p := ⟨w.heap.size, 0, none⟩) hb_p2).trans bx_p2_0
         replace bx_p2_1 := (b.cell (p := ⟨w.heap.size, 1, none⟩) hb_p2).trans bx_p2_1
         replace hb_p2 := Nat.lt_of_lt_of_le hb_p2 b.size
         replace bx_x_2_0 := (b.cell (p := ⟨w5_.heap.size, 0, none⟩) hb_x_2).trans bx_x_2_0
         replace bx_x_2_1 := (b.cell (p := ⟨w5_.heap.size, 1, none⟩) hb_x_2).trans bx_x_2_1
         replace hb_x_2 := Nat.lt_of_lt_of_le hb_x_2 b.size
         replace T := T.trans (b.mono T.size)
         have ft := Fresh.iv (Own_good FB_good) F
         have s9_ := b.size
         clear F b)
      | (go_at_call 46
         refine (eq_plain _ _ _ _ _  (rd_plain x_2) (rd_plain ft)).mono ?_
         rintro e w10_ ⟨rfl, b⟩
         replace fw := Iv.below (Own_good FB_good) fw b
         replace x_2 := Iv.below (Own_good FB_good) x_2 b
         replace fg := Iv.below (Own_good FB_good) fg b
         replace ft := Iv.below (Own_good FB_good) ft b
         replace bx_p2_0 := (b.cell (p := ⟨w.heap.size, 0, none⟩) hb_p2).trans bx_p2_0
         replace bx_p2_1 := (b.cell (p := ⟨w.heap.size, 1, none⟩) hb_p2).trans bx_p2_1
         replace hb_p2 := Nat.lt_of_lt_of_le hb_p2 b.size
         replace bx_x_2_0 := (b.cell (p := ⟨w5_.heap.size, 0, none⟩) hb_x_2).trans bx_x_2_0
         replace bx_x_2_1 := (b.cell (p := ⟨w5_.heap.size, 1, none⟩) hb_x_2).trans bx_x_2_1
         replace hb_x_2 := Nat.lt_of_lt_of_le hb_x_2 b.size
         replace T := T.trans (b.mono T.size)
         have s10_ := b.size
         clear b))
  clear ft
  go_wp2_with fail
  refine (mark_plain _ _ _ _ _ _ _ x_2 (by omega) (by omega)).mono ?_
  rintro e w11_ ⟨rfl, f_, c⟩
  have s11_ := c.size
  replace fw := Iv.chg (Own_good FB_good) fw c (by omega)
  replace fg := Iv.chg (Own_good FB_good) fg c (by omega)
  replace bx_p2_0 := (World.cell?_of_block (a := ⟨w.heap.size, 0, none⟩) (c.block (w.heap.size) hb_p2 (by omega))).trans bx_p2_0
  replace bx_p2_1 := (World.cell?_of_block (a := ⟨w.heap.size, 1, none⟩) (c.block (w.heap.size) hb_p2 (by omega))).trans bx_p2_1
  replace hb_p2 := Nat.lt_of_lt_of_le hb_p2 c.size
  replace bx_x_2_0 := (World.cell?_of_block (a := ⟨w5_.heap.size, 0, none⟩) (c.block (w5_.heap.size) hb_x_2 (by omega))).trans bx_x_2_0
  replace bx_x_2_1 := (World.cell?_of_block (a := ⟨w5_.heap.size, 1, none⟩) (c.block (w5_.heap.size) hb_x_2 (by omega))).trans bx_x_2_1
  replace hb_x_2 := Nat.lt_of_lt_of_le hb_x_2 c.size
  replace T := T.trans (c.below (by omega) T.size)
  clear x_2 c
  have x_2 := f_
  clear f_
  go_wp2_with fail
  refine (eq_bytes _ _ _ _  (rd_bytes fg) (rd_bytes fw)).mono ?_
  rintro e w12_ ⟨rfl, b⟩
  replace fw := Iv.below (Own_good FB_good) fw b
  replace x_2 := Iv.below (Own_good FB_good) x_2 b
  replace fg := Iv.below (Own_good FB_good) fg b
  replace bx_p2_0 := (b.cell (p := ⟨w.heap.size, 0, none⟩) hb_p2).trans bx_p2_0
  replace bx_p2_1 := (b.cell (p := ⟨w.heap.size, 1, none⟩) hb_p2).trans bx_p2_1
  replace hb_p2 := Nat.lt_of_lt_of_le hb_p2 b.size
  replace bx_x_2_0 := (b.cell (p := ⟨w5_.heap.size, 0, none⟩) hb_x_2).trans bx_x_2_0
  replace bx_x_2_1 := (b.cell (p := ⟨w5_.heap.size, 1, none⟩) hb_x_2).trans bx_x_2_1
  replace hb_x_2 := Nat.lt_of_lt_of_le hb_x_2 b.size
  replace T := T.trans (b.mono T.size)
  have s12_ := b.size
  clear b
  clear x_2
  go_wp2_with fail
  refine (mark_bytes _ _ _ _ _ _ fg (by omega) (by omega)).mono ?_
  rintro e w13_ ⟨rfl, f_, c⟩
  have s13_ := c.size
  replace fw := Iv.chg (Own_good FB_good) fw c (by omega)
  replace bx_p2_0 := (World.cell?_of_block (a := ⟨w.heap.size, 0, none⟩) (c.block (w.heap.size) hb_p2 (by omega))).trans bx_p2_0
  replace bx_p2_1 := (World.cell?_of_block (a := ⟨w.heap.size, 1, none⟩) (c.block (w.heap.size) hb_p2 (by omega))).trans bx_p2_1
  replace hb_p2 := Nat.lt_of_lt_of_le hb_p2 c.size
  replace bx_x_2_0 := (World.cell?_of_block (a := ⟨w5_.heap.size, 0, none⟩) (c.block (w5_.heap.size) hb_x_2 (by omega))).trans bx_x_2_0
  replace bx_x_2_1 := (World.cell?_of_block (a := ⟨w5_.heap.size, 1, none⟩) (c.block (w5_.heap.size) hb_x_2 (by omega))).trans bx_x_2_1
  replace hb_x_2 := Nat.lt_of_lt_of_le hb_x_2 c.size
  replace T := T.trans (c.below (by omega) T.size)
  clear fg c
  have fg := f_
  clear f_
  go_wp2_with fail
  refine (held_bytes _ _ _ _  (rd_bytes fg) (by omega) (by omega)).mono ?_
  rintro e w14_ ⟨rfl, b⟩
  replace fw := Iv.below (Own_good FB_good) fw b
  replace fg := Iv.below (Own_good FB_good) fg b
  replace bx_p2_0 := (b.cell (p := ⟨w.heap.size, 0, none⟩) hb_p2).trans bx_p2_0
  replace bx_p2_1 := (b.cell (p := ⟨w.heap.size, 1, none⟩) hb_p2).trans bx_p2_1
  replace hb_p2 := Nat.lt_of_lt_of_le hb_p2 b.size
  replace bx_x_2_0 := (b.cell (p := ⟨w5_.heap.size, 0, none⟩) hb_x_2).trans bx_x_2_0
  replace bx_x_2_1 := (b.cell (p := ⟨w5_.heap.size, 1, none⟩) hb_x_2).trans bx_x_2_1
  replace hb_x_2 := Nat.lt_of_lt_of_le hb_x_2 b.size
  replace T := T.trans (b.mono T.size)
  have s14_ := b.size
  clear b
  go_wp2_with fail
  refine (to_plain _ _ _ _  ((Rd_reads RB_reads) _ _ _ _ y2 T) (by omega)).mono ?_
  rintro e w15_ ⟨AVz_2, lVz_2, cVz_2, rfl, F⟩
  have b := F.below
  replace fw := Iv.below (Own_good FB_good) fw b
  replace fg := Iv.below (Own_good FB_good) fg b
  replace bx_p2_0 := (b.cell (p := ⟨w.heap.size, 0, none⟩) hb_p2).trans bx_p2_0
  replace bx_p2_1 := (b.cell (p := ⟨w.heap.size, 1, none⟩) hb_p2).trans bx_p2_1
  replace hb_p2 := Nat.lt_of_lt_of_le hb_p2 b.size
  replace bx_x_2_0 := (b.cell (p := ⟨w5_.heap.size, 0, none⟩) hb_x_2).trans bx_x_2_0
  replace bx_x_2_1 := (b.cell (p := ⟨w5_.heap.size, 1, none⟩) hb_x_2).trans bx_x_2_1
  replace hb_x_2 := Nat.lt_of_lt_of_le hb_x_2 b.size
  replace T := T.trans (b.mono T.size)
  have z_2 := Fresh.iv (Own_good FB_good) F
  have s15_ := b.size
  clear F b
  go_wp2_with fail
  refine (implSealCell_c _ _ _ _ _ _ _ (rd_plain z_2) hok).mono ?_
  rintro e w16_ ⟨Vh, rfl, F⟩
  have b := F.below
  replace fw := Iv.below (Own_good FB_good) fw b
  replace fg := Iv.below (Own_good FB_good) fg b
  replace z_2 := Iv.below (Own_good FB_good) z_2 b
  replace bx_p2_0 := (b.cell (p := ⟨w.heap.size, 0, none⟩) hb_p2).trans bx_p2_0
  replace bx_p2_1 := (b.cell (p := ⟨w.heap.size, 1, none⟩) hb_p2).trans bx_p2_1
  replace hb_p2 := Nat.lt_of_lt_of_le hb_p2 b.size
  replace bx_x_2_0 := (b.cell (p := ⟨w5_.heap.size, 0, none⟩) hb_x_2).trans bx_x_2_0
  replace bx_x_2_1 := (b.cell (p := ⟨w5_.heap.size, 1, none⟩) hb_x_2).trans bx_x_2_1
  replace hb_x_2 := Nat.lt_of_lt_of_le hb_x_2 b.size
  replace T := T.trans (b.mono T.size)
  have fh := Fresh.iv (Own_good FB_good) F
  have s16_ := b.size
  clear F b
  go_wp2_with fail
  refine (eq_bytes _ _ _ _  (rd_bytes fh) (rd_bytes fw)).mono ?_
  rintro e w17_ ⟨rfl, b⟩
  replace fw := Iv.below (Own_good FB_good) fw b
  replace fg := Iv.below (Own_good FB_good) fg b
  replace z_2 := Iv.below (Own_good FB_good) z_2 b
  replace fh := Iv.below (Own_good FB_good) fh b
  replace bx_p2_0 := (b.cell (p := ⟨w.heap.size, 0, none⟩) hb_p2).trans bx_p2_0
  replace bx_p2_1 := (b.cell (p := ⟨w.heap.size, 1, none⟩) hb_p2).trans bx_p2_1
  replace hb_p2 := Nat.lt_of_lt_of_le hb_p2 b.size
  replace bx_x_2_0 := (b.cell (p := ⟨w5_.heap.size, 0, none⟩) hb_x_2).trans bx_x_2_0
  replace bx_x_2_1 := (b.cell (p := ⟨w5_.heap.size, 1, none⟩) hb_x_2).trans bx_x_2_1
  replace hb_x_2 := Nat.lt_of_lt_of_le hb_x_2 b.size
  replace T := T.trans (b.mono T.size)
  have s17_ := b.size
  clear b
  clear z_2
  go_wp2_with fail
  refine (held_bytes _ _ _ _  (rd_bytes fg) (by omega) (by omega)).mono ?_
  rintro e w18_ ⟨rfl, b⟩
  replace fw := Iv.below (Own_good FB_good) fw b
  replace fg := Iv.below (Own_good FB_good) fg b
  replace fh := Iv.below (Own_good FB_good) fh b
  replace bx_p2_0 := (b.cell (p := ⟨w.heap.size, 0, none⟩) hb_p2).trans bx_p2_0
  replace bx_p2_1 := (b.cell (p := ⟨w.heap.size, 1, none⟩) hb_p2).trans bx_p2_1
  replace hb_p2 := Nat.lt_of_lt_of_le hb_p2 b.size
  replace bx_x_2_0 := (b.cell (p := ⟨w5_.heap.size, 0, none⟩) hb_x_2).trans bx_x_2_0
  replace bx_x_2_1 := (b.cell (p := ⟨w5_.heap.size, 1, none⟩) hb_x_2).trans bx_x_2_1
  replace hb_x_2 := Nat.lt_of_lt_of_le hb_x_2 b.size
  replace T := T.trans (b.mono T.size)
  have s18_ := b.size
  clear b
  go_wp2
  go_ret
  exact ⟨rfl, T⟩

set_option maxRecDepth 100000 in
theorem lifted (os : Os) (started : os.Started) (H : Type) (enc : TypeId × Value → H) :
    ReturnsInHanded {} Try.checked os 10 .any (Rows.fnExactSealCellSpec.pre6 enc Try.prog Try.f10 Rows.fnExactSealCellRow.domain false) (Rows.fnExactSealCellSpec.post enc Try.prog Try.f10 false true false false) := by
  refine returnsInHanded_of_change (C := Try.checked) own_ started (by kernel_rfl) Try.func10
    (ChangeSpec.witness6 (enc := enc) (C := Try.checked) false ⟨#[], #[.int .i64 0, .int .i64 0, .agg #[.int .i64 0, .slice none 0 0]], []⟩ 8 (by kernel_rfl) (by kernel_rfl) (by kernel_rfl) (by kernel_rfl)) ?_
  intro W base args ds gs before hval0 hW hcnd _
  have hval : ∀ (j : Nat) t v, Try.f10.params[j]? = some t → args[j]? = some v → Value.okWide Try.prog W .any base t v := hval0
  have hW' := hW
  obtain ⟨p, q, hA0, hV, rfl, hfz, hnd⟩ := hW
  have hA : DataW.TrodAll enc Try.prog W 0 (fun _ => true) true Try.f10.params.toList args.toList ds p := hA0
  rw [Try.params10] at hA hval
  obtain ⟨v0, vs0, d0, ds0, p0, q0, hargs, rfl, rfl, h0, r0⟩ := trodAll_cons hA
  obtain ⟨v1, vs1, d1, ds1, p1, q1, rfl, rfl, rfl, h1, r1⟩ := trodAll_cons r0
  obtain ⟨v2, vs2, d2, ds2, p2, q2, rfl, rfl, rfl, h2, r2⟩ := trodAll_cons r1
  obtain ⟨rfl, rfl, rfl⟩ := trodAll_nil r2
  obtain rfl : args = #[v0, v1, v2] := by cases args; simp_all
  obtain ⟨rfl, rfl⟩ := trodVars_none hV
  obtain ⟨a0, rfl, rfl, rfl, w0⟩ := open_int Try.underlying3 (hval 0 3 v0 rfl rfl) h0
  obtain ⟨a1, rfl, rfl, rfl, w1⟩ := open_int Try.underlying3 (hval 1 3 v1 rfl rfl) h1
  have k2 := h2
  have lt2 : ∀ x ∈ p2, x.block < W.heap.size := by obtain ⟨m, hm⟩ := k2; exact DataW.trod_lt m _ _ _ hm
  obtain ⟨m2, u2, x2, rfl, y2, z2⟩ := open_int_slice Try.underlying64 (by kernel_rfl) (by kernel_rfl) Try.underlying3 (opens_slice Try.underlying22 (by kernel_rfl) (opens_u8 Try.underlying5)) (hval 2 64 v2 rfl rfl) h2
  clear hA0 hval0
  refine (walk W a0 w0 a1 w1 m2 u2 x2 y2 z2).mono fun e W' ⟨he, bel⟩ => ?_
  subst he
  exact ⟨_, rfl, _, _, _, [], _, [], hW', trodAll_mk1 (shut_bool Try.underlying4 _), (trodAll_cons_mk (shut_int Try.underlying3 w0) (trodAll_cons_mk (shut_int Try.underlying3 w1) (trodAll_cons_mk (Below.trod laid_ (by kernel_rfl) (of_decide_eq_true (by kernel_rfl)) k2 bel lt2) trodAll_mk0))), rfl, bel.frame _, fun h => by cases h⟩

theorem over : Rows.fnExactSealCellRow.holds Try.pinned (OpenSpec.ofChange Rows.fnExactSealCellSpec) :=
  OpenClaim.holds_of_wide 10 Try.f10 rfl rfl rfl rfl rfl rfl rfl ⟨rfl, rfl, rfl, rfl, rfl⟩ rfl rfl rfl rfl rfl (by kernel_rfl) Try.func10 (by kernel_rfl)
    (of_decide_eq_true (by kernel_rfl)) (by unfold Func.isWrapper; first | (rw [if_pos (by decide +kernel)]; kernel_rfl) | (rw [if_neg (by decide +kernel)]; exact ⟨rfl, rfl⟩))
    (fun os started H enc _ => lifted os started H enc)

theorem proved : Rows.FnExactSealCellSaid := over
end Go.Proofs.Ytokhogdocaeelaa.fnExactSealCell
