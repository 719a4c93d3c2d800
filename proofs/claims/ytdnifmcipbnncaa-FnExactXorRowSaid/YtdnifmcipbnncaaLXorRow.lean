/- FnExactXorRow, for every argument, no condition: the program's XorRow returns what the reference's returns, in memory of its own, and leaves its arguments as they were. -/
import Derived.Test.YtdnifmcipbnncaaXorRow
namespace Go.Proofs.Ytdnifmcipbnncaa.fnExactXorRow
set_option linter.unusedVariables false
open Go.RowKit Go.ChangeShapes Go.WideShapes Go.ChangeAt

theorem sumL_set (xs : List (List UInt8)) (k : Nat) (r : List UInt8) : sumL (xs.set k r) ≤ sumL xs + r.length := by
  induction xs generalizing k with
  | nil => simp [sumL]
  | cons y ys ih =>
    cases k with
    | zero => simp [sumL]; omega
    | succ k => have := ih k; simp [sumL] at this ⊢; omega
theorem xorRow_sum (xs : List (List UInt8)) (i : Int) (r : List UInt8) : sumL (xorRow xs i r) ≤ sumL xs + 24 := by
  unfold xorRow
  split
  · rename_i h
    unfold xorOk at h
    simp at h
    refine Nat.le_trans (sumL_set _ _ _) ?_
    rw [xorB_len]
    have h1 := h.2.1
    have h2 := h.2.2
    simp only [List.getD_eq_getElem?_getD] at *
    omega
  · omega

set_option maxHeartbeats 4000000 in
set_option maxRecDepth 100000 in
theorem walk (w : World) (v0 : Value) (x0 : List (List UInt8)) (y0 : (Rd (Rd RB)) w v0 x0) (a1 : Int) (w1 : (Lit.int .i64 a1).wf = true) (v2 : Value) (x2 : List UInt8) (y2 : (Rd RB) w v2 x2) :
    Calls Try.prog 11 #[.agg #[v0], .int .i64 a1, v2] w fun e w' => e = .returned (.bool true) ∧ Below w.heap.size w w' := by
  obtain ⟨A0, l0, c0, rfl, g0⟩ := y0
  replace y0 : (Rd (Rd RB)) w (.slice A0 l0 c0) x0 := ⟨_, _, _, rfl, g0⟩
  clear g0
  obtain ⟨A2, l2, c2, rfl, g2⟩ := y2
  obtain rfl := g2.1
  have hc2 := Nat.le_trans g2.2.1 g2.2.2.1
  unfold maxLen at hc2
  replace y2 : (Rd RB) w (.slice A2 x2.length c2) x2 := ⟨_, _, _, rfl, g2⟩
  clear g2
  by_cases hl2 : x2.length ≤ 1048576
  rotate_left
  · go_enter Try.func11, Try.ntmps11
    go_wp2
    go_ret
    exact ⟨rfl, (Below.refl _ _).alloc (by simp; try omega) _⟩
  by_cases hl0 : ((tot x0 : Nat) : Int) ≤ (1048576 : Int)
  rotate_left
  · go_enter Try.func11, Try.ntmps11
    have T := Below.refl w.heap.size w
    have b := below_alloc w (.cells #[.slice A0 l0 c0] 24)
    replace T := T.trans (b.mono T.size)
    have bx_p0_0 : (World.alloc w (.cells #[.slice A0 l0 c0] 24)).cell? ⟨w.heap.size, 0, none⟩ = some (.slice A0 l0 c0) := by rw [World.cell?_alloc_at _ _ _ _ (by simp)]; rfl
    have hb_p0 : w.heap.size < (World.alloc w (.cells #[.slice A0 l0 c0] 24)).heap.size := by simp
    have sp0_ : w.heap.size < (World.alloc w (.cells #[.slice A0 l0 c0] 24)).heap.size := by simp
    clear b
    go_wp2_with fail
    generalize (World.alloc w (.cells #[.slice A0 l0 c0] 24)) = w1_ at *
    refine (sz_db _ _ _ _ ((Rd_reads (Rd_reads RB_reads)) _ _ _ _ y0 T) (by omega) (by omega)).mono ?_
    rintro e w2_ ⟨rfl, b⟩
    rw [if_pos (by omega)]
    replace bx_p0_0 := (b.cell (p := ⟨w.heap.size, 0, none⟩) hb_p0).trans bx_p0_0
    replace hb_p0 := Nat.lt_of_lt_of_le hb_p0 b.size
    replace T := T.trans (b.mono T.size)
    clear b
    go_wp2
    go_ret
    exact ⟨rfl, T⟩
  have hw1 := wf_i64 w1
  have hrl := xorRow_sum x0 a1 x2
  have hsl := sumL_le x0
  obtain ⟨ok, hok⟩ : ∃ b : Bool, Hid (xorOk x0 a1 x2 = b) := ⟨_, Lib.hid rfl⟩
  go_enter Try.func11, Try.ntmps11
  have T := Below.refl w.heap.size w
  have b := below_alloc w (.cells #[.slice A0 l0 c0] 24)
  replace T := T.trans (b.mono T.size)
  have bx_p0_0 : (World.alloc w (.cells #[.slice A0 l0 c0] 24)).cell? ⟨w.heap.size, 0, none⟩ = some (.slice A0 l0 c0) := by rw [World.cell?_alloc_at _ _ _ _ (by simp)]; rfl
  have hb_p0 : w.heap.size < (World.alloc w (.cells #[.slice A0 l0 c0] 24)).heap.size := by simp
  have sp0_ : w.heap.size < (World.alloc w (.cells #[.slice A0 l0 c0] 24)).heap.size := by simp
  clear b
  go_wp2_with fail
  generalize (World.alloc w (.cells #[.slice A0 l0 c0] 24)) = w1_ at *
  refine (sz_db _ _ _ _ ((Rd_reads (Rd_reads RB_reads)) _ _ _ _ y0 T) (by omega) (by omega)).mono ?_
  rintro e w2_ ⟨rfl, b⟩
  rw [if_neg (by omega)]
  replace bx_p0_0 := (b.cell (p := ⟨w.heap.size, 0, none⟩) hb_p0).trans bx_p0_0
  replace hb_p0 := Nat.lt_of_lt_of_le hb_p0 b.size
  replace T := T.trans (b.mono T.size)
  have s2_ := b.size
  clear b
  go_wp2_with fail
  refine (to_db _ _ _  ((Rd_reads (Rd_reads RB_reads)) _ _ _ _ y0 T) (by omega)).mono ?_
  rintro e w3_ ⟨AVs0, lVs0, cVs0, rfl, F⟩
  have b := F.below
  replace bx_p0_0 := (b.cell (p := ⟨w.heap.size, 0, none⟩) hb_p0).trans bx_p0_0
  replace hb_p0 := Nat.lt_of_lt_of_le hb_p0 b.size
  replace T := T.trans (b.mono T.size)
  have s0 := Fresh.iv OBB_good F
  have s3_ := b.size
  clear F b
  go_wp2_with fail
  refine (to_bytes _ _ _  ((Rd_reads RB_reads) _ _ _ _ y2 T) (by omega)).mono ?_
  rintro e w4_ ⟨Vs2, rfl, F⟩
  have b := F.below
  replace s0 := Iv.below OBB_good s0 b
  replace bx_p0_0 := (b.cell (p := ⟨w.heap.size, 0, none⟩) hb_p0).trans bx_p0_0
  replace hb_p0 := Nat.lt_of_lt_of_le hb_p0 b.size
  replace T := T.trans (b.mono T.size)
  have s2 := Fresh.iv (Own_good FB_good) F
  have s4_ := b.size
  clear F b
  go_wp2_with fail
  refine (specXorRow_c _ _ _ _ _ _ _ (rd_db s0) (rd_bytes s2) hok hw1.1 hw1.2 (by omega) (by omega)).mono ?_
  rintro e w5_ ⟨AVw, lVw, cVw, rfl, F⟩
  have b := F.below
  replace s0 := Iv.below OBB_good s0 b
  replace s2 := Iv.below (Own_good FB_good) s2 b
  replace bx_p0_0 := (b.cell (p := ⟨w.heap.size, 0, none⟩) hb_p0).trans bx_p0_0
  replace hb_p0 := Nat.lt_of_lt_of_le hb_p0 b.size
  replace T := T.trans (b.mono T.size)
  have fw := Fresh.iv OBB_good F
  have s5_ := b.size
  clear F b
  clear s0
  clear s2
  have b := below_alloc w5_ (.cells #[.slice AVw lVw cVw] 27)
  replace fw := Iv.below OBB_good fw b
  replace bx_p0_0 := (b.cell (p := ⟨w.heap.size, 0, none⟩) hb_p0).trans bx_p0_0
  replace hb_p0 := Nat.lt_of_lt_of_le hb_p0 b.size
  replace T := T.trans (b.mono T.size)
  have bx_fw_0 : (World.alloc w5_ (.cells #[.slice AVw lVw cVw] 27)).cell? ⟨w5_.heap.size, 0, none⟩ = some (.slice AVw lVw cVw) := by rw [World.cell?_alloc_at _ _ _ _ (by simp)]; rfl
  have hb_fw : w5_.heap.size < (World.alloc w5_ (.cells #[.slice AVw lVw cVw] 27)).heap.size := by simp
  have sfw_ : w5_.heap.size < (World.alloc w5_ (.cells #[.slice AVw lVw cVw] 27)).heap.size := by simp
  clear b
  go_wp2_with fail
  generalize (World.alloc w5_ (.cells #[.slice AVw lVw cVw] 27)) = w6_ at *
  refine (to_db _ _ _  ((Rd_reads (Rd_reads RB_reads)) _ _ _ _ y0 T) (by omega)).mono ?_
  rintro e w7_ ⟨AVx_0, lVx_0, cVx_0, rfl, F⟩
  have b := F.below
  replace fw := Iv.below OBB_good fw b
  replace bx_p0_0 := (b.cell (p := ⟨w.heap.size, 0, none⟩) hb_p0).trans bx_p0_0
  replace hb_p0 := Nat.lt_of_lt_of_le hb_p0 b.size
  replace bx_fw_0 := (b.cell (p := ⟨w5_.heap.size, 0, none⟩) hb_fw).trans bx_fw_0
  replace hb_fw := Nat.lt_of_lt_of_le hb_fw b.size
  replace T := T.trans (b.mono T.size)
  have x_0 := Fresh.iv OBB_good F
  have s7_ := b.size
  clear F b
  have b := below_alloc w7_ (.cells #[.slice AVx_0 lVx_0 cVx_0] 27)
  replace fw := Iv.below OBB_good fw b
  replace x_0 := Iv.below OBB_good x_0 b
  replace bx_p0_0 := (b.cell (p := ⟨w.heap.size, 0, none⟩) hb_p0).trans bx_p0_0
  replace hb_p0 := Nat.lt_of_lt_of_le hb_p0 b.size
  replace bx_fw_0 := (b.cell (p := ⟨w5_.heap.size, 0, none⟩) hb_fw).trans bx_fw_0
  replace hb_fw := Nat.lt_of_lt_of_le hb_fw b.size
  replace T := T.trans (b.mono T.size)
  have bx_x_0_0 : (World.alloc w7_ (.cells #[.slice AVx_0 lVx_0 cVx_0] 27)).cell? ⟨w7_.heap.size, 0, none⟩ = some (.slice AVx_0 lVx_0 cVx_0) := by rw [World.cell?_alloc_at _ _ _ _ (by simp)]; rfl
  have hb_x_0 : w7_.heap.size < (World.alloc w7_ (.cells #[.slice AVx_0 lVx_0 cVx_0] 27)).heap.size := by simp
  have sx_0_ : w7_.heap.size < (World.alloc w7_ (.cells #[.slice AVx_0 lVx_0 cVx_0] 27)).heap.size := by simp
  clear b
  go_wp2_with fail
  generalize (World.alloc w7_ (.cells #[.slice AVx_0 lVx_0 cVx_0] 27)) = w8_ at *
  refine (to_bytes _ _ _  ((Rd_reads RB_reads) _ _ _ _ y2 T) (by omega)).mono ?_
  rintro e w9_ ⟨Vx_2, rfl, F⟩
  have b := F.below
  replace fw := Iv.below OBB_good fw b
  replace x_0 := Iv.below OBB_good x_0 b
  replace bx_p0_0 := (b.cell (p := ⟨w.heap.size, 0, none⟩) hb_p0).trans bx_p0_0
  replace hb_p0 := Nat.lt_of_lt_of_le hb_p0 b.size
  replace bx_fw_0 := (b.cell (p := ⟨w5_.heap.size, 0, none⟩) hb_fw).trans bx_fw_0
  replace hb_fw := Nat.lt_of_lt_of_le hb_fw b.size
  replace bx_x_0_0 := (b.cell (p := ⟨w7_.heap.size, 0, none⟩) hb_x_0).trans bx_x_0_0
  replace hb_x_0 := Nat.lt_of_lt_of_le hb_x_0 b.size
  replace T := T.trans (b.mono T.size)
  have x_2 := Fresh.iv (Own_good FB_good) F
  have s9_ := b.size
  clear F b
  go_wp2_with fail
  refine (implXorRow_c _ _ _ _ _ _ _ (rd_db x_0) (rd_bytes x_2) hok hw1.1 hw1.2 (by omega) (by omega)).mono ?_
  rintro e w10_ ⟨AVg, lVg, cVg, rfl, F⟩
  have b := F.below
  replace fw := Iv.below OBB_good fw b
  replace x_0 := Iv.below OBB_good x_0 b
  replace x_2 := Iv.below (Own_good FB_good) x_2 b
  replace bx_p0_0 := (b.cell (p := ⟨w.heap.size, 0, none⟩) hb_p0).trans bx_p0_0
  replace hb_p0 := Nat.lt_of_lt_of_le hb_p0 b.size
  replace bx_fw_0 := (b.cell (p := ⟨w5_.heap.size, 0, none⟩) hb_fw).trans bx_fw_0
  replace hb_fw := Nat.lt_of_lt_of_le hb_fw b.size
  replace bx_x_0_0 := (b.cell (p := ⟨w7_.heap.size, 0, none⟩) hb_x_0).trans bx_x_0_0
  replace hb_x_0 := Nat.lt_of_lt_of_le hb_x_0 b.size
  replace T := T.trans (b.mono T.size)
  have fg := Fresh.iv OBB_good F
  have s10_ := b.size
  clear F b
  have b := below_alloc w10_ (.cells #[.slice AVg lVg cVg] 27)
  replace fw := Iv.below OBB_good fw b
  replace x_0 := Iv.below OBB_good x_0 b
  replace x_2 := Iv.below (Own_good FB_good) x_2 b
  replace fg := Iv.below OBB_good fg b
  replace bx_p0_0 := (b.cell (p := ⟨w.heap.size, 0, none⟩) hb_p0).trans bx_p0_0
  replace hb_p0 := Nat.lt_of_lt_of_le hb_p0 b.size
  replace bx_fw_0 := (b.cell (p := ⟨w5_.heap.size, 0, none⟩) hb_fw).trans bx_fw_0
  replace hb_fw := Nat.lt_of_lt_of_le hb_fw b.size
  replace bx_x_0_0 := (b.cell (p := ⟨w7_.heap.size, 0, none⟩) hb_x_0).trans bx_x_0_0
  replace hb_x_0 := Nat.lt_of_lt_of_le hb_x_0 b.size
  replace T := T.trans (b.mono T.size)
  have bx_fg_0 : (World.alloc w10_ (.cells #[.slice AVg lVg cVg] 27)).cell? ⟨w10_.heap.size, 0, none⟩ = some (.slice AVg lVg cVg) := by rw [World.cell?_alloc_at _ _ _ _ (by simp)]; rfl
  have hb_fg : w10_.heap.size < (World.alloc w10_ (.cells #[.slice AVg lVg cVg] 27)).heap.size := by simp
  have sfg_ : w10_.heap.size < (World.alloc w10_ (.cells #[.slice AVg lVg cVg] 27)).heap.size := by simp
  clear b
  go_wp2_with fail
  generalize (World.alloc w10_ (.cells #[.slice AVg lVg cVg] 27)) = w11_ at *
  refine (eq_db _ _ _ _  (rd_db fg) (rd_db fw)).mono ?_
  rintro e w12_ ⟨rfl, b⟩
  replace fw := Iv.below OBB_good fw b
  replace x_0 := Iv.below OBB_good x_0 b
  replace x_2 := Iv.below (Own_good FB_good) x_2 b
  replace fg := Iv.below OBB_good fg b
  replace bx_p0_0 := (b.cell (p := ⟨w.heap.size, 0, none⟩) hb_p0).trans bx_p0_0
  replace hb_p0 := Nat.lt_of_lt_of_le hb_p0 b.size
  replace bx_fw_0 := (b.cell (p := ⟨w5_.heap.size, 0, none⟩) hb_fw).trans bx_fw_0
  replace hb_fw := Nat.lt_of_lt_of_le hb_fw b.size
  replace bx_x_0_0 := (b.cell (p := ⟨w7_.heap.size, 0, none⟩) hb_x_0).trans bx_x_0_0
  replace hb_x_0 := Nat.lt_of_lt_of_le hb_x_0 b.size
  replace bx_fg_0 := (b.cell (p := ⟨w10_.heap.size, 0, none⟩) hb_fg).trans bx_fg_0
  replace hb_fg := Nat.lt_of_lt_of_le hb_fg b.size
  replace T := T.trans (b.mono T.size)
  have s12_ := b.size
  clear b
  go_wp2_with fail
  replace fw := Iv.drew OBB_good fw
  replace x_0 := Iv.drew OBB_good x_0
  replace x_2 := Iv.drew (Own_good FB_good) x_2
  replace fg := Iv.drew OBB_good fg
  replace bx_p0_0 : (World.drew w12_).cell? ⟨w.heap.size, 0, none⟩ = some (.slice A0 l0 c0) := bx_p0_0
  replace hb_p0 : w.heap.size < (World.drew w12_).heap.size := hb_p0
  replace bx_fw_0 : (World.drew w12_).cell? ⟨w5_.heap.size, 0, none⟩ = some (.slice AVw lVw cVw) := bx_fw_0
  replace hb_fw : w5_.heap.size < (World.drew w12_).heap.size := hb_fw
  replace bx_x_0_0 : (World.drew w12_).cell? ⟨w7_.heap.size, 0, none⟩ = some (.slice AVx_0 lVx_0 cVx_0) := bx_x_0_0
  replace hb_x_0 : w7_.heap.size < (World.drew w12_).heap.size := hb_x_0
  replace bx_fg_0 : (World.drew w12_).cell? ⟨w10_.heap.size, 0, none⟩ = some (.slice AVg lVg cVg) := bx_fg_0
  replace hb_fg : w10_.heap.size < (World.drew w12_).heap.size := hb_fg
  replace T := T.drew
  have sd12_ : w12_.heap.size ≤ (World.drew w12_).heap.size := Nat.le_refl _
  go_region_held3 (fun w' => w'.cell? ⟨w7_.heap.size, 0, none⟩ = some (.slice AVx_0 lVx_0 cVx_0) ∧ w'.cell? ⟨w.heap.size, 0, none⟩ = some (.slice A0 l0 c0))
    (first | ((repeat' apply And.intro) <;> assumption) | go_keep)
    (first
      | (go_at_call 17
         refine (to_db _ _ _  ((Rd_reads (Rd_reads RB_reads)) _ _ _ _ y0 T) (by omega)).mono ?_
         rintro e w13_ ⟨AVft, lVft, cVft, rfl, F⟩
         have b := F.below
         replace fw := Iv.below OBB_good fw b
         replace x_0 := Iv.below OBB_good x_0 b
         replace x_2 := Iv.below (Own_good FB_good) x_2 b
         replace fg := Iv.below OBB_good fg b
         replace bx_p0_0 := (b.cell (p := ⟨w.heap.size, 0, none⟩) hb_p0).trans bx_p0_0
         replace hb_p0 := Nat.lt_of_lt_of_le hb_p0 b.size
         replace bx_fw_0 := (b.cell (p := ⟨w5_.heap.size, 0, none⟩) hb_fw).trans bx_fw_0
         replace hb_fw := Nat.lt_of_lt_of_le hb_fw b.size
         replace bx_x_0_0 := (b.cell (p := ⟨w7_.heap.size, 0, none⟩) hb_x_0).trans bx_x_0_0
         replace hb_x_0 := Nat.lt_of_lt_of_le hb_x_0 b.size
         replace bx_fg_0 := (b.cell (p := ⟨w10_.heap.size, 0, none⟩) hb_fg).trans bx_fg_0
         replace hb_fg := Nat.lt_of_lt_of_le hb_fg b.size
         replace T := T.trans (b.mono T.size)
         have ft := Fresh.iv OBB_good F
         have s13_ := b.size
         clear F b)
      | (go_at_call 19
         refine (eq_db _ _ _ _  (rd_db x_0) (rd_db ft)).mono ?_
         rintro e w14_ ⟨rfl, b⟩
         replace fw := Iv.below OBB_good fw b
         replace x_0 := Iv.below OBB_good x_0 b
         replace x_2 := Iv.below (Own_good FB_good) x_2 b
         replace fg := Iv.below OBB_good fg b
         replace ft := Iv.below OBB_good ft b
         replace bx_p0_0 := (b.cell (p := ⟨w.heap.size, 0, none⟩) hb_p0).trans bx_p0_0
         replace hb_p0 := Nat.lt_of_lt_of_le hb_p0 b.size
         replace bx_fw_0 := (b.cell (p := ⟨w5_.heap.size, 0, none⟩) hb_fw).trans bx_fw_0
         replace hb_fw := Nat.lt_of_lt_of_le hb_fw b.size
         replace bx_x_0_0 := (b.cell (p := ⟨w7_.heap.size, 0, none⟩) hb_x_0).trans bx_x_0_0
         replace hb_x_0 := Nat.lt_of_lt_of_le hb_x_0 b.size
         replace bx_fg_0 := (b.cell (p := ⟨w10_.heap.size, 0, none⟩) hb_fg).trans bx_fg_0
         replace hb_fg := Nat.lt_of_lt_of_le hb_fg b.size
         replace T := T.trans (b.mono T.size)
         have s14_ := b.size
         clear b))
  clear ft
  go_wp2_with fail
  refine (to_bytes _ _ _  ((Rd_reads RB_reads) _ _ _ _ y2 T) (by omega)).mono ?_
  rintro e w15_ ⟨Vft, rfl, F⟩
  have b := F.below
  replace fw := Iv.below OBB_good fw b
  replace x_0 := Iv.below OBB_good x_0 b
  replace x_2 := Iv.below (Own_good FB_good) x_2 b
  replace fg := Iv.below OBB_good fg b
  replace bx_p0_0 := (b.cell (p := ⟨w.heap.size, 0, none⟩) hb_p0).trans bx_p0_0
  replace hb_p0 := Nat.lt_of_lt_of_le hb_p0 b.size
  replace bx_fw_0 := (b.cell (p := ⟨w5_.heap.size, 0, none⟩) hb_fw).trans bx_fw_0
  replace hb_fw := Nat.lt_of_lt_of_le hb_fw b.size
  replace bx_x_0_0 := (b.cell (p := ⟨w7_.heap.size, 0, none⟩) hb_x_0).trans bx_x_0_0
  replace hb_x_0 := Nat.lt_of_lt_of_le hb_x_0 b.size
  replace bx_fg_0 := (b.cell (p := ⟨w10_.heap.size, 0, none⟩) hb_fg).trans bx_fg_0
  replace hb_fg := Nat.lt_of_lt_of_le hb_fg b.size
  replace T := T.trans (b.mono T.size)
  have ft := Fresh.iv (Own_good FB_good) F
  have s15_ := b.size
  clear F b
  go_wp2_with fail
  refine (eq_bytes _ _ _ _  (rd_bytes x_2) (rd_bytes ft)).mono ?_
  rintro e w16_ ⟨rfl, b⟩
  replace fw := Iv.below OBB_good fw b
  replace x_0 := Iv.below OBB_good x_0 b
  replace x_2 := Iv.below (Own_good FB_good) x_2 b
  replace fg := Iv.below OBB_good fg b
  replace ft := Iv.below (Own_good FB_good) ft b
  replace bx_p0_0 := (b.cell (p := ⟨w.heap.size, 0, none⟩) hb_p0).trans bx_p0_0
  replace hb_p0 := Nat.lt_of_lt_of_le hb_p0 b.size
  replace bx_fw_0 := (b.cell (p := ⟨w5_.heap.size, 0, none⟩) hb_fw).trans bx_fw_0
  replace hb_fw := Nat.lt_of_lt_of_le hb_fw b.size
  replace bx_x_0_0 := (b.cell (p := ⟨w7_.heap.size, 0, none⟩) hb_x_0).trans bx_x_0_0
  replace hb_x_0 := Nat.lt_of_lt_of_le hb_x_0 b.size
  replace bx_fg_0 := (b.cell (p := ⟨w10_.heap.size, 0, none⟩) hb_fg).trans bx_fg_0
  replace hb_fg := Nat.lt_of_lt_of_le hb_fg b.size
  replace T := T.trans (b.mono T.size)
  have s16_ := b.size
  clear b
  clear ft
  go_wp2_with fail
  refine (mark_db _ _ _ _ _ _ x_0 (by omega) (by omega)).mono ?_
  rintro e w17_ ⟨rfl, f_, c⟩
  have s17_ := c.size
  replace fw := Iv.chg OBB_good fw c (by omega)
  replace x_2 := Iv.chg (Own_good FB_good) x_2 c (by omega)
  replace fg := Iv.chg OBB_good fg c (by omega)
  replace bx_p0_0 := (World.cell?_of_block (a := ⟨w.heap.size, 0, none⟩) (c.block (w.heap.size) hb_p0 (by omega))).trans bx_p0_0
  replace hb_p0 := Nat.lt_of_lt_of_le hb_p0 c.size
  replace bx_fw_0 := (World.cell?_of_block (a := ⟨w5_.heap.size, 0, none⟩) (c.block (w5_.heap.size) hb_fw (by omega))).trans bx_fw_0
  replace hb_fw := Nat.lt_of_lt_of_le hb_fw c.size
  replace bx_x_0_0 := (World.cell?_of_block (a := ⟨w7_.heap.size, 0, none⟩) (c.block (w7_.heap.size) hb_x_0 (by omega))).trans bx_x_0_0
  replace hb_x_0 := Nat.lt_of_lt_of_le hb_x_0 c.size
  replace bx_fg_0 := (World.cell?_of_block (a := ⟨w10_.heap.size, 0, none⟩) (c.block (w10_.heap.size) hb_fg (by omega))).trans bx_fg_0
  replace hb_fg := Nat.lt_of_lt_of_le hb_fg c.size
  replace T := T.trans (c.below (by omega) T.size)
  clear x_0 c
  have x_0 := f_
  clear f_
  go_wp2_with fail
  refine (mark_bytes _ _ _ _ _ _ x_2 (by omega) (by omega)).mono ?_
  rintro e w18_ ⟨rfl, f_, c⟩
  have s18_ := c.size
  replace fw := Iv.chg OBB_good fw c (by omega)
  replace x_0 := Iv.chg OBB_good x_0 c (by omega)
  replace fg := Iv.chg OBB_good fg c (by omega)
  replace bx_p0_0 := (World.cell?_of_block (a := ⟨w.heap.size, 0, none⟩) (c.block (w.heap.size) hb_p0 (by omega))).trans bx_p0_0
  replace hb_p0 := Nat.lt_of_lt_of_le hb_p0 c.size
  replace bx_fw_0 := (World.cell?_of_block (a := ⟨w5_.heap.size, 0, none⟩) (c.block (w5_.heap.size) hb_fw (by omega))).trans bx_fw_0
  replace hb_fw := Nat.lt_of_lt_of_le hb_fw c.size
  replace bx_x_0_0 := (World.cell?_of_block (a := ⟨w7_.heap.size, 0, none⟩) (c.block (w7_.heap.size) hb_x_0 (by omega))).trans bx_x_0_0
  replace hb_x_0 := Nat.lt_of_lt_of_le hb_x_0 c.size
  replace bx_fg_0 := (World.cell?_of_block (a := ⟨w10_.heap.size, 0, none⟩) (c.block (w10_.heap.size) hb_fg (by omega))).trans bx_fg_0
  replace hb_fg := Nat.lt_of_lt_of_le hb_fg c.size
  replace T := T.trans (c.below (by omega) T.size)
  clear x_2 c
  have x_2 := f_
  clear f_
  go_wp2_with fail
  refine (eq_db _ _ _ _  (rd_db fg) (rd_db fw)).mono ?_
  rintro e w19_ ⟨rfl, b⟩
  replace fw := Iv.below OBB_good fw b
  replace x_0 := Iv.below OBB_good x_0 b
  replace x_2 := Iv.below (Own_good FB_good) x_2 b
  replace fg := Iv.below OBB_good fg b
  replace bx_p0_0 := (b.cell (p := ⟨w.heap.size, 0, none⟩) hb_p0).trans bx_p0_0
  replace hb_p0 := Nat.lt_of_lt_of_le hb_p0 b.size
  replace bx_fw_0 := (b.cell (p := ⟨w5_.heap.size, 0, none⟩) hb_fw).trans bx_fw_0
  replace hb_fw := Nat.lt_of_lt_of_le hb_fw b.size
  replace bx_x_0_0 := (b.cell (p := ⟨w7_.heap.size, 0, none⟩) hb_x_0).trans bx_x_0_0
  replace hb_x_0 := Nat.lt_of_lt_of_le hb_x_0 b.size
  replace bx_fg_0 := (b.cell (p := ⟨w10_.heap.size, 0, none⟩) hb_fg).trans bx_fg_0
  replace hb_fg := Nat.lt_of_lt_of_le hb_fg b.size
  replace T := T.trans (b.mono T.size)
  have s19_ := b.size
  clear b
  clear x_0
  clear x_2
  go_wp2_with fail
  refine (mark_db _ _ _ _ _ _ fg (by omega) (by omega)).mono ?_
  rintro e w20_ ⟨rfl, f_, c⟩
  have s20_ := c.size
  replace fw := Iv.chg OBB_good fw c (by omega)
  replace bx_p0_0 := (World.cell?_of_block (a := ⟨w.heap.size, 0, none⟩) (c.block (w.heap.size) hb_p0 (by omega))).trans bx_p0_0
  replace hb_p0 := Nat.lt_of_lt_of_le hb_p0 c.size
  replace bx_fw_0 := (World.cell?_of_block (a := ⟨w5_.heap.size, 0, none⟩) (c.block (w5_.heap.size) hb_fw (by omega))).trans bx_fw_0
  replace hb_fw := Nat.lt_of_lt_of_le hb_fw c.size
  replace bx_x_0_0 := (World.cell?_of_block (a := ⟨w7_.heap.size, 0, none⟩) (c.block (w7_.heap.size) hb_x_0 (by omega))).trans bx_x_0_0
  replace hb_x_0 := Nat.lt_of_lt_of_le hb_x_0 c.size
  replace bx_fg_0 := (World.cell?_of_block (a := ⟨w10_.heap.size, 0, none⟩) (c.block (w10_.heap.size) hb_fg (by omega))).trans bx_fg_0
  replace hb_fg := Nat.lt_of_lt_of_le hb_fg c.size
  replace T := T.trans (c.below (by omega) T.size)
  clear fg c
  have fg := f_
  clear f_
  go_wp2_with fail
  refine (held_db _ _ _ _  (rd_db fg) (by omega) (by omega)).mono ?_
  rintro e w21_ ⟨rfl, b⟩
  replace fw := Iv.below OBB_good fw b
  replace fg := Iv.below OBB_good fg b
  replace bx_p0_0 := (b.cell (p := ⟨w.heap.size, 0, none⟩) hb_p0).trans bx_p0_0
  replace hb_p0 := Nat.lt_of_lt_of_le hb_p0 b.size
  replace bx_fw_0 := (b.cell (p := ⟨w5_.heap.size, 0, none⟩) hb_fw).trans bx_fw_0
  replace hb_fw := Nat.lt_of_lt_of_le hb_fw b.size
  replace bx_x_0_0 := (b.cell (p := ⟨w7_.heap.size, 0, none⟩) hb_x_0).trans bx_x_0_0
  replace hb_x_0 := Nat.lt_of_lt_of_le hb_x_0 b.size
  replace bx_fg_0 := (b.cell (p := ⟨w10_.heap.size, 0, none⟩) hb_fg).trans bx_fg_0
  replace hb_fg := Nat.lt_of_lt_of_le hb_fg b.size
  replace T := T.trans (b.mono T.size)
  have s21_ := b.size
  clear b
  go_wp2_with fail
  refine (to_db _ _ _  ((Rd_reads (Rd_reads RB_reads)) _ _ _ _ y0 T) (by omega)).mono ?_
  rintro e w22_ ⟨AVz_0, lVz_0, cVz_0, rfl, F⟩
  have b := F.below
  replace fw := Iv.below OBB_good fw b
  replace fg := Iv.below OBB_good fg b
  replace bx_p0_0 := (b.cell (p := ⟨w.heap.size, 0, none⟩) hb_p0).trans bx_p0_0
  replace hb_p0 := Nat.lt_of_lt_of_le hb_p0 b.size
  replace bx_fw_0 := (b.cell (p := ⟨w5_.heap.size, 0, none⟩) hb_fw).trans bx_fw_0
  replace hb_fw := Nat.lt_of_lt_of_le hb_fw b.size
  replace bx_x_0_0 := (b.cell (p := ⟨w7_.heap.size, 0, none⟩) hb_x_0).trans bx_x_0_0
  replace hb_x_0 := Nat.lt_of_lt_of_le hb_x_0 b.size
  replace bx_fg_0 := (b.cell (p := ⟨w10_.heap.size, 0, none⟩) hb_fg).trans bx_fg_0
  replace hb_fg := Nat.lt_of_lt_of_le hb_fg b.size
  replace T := T.trans (b.mono T.size)
  have z_0 := Fresh.iv OBB_good F
  have s22_ := b.size
  clear F b
  go_wp2_with fail
  refine (to_bytes _ _ _  ((Rd_reads RB_reads) _ _ _ _ y2 T) (by omega)).mono ?_
  rintro e w23_ ⟨Vz_2, rfl, F⟩
  have b := F.below
  replace fw := Iv.below OBB_good fw b
  replace fg := Iv.below OBB_good fg b
  replace z_0 := Iv.below OBB_good z_0 b
  replace bx_p0_0 := (b.cell (p := ⟨w.heap.size, 0, none⟩) hb_p0).trans bx_p0_0
  replace hb_p0 := Nat.lt_of_lt_of_le hb_p0 b.size
  replace bx_fw_0 := (b.cell (p := ⟨w5_.heap.size, 0, none⟩) hb_fw).trans bx_fw_0
  replace hb_fw := Nat.lt_of_lt_of_le hb_fw b.size
  replace bx_x_0_0 := (b.cell (p := ⟨w7_.heap.size, 0, none⟩) hb_x_0).trans bx_x_0_0
  replace hb_x_0 := Nat.lt_of_lt_of_le hb_x_0 b.size
  replace bx_fg_0 := (b.cell (p := ⟨w10_.heap.size, 0, none⟩) hb_fg).trans bx_fg_0
  replace hb_fg := Nat.lt_of_lt_of_le hb_fg b.size
  replace T := T.trans (b.mono T.size)
  have z_2 := Fresh.iv (Own_good FB_good) F
  have s23_ := b.size
  clear F b
  go_wp2_with fail
  refine (implXorRow_c _ _ _ _ _ _ _ (rd_db z_0) (rd_bytes z_2) hok hw1.1 hw1.2 (by omega) (by omega)).mono ?_
  rintro e w24_ ⟨AVh, lVh, cVh, rfl, F⟩
  have b := F.below
  replace fw := Iv.below OBB_good fw b
  replace fg := Iv.below OBB_good fg b
  replace z_0 := Iv.below OBB_good z_0 b
  replace z_2 := Iv.below (Own_good FB_good) z_2 b
  replace bx_p0_0 := (b.cell (p := ⟨w.heap.size, 0, none⟩) hb_p0).trans bx_p0_0
  replace hb_p0 := Nat.lt_of_lt_of_le hb_p0 b.size
  replace bx_fw_0 := (b.cell (p := ⟨w5_.heap.size, 0, none⟩) hb_fw).trans bx_fw_0
  replace hb_fw := Nat.lt_of_lt_of_le hb_fw b.size
  replace bx_x_0_0 := (b.cell (p := ⟨w7_.heap.size, 0, none⟩) hb_x_0).trans bx_x_0_0
  replace hb_x_0 := Nat.lt_of_lt_of_le hb_x_0 b.size
  replace bx_fg_0 := (b.cell (p := ⟨w10_.heap.size, 0, none⟩) hb_fg).trans bx_fg_0
  replace hb_fg := Nat.lt_of_lt_of_le hb_fg b.size
  replace T := T.trans (b.mono T.size)
  have fh := Fresh.iv OBB_good F
  have s24_ := b.size
  clear F b
  have b := below_alloc w24_ (.cells #[.slice AVh lVh cVh] 27)
  replace fw := Iv.below OBB_good fw b
  replace fg := Iv.below OBB_good fg b
  replace z_0 := Iv.below OBB_good z_0 b
  replace z_2 := Iv.below (Own_good FB_good) z_2 b
  replace fh := Iv.below OBB_good fh b
  replace bx_p0_0 := (b.cell (p := ⟨w.heap.size, 0, none⟩) hb_p0).trans bx_p0_0
  replace hb_p0 := Nat.lt_of_lt_of_le hb_p0 b.size
  replace bx_fw_0 := (b.cell (p := ⟨w5_.heap.size, 0, none⟩) hb_fw).trans bx_fw_0
  replace hb_fw := Nat.lt_of_lt_of_le hb_fw b.size
  replace bx_x_0_0 := (b.cell (p := ⟨w7_.heap.size, 0, none⟩) hb_x_0).trans bx_x_0_0
  replace hb_x_0 := Nat.lt_of_lt_of_le hb_x_0 b.size
  replace bx_fg_0 := (b.cell (p := ⟨w10_.heap.size, 0, none⟩) hb_fg).trans bx_fg_0
  replace hb_fg := Nat.lt_of_lt_of_le hb_fg b.size
  replace T := T.trans (b.mono T.size)
  have bx_fh_0 : (World.alloc w24_ (.cells #[.slice AVh lVh cVh] 27)).cell? ⟨w24_.heap.size, 0, none⟩ = some (.slice AVh lVh cVh) := by rw [World.cell?_alloc_at _ _ _ _ (by simp)]; rfl
  have hb_fh : w24_.heap.size < (World.alloc w24_ (.cells #[.slice AVh lVh cVh] 27)).heap.size := by simp
  have sfh_ : w24_.heap.size < (World.alloc w24_ (.cells #[.slice AVh lVh cVh] 27)).heap.size := by simp
  clear b
  go_wp2_with fail
  generalize (World.alloc w24_ (.cells #[.slice AVh lVh cVh] 27)) = w25_ at *
  refine (eq_db _ _ _ _  (rd_db fh) (rd_db fw)).mono ?_
  rintro e w26_ ⟨rfl, b⟩
  replace fw := Iv.below OBB_good fw b
  replace fg := Iv.below OBB_good fg b
  replace z_0 := Iv.below OBB_good z_0 b
  replace z_2 := Iv.below (Own_good FB_good) z_2 b
  replace fh := Iv.below OBB_good fh b
  replace bx_p0_0 := (b.cell (p := ⟨w.heap.size, 0, none⟩) hb_p0).trans bx_p0_0
  replace hb_p0 := Nat.lt_of_lt_of_le hb_p0 b.size
  replace bx_fw_0 := (b.cell (p := ⟨w5_.heap.size, 0, none⟩) hb_fw).trans bx_fw_0
  replace hb_fw := Nat.lt_of_lt_of_le hb_fw b.size
  replace bx_x_0_0 := (b.cell (p := ⟨w7_.heap.size, 0, none⟩) hb_x_0).trans bx_x_0_0
  replace hb_x_0 := Nat.lt_of_lt_of_le hb_x_0 b.size
  replace bx_fg_0 := (b.cell (p := ⟨w10_.heap.size, 0, none⟩) hb_fg).trans bx_fg_0
  replace hb_fg := Nat.lt_of_lt_of_le hb_fg b.size
  replace bx_fh_0 := (b.cell (p := ⟨w24_.heap.size, 0, none⟩) hb_fh).trans bx_fh_0
  replace hb_fh := Nat.lt_of_lt_of_le hb_fh b.size
  replace T := T.trans (b.mono T.size)
  have s26_ := b.size
  clear b
  clear z_0
  clear z_2
  go_wp2_with fail
  refine (held_db _ _ _ _  (rd_db fg) (by omega) (by omega)).mono ?_
  rintro e w27_ ⟨rfl, b⟩
  replace fw := Iv.below OBB_good fw b
  replace fg := Iv.below OBB_good fg b
  replace fh := Iv.below OBB_good fh b
  replace bx_p0_0 := (b.cell (p := ⟨w.heap.size, 0, none⟩) hb_p0).trans bx_p0_0
  replace hb_p0 := Nat.lt_of_lt_of_le hb_p0 b.size
  replace bx_fw_0 := (b.cell (p := ⟨w5_.heap.size, 0, none⟩) hb_fw).trans bx_fw_0
  replace hb_fw := Nat.lt_of_lt_of_le hb_fw b.size
  replace bx_x_0_0 := (b.cell (p := ⟨w7_.heap.size, 0, none⟩) hb_x_0).trans bx_x_0_0
  replace hb_x_0 := Nat.lt_of_lt_of_le hb_x_0 b.size
  replace bx_fg_0 := (b.cell (p := ⟨w10_.heap.size, 0, none⟩) hb_fg).trans bx_fg_0
  replace hb_fg := Nat.lt_of_lt_of_le hb_fg b.size
  replace bx_fh_0 := (b.cell (p := ⟨w24_.heap.size, 0, none⟩) hb_fh).trans bx_fh_0
  replace hb_fh := Nat.lt_of_lt_of_le hb_fh b.size
  replace T := T.trans (b.mono T.size)
  have s27_ := b.size
  clear b
  go_wp2
  go_ret
  exact ⟨rfl, T⟩

set_option maxRecDepth 100000 in
theorem lifted (os : Os) (started : os.Started) (H : Type) (enc : TypeId × Value → H) :
    ReturnsInHanded {} Try.checked os 11 .any (Rows.fnExactXorRowSpec.pre6 enc Try.prog Try.f11 Rows.fnExactXorRowRow.domain false) (Rows.fnExactXorRowSpec.post enc Try.prog Try.f11 false true false false) := by
  refine returnsInHanded_of_change (C := Try.checked) own_ started (by kernel_rfl) Try.func11
    (ChangeSpec.witness6 (enc := enc) (C := Try.checked) false ⟨#[], #[.agg #[.slice none 0 0], .int .i64 0, .slice none 0 0], []⟩ 8 (by kernel_rfl) (by kernel_rfl) (by kernel_rfl) (by kernel_rfl)) ?_
  intro W base args ds gs before hval0 hW hcnd _
  have hval : ∀ (j : Nat) t v, Try.f11.params[j]? = some t → args[j]? = some v → Value.okWide Try.prog W .any base t v := hval0
  have hW' := hW
  obtain ⟨p, q, hA0, hV, rfl, hfz, hnd⟩ := hW
  have hA : DataW.TrodAll enc Try.prog W 0 (fun _ => true) true Try.f11.params.toList args.toList ds p := hA0
  rw [Try.params11] at hA hval
  obtain ⟨v0, vs0, d0, ds0, p0, q0, hargs, rfl, rfl, h0, r0⟩ := trodAll_cons hA
  obtain ⟨v1, vs1, d1, ds1, p1, q1, rfl, rfl, rfl, h1, r1⟩ := trodAll_cons r0
  obtain ⟨v2, vs2, d2, ds2, p2, q2, rfl, rfl, rfl, h2, r2⟩ := trodAll_cons r1
  obtain ⟨rfl, rfl, rfl⟩ := trodAll_nil r2
  obtain rfl : args = #[v0, v1, v2] := by cases args; simp_all
  obtain ⟨rfl, rfl⟩ := trodVars_none hV
  have k0 := h0
  have lt0 : ∀ x ∈ p0, x.block < W.heap.size := by obtain ⟨m, hm⟩ := k0; exact DataW.trod_lt m _ _ _ hm
  obtain ⟨u0, x0, rfl, y0⟩ := open_val1 Try.underlying24 (by kernel_rfl) (opens_struct1 Try.underlying24 (by kernel_rfl) (opens_slice Try.underlying22 (by kernel_rfl) (opens_slice Try.underlying39 (by kernel_rfl) (opens_u8 Try.underlying5)))) (hval 0 24 v0 rfl rfl) h0
  obtain ⟨a1, rfl, rfl, rfl, w1⟩ := open_int Try.underlying3 (hval 1 3 v1 rfl rfl) h1
  have k2 := h2
  have lt2 : ∀ x ∈ p2, x.block < W.heap.size := by obtain ⟨m, hm⟩ := k2; exact DataW.trod_lt m _ _ _ hm
  obtain ⟨x2, y2⟩ := open_val Try.underlying39 (opens_slice Try.underlying39 (by kernel_rfl) (opens_u8 Try.underlying5)) (hval 2 39 v2 rfl rfl) h2
  clear hA0 hval0
  refine (walk W u0 x0 y0 a1 w1 v2 x2 y2).mono fun e W' ⟨he, bel⟩ => ?_
  subst he
  exact ⟨_, rfl, _, _, _, [], _, [], hW', trodAll_mk1 (shut_bool Try.underlying4 _), (trodAll_cons_mk (Below.trod laid_ (by kernel_rfl) (of_decide_eq_true (by kernel_rfl)) k0 bel lt0) (trodAll_cons_mk (shut_int Try.underlying3 w1) (trodAll_cons_mk (Below.trod laid_ (by kernel_rfl) (of_decide_eq_true (by kernel_rfl)) k2 bel lt2) trodAll_mk0))), rfl, bel.frame _, fun h => by cases h⟩

theorem over : Rows.fnExactXorRowRow.holds Try.pinned (OpenSpec.ofChange Rows.fnExactXorRowSpec) :=
  OpenClaim.holds_of_wide 11 Try.f11 rfl rfl rfl rfl rfl rfl rfl ⟨rfl, rfl, rfl, rfl, rfl⟩ rfl rfl rfl rfl rfl (by kernel_rfl) Try.func11 (by kernel_rfl)
    (of_decide_eq_true (by kernel_rfl)) (by unfold Func.isWrapper; first | (rw [if_pos (by decide +kernel)]; kernel_rfl) | (rw [if_neg (by decide +kernel)]; exact ⟨rfl, rfl⟩))
    (fun os started H enc _ => lifted os started H enc)

theorem proved : Rows.FnExactXorRowSaid := over
end Go.Proofs.Ytdnifmcipbnncaa.fnExactXorRow
