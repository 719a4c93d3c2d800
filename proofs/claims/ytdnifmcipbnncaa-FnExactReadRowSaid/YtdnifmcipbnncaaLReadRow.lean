/- FnExactReadRow, for every argument, no condition: the program's ReadRow returns what the reference's returns, in memory of its own, and leaves its argument as it was. -/
import Derived.Test.YtdnifmcipbnncaaRead
namespace Go.Proofs.Ytdnifmcipbnncaa.fnExactReadRow
set_option linter.unusedVariables false
open Go.RowKit Go.ChangeShapes Go.WideShapes Go.ChangeAt

theorem rowOf_len (xs : List (List UInt8)) (i : Int) : (rowOf xs i).length ≤ tot xs := by
  unfold rowOf
  split
  · rename_i h
    have hk : i.toNat < xs.length := by omega
    have := get_le_sumL xs i.toNat _ (List.getElem?_eq_getElem hk)
    have h2 := sumL_le xs
    simp [List.getD, List.getElem?_eq_getElem hk]
    omega
  · simp

set_option maxHeartbeats 4000000 in
set_option maxRecDepth 100000 in
theorem walk (w : World) (v0 : Value) (x0 : List (List UInt8)) (y0 : (Rd (Rd RB)) w v0 x0) (a1 : Int) (w1 : (Lit.int .i64 a1).wf = true) :
    Calls Try.prog 8 #[.agg #[v0], .int .i64 a1] w fun e w' => e = .returned (.bool true) ∧ Below w.heap.size w w' := by
  obtain ⟨A0, l0, c0, rfl, g0⟩ := y0
  replace y0 : (Rd (Rd RB)) w (.slice A0 l0 c0) x0 := ⟨_, _, _, rfl, g0⟩
  clear g0
  by_cases hl0 : ((tot x0 : Nat) : Int) ≤ (1048576 : Int)
  rotate_left
  · go_enter Try.func8, Try.ntmps8
    have T := Below.refl w.heap.size w
    have b := below_alloc w (.cells #[.slice A0 l0 c0] 24)
    replace T := T.trans (b.mono T.size)
    have bx_p0_0 : (World.alloc w (.cells #[.slice A0 l0 c0] 24)).cell? ⟨w.heap.size, 0, none⟩ = some (.slice A0 l0 c0) := by rw [World.cell?_alloc_at _ _ _ _ (by simp)]; rfl
    have hb_p0 : w.heap.size < (World.alloc w (.cells #[.slice A0 l0 c0] 24)).heap.size := by simp
    have sp0_ : w.heap.size < (World.alloc w (.cells #[.slice A0 l0 c0] 24)).heap.size := by simp
    clear b
    go_wp2_with fail
    generalize (World.alloc w (.cells #[.slice A0 l0 c0] 24)) = w1_ at *
    refine (sz_db _ _ _ _ ((Rd_reads (Rd_reads RB_reads)) _ _ _ _ y0 T) (by omega) (by omega)).mono ?_
    rintro e w2_ ⟨rfl, b⟩
    rw [if_pos (by omega)]
    replace bx_p0_0 := (b.cell (p := ⟨w.heap.size, 0, none⟩) hb_p0).trans bx_p0_0
    replace hb_p0 := Nat.lt_of_lt_of_le hb_p0 b.size
    replace T := T.trans (b.mono T.size)
    clear b
    go_wp2
    go_ret
    exact ⟨rfl, T⟩
  have hw1 := wf_i64 w1
  have hrl := rowOf_len x0 a1
  have hsl := sumL_le x0
  obtain ⟨ok, hok⟩ : ∃ b : Bool, Hid (rowIn x0 a1 = b) := ⟨_, Lib.hid rfl⟩
  go_enter Try.func8, Try.ntmps8
  have T := Below.refl w.heap.size w
  have b := below_alloc w (.cells #[.slice A0 l0 c0] 24)
  replace T := T.trans (b.mono T.size)
  have bx_p0_0 : (World.alloc w (.cells #[.slice A0 l0 c0] 24)).cell? ⟨w.heap.size, 0, none⟩ = some (.slice A0 l0 c0) := by rw [World.cell?_alloc_at _ _ _ _ (by simp)]; rfl
  have hb_p0 : w.heap.size < (World.alloc w (.cells #[.slice A0 l0 c0] 24)).heap.size := by simp
  have sp0_ : w.heap.size < (World.alloc w (.cells #[.slice A0 l0 c0] 24)).heap.size := by simp
  clear b
  go_wp2_with fail
  generalize (World.alloc w (.cells #[.slice A0 l0 c0] 24)) = w1_ at *
  refine (sz_db _ _ _ _ ((Rd_reads (Rd_reads RB_reads)) _ _ _ _ y0 T) (by omega) (by omega)).mono ?_
  rintro e w2_ ⟨rfl, b⟩
  rw [if_neg (by omega)]
  replace bx_p0_0 := (b.cell (p := ⟨w.heap.size, 0, none⟩) hb_p0).trans bx_p0_0
  replace hb_p0 := Nat.lt_of_lt_of_le hb_p0 b.size
  replace T := T.trans (b.mono T.size)
  have s2_ := b.size
  clear b
  go_wp2_with fail
  refine (to_db _ _ _  ((Rd_reads (Rd_reads RB_reads)) _ _ _ _ y0 T) (by omega)).mono ?_
  rintro e w3_ ⟨AVs0, lVs0, cVs0, rfl, F⟩
  have b := F.below
  replace bx_p0_0 := (b.cell (p := ⟨w.heap.size, 0, none⟩) hb_p0).trans bx_p0_0
  replace hb_p0 := Nat.lt_of_lt_of_le hb_p0 b.size
  replace T := T.trans (b.mono T.size)
  have s0 := Fresh.iv OBB_good F
  have s3_ := b.size
  clear F b
  go_wp2_with fail
  refine (specReadRow_c _ _ _ _ _ (rd_db s0) hok hw1.1 hw1.2 (by omega)).mono ?_
  rintro e w4_ ⟨Vw, rfl, F⟩
  have b := F.below
  replace s0 := Iv.below OBB_good s0 b
  replace bx_p0_0 := (b.cell (p := ⟨w.heap.size, 0, none⟩) hb_p0).trans bx_p0_0
  replace hb_p0 := Nat.lt_of_lt_of_le hb_p0 b.size
  replace T := T.trans (b.mono T.size)
  have fw := Fresh.iv (Own_good FB_good) F
  have s4_ := b.size
  clear F b
  clear s0
  go_wp2_with fail
  refine (to_db _ _ _  ((Rd_reads (Rd_reads RB_reads)) _ _ _ _ y0 T) (by omega)).mono ?_
  rintro e w5_ ⟨AVx_0, lVx_0, cVx_0, rfl, F⟩
  have b := F.below
  replace fw := Iv.below (Own_good FB_good) fw b
  replace bx_p0_0 := (b.cell (p := ⟨w.heap.size, 0, none⟩) hb_p0).trans bx_p0_0
  replace hb_p0 := Nat.lt_of_lt_of_le hb_p0 b.size
  replace T := T.trans (b.mono T.size)
  have x_0 := Fresh.iv OBB_good F
  have s5_ := b.size
  clear F b
  have b := below_alloc w5_ (.cells #[.slice AVx_0 lVx_0 cVx_0] 27)
  replace fw := Iv.below (Own_good FB_good) fw b
  replace x_0 := Iv.below OBB_good x_0 b
  replace bx_p0_0 := (b.cell (p := ⟨w.heap.size, 0, none⟩) hb_p0).trans bx_p0_0
  replace hb_p0 := Nat.lt_of_lt_of_le hb_p0 b.size
  replace T := T.trans (b.mono T.size)
  have bx_x_0_0 : (World.alloc w5_ (.cells #[.slice AVx_0 lVx_0 cVx_0] 27)).cell? ⟨w5_.heap.size, 0, none⟩ = some (.slice AVx_0 lVx_0 cVx_0) := by rw [World.cell?_alloc_at _ _ _ _ (by simp)]; rfl
  have hb_x_0 : w5_.heap.size < (World.alloc w5_ (.cells #[.slice AVx_0 lVx_0 cVx_0] 27)).heap.size := by simp
  have sx_0_ : w5_.heap.size < (World.alloc w5_ (.cells #[.slice AVx_0 lVx_0 cVx_0] 27)).heap.size := by simp
  clear b
  go_wp2_with fail
  generalize (World.alloc w5_ (.cells #[.slice AVx_0 lVx_0 cVx_0] 27)) = w6_ at *
  refine (implReadRow_c _ _ _ _ _ (rd_db x_0) hok hw1.1 hw1.2 (by omega)).mono ?_
  rintro e w7_ ⟨Vg, rfl, F⟩
  have b := F.below
  replace fw := Iv.below (Own_good FB_good) fw b
  replace x_0 := Iv.below OBB_good x_0 b
  replace bx_p0_0 := (b.cell (p := ⟨w.heap.size, 0, none⟩) hb_p0).trans bx_p0_0
  replace hb_p0 := Nat.lt_of_lt_of_le hb_p0 b.size
  replace bx_x_0_0 := (b.cell (p := ⟨w5_.heap.size, 0, none⟩) hb_x_0).trans bx_x_0_0
  replace hb_x_0 := Nat.lt_of_lt_of_le hb_x_0 b.size
  replace T := T.trans (b.mono T.size)
  have fg := Fresh.iv (Own_good FB_good) F
  have s7_ := b.size
  clear F b
  go_wp2_with fail
  refine (eq_bytes _ _ _ _  (rd_bytes fg) (rd_bytes fw)).mono ?_
  rintro e w8_ ⟨rfl, b⟩
  replace fw := Iv.below (Own_good FB_good) fw b
  replace x_0 := Iv.below OBB_good x_0 b
  replace fg := Iv.below (Own_good FB_good) fg b
  replace bx_p0_0 := (b.cell (p := ⟨w.heap.size, 0, none⟩) hb_p0).trans bx_p0_0
  replace hb_p0 := Nat.lt_of_lt_of_le hb_p0 b.size
  replace bx_x_0_0 := (b.cell (p := ⟨w5_.heap.size, 0, none⟩) hb_x_0).trans bx_x_0_0
  replace hb_x_0 := Nat.lt_of_lt_of_le hb_x_0 b.size
  replace T := T.trans (b.mono T.size)
  have s8_ := b.size
  clear b
  go_wp2_with fail
  replace fw := Iv.drew (Own_good FB_good) fw
  replace x_0 := Iv.drew OBB_good x_0
  replace fg := Iv.drew (Own_good FB_good) fg
  replace bx_p0_0 : (World.drew w8_).cell? ⟨w.heap.size, 0, none⟩ = some (.slice A0 l0 c0) := bx_p0_0
  replace hb_p0 : w.heap.size < (World.drew w8_).heap.size := hb_p0
  replace bx_x_0_0 : (World.drew w8_).cell? ⟨w5_.heap.size, 0, none⟩ = some (.slice AVx_0 lVx_0 cVx_0) := bx_x_0_0
  replace hb_x_0 : w5_.heap.size < (World.drew w8_).heap.size := hb_x_0
  replace T := T.drew
  have sd8_ : w8_.heap.size ≤ (World.drew w8_).heap.size := Nat.le_refl _
  go_region_held3 (fun w' => w'.cell? ⟨w5_.heap.size, 0, none⟩ = some (.slice AVx_0 lVx_0 cVx_0) ∧ w'.cell? ⟨w.heap.size, 0, none⟩ = some (.slice A0 l0 c0))
    (first | ((repeat' apply And.intro) <;> assumption) | go_keep)
    (first
      | (go_at_call 17
         refine (to_db _ _ _  ((Rd_reads (Rd_reads RB_reads)) _ _ _ _ y0 T) (by omega)).mono ?_
         rintro e w9_ ⟨AVft, lVft, cVft, rfl, F⟩
         have b := F.below
         replace fw := Iv.below (Own_good FB_good) fw b
         replace x_0 := Iv.below OBB_good x_0 b
         replace fg := Iv.below (Own_good FB_good) fg b
         replace bx_p0_0 := (b.cell (p := ⟨w.heap.size, 0, none⟩) hb_p0).trans bx_p0_0
         replace hb_p0 := Nat.lt_of_lt_of_le hb_p0 b.size
         replace bx_x_0_0 := (b.cell (p := ⟨w5_.heap.size, 0, none⟩) hb_x_0).trans bx_x_0_0
         replace hb_x_0 := Nat.lt_of_lt_of_le hb_x_0 b.size
         replace T := T.trans (b.mono T.size)
         have ft := Fresh.iv OBB_good F
         have s9_ := b.size
         clear F b)
      | (go_at_call 19
         refine (eq_db _ _ _ _  (rd_db x_0) (rd_db ft)).mono ?_
         rintro e w10_ ⟨rfl, b⟩
         replace fw := Iv.below (Own_good FB_good) fw b
         replace x_0 := Iv.below OBB_good x_0 b
         replace fg := Iv.below (Own_good FB_good) fg b
         replace ft := Iv.below OBB_good ft b
         replace bx_p0_0 := (b.cell (p := ⟨w.heap.size, 0, none⟩) hb_p0).trans bx_p0_0
         replace hb_p0 := Nat.lt_of_lt_of_le hb_p0 b.size
         replace bx_x_0_0 := (b.cell (p := ⟨w5_.heap.size, 0, none⟩) hb_x_0).trans bx_x_0_0
         replace hb_x_0 := Nat.lt_of_lt_of_le hb_x_0 b.size
         replace T := T.trans (b.mono T.size)
         have s10_ := b.size
         clear b))
  clear ft
  go_wp2_with fail
  refine (mark_db _ _ _ _ _ _ x_0 (by omega) (by omega)).mono ?_
  rintro e w11_ ⟨rfl, f_, c⟩
  have s11_ := c.size
  replace fw := Iv.chg (Own_good FB_good) fw c (by omega)
  replace fg := Iv.chg (Own_good FB_good) fg c (by omega)
  replace bx_p0_0 := (World.cell?_of_block (a := ⟨w.heap.size, 0, none⟩) (c.block (w.heap.size) hb_p0 (by omega))).trans bx_p0_0
  replace hb_p0 := Nat.lt_of_lt_of_le hb_p0 c.size
  replace bx_x_0_0 := (World.cell?_of_block (a := ⟨w5_.heap.size, 0, none⟩) (c.block (w5_.heap.size) hb_x_0 (by omega))).trans bx_x_0_0
  replace hb_x_0 := Nat.lt_of_lt_of_le hb_x_0 c.size
  replace T := T.trans (c.below (by omega) T.size)
  clear x_0 c
  have x_0 := f_
  clear f_
  go_wp2_with fail
  refine (eq_bytes _ _ _ _  (rd_bytes fg) (rd_bytes fw)).mono ?_
  rintro e w12_ ⟨rfl, b⟩
  replace fw := Iv.below (Own_good FB_good) fw b
  replace x_0 := Iv.below OBB_good x_0 b
  replace fg := Iv.below (Own_good FB_good) fg b
  replace bx_p0_0 := (b.cell (p := ⟨w.heap.size, 0, none⟩) hb_p0).trans bx_p0_0
  replace hb_p0 := Nat.lt_of_lt_of_le hb_p0 b.size
  replace bx_x_0_0 := (b.cell (p := ⟨w5_.heap.size, 0, none⟩) hb_x_0).trans bx_x_0_0
  replace hb_x_0 := Nat.lt_of_lt_of_le hb_x_0 b.size
  replace T := T.trans (b.mono T.size)
  have s12_ := b.size
  clear b
  clear x_0
  go_wp2_with fail
  refine (mark_bytes _ _ _ _ _ _ fg (by omega) (by omega)).mono ?_
  rintro e w13_ ⟨rfl, f_, c⟩
  have s13_ := c.size
  replace fw := Iv.chg (Own_good FB_good) fw c (by omega)
  replace bx_p0_0 := (World.cell?_of_block (a := ⟨w.heap.size, 0, none⟩) (c.block (w.heap.size) hb_p0 (by omega))).trans bx_p0_0
  replace hb_p0 := Nat.lt_of_lt_of_le hb_p0 c.size
  replace bx_x_0_0 := (World.cell?_of_block (a := ⟨w5_.heap.size, 0, none⟩) (c.block (w5_.heap.size) hb_x_0 (by omega))).trans bx_x_0_0
  replace hb_x_0 := Nat.lt_of_lt_of_le hb_x_0 c.size
  replace T := T.trans (c.below (by omega) T.size)
  clear fg c
  have fg := f_
  clear f_
  go_wp2_with fail
  refine (held_bytes _ _ _ _  (rd_bytes fg) (by omega) (by omega)).mono ?_
  rintro e w14_ ⟨rfl, b⟩
  replace fw := Iv.below (Own_good FB_good) fw b
  replace fg := Iv.below (Own_good FB_good) fg b
  replace bx_p0_0 := (b.cell (p := ⟨w.heap.size, 0, none⟩) hb_p0).trans bx_p0_0
  replace hb_p0 := Nat.lt_of_lt_of_le hb_p0 b.size
  replace bx_x_0_0 := (b.cell (p := ⟨w5_.heap.size, 0, none⟩) hb_x_0).trans bx_x_0_0
  replace hb_x_0 := Nat.lt_of_lt_of_le hb_x_0 b.size
  replace T := T.trans (b.mono T.size)
  have s14_ := b.size
  clear b
  go_wp2_with fail
  refine (to_db _ _ _  ((Rd_reads (Rd_reads RB_reads)) _ _ _ _ y0 T) (by omega)).mono ?_
  rintro e w15_ ⟨AVz_0, lVz_0, cVz_0, rfl, F⟩
  have b := F.below
  replace fw := Iv.below (Own_good FB_good) fw b
  replace fg := Iv.below (Own_good FB_good) fg b
  replace bx_p0_0 := (b.cell (p := ⟨w.heap.size, 0, none⟩) hb_p0).trans bx_p0_0
  replace hb_p0 := Nat.lt_of_lt_of_le hb_p0 b.size
  replace bx_x_0_0 := (b.cell (p := ⟨w5_.heap.size, 0, none⟩) hb_x_0).trans bx_x_0_0
  replace hb_x_0 := Nat.lt_of_lt_of_le hb_x_0 b.size
  replace T := T.trans (b.mono T.size)
  have z_0 := Fresh.iv OBB_good F
  have s15_ := b.size
  clear F b
  go_wp2_with fail
  refine (implReadRow_c _ _ _ _ _ (rd_db z_0) hok hw1.1 hw1.2 (by omega)).mono ?_
  rintro e w16_ ⟨Vh, rfl, F⟩
  have b := F.below
  replace fw := Iv.below (Own_good FB_good) fw b
  replace fg := Iv.below (Own_good FB_good) fg b
  replace z_0 := Iv.below OBB_good z_0 b
  replace bx_p0_0 := (b.cell (p := ⟨w.heap.size, 0, none⟩) hb_p0).trans bx_p0_0
  replace hb_p0 := Nat.lt_of_lt_of_le hb_p0 b.size
  replace bx_x_0_0 := (b.cell (p := ⟨w5_.heap.size, 0, none⟩) hb_x_0).trans bx_x_0_0
  replace hb_x_0 := Nat.lt_of_lt_of_le hb_x_0 b.size
  replace T := T.trans (b.mono T.size)
  have fh := Fresh.iv (Own_good FB_good) F
  have s16_ := b.size
  clear F b
  go_wp2_with fail
  refine (eq_bytes _ _ _ _  (rd_bytes fh) (rd_bytes fw)).mono ?_
  rintro e w17_ ⟨rfl, b⟩
  replace fw := Iv.below (Own_good FB_good) fw b
  replace fg := Iv.below (Own_good FB_good) fg b
  replace z_0 := Iv.below OBB_good z_0 b
  replace fh := Iv.below (Own_good FB_good) fh b
  replace bx_p0_0 := (b.cell (p := ⟨w.heap.size, 0, none⟩) hb_p0).trans bx_p0_0
  replace hb_p0 := Nat.lt_of_lt_of_le hb_p0 b.size
  replace bx_x_0_0 := (b.cell (p := ⟨w5_.heap.size, 0, none⟩) hb_x_0).trans bx_x_0_0
  replace hb_x_0 := Nat.lt_of_lt_of_le hb_x_0 b.size
  replace T := T.trans (b.mono T.size)
  have s17_ := b.size
  clear b
  clear z_0
  go_wp2_with fail
  refine (held_bytes _ _ _ _  (rd_bytes fg) (by omega) (by omega)).mono ?_
  rintro e w18_ ⟨rfl, b⟩
  replace fw := Iv.below (Own_good FB_good) fw b
  replace fg := Iv.below (Own_good FB_good) fg b
  replace fh := Iv.below (Own_good FB_good) fh b
  replace bx_p0_0 := (b.cell (p := ⟨w.heap.size, 0, none⟩) hb_p0).trans bx_p0_0
  replace hb_p0 := Nat.lt_of_lt_of_le hb_p0 b.size
  replace bx_x_0_0 := (b.cell (p := ⟨w5_.heap.size, 0, none⟩) hb_x_0).trans bx_x_0_0
  replace hb_x_0 := Nat.lt_of_lt_of_le hb_x_0 b.size
  replace T := T.trans (b.mono T.size)
  have s18_ := b.size
  clear b
  go_wp2
  go_ret
  exact ⟨rfl, T⟩

set_option maxRecDepth 100000 in
theorem lifted (os : Os) (started : os.Started) (H : Type) (enc : TypeId × Value → H) :
    ReturnsInHanded {} Try.checked os 8 .any (Rows.fnExactReadRowSpec.pre6 enc Try.prog Try.f8 Rows.fnExactReadRowRow.domain false) (Rows.fnExactReadRowSpec.post enc Try.prog Try.f8 false true false false) := by
  refine returnsInHanded_of_change (C := Try.checked) own_ started (by kernel_rfl) Try.func8
    (ChangeSpec.witness6 (enc := enc) (C := Try.checked) false ⟨#[], #[.agg #[.slice none 0 0], .int .i64 0], []⟩ 8 (by kernel_rfl) (by kernel_rfl) (by kernel_rfl) (by kernel_rfl)) ?_
  intro W base args ds gs before hval0 hW hcnd _
  have hval : ∀ (j : Nat) t v, Try.f8.params[j]? = some t → args[j]? = some v → Value.okWide Try.prog W .any base t v := hval0
  have hW' := hW
  obtain ⟨p, q, hA0, hV, rfl, hfz, hnd⟩ := hW
  have hA : DataW.TrodAll enc Try.prog W 0 (fun _ => true) true Try.f8.params.toList args.toList ds p := hA0
  rw [Try.params8] at hA hval
  obtain ⟨v0, vs0, d0, ds0, p0, q0, hargs, rfl, rfl, h0, r0⟩ := trodAll_cons hA
  obtain ⟨v1, vs1, d1, ds1, p1, q1, rfl, rfl, rfl, h1, r1⟩ := trodAll_cons r0
  obtain ⟨rfl, rfl, rfl⟩ := trodAll_nil r1
  obtain rfl : args = #[v0, v1] := by cases args; simp_all
  obtain ⟨rfl, rfl⟩ := trodVars_none hV
  have k0 := h0
  have lt0 : ∀ x ∈ p0, x.block < W.heap.size := by obtain ⟨m, hm⟩ := k0; exact DataW.trod_lt m _ _ _ hm
  obtain ⟨u0, x0, rfl, y0⟩ := open_val1 Try.underlying24 (by kernel_rfl) (opens_struct1 Try.underlying24 (by kernel_rfl) (opens_slice Try.underlying22 (by kernel_rfl) (opens_slice Try.underlying39 (by kernel_rfl) (opens_u8 Try.underlying5)))) (hval 0 24 v0 rfl rfl) h0
  obtain ⟨a1, rfl, rfl, rfl, w1⟩ := open_int Try.underlying3 (hval 1 3 v1 rfl rfl) h1
  clear hA0 hval0
  refine (walk W u0 x0 y0 a1 w1).mono fun e W' ⟨he, bel⟩ => ?_
  subst he
  exact ⟨_, rfl, _, _, _, [], _, [], hW', trodAll_mk1 (shut_bool Try.underlying4 _), (trodAll_cons_mk (Below.trod laid_ (by kernel_rfl) (of_decide_eq_true (by kernel_rfl)) k0 bel lt0) (trodAll_cons_mk (shut_int Try.underlying3 w1) trodAll_mk0)), rfl, bel.frame _, fun h => by cases h⟩

theorem over : Rows.fnExactReadRowRow.holds Try.pinned (OpenSpec.ofChange Rows.fnExactReadRowSpec) :=
  OpenClaim.holds_of_wide 8 Try.f8 rfl rfl rfl rfl rfl rfl rfl ⟨rfl, rfl, rfl, rfl, rfl⟩ rfl rfl rfl rfl rfl (by kernel_rfl) Try.func8 (by kernel_rfl)
    (of_decide_eq_true (by kernel_rfl)) (by unfold Func.isWrapper; first | (rw [if_pos (by decide +kernel)]; kernel_rfl) | (rw [if_neg (by decide +kernel)]; exact ⟨rfl, rfl⟩))
    (fun os started H enc _ => lifted os started H enc)

theorem proved : Rows.FnExactReadRowSaid := over
end Go.Proofs.Ytdnifmcipbnncaa.fnExactReadRow
