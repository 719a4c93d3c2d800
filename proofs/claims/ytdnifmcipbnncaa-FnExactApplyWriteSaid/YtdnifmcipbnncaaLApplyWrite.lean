/- FnExactApplyWrite, for every argument, no condition: the program's ApplyWrite returns what the reference's returns, in memory of its own, and leaves its arguments as they were. -/
import Derived.Test.YtdnifmcipbnncaaApply
import Derived.Test.YtdnifmcipbnncaaCutDb
namespace Go.Proofs.Ytdnifmcipbnncaa.fnExactApplyWrite
set_option linter.unusedVariables false
open Go.RowKit Go.ChangeShapes Go.WideShapes Go.ChangeAt

set_option maxHeartbeats 4000000 in
set_option maxRecDepth 100000 in
theorem walk (w : World) (v0 : Value) (x0 : List (List UInt8)) (y0 : (Rd (Rd RB)) w v0 x0) (v1 : Value) (x1 : List (List UInt8)) (y1 : (Rd (Rd RB)) w v1 x1) :
    Calls Try.prog 13 #[.agg #[v0], .agg #[v1]] w fun e w' => e = .returned (.bool true) ∧ Below w.heap.size w w' := by
  obtain ⟨A0, l0, c0, rfl, g0⟩ := y0
  replace y0 : (Rd (Rd RB)) w (.slice A0 l0 c0) x0 := ⟨_, _, _, rfl, g0⟩
  clear g0
  obtain ⟨A1, l1, c1, rfl, g1⟩ := y1
  replace y1 : (Rd (Rd RB)) w (.slice A1 l1 c1) x1 := ⟨_, _, _, rfl, g1⟩
  clear g1
  by_cases hl0 : ((tot x0 : Nat) : Int) ≤ (1048576 : Int)
  rotate_left
  · go_enter Try.func13, Try.ntmps13
    have T := Below.refl w.heap.size w
    have b := below_alloc w (.cells #[.slice A0 l0 c0] 24)
    replace T := T.trans (b.mono T.size)
    have bx_p0_0 : (World.alloc w (.cells #[.slice A0 l0 c0] 24)).cell? ⟨w.heap.size, 0, none⟩ = some (.slice A0 l0 c0) := by rw [World.cell?_alloc_at _ _ _ _ (by simp)]; rfl
    have hb_p0 : w.heap.size < (World.alloc w (.cells #[.slice A0 l0 c0] 24)).heap.size := by simp
    have sp0_ : w.heap.size < (World.alloc w (.cells #[.slice A0 l0 c0] 24)).heap.size := by simp
    clear b
    have b := below_alloc (World.alloc w (.cells #[.slice A0 l0 c0] 24)) (.cells #[.slice A1 l1 c1] 24)
    replace bx_p0_0 := (b.cell (p := ⟨w.heap.size, 0, none⟩) hb_p0).trans bx_p0_0
    replace hb_p0 := Nat.lt_of_lt_of_le hb_p0 b.size
    replace T := T.trans (b.mono T.size)
    have bx_p1_0 : (World.alloc (World.alloc w (.cells #[.slice A0 l0 c0] 24)) (.cells #[.slice A1 l1 c1] 24)).cell? ⟨(w.heap.size + 1), 0, none⟩ = some (.slice A1 l1 c1) := by rw [World.cell?_alloc_at _ _ _ _ (by simp)]; rfl
    have hb_p1 : (w.heap.size + 1) < (World.alloc (World.alloc w (.cells #[.slice A0 l0 c0] 24)) (.cells #[.slice A1 l1 c1] 24)).heap.size := by simp
    have sp1_ : (w.heap.size + 1) < (World.alloc (World.alloc w (.cells #[.slice A0 l0 c0] 24)) (.cells #[.slice A1 l1 c1] 24)).heap.size := by simp
    clear b
    go_wp2_with fail
    generalize (World.alloc (World.alloc w (.cells #[.slice A0 l0 c0] 24)) (.cells #[.slice A1 l1 c1] 24)) = w1_ at *
    refine (sz_db _ _ _ _ ((Rd_reads (Rd_reads RB_reads)) _ _ _ _ y0 T) (by omega) (by omega)).mono ?_
    rintro e w2_ ⟨rfl, b⟩
    rw [if_pos (by omega)]
    replace bx_p0_0 := (b.cell (p := ⟨w.heap.size, 0, none⟩) hb_p0).trans bx_p0_0
    replace hb_p0 := Nat.lt_of_lt_of_le hb_p0 b.size
    replace bx_p1_0 := (b.cell (p := ⟨(w.heap.size + 1), 0, none⟩) hb_p1).trans bx_p1_0
    replace hb_p1 := Nat.lt_of_lt_of_le hb_p1 b.size
    replace T := T.trans (b.mono T.size)
    clear b
    go_wp2
    go_ret
    exact ⟨rfl, T⟩
  by_cases hl1 : ((tot x1 : Nat) : Int) ≤ (1048576 : Int) - ((tot x0 : Nat) : Int)
  rotate_left
  · go_enter Try.func13, Try.ntmps13
    have T := Below.refl w.heap.size w
    have b := below_alloc w (.cells #[.slice A0 l0 c0] 24)
    replace T := T.trans (b.mono T.size)
    have bx_p0_0 : (World.alloc w (.cells #[.slice A0 l0 c0] 24)).cell? ⟨w.heap.size, 0, none⟩ = some (.slice A0 l0 c0) := by rw [World.cell?_alloc_at _ _ _ _ (by simp)]; rfl
    have hb_p0 : w.heap.size < (World.alloc w (.cells #[.slice A0 l0 c0] 24)).heap.size := by simp
    have sp0_ : w.heap.size < (World.alloc w (.cells #[.slice A0 l0 c0] 24)).heap.size := by simp
    clear b
    have b := below_alloc (World.alloc w (.cells #[.slice A0 l0 c0] 24)) (.cells #[.slice A1 l1 c1] 24)
    replace bx_p0_0 := (b.cell (p := ⟨w.heap.size, 0, none⟩) hb_p0).trans bx_p0_0
    replace hb_p0 := Nat.lt_of_lt_of_le hb_p0 b.size
    replace T := T.trans (b.mono T.size)
    have bx_p1_0 : (World.alloc (World.alloc w (.cells #[.slice A0 l0 c0] 24)) (.cells #[.slice A1 l1 c1] 24)).cell? ⟨(w.heap.size + 1), 0, none⟩ = some (.slice A1 l1 c1) := by rw [World.cell?_alloc_at _ _ _ _ (by simp)]; rfl
    have hb_p1 : (w.heap.size + 1) < (World.alloc (World.alloc w (.cells #[.slice A0 l0 c0] 24)) (.cells #[.slice A1 l1 c1] 24)).heap.size := by simp
    have sp1_ : (w.heap.size + 1) < (World.alloc (World.alloc w (.cells #[.slice A0 l0 c0] 24)) (.cells #[.slice A1 l1 c1] 24)).heap.size := by simp
    clear b
    go_wp2_with fail
    generalize (World.alloc (World.alloc w (.cells #[.slice A0 l0 c0] 24)) (.cells #[.slice A1 l1 c1] 24)) = w1_ at *
    refine (sz_db _ _ _ _ ((Rd_reads (Rd_reads RB_reads)) _ _ _ _ y0 T) (by omega) (by omega)).mono ?_
    rintro e w2_ ⟨rfl, b⟩
    rw [if_neg (by omega)]
    replace bx_p0_0 := (b.cell (p := ⟨w.heap.size, 0, none⟩) hb_p0).trans bx_p0_0
    replace hb_p0 := Nat.lt_of_lt_of_le hb_p0 b.size
    replace bx_p1_0 := (b.cell (p := ⟨(w.heap.size + 1), 0, none⟩) hb_p1).trans bx_p1_0
    replace hb_p1 := Nat.lt_of_lt_of_le hb_p1 b.size
    replace T := T.trans (b.mono T.size)
    have s2_ := b.size
    clear b
    go_wp2_with fail
    refine (sz_db _ _ _ _ ((Rd_reads (Rd_reads RB_reads)) _ _ _ _ y1 T) (by omega) (by omega)).mono ?_
    rintro e w3_ ⟨rfl, b⟩
    rw [if_pos (by omega)]
    replace bx_p0_0 := (b.cell (p := ⟨w.heap.size, 0, none⟩) hb_p0).trans bx_p0_0
    replace hb_p0 := Nat.lt_of_lt_of_le hb_p0 b.size
    replace bx_p1_0 := (b.cell (p := ⟨(w.heap.size + 1), 0, none⟩) hb_p1).trans bx_p1_0
    replace hb_p1 := Nat.lt_of_lt_of_le hb_p1 b.size
    replace T := T.trans (b.mono T.size)
    clear b
    go_wp2
    go_ret
    exact ⟨rfl, T⟩
  have hrl := xorDb_sum x0 x1
  have hsl := sumL_le x0
  have hsl1 := sumL_le x1
  obtain ⟨ok, hok⟩ : ∃ b : Bool, Hid (xdOk x0 x1 = b) := ⟨_, Lib.hid rfl⟩
  go_enter Try.func13, Try.ntmps13
  have T := Below.refl w.heap.size w
  have b := below_alloc w (.cells #[.slice A0 l0 c0] 24)
  replace T := T.trans (b.mono T.size)
  have bx_p0_0 : (World.alloc w (.cells #[.slice A0 l0 c0] 24)).cell? ⟨w.heap.size, 0, none⟩ = some (.slice A0 l0 c0) := by rw [World.cell?_alloc_at _ _ _ _ (by simp)]; rfl
  have hb_p0 : w.heap.size < (World.alloc w (.cells #[.slice A0 l0 c0] 24)).heap.size := by simp
  have sp0_ : w.heap.size < (World.alloc w (.cells #[.slice A0 l0 c0] 24)).heap.size := by simp
  clear b
  have b := below_alloc (World.alloc w (.cells #[.slice A0 l0 c0] 24)) (.cells #[.slice A1 l1 c1] 24)
  replace bx_p0_0 := (b.cell (p := ⟨w.heap.size, 0, none⟩) hb_p0).trans bx_p0_0
  replace hb_p0 := Nat.lt_of_lt_of_le hb_p0 b.size
  replace T := T.trans (b.mono T.size)
  have bx_p1_0 : (World.alloc (World.alloc w (.cells #[.slice A0 l0 c0] 24)) (.cells #[.slice A1 l1 c1] 24)).cell? ⟨(w.heap.size + 1), 0, none⟩ = some (.slice A1 l1 c1) := by rw [World.cell?_alloc_at _ _ _ _ (by simp)]; rfl
  have hb_p1 : (w.heap.size + 1) < (World.alloc (World.alloc w (.cells #[.slice A0 l0 c0] 24)) (.cells #[.slice A1 l1 c1] 24)).heap.size := by simp
  have sp1_ : (w.heap.size + 1) < (World.alloc (World.alloc w (.cells #[.slice A0 l0 c0] 24)) (.cells #[.slice A1 l1 c1] 24)).heap.size := by simp
  clear b
  go_wp2_with fail
  generalize (World.alloc (World.alloc w (.cells #[.slice A0 l0 c0] 24)) (.cells #[.slice A1 l1 c1] 24)) = w1_ at *
  refine (sz_db _ _ _ _ ((Rd_reads (Rd_reads RB_reads)) _ _ _ _ y0 T) (by omega) (by omega)).mono ?_
  rintro e w2_ ⟨rfl, b⟩
  rw [if_neg (by omega)]
  replace bx_p0_0 := (b.cell (p := ⟨w.heap.size, 0, none⟩) hb_p0).trans bx_p0_0
  replace hb_p0 := Nat.lt_of_lt_of_le hb_p0 b.size
  replace bx_p1_0 := (b.cell (p := ⟨(w.heap.size + 1), 0, none⟩) hb_p1).trans bx_p1_0
  replace hb_p1 := Nat.lt_of_lt_of_le hb_p1 b.size
  replace T := T.trans (b.mono T.size)
  have s2_ := b.size
  clear b
  go_wp2_with fail
  refine (sz_db _ _ _ _ ((Rd_reads (Rd_reads RB_reads)) _ _ _ _ y1 T) (by omega) (by omega)).mono ?_
  rintro e w3_ ⟨rfl, b⟩
  rw [if_neg (by omega)]
  replace bx_p0_0 := (b.cell (p := ⟨w.heap.size, 0, none⟩) hb_p0).trans bx_p0_0
  replace hb_p0 := Nat.lt_of_lt_of_le hb_p0 b.size
  replace bx_p1_0 := (b.cell (p := ⟨(w.heap.size + 1), 0, none⟩) hb_p1).trans bx_p1_0
  replace hb_p1 := Nat.lt_of_lt_of_le hb_p1 b.size
  replace T := T.trans (b.mono T.size)
  have s3_ := b.size
  clear b
  go_upto_region 8 with (fail)
  replace bx_p0_0 : (World.drew w3_).cell? ⟨w.heap.size, 0, none⟩ = some (.slice A0 l0 c0) := bx_p0_0
  replace hb_p0 : w.heap.size < (World.drew w3_).heap.size := hb_p0
  replace bx_p1_0 : (World.drew w3_).cell? ⟨(w.heap.size + 1), 0, none⟩ = some (.slice A1 l1 c1) := bx_p1_0
  replace hb_p1 : (w.heap.size + 1) < (World.drew w3_).heap.size := hb_p1
  replace T := T.drew
  have sd3_ : w3_.heap.size ≤ (World.drew w3_).heap.size := Nat.le_refl _
  go_cut [6, 7] (fun s_ s'_ wx_ => CutDb 27 (World.drew w3_) (xorDb x0 x1) ok s_ s'_ wx_)
  case first =>
    have n0_p0 : (World.alloc w3_ (.cells #[.slice none 0 0] 27)).drew.cell? ⟨w.heap.size, 0, none⟩ = some (.slice A0 l0 c0) := ((below_alloc (World.drew w3_) (.cells #[.slice none 0 0] 27)).cell (p := ⟨w.heap.size, 0, none⟩) hb_p0).trans bx_p0_0
    have n0_p1 : (World.alloc w3_ (.cells #[.slice none 0 0] 27)).drew.cell? ⟨(w.heap.size + 1), 0, none⟩ = some (.slice A1 l1 c1) := ((below_alloc (World.drew w3_) (.cells #[.slice none 0 0] 27)).cell (p := ⟨(w.heap.size + 1), 0, none⟩) hb_p1).trans bx_p1_0
    go_region_held3 (fun w' => w'.cell? ⟨w.heap.size, 0, none⟩ = some (.slice A0 l0 c0) ∧ w'.cell? ⟨(w.heap.size + 1), 0, none⟩ = some (.slice A1 l1 c1))
      (first | ((repeat' apply And.intro) <;> assumption) | go_keep)
      (first
        | (go_at_call_of 17 (Value.agg #[.slice A0 l0 c0]); refine (to_db _ _ _ ((Rd_reads (Rd_reads RB_reads)) _ _ _ _ y0 (by first | exact T | exact T.alloc T.size _)) (by omega)).mono ?_; rintro e wa ⟨AVa, lVa, cVa, rfl, F⟩; have Da : Below ((World.drew w3_)).heap.size (World.drew w3_) wa := (by first | exact F.below | exact (below_alloc (World.drew w3_) (.cells #[.slice none 0 0] 27)).trans (F.below.mono (by simp))); have Ta := T.trans (Da.mono T.size); have ra := rd_db (F.iv OBB_good); (try (have bg : Hid (Box wa w3_.heap.size 27 #[.slice none 0 0]) := Lib.hid (Box.below (w := (World.alloc w3_ (.cells #[.slice none 0 0] 27)).drew) (show Box (World.alloc w3_ (.cells #[.slice none 0 0] 27)).drew w3_.heap.size 27 #[.slice none 0 0] from Box.new w3_ 27 #[.slice none 0 0]) F.below (by simp)))); have qa_p0 : wa.cell? ⟨w.heap.size, 0, none⟩ = some (.slice A0 l0 c0) := (Da.cell (p := ⟨w.heap.size, 0, none⟩) hb_p0).trans bx_p0_0; have qa_p1 : wa.cell? ⟨(w.heap.size + 1), 0, none⟩ = some (.slice A1 l1 c1) := (Da.cell (p := ⟨(w.heap.size + 1), 0, none⟩) hb_p1).trans bx_p1_0; have n1_p0 : (World.alloc wa (.cells #[.slice none 0 0] 27)).cell? ⟨w.heap.size, 0, none⟩ = some (.slice A0 l0 c0) := ((below_alloc wa (.cells #[.slice none 0 0] 27)).cell (p := ⟨w.heap.size, 0, none⟩) (Nat.lt_of_lt_of_le hb_p0 Da.size)).trans qa_p0; have n1_p1 : (World.alloc wa (.cells #[.slice none 0 0] 27)).cell? ⟨(w.heap.size + 1), 0, none⟩ = some (.slice A1 l1 c1) := ((below_alloc wa (.cells #[.slice none 0 0] 27)).cell (p := ⟨(w.heap.size + 1), 0, none⟩) (Nat.lt_of_lt_of_le hb_p1 Da.size)).trans qa_p1; clear F)
        | (go_at_call_of 17 (Value.agg #[.slice A1 l1 c1]); refine (to_db _ _ _ ((Rd_reads (Rd_reads RB_reads)) _ _ _ _ y1 (by first | exact Ta | exact Ta.alloc Ta.size _)) (by omega)).mono ?_; rintro e wb ⟨AVb, lVb, cVb, rfl, F⟩; have Db : Below ((World.drew w3_)).heap.size (World.drew w3_) wb := (by first | exact Da.trans (F.below.mono Da.size) | exact (Da.alloc Da.size (.cells #[.slice none 0 0] 27)).trans (F.below.mono (by have := Da.size; simp; omega))); have ra2 : Rd (Rd RB) wb (.slice AVa lVa cVa) x0 := (by first | exact (Rd_reads (Rd_reads RB_reads)) _ _ _ _ ra F.below | exact (Rd_reads (Rd_reads RB_reads)) _ _ _ _ ((Rd_reads (Rd_reads RB_reads)) _ _ _ _ ra (below_alloc wa (.cells #[.slice none 0 0] 27))) F.below); have rb := rd_db (F.iv OBB_good); (try (replace bg := Lib.hid (bg.out.below F.below bg.out.lt))); (try (have bg := Lib.hid ((Box.new wa 27 #[.slice none 0 0]).below F.below (by simp)))); have qb_p0 : wb.cell? ⟨w.heap.size, 0, none⟩ = some (.slice A0 l0 c0) := (Db.cell (p := ⟨w.heap.size, 0, none⟩) hb_p0).trans bx_p0_0; have qb_p1 : wb.cell? ⟨(w.heap.size + 1), 0, none⟩ = some (.slice A1 l1 c1) := (Db.cell (p := ⟨(w.heap.size + 1), 0, none⟩) hb_p1).trans bx_p1_0; clear F)
        | (go_at_call 45; refine (specApply_c _ _ _ _ _ _ (by first | exact ra2 | exact (Rd_reads (Rd_reads RB_reads)) _ _ _ _ ra2 (below_alloc _ _)) (by first | exact rb | exact (Rd_reads (Rd_reads RB_reads)) _ _ _ _ rb (below_alloc _ _)) hok (by omega) (by omega)).mono ?_; rintro e wz ⟨Az, lz, cz, rfl, F⟩; have Dz : Below ((World.drew w3_)).heap.size (World.drew w3_) wz := (by first | exact Db.trans (F.below.mono Db.size) | exact (Db.alloc Db.size (.cells #[.slice none 0 0] 27)).trans (F.below.mono (by have := Db.size; simp; omega))); (try (have hg0 := bg.out.lt; have bgz := Lib.hid (bg.out.below F.below (by first | exact hg0 | (simp; omega))))); (try (have bgz := Lib.hid ((Box.new wb 27 #[.slice none 0 0]).below F.below (by simp)))); (try (have x4 := bgz.out.cell 0; have y4 := bgz.out.frozen 0)); have qz_p0 : wz.cell? ⟨w.heap.size, 0, none⟩ = some (.slice A0 l0 c0) := (Dz.cell (p := ⟨w.heap.size, 0, none⟩) hb_p0).trans bx_p0_0; have qz_p1 : wz.cell? ⟨(w.heap.size + 1), 0, none⟩ = some (.slice A1 l1 c1) := (Dz.cell (p := ⟨(w.heap.size + 1), 0, none⟩) hb_p1).trans bx_p1_0; (try (have y_p0 := set_keep bgz.out qz_p0 (by have h1 := Da.size; have h2 := Db.size; show w.heap.size ≠ _; omega) (.slice Az lz cz); have y_p1 := set_keep bgz.out qz_p1 (by have h1 := Da.size; have h2 := Db.size; show (w.heap.size + 1) ≠ _; omega) (.slice Az lz cz))); have n3_p0 : (World.alloc wz (.cells #[.slice none 0 0] 27)).cell? ⟨w.heap.size, 0, none⟩ = some (.slice A0 l0 c0) := ((below_alloc wz (.cells #[.slice none 0 0] 27)).cell (p := ⟨w.heap.size, 0, none⟩) (Nat.lt_of_lt_of_le hb_p0 Dz.size)).trans qz_p0; have n3_p1 : (World.alloc wz (.cells #[.slice none 0 0] 27)).cell? ⟨(w.heap.size + 1), 0, none⟩ = some (.slice A1 l1 c1) := ((below_alloc wz (.cells #[.slice none 0 0] 27)).cell (p := ⟨(w.heap.size + 1), 0, none⟩) (Nat.lt_of_lt_of_le hb_p1 Dz.size)).trans qz_p1; have n4_p0 : (World.alloc wz (.cells #[.slice Az lz cz] 27)).cell? ⟨w.heap.size, 0, none⟩ = some (.slice A0 l0 c0) := ((below_alloc wz (.cells #[.slice Az lz cz] 27)).cell (p := ⟨w.heap.size, 0, none⟩) (Nat.lt_of_lt_of_le hb_p0 Dz.size)).trans qz_p0; have n4_p1 : (World.alloc wz (.cells #[.slice Az lz cz] 27)).cell? ⟨(w.heap.size + 1), 0, none⟩ = some (.slice A1 l1 c1) := ((below_alloc wz (.cells #[.slice Az lz cz] 27)).cell (p := ⟨(w.heap.size + 1), 0, none⟩) (Nat.lt_of_lt_of_le hb_p1 Dz.size)).trans qz_p1; have FH := Lib.hid F; clear F))
    all_goals (go_wp2_with fail; go_meet; first | exact cut_new FH.out Db | exact cut_set FH.out bgz.out bg.out.lt (by have h1 := Da.size; have h2 := Db.size; first | exact Nat.le_refl _ | omega) Db | exact cut_set FH.out bgz.out (by simp) (by have h2 := Db.size; omega) (Db.alloc Db.size _))
  case rest =>
    obtain ⟨g_fw, AVw, lVw, cVw, rfl, rfl, BX_, IV_, b⟩ := hcut
    obtain ⟨w4_, rfl⟩ : ∃ W : World, W = wc := ⟨_, rfl⟩
    replace bx_p0_0 := (b.cell (p := ⟨w.heap.size, 0, none⟩) hb_p0).trans bx_p0_0
    replace hb_p0 := Nat.lt_of_lt_of_le hb_p0 b.size
    replace bx_p1_0 := (b.cell (p := ⟨(w.heap.size + 1), 0, none⟩) hb_p1).trans bx_p1_0
    replace hb_p1 := Nat.lt_of_lt_of_le hb_p1 b.size
    replace T := T.trans (b.mono T.size)
    have s4_ := b.size
    clear b
    have fw := IV_
    clear IV_
    have bx_fw_0 : w4_.cell? ⟨g_fw, 0, none⟩ = some (.slice AVw lVw cVw) := BX_.cell 0
    have hb_fw : g_fw < w4_.heap.size := BX_.lt
    have sg_fw : g_fw < w4_.heap.size := BX_.lt
    clear BX_
    go_wp2_with fail
    refine (to_db _ _ _  ((Rd_reads (Rd_reads RB_reads)) _ _ _ _ y0 T) (by omega)).mono ?_
    rintro e w5_ ⟨AVx_0, lVx_0, cVx_0, rfl, F⟩
    have b := F.below
    replace fw := Iv.below OBB_good fw b
    replace bx_p0_0 := (b.cell (p := ⟨w.heap.size, 0, none⟩) hb_p0).trans bx_p0_0
    replace hb_p0 := Nat.lt_of_lt_of_le hb_p0 b.size
    replace bx_p1_0 := (b.cell (p := ⟨(w.heap.size + 1), 0, none⟩) hb_p1).trans bx_p1_0
    replace hb_p1 := Nat.lt_of_lt_of_le hb_p1 b.size
    replace bx_fw_0 := (b.cell (p := ⟨g_fw, 0, none⟩) hb_fw).trans bx_fw_0
    replace hb_fw := Nat.lt_of_lt_of_le hb_fw b.size
    replace T := T.trans (b.mono T.size)
    have x_0 := Fresh.iv OBB_good F
    have s5_ := b.size
    clear F b
    have b := below_alloc w5_ (.cells #[.slice AVx_0 lVx_0 cVx_0] 27)
    replace fw := Iv.below OBB_good fw b
    replace x_0 := Iv.below OBB_good x_0 b
    replace bx_p0_0 := (b.cell (p := ⟨w.heap.size, 0, none⟩) hb_p0).trans bx_p0_0
    replace hb_p0 := Nat.lt_of_lt_of_le hb_p0 b.size
    replace bx_p1_0 := (b.cell (p := ⟨(w.heap.size + 1), 0, none⟩) hb_p1).trans bx_p1_0
    replace hb_p1 := Nat.lt_of_lt_of_le hb_p1 b.size
    replace bx_fw_0 := (b.cell (p := ⟨g_fw, 0, none⟩) hb_fw).trans bx_fw_0
    replace hb_fw := Nat.lt_of_lt_of_le hb_fw b.size
    replace T := T.trans (b.mono T.size)
    have bx_x_0_0 : (World.alloc w5_ (.cells #[.slice AVx_0 lVx_0 cVx_0] 27)).cell? ⟨w5_.heap.size, 0, none⟩ = some (.slice AVx_0 lVx_0 cVx_0) := by rw [World.cell?_alloc_at _ _ _ _ (by simp)]; rfl
    have hb_x_0 : w5_.heap.size < (World.alloc w5_ (.cells #[.slice AVx_0 lVx_0 cVx_0] 27)).heap.size := by simp
    have sx_0_ : w5_.heap.size < (World.alloc w5_ (.cells #[.slice AVx_0 lVx_0 cVx_0] 27)).heap.size := by simp
    clear b
    go_wp2_with fail
    generalize (World.alloc w5_ (.cells #[.slice AVx_0 lVx_0 cVx_0] 27)) = w6_ at *
    refine (to_db _ _ _  ((Rd_reads (Rd_reads RB_reads)) _ _ _ _ y1 T) (by omega)).mono ?_
    rintro e w7_ ⟨AVx_1, lVx_1, cVx_1, rfl, F⟩
    have b := F.below
    replace fw := Iv.below OBB_good fw b
    replace x_0 := Iv.below OBB_good x_0 b
    replace bx_p0_0 := (b.cell (p := ⟨w.heap.size, 0, none⟩) hb_p0).trans bx_p0_0
    replace hb_p0 := Nat.lt_of_lt_of_le hb_p0 b.size
    replace bx_p1_0 := (b.cell (p := ⟨(w.heap.size + 1), 0, none⟩) hb_p1).trans bx_p1_0
    replace hb_p1 := Nat.lt_of_lt_of_le hb_p1 b.size
    replace bx_fw_0 := (b.cell (p := ⟨g_fw, 0, none⟩) hb_fw).trans bx_fw_0
    replace hb_fw := Nat.lt_of_lt_of_le hb_fw b.size
    replace bx_x_0_0 := (b.cell (p := ⟨w5_.heap.size, 0, none⟩) hb_x_0).trans bx_x_0_0
    replace hb_x_0 := Nat.lt_of_lt_of_le hb_x_0 b.size
    replace T := T.trans (b.mono T.size)
    have x_1 := Fresh.iv OBB_good F
    have s7_ := b.size
    clear F b
    have b := below_alloc w7_ (.cells #[.slice AVx_1 lVx_1 cVx_1] 27)
    replace fw := Iv.below OBB_good fw b
    replace x_0 := Iv.below OBB_good x_0 b
    replace x_1 := Iv.below OBB_good x_1 b
    replace bx_p0_0 := (b.cell (p := ⟨w.heap.size, 0, none⟩) hb_p0).trans bx_p0_0
    replace hb_p0 := Nat.lt_of_lt_of_le hb_p0 b.size
    replace bx_p1_0 := (b.cell (p := ⟨(w.heap.size + 1), 0, none⟩) hb_p1).trans bx_p1_0
    replace hb_p1 := Nat.lt_of_lt_of_le hb_p1 b.size
    replace bx_fw_0 := (b.cell (p := ⟨g_fw, 0, none⟩) hb_fw).trans bx_fw_0
    replace hb_fw := Nat.lt_of_lt_of_le hb_fw b.size
    replace bx_x_0_0 := (b.cell (p := ⟨w5_.heap.size, 0, none⟩) hb_x_0).trans bx_x_0_0
    replace hb_x_0 := Nat.lt_of_lt_of_le hb_x_0 b.size
    replace T := T.trans (b.mono T.size)
    have bx_x_1_0 : (World.alloc w7_ (.cells #[.slice AVx_1 lVx_1 cVx_1] 27)).cell? ⟨w7_.heap.size, 0, none⟩ = some (.slice AVx_1 lVx_1 cVx_1) := by rw [World.cell?_alloc_at _ _ _ _ (by simp)]; rfl
    have hb_x_1 : w7_.heap.size < (World.alloc w7_ (.cells #[.slice AVx_1 lVx_1 cVx_1] 27)).heap.size := by simp
    have sx_1_ : w7_.heap.size < (World.alloc w7_ (.cells #[.slice AVx_1 lVx_1 cVx_1] 27)).heap.size := by simp
    clear b
    go_wp2_with fail
    generalize (World.alloc w7_ (.cells #[.slice AVx_1 lVx_1 cVx_1] 27)) = w8_ at *
    refine (implApply_c _ _ _ _ _ _ (rd_db x_0) (rd_db x_1) hok (by omega) (by omega)).mono ?_
    rintro e w9_ ⟨AVg, lVg, cVg, rfl, F⟩
    have b := F.below
    replace fw := Iv.below OBB_good fw b
    replace x_0 := Iv.below OBB_good x_0 b
    replace x_1 := Iv.below OBB_good x_1 b
    replace bx_p0_0 := (b.cell (p := ⟨w.heap.size, 0, none⟩) hb_p0).trans bx_p0_0
    replace hb_p0 := Nat.lt_of_lt_of_le hb_p0 b.size
    replace bx_p1_0 := (b.cell (p := ⟨(w.heap.size + 1), 0, none⟩) hb_p1).trans bx_p1_0
    replace hb_p1 := Nat.lt_of_lt_of_le hb_p1 b.size
    replace bx_fw_0 := (b.cell (p := ⟨g_fw, 0, none⟩) hb_fw).trans bx_fw_0
    replace hb_fw := Nat.lt_of_lt_of_le hb_fw b.size
    replace bx_x_0_0 := (b.cell (p := ⟨w5_.heap.size, 0, none⟩) hb_x_0).trans bx_x_0_0
    replace hb_x_0 := Nat.lt_of_lt_of_le hb_x_0 b.size
    replace bx_x_1_0 := (b.cell (p := ⟨w7_.heap.size, 0, none⟩) hb_x_1).trans bx_x_1_0
    replace hb_x_1 := Nat.lt_of_lt_of_le hb_x_1 b.size
    replace T := T.trans (b.mono T.size)
    have fg := Fresh.iv OBB_good F
    have s9_ := b.size
    clear F b
    have b := below_alloc w9_ (.cells #[.slice AVg lVg cVg] 27)
    replace fw := Iv.below OBB_good fw b
    replace x_0 := Iv.below OBB_good x_0 b
    replace x_1 := Iv.below OBB_good x_1 b
    replace fg := Iv.below OBB_good fg b
    replace bx_p0_0 := (b.cell (p := ⟨w.heap.size, 0, none⟩) hb_p0).trans bx_p0_0
    replace hb_p0 := Nat.lt_of_lt_of_le hb_p0 b.size
    replace bx_p1_0 := (b.cell (p := ⟨(w.heap.size + 1), 0, none⟩) hb_p1).trans bx_p1_0
    replace hb_p1 := Nat.lt_of_lt_of_le hb_p1 b.size
    replace bx_fw_0 := (b.cell (p := ⟨g_fw, 0, none⟩) hb_fw).trans bx_fw_0
    replace hb_fw := Nat.lt_of_lt_of_le hb_fw b.size
    replace bx_x_0_0 := (b.cell (p := ⟨w5_.heap.size, 0, none⟩) hb_x_0).trans bx_x_0_0
    replace hb_x_0 := Nat.lt_of_lt_of_le hb_x_0 b.size
    replace bx_x_1_0 := (b.cell (p := ⟨w7_.heap.size, 0, none⟩) hb_x_1).trans bx_x_1_0
    replace hb_x_1 := Nat.lt_of_lt_of_le hb_x_1 b.size
    replace T := T.trans (b.mono T.size)
    have bx_fg_0 : (World.alloc w9_ (.cells #[.slice AVg lVg cVg] 27)).cell? ⟨w9_.heap.size, 0, none⟩ = some (.slice AVg lVg cVg) := by rw [World.cell?_alloc_at _ _ _ _ (by simp)]; rfl
    have hb_fg : w9_.heap.size < (World.alloc w9_ (.cells #[.slice AVg lVg cVg] 27)).heap.size := by simp
    have sfg_ : w9_.heap.size < (World.alloc w9_ (.cells #[.slice AVg lVg cVg] 27)).heap.size := by simp
    clear b
    go_wp2_with fail
    generalize (World.alloc w9_ (.cells #[.slice AVg lVg cVg] 27)) = w10_ at *
    refine (eq_db _ _ _ _  (rd_db fg) (rd_db fw)).mono ?_
    rintro e w11_ ⟨rfl, b⟩
    replace fw := Iv.below OBB_good fw b
    replace x_0 := Iv.below OBB_good x_0 b
    replace x_1 := Iv.below OBB_good x_1 b
    replace fg := Iv.below OBB_good fg b
    replace bx_p0_0 := (b.cell (p := ⟨w.heap.size, 0, none⟩) hb_p0).trans bx_p0_0
    replace hb_p0 := Nat.lt_of_lt_of_le hb_p0 b.size
    replace bx_p1_0 := (b.cell (p := ⟨(w.heap.size + 1), 0, none⟩) hb_p1).trans bx_p1_0
    replace hb_p1 := Nat.lt_of_lt_of_le hb_p1 b.size
    replace bx_fw_0 := (b.cell (p := ⟨g_fw, 0, none⟩) hb_fw).trans bx_fw_0
    replace hb_fw := Nat.lt_of_lt_of_le hb_fw b.size
    replace bx_x_0_0 := (b.cell (p := ⟨w5_.heap.size, 0, none⟩) hb_x_0).trans bx_x_0_0
    replace hb_x_0 := Nat.lt_of_lt_of_le hb_x_0 b.size
    replace bx_x_1_0 := (b.cell (p := ⟨w7_.heap.size, 0, none⟩) hb_x_1).trans bx_x_1_0
    replace hb_x_1 := Nat.lt_of_lt_of_le hb_x_1 b.size
    replace bx_fg_0 := (b.cell (p := ⟨w9_.heap.size, 0, none⟩) hb_fg).trans bx_fg_0
    replace hb_fg := Nat.lt_of_lt_of_le hb_fg b.size
    replace T := T.trans (b.mono T.size)
    have s11_ := b.size
    clear b
    go_wp2_with fail
    replace fw := Iv.drew OBB_good fw
    replace x_0 := Iv.drew OBB_good x_0
    replace x_1 := Iv.drew OBB_good x_1
    replace fg := Iv.drew OBB_good fg
    replace bx_p0_0 : (World.drew w11_).cell? ⟨w.heap.size, 0, none⟩ = some (.slice A0 l0 c0) := bx_p0_0
    replace hb_p0 : w.heap.size < (World.drew w11_).heap.size := hb_p0
    replace bx_p1_0 : (World.drew w11_).cell? ⟨(w.heap.size + 1), 0, none⟩ = some (.slice A1 l1 c1) := bx_p1_0
    replace hb_p1 : (w.heap.size + 1) < (World.drew w11_).heap.size := hb_p1
    replace bx_fw_0 : (World.drew w11_).cell? ⟨g_fw, 0, none⟩ = some (.slice AVw lVw cVw) := bx_fw_0
    replace hb_fw : g_fw < (World.drew w11_).heap.size := hb_fw
    replace bx_x_0_0 : (World.drew w11_).cell? ⟨w5_.heap.size, 0, none⟩ = some (.slice AVx_0 lVx_0 cVx_0) := bx_x_0_0
    replace hb_x_0 : w5_.heap.size < (World.drew w11_).heap.size := hb_x_0
    replace bx_x_1_0 : (World.drew w11_).cell? ⟨w7_.heap.size, 0, none⟩ = some (.slice AVx_1 lVx_1 cVx_1) := bx_x_1_0
    replace hb_x_1 : w7_.heap.size < (World.drew w11_).heap.size := hb_x_1
    replace bx_fg_0 : (World.drew w11_).cell? ⟨w9_.heap.size, 0, none⟩ = some (.slice AVg lVg cVg) := bx_fg_0
    replace hb_fg : w9_.heap.size < (World.drew w11_).heap.size := hb_fg
    replace T := T.drew
    have sd11_ : w11_.heap.size ≤ (World.drew w11_).heap.size := Nat.le_refl _
    go_region_held3 (fun w' => w'.cell? ⟨w5_.heap.size, 0, none⟩ = some (.slice AVx_0 lVx_0 cVx_0) ∧ w'.cell? ⟨w.heap.size, 0, none⟩ = some (.slice A0 l0 c0))
      (first | ((repeat' apply And.intro) <;> assumption) | go_keep)
      (first
        | (go_at_call 17
           refine (to_db _ _ _  ((Rd_reads (Rd_reads RB_reads)) _ _ _ _ y0 T) (by omega)).mono ?_
           rintro e w12_ ⟨AVft, lVft, cVft, rfl, F⟩
           have b := F.below
           replace fw := Iv.below OBB_good fw b
           replace x_0 := Iv.below OBB_good x_0 b
           replace x_1 := Iv.below OBB_good x_1 b
           replace fg := Iv.below OBB_good fg b
           replace bx_p0_0 := (b.cell (p := ⟨w.heap.size, 0, none⟩) hb_p0).trans bx_p0_0
           replace hb_p0 := Nat.lt_of_lt_of_le hb_p0 b.size
           replace bx_p1_0 := (b.cell (p := ⟨(w.heap.size + 1), 0, none⟩) hb_p1).trans bx_p1_0
           replace hb_p1 := Nat.lt_of_lt_of_le hb_p1 b.size
           replace bx_fw_0 := (b.cell (p := ⟨g_fw, 0, none⟩) hb_fw).trans bx_fw_0
           replace hb_fw := Nat.lt_of_lt_of_le hb_fw b.size
           replace bx_x_0_0 := (b.cell (p := ⟨w5_.heap.size, 0, none⟩) hb_x_0).trans bx_x_0_0
           replace hb_x_0 := Nat.lt_of_lt_of_le hb_x_0 b.size
           replace bx_x_1_0 := (b.cell (p := ⟨w7_.heap.size, 0, none⟩) hb_x_1).trans bx_x_1_0
           replace hb_x_1 := Nat.lt_of_lt_of_le hb_x_1 b.size
           replace bx_fg_0 := (b.cell (p := ⟨w9_.heap.size, 0, none⟩) hb_fg).trans bx_fg_0
           replace hb_fg := Nat.lt_of_lt_of_le hb_fg b.size
           replace T := T.trans (b.mono T.size)
           have ft := Fresh.iv OBB_good F
           have s12_ := b.size
           clear F b)
        | (go_at_call 19
           refine (eq_db _ _ _ _  (rd_db x_0) (rd_db ft)).mono ?_
           rintro e w13_ ⟨rfl, b⟩
           replace fw := Iv.below OBB_good fw b
           replace x_0 := Iv.below OBB_good x_0 b
           replace x_1 := Iv.below OBB_good x_1 b
           replace fg := Iv.below OBB_good fg b
           replace ft := Iv.below OBB_good ft b
           replace bx_p0_0 := (b.cell (p := ⟨w.heap.size, 0, none⟩) hb_p0).trans bx_p0_0
           replace hb_p0 := Nat.lt_of_lt_of_le hb_p0 b.size
           replace bx_p1_0 := (b.cell (p := ⟨(w.heap.size + 1), 0, none⟩) hb_p1).trans bx_p1_0
           replace hb_p1 := Nat.lt_of_lt_of_le hb_p1 b.size
           replace bx_fw_0 := (b.cell (p := ⟨g_fw, 0, none⟩) hb_fw).trans bx_fw_0
           replace hb_fw := Nat.lt_of_lt_of_le hb_fw b.size
           replace bx_x_0_0 := (b.cell (p := ⟨w5_.heap.size, 0, none⟩) hb_x_0).trans bx_x_0_0
           replace hb_x_0 := Nat.lt_of_lt_of_le hb_x_0 b.size
           replace bx_x_1_0 := (b.cell (p := ⟨w7_.heap.size, 0, none⟩) hb_x_1).trans bx_x_1_0
           replace hb_x_1 := Nat.lt_of_lt_of_le hb_x_1 b.size
           replace bx_fg_0 := (b.cell (p := ⟨w9_.heap.size, 0, none⟩) hb_fg).trans bx_fg_0
           replace hb_fg := Nat.lt_of_lt_of_le hb_fg b.size
           replace T := T.trans (b.mono T.size)
           have s13_ := b.size
           clear b))
    clear ft
    go_wp2_with fail
    replace fw := Iv.drew OBB_good fw
    replace x_0 := Iv.drew OBB_good x_0
    replace x_1 := Iv.drew OBB_good x_1
    replace fg := Iv.drew OBB_good fg
    replace bx_p0_0 : (World.drew w13_).cell? ⟨w.heap.size, 0, none⟩ = some (.slice A0 l0 c0) := bx_p0_0
    replace hb_p0 : w.heap.size < (World.drew w13_).heap.size := hb_p0
    replace bx_p1_0 : (World.drew w13_).cell? ⟨(w.heap.size + 1), 0, none⟩ = some (.slice A1 l1 c1) := bx_p1_0
    replace hb_p1 : (w.heap.size + 1) < (World.drew w13_).heap.size := hb_p1
    replace bx_fw_0 : (World.drew w13_).cell? ⟨g_fw, 0, none⟩ = some (.slice AVw lVw cVw) := bx_fw_0
    replace hb_fw : g_fw < (World.drew w13_).heap.size := hb_fw
    replace bx_x_0_0 : (World.drew w13_).cell? ⟨w5_.heap.size, 0, none⟩ = some (.slice AVx_0 lVx_0 cVx_0) := bx_x_0_0
    replace hb_x_0 : w5_.heap.size < (World.drew w13_).heap.size := hb_x_0
    replace bx_x_1_0 : (World.drew w13_).cell? ⟨w7_.heap.size, 0, none⟩ = some (.slice AVx_1 lVx_1 cVx_1) := bx_x_1_0
    replace hb_x_1 : w7_.heap.size < (World.drew w13_).heap.size := hb_x_1
    replace bx_fg_0 : (World.drew w13_).cell? ⟨w9_.heap.size, 0, none⟩ = some (.slice AVg lVg cVg) := bx_fg_0
    replace hb_fg : w9_.heap.size < (World.drew w13_).heap.size := hb_fg
    replace T := T.drew
    have sd13_ : w13_.heap.size ≤ (World.drew w13_).heap.size := Nat.le_refl _
    go_region_held3 (fun w' => w'.cell? ⟨w7_.heap.size, 0, none⟩ = some (.slice AVx_1 lVx_1 cVx_1) ∧ w'.cell? ⟨(w.heap.size + 1), 0, none⟩ = some (.slice A1 l1 c1))
      (first | ((repeat' apply And.intro) <;> assumption) | go_keep)
      (first
        | (go_at_call 17
           refine (to_db _ _ _  ((Rd_reads (Rd_reads RB_reads)) _ _ _ _ y1 T) (by omega)).mono ?_
           rintro e w14_ ⟨AVft, lVft, cVft, rfl, F⟩
           have b := F.below
           replace fw := Iv.below OBB_good fw b
           replace x_0 := Iv.below OBB_good x_0 b
           replace x_1 := Iv.below OBB_good x_1 b
           replace fg := Iv.below OBB_good fg b
           replace bx_p0_0 := (b.cell (p := ⟨w.heap.size, 0, none⟩) hb_p0).trans bx_p0_0
           replace hb_p0 := Nat.lt_of_lt_of_le hb_p0 b.size
           replace bx_p1_0 := (b.cell (p := ⟨(w.heap.size + 1), 0, none⟩) hb_p1).trans bx_p1_0
           replace hb_p1 := Nat.lt_of_lt_of_le hb_p1 b.size
           replace bx_fw_0 := (b.cell (p := ⟨g_fw, 0, none⟩) hb_fw).trans bx_fw_0
           replace hb_fw := Nat.lt_of_lt_of_le hb_fw b.size
           replace bx_x_0_0 := (b.cell (p := ⟨w5_.heap.size, 0, none⟩) hb_x_0).trans bx_x_0_0
           replace hb_x_0 := Nat.lt_of_lt_of_le hb_x_0 b.size
           replace bx_x_1_0 := (b.cell (p := ⟨w7_.heap.size, 0, none⟩) hb_x_1).trans bx_x_1_0
           replace hb_x_1 := Nat.lt_of_lt_of_le hb_x_1 b.size
           replace bx_fg_0 := (b.cell (p := ⟨w9_.heap.size, 0, none⟩) hb_fg).trans bx_fg_0
           replace hb_fg := Nat.lt_of_lt_of_le hb_fg b.size
           replace T := T.trans (b.mono T.size)
           have ft := Fresh.iv OBB_good F
           have s14_ := b.size
           clear F b)
        | (go_at_call 19
           refine (eq_db _ _ _ _  (rd_db x_1) (rd_db ft)).mono ?_
           rintro e w15_ ⟨rfl, b⟩
           replace fw := Iv.below OBB_good fw b
           replace x_0 := Iv.below OBB_good x_0 b
           replace x_1 := Iv.below OBB_good x_1 b
           replace fg := Iv.below OBB_good fg b
           replace ft := Iv.below OBB_good ft b
           replace bx_p0_0 := (b.cell (p := ⟨w.heap.size, 0, none⟩) hb_p0).trans bx_p0_0
           replace hb_p0 := Nat.lt_of_lt_of_le hb_p0 b.size
           replace bx_p1_0 := (b.cell (p := ⟨(w.heap.size + 1), 0, none⟩) hb_p1).trans bx_p1_0
           replace hb_p1 := Nat.lt_of_lt_of_le hb_p1 b.size
           replace bx_fw_0 := (b.cell (p := ⟨g_fw, 0, none⟩) hb_fw).trans bx_fw_0
           replace hb_fw := Nat.lt_of_lt_of_le hb_fw b.size
           replace bx_x_0_0 := (b.cell (p := ⟨w5_.heap.size, 0, none⟩) hb_x_0).trans bx_x_0_0
           replace hb_x_0 := Nat.lt_of_lt_of_le hb_x_0 b.size
           replace bx_x_1_0 := (b.cell (p := ⟨w7_.heap.size, 0, none⟩) hb_x_1).trans bx_x_1_0
           replace hb_x_1 := Nat.lt_of_lt_of_le hb_x_1 b.size
           replace bx_fg_0 := (b.cell (p := ⟨w9_.heap.size, 0, none⟩) hb_fg).trans bx_fg_0
           replace hb_fg := Nat.lt_of_lt_of_le hb_fg b.size
           replace T := T.trans (b.mono T.size)
           have s15_ := b.size
           clear b))
    clear ft
    go_wp2_with fail
    refine (mark_db _ _ _ _ _ _ x_0 (by omega) (by omega)).mono ?_
    rintro e w16_ ⟨rfl, f_, c⟩
    have s16_ := c.size
    replace fw := Iv.chg OBB_good fw c (by omega)
    replace x_1 := Iv.chg OBB_good x_1 c (by omega)
    replace fg := Iv.chg OBB_good fg c (by omega)
    replace bx_p0_0 := (World.cell?_of_block (a := ⟨w.heap.size, 0, none⟩) (c.block (w.heap.size) hb_p0 (by omega))).trans bx_p0_0
    replace hb_p0 := Nat.lt_of_lt_of_le hb_p0 c.size
    replace bx_p1_0 := (World.cell?_of_block (a := ⟨(w.heap.size + 1), 0, none⟩) (c.block ((w.heap.size + 1)) hb_p1 (by omega))).trans bx_p1_0
    replace hb_p1 := Nat.lt_of_lt_of_le hb_p1 c.size
    replace bx_fw_0 := (World.cell?_of_block (a := ⟨g_fw, 0, none⟩) (c.block (g_fw) hb_fw (by omega))).trans bx_fw_0
    replace hb_fw := Nat.lt_of_lt_of_le hb_fw c.size
    replace bx_x_0_0 := (World.cell?_of_block (a := ⟨w5_.heap.size, 0, none⟩) (c.block (w5_.heap.size) hb_x_0 (by omega))).trans bx_x_0_0
    replace hb_x_0 := Nat.lt_of_lt_of_le hb_x_0 c.size
    replace bx_x_1_0 := (World.cell?_of_block (a := ⟨w7_.heap.size, 0, none⟩) (c.block (w7_.heap.size) hb_x_1 (by omega))).trans bx_x_1_0
    replace hb_x_1 := Nat.lt_of_lt_of_le hb_x_1 c.size
    replace bx_fg_0 := (World.cell?_of_block (a := ⟨w9_.heap.size, 0, none⟩) (c.block (w9_.heap.size) hb_fg (by omega))).trans bx_fg_0
    replace hb_fg := Nat.lt_of_lt_of_le hb_fg c.size
    replace T := T.trans (c.below (by omega) T.size)
    clear x_0 c
    have x_0 := f_
    clear f_
    go_wp2_with fail
    refine (mark_db _ _ _ _ _ _ x_1 (by omega) (by omega)).mono ?_
    rintro e w17_ ⟨rfl, f_, c⟩
    have s17_ := c.size
    replace fw := Iv.chg OBB_good fw c (by omega)
    replace x_0 := Iv.chg OBB_good x_0 c (by omega)
    replace fg := Iv.chg OBB_good fg c (by omega)
    replace bx_p0_0 := (World.cell?_of_block (a := ⟨w.heap.size, 0, none⟩) (c.block (w.heap.size) hb_p0 (by omega))).trans bx_p0_0
    replace hb_p0 := Nat.lt_of_lt_of_le hb_p0 c.size
    replace bx_p1_0 := (World.cell?_of_block (a := ⟨(w.heap.size + 1), 0, none⟩) (c.block ((w.heap.size + 1)) hb_p1 (by omega))).trans bx_p1_0
    replace hb_p1 := Nat.lt_of_lt_of_le hb_p1 c.size
    replace bx_fw_0 := (World.cell?_of_block (a := ⟨g_fw, 0, none⟩) (c.block (g_fw) hb_fw (by omega))).trans bx_fw_0
    replace hb_fw := Nat.lt_of_lt_of_le hb_fw c.size
    replace bx_x_0_0 := (World.cell?_of_block (a := ⟨w5_.heap.size, 0, none⟩) (c.block (w5_.heap.size) hb_x_0 (by omega))).trans bx_x_0_0
    replace hb_x_0 := Nat.lt_of_lt_of_le hb_x_0 c.size
    replace bx_x_1_0 := (World.cell?_of_block (a := ⟨w7_.heap.size, 0, none⟩) (c.block (w7_.heap.size) hb_x_1 (by omega))).trans bx_x_1_0
    replace hb_x_1 := Nat.lt_of_lt_of_le hb_x_1 c.size
    replace bx_fg_0 := (World.cell?_of_block (a := ⟨w9_.heap.size, 0, none⟩) (c.block (w9_.heap.size) hb_fg (by omega))).trans bx_fg_0
    replace hb_fg := Nat.lt_of_lt_of_le hb_fg c.size
    replace T := T.trans (c.below (by omega) T.size)
    clear x_1 c
    have x_1 := f_
    clear f_
    go_wp2_with fail
    refine (eq_db _ _ _ _  (rd_db fg) (rd_db fw)).mono ?_
    rintro e w18_ ⟨rfl, b⟩
    replace fw := Iv.below OBB_good fw b
    replace x_0 := Iv.below OBB_good x_0 b
    replace x_1 := Iv.below OBB_good x_1 b
    replace fg := Iv.below OBB_good fg b
    replace bx_p0_0 := (b.cell (p := ⟨w.heap.size, 0, none⟩) hb_p0).trans bx_p0_0
    replace hb_p0 := Nat.lt_of_lt_of_le hb_p0 b.size
    replace bx_p1_0 := (b.cell (p := ⟨(w.heap.size + 1), 0, none⟩) hb_p1).trans bx_p1_0
    replace hb_p1 := Nat.lt_of_lt_of_le hb_p1 b.size
    replace bx_fw_0 := (b.cell (p := ⟨g_fw, 0, none⟩) hb_fw).trans bx_fw_0
    replace hb_fw := Nat.lt_of_lt_of_le hb_fw b.size
    replace bx_x_0_0 := (b.cell (p := ⟨w5_.heap.size, 0, none⟩) hb_x_0).trans bx_x_0_0
    replace hb_x_0 := Nat.lt_of_lt_of_le hb_x_0 b.size
    replace bx_x_1_0 := (b.cell (p := ⟨w7_.heap.size, 0, none⟩) hb_x_1).trans bx_x_1_0
    replace hb_x_1 := Nat.lt_of_lt_of_le hb_x_1 b.size
    replace bx_fg_0 := (b.cell (p := ⟨w9_.heap.size, 0, none⟩) hb_fg).trans bx_fg_0
    replace hb_fg := Nat.lt_of_lt_of_le hb_fg b.size
    replace T := T.trans (b.mono T.size)
    have s18_ := b.size
    clear b
    clear x_0
    clear x_1
    go_wp2_with fail
    refine (mark_db _ _ _ _ _ _ fg (by omega) (by omega)).mono ?_
    rintro e w19_ ⟨rfl, f_, c⟩
    have s19_ := c.size
    replace fw := Iv.chg OBB_good fw c (by omega)
    replace bx_p0_0 := (World.cell?_of_block (a := ⟨w.heap.size, 0, none⟩) (c.block (w.heap.size) hb_p0 (by omega))).trans bx_p0_0
    replace hb_p0 := Nat.lt_of_lt_of_le hb_p0 c.size
    replace bx_p1_0 := (World.cell?_of_block (a := ⟨(w.heap.size + 1), 0, none⟩) (c.block ((w.heap.size + 1)) hb_p1 (by omega))).trans bx_p1_0
    replace hb_p1 := Nat.lt_of_lt_of_le hb_p1 c.size
    replace bx_fw_0 := (World.cell?_of_block (a := ⟨g_fw, 0, none⟩) (c.block (g_fw) hb_fw (by omega))).trans bx_fw_0
    replace hb_fw := Nat.lt_of_lt_of_le hb_fw c.size
    replace bx_x_0_0 := (World.cell?_of_block (a := ⟨w5_.heap.size, 0, none⟩) (c.block (w5_.heap.size) hb_x_0 (by omega))).trans bx_x_0_0
    replace hb_x_0 := Nat.lt_of_lt_of_le hb_x_0 c.size
    replace bx_x_1_0 := (World.cell?_of_block (a := ⟨w7_.heap.size, 0, none⟩) (c.block (w7_.heap.size) hb_x_1 (by omega))).trans bx_x_1_0
    replace hb_x_1 := Nat.lt_of_lt_of_le hb_x_1 c.size
    replace bx_fg_0 := (World.cell?_of_block (a := ⟨w9_.heap.size, 0, none⟩) (c.block (w9_.heap.size) hb_fg (by omega))).trans bx_fg_0
    replace hb_fg := Nat.lt_of_lt_of_le hb_fg c.size
    replace T := T.trans (c.below (by omega) T.size)
    clear fg c
    have fg := f_
    clear f_
    go_wp2_with fail
    refine (held_db _ _ _ _  (rd_db fg) (by omega) (by omega)).mono ?_
    rintro e w20_ ⟨rfl, b⟩
    replace fw := Iv.below OBB_good fw b
    replace fg := Iv.below OBB_good fg b
    replace bx_p0_0 := (b.cell (p := ⟨w.heap.size, 0, none⟩) hb_p0).trans bx_p0_0
    replace hb_p0 := Nat.lt_of_lt_of_le hb_p0 b.size
    replace bx_p1_0 := (b.cell (p := ⟨(w.heap.size + 1), 0, none⟩) hb_p1).trans bx_p1_0
    replace hb_p1 := Nat.lt_of_lt_of_le hb_p1 b.size
    replace bx_fw_0 := (b.cell (p := ⟨g_fw, 0, none⟩) hb_fw).trans bx_fw_0
    replace hb_fw := Nat.lt_of_lt_of_le hb_fw b.size
    replace bx_x_0_0 := (b.cell (p := ⟨w5_.heap.size, 0, none⟩) hb_x_0).trans bx_x_0_0
    replace hb_x_0 := Nat.lt_of_lt_of_le hb_x_0 b.size
    replace bx_x_1_0 := (b.cell (p := ⟨w7_.heap.size, 0, none⟩) hb_x_1).trans bx_x_1_0
    replace hb_x_1 := Nat.lt_of_lt_of_le hb_x_1 b.size
    replace bx_fg_0 := (b.cell (p := ⟨w9_.heap.size, 0, none⟩) hb_fg).trans bx_fg_0
    replace hb_fg := Nat.lt_of_lt_of_le hb_fg b.size
    replace T := T.trans (b.mono T.size)
    have s20_ := b.size
    clear b
    go_upto_region 31 with (fail)
    replace fw := Iv.drew OBB_good fw
    replace fg := Iv.drew OBB_good fg
    replace bx_p0_0 : (World.drew w20_).cell? ⟨w.heap.size, 0, none⟩ = some (.slice A0 l0 c0) := bx_p0_0
    replace hb_p0 : w.heap.size < (World.drew w20_).heap.size := hb_p0
    replace bx_p1_0 : (World.drew w20_).cell? ⟨(w.heap.size + 1), 0, none⟩ = some (.slice A1 l1 c1) := bx_p1_0
    replace hb_p1 : (w.heap.size + 1) < (World.drew w20_).heap.size := hb_p1
    replace bx_fw_0 : (World.drew w20_).cell? ⟨g_fw, 0, none⟩ = some (.slice AVw lVw cVw) := bx_fw_0
    replace hb_fw : g_fw < (World.drew w20_).heap.size := hb_fw
    replace bx_x_0_0 : (World.drew w20_).cell? ⟨w5_.heap.size, 0, none⟩ = some (.slice AVx_0 lVx_0 cVx_0) := bx_x_0_0
    replace hb_x_0 : w5_.heap.size < (World.drew w20_).heap.size := hb_x_0
    replace bx_x_1_0 : (World.drew w20_).cell? ⟨w7_.heap.size, 0, none⟩ = some (.slice AVx_1 lVx_1 cVx_1) := bx_x_1_0
    replace hb_x_1 : w7_.heap.size < (World.drew w20_).heap.size := hb_x_1
    replace bx_fg_0 : (World.drew w20_).cell? ⟨w9_.heap.size, 0, none⟩ = some (.slice AVg lVg cVg) := bx_fg_0
    replace hb_fg : w9_.heap.size < (World.drew w20_).heap.size := hb_fg
    replace T := T.drew
    have sd20_ : w20_.heap.size ≤ (World.drew w20_).heap.size := Nat.le_refl _
    go_cut [15, 16] (fun s_ s'_ wx_ => CutDb 27 (World.drew w20_) (xorDb x0 x1) ok s_ s'_ wx_)
    case first =>
      have n0_p0 : (World.alloc w20_ (.cells #[.slice none 0 0] 27)).drew.cell? ⟨w.heap.size, 0, none⟩ = some (.slice A0 l0 c0) := ((below_alloc (World.drew w20_) (.cells #[.slice none 0 0] 27)).cell (p := ⟨w.heap.size, 0, none⟩) hb_p0).trans bx_p0_0
      have n0_p1 : (World.alloc w20_ (.cells #[.slice none 0 0] 27)).drew.cell? ⟨(w.heap.size + 1), 0, none⟩ = some (.slice A1 l1 c1) := ((below_alloc (World.drew w20_) (.cells #[.slice none 0 0] 27)).cell (p := ⟨(w.heap.size + 1), 0, none⟩) hb_p1).trans bx_p1_0
      go_region_held3 (fun w' => w'.cell? ⟨w.heap.size, 0, none⟩ = some (.slice A0 l0 c0) ∧ w'.cell? ⟨(w.heap.size + 1), 0, none⟩ = some (.slice A1 l1 c1))
        (first | ((repeat' apply And.intro) <;> assumption) | go_keep)
        (first
          | (go_at_call_of 17 (Value.agg #[.slice A0 l0 c0]); refine (to_db _ _ _ ((Rd_reads (Rd_reads RB_reads)) _ _ _ _ y0 (by first | exact T | exact T.alloc T.size _)) (by omega)).mono ?_; rintro e wa ⟨AVa, lVa, cVa, rfl, F⟩; have Da : Below ((World.drew w20_)).heap.size (World.drew w20_) wa := (by first | exact F.below | exact (below_alloc (World.drew w20_) (.cells #[.slice none 0 0] 27)).trans (F.below.mono (by simp))); have Ta := T.trans (Da.mono T.size); have ra := rd_db (F.iv OBB_good); (try (have bg : Hid (Box wa w20_.heap.size 27 #[.slice none 0 0]) := Lib.hid (Box.below (w := (World.alloc w20_ (.cells #[.slice none 0 0] 27)).drew) (show Box (World.alloc w20_ (.cells #[.slice none 0 0] 27)).drew w20_.heap.size 27 #[.slice none 0 0] from Box.new w20_ 27 #[.slice none 0 0]) F.below (by simp)))); have qa_p0 : wa.cell? ⟨w.heap.size, 0, none⟩ = some (.slice A0 l0 c0) := (Da.cell (p := ⟨w.heap.size, 0, none⟩) hb_p0).trans bx_p0_0; have qa_p1 : wa.cell? ⟨(w.heap.size + 1), 0, none⟩ = some (.slice A1 l1 c1) := (Da.cell (p := ⟨(w.heap.size + 1), 0, none⟩) hb_p1).trans bx_p1_0; have n1_p0 : (World.alloc wa (.cells #[.slice none 0 0] 27)).cell? ⟨w.heap.size, 0, none⟩ = some (.slice A0 l0 c0) := ((below_alloc wa (.cells #[.slice none 0 0] 27)).cell (p := ⟨w.heap.size, 0, none⟩) (Nat.lt_of_lt_of_le hb_p0 Da.size)).trans qa_p0; have n1_p1 : (World.alloc wa (.cells #[.slice none 0 0] 27)).cell? ⟨(w.heap.size + 1), 0, none⟩ = some (.slice A1 l1 c1) := ((below_alloc wa (.cells #[.slice none 0 0] 27)).cell (p := ⟨(w.heap.size + 1), 0, none⟩) (Nat.lt_of_lt_of_le hb_p1 Da.size)).trans qa_p1; clear F)
          | (go_at_call_of 17 (Value.agg #[.slice A1 l1 c1]); refine (to_db _ _ _ ((Rd_reads (Rd_reads RB_reads)) _ _ _ _ y1 (by first | exact Ta | exact Ta.alloc Ta.size _)) (by omega)).mono ?_; rintro e wb ⟨AVb, lVb, cVb, rfl, F⟩; have Db : Below ((World.drew w20_)).heap.size (World.drew w20_) wb := (by first | exact Da.trans (F.below.mono Da.size) | exact (Da.alloc Da.size (.cells #[.slice none 0 0] 27)).trans (F.below.mono (by have := Da.size; simp; omega))); have ra2 : Rd (Rd RB) wb (.slice AVa lVa cVa) x0 := (by first | exact (Rd_reads (Rd_reads RB_reads)) _ _ _ _ ra F.below | exact (Rd_reads (Rd_reads RB_reads)) _ _ _ _ ((Rd_reads (Rd_reads RB_reads)) _ _ _ _ ra (below_alloc wa (.cells #[.slice none 0 0] 27))) F.below); have rb := rd_db (F.iv OBB_good); (try (replace bg := Lib.hid (bg.out.below F.below bg.out.lt))); (try (have bg := Lib.hid ((Box.new wa 27 #[.slice none 0 0]).below F.below (by simp)))); have qb_p0 : wb.cell? ⟨w.heap.size, 0, none⟩ = some (.slice A0 l0 c0) := (Db.cell (p := ⟨w.heap.size, 0, none⟩) hb_p0).trans bx_p0_0; have qb_p1 : wb.cell? ⟨(w.heap.size + 1), 0, none⟩ = some (.slice A1 l1 c1) := (Db.cell (p := ⟨(w.heap.size + 1), 0, none⟩) hb_p1).trans bx_p1_0; clear F)
          | (go_at_call 46; refine (implApply_c _ _ _ _ _ _ (by first | exact ra2 | exact (Rd_reads (Rd_reads RB_reads)) _ _ _ _ ra2 (below_alloc _ _)) (by first | exact rb | exact (Rd_reads (Rd_reads RB_reads)) _ _ _ _ rb (below_alloc _ _)) hok (by omega) (by omega)).mono ?_; rintro e wz ⟨Az, lz, cz, rfl, F⟩; have Dz : Below ((World.drew w20_)).heap.size (World.drew w20_) wz := (by first | exact Db.trans (F.below.mono Db.size) | exact (Db.alloc Db.size (.cells #[.slice none 0 0] 27)).trans (F.below.mono (by have := Db.size; simp; omega))); (try (have hg0 := bg.out.lt; have bgz := Lib.hid (bg.out.below F.below (by first | exact hg0 | (simp; omega))))); (try (have bgz := Lib.hid ((Box.new wb 27 #[.slice none 0 0]).below F.below (by simp)))); (try (have x4 := bgz.out.cell 0; have y4 := bgz.out.frozen 0)); have qz_p0 : wz.cell? ⟨w.heap.size, 0, none⟩ = some (.slice A0 l0 c0) := (Dz.cell (p := ⟨w.heap.size, 0, none⟩) hb_p0).trans bx_p0_0; have qz_p1 : wz.cell? ⟨(w.heap.size + 1), 0, none⟩ = some (.slice A1 l1 c1) := (Dz.cell (p := ⟨(w.heap.size + 1), 0, none⟩) hb_p1).trans bx_p1_0; (try (have y_p0 := set_keep bgz.out qz_p0 (by have h1 := Da.size; have h2 := Db.size; show w.heap.size ≠ _; omega) (.slice Az lz cz); have y_p1 := set_keep bgz.out qz_p1 (by have h1 := Da.size; have h2 := Db.size; show (w.heap.size + 1) ≠ _; omega) (.slice Az lz cz))); have n3_p0 : (World.alloc wz (.cells #[.slice none 0 0] 27)).cell? ⟨w.heap.size, 0, none⟩ = some (.slice A0 l0 c0) := ((below_alloc wz (.cells #[.slice none 0 0] 27)).cell (p := ⟨w.heap.size, 0, none⟩) (Nat.lt_of_lt_of_le hb_p0 Dz.size)).trans qz_p0; have n3_p1 : (World.alloc wz (.cells #[.slice none 0 0] 27)).cell? ⟨(w.heap.size + 1), 0, none⟩ = some (.slice A1 l1 c1) := ((below_alloc wz (.cells #[.slice none 0 0] 27)).cell (p := ⟨(w.heap.size + 1), 0, none⟩) (Nat.lt_of_lt_of_le hb_p1 Dz.size)).trans qz_p1; have n4_p0 : (World.alloc wz (.cells #[.slice Az lz cz] 27)).cell? ⟨w.heap.size, 0, none⟩ = some (.slice A0 l0 c0) := ((below_alloc wz (.cells #[.slice Az lz cz] 27)).cell (p := ⟨w.heap.size, 0, none⟩) (Nat.lt_of_lt_of_le hb_p0 Dz.size)).trans qz_p0; have n4_p1 : (World.alloc wz (.cells #[.slice Az lz cz] 27)).cell? ⟨(w.heap.size + 1), 0, none⟩ = some (.slice A1 l1 c1) := ((below_alloc wz (.cells #[.slice Az lz cz] 27)).cell (p := ⟨(w.heap.size + 1), 0, none⟩) (Nat.lt_of_lt_of_le hb_p1 Dz.size)).trans qz_p1; have FH := Lib.hid F; clear F))
      all_goals (go_wp2_with fail; go_meet; first | exact cut_new FH.out Db | exact cut_set FH.out bgz.out bg.out.lt (by have h1 := Da.size; have h2 := Db.size; first | exact Nat.le_refl _ | omega) Db | exact cut_set FH.out bgz.out (by simp) (by have h2 := Db.size; omega) (Db.alloc Db.size _))
    case rest =>
      obtain ⟨g_fh, AVh, lVh, cVh, rfl, rfl, BX_, IV_, b⟩ := hcut
      obtain ⟨w21_, rfl⟩ : ∃ W : World, W = wc := ⟨_, rfl⟩
      replace fw := Iv.below OBB_good fw b
      replace fg := Iv.below OBB_good fg b
      replace bx_p0_0 := (b.cell (p := ⟨w.heap.size, 0, none⟩) hb_p0).trans bx_p0_0
      replace hb_p0 := Nat.lt_of_lt_of_le hb_p0 b.size
      replace bx_p1_0 := (b.cell (p := ⟨(w.heap.size + 1), 0, none⟩) hb_p1).trans bx_p1_0
      replace hb_p1 := Nat.lt_of_lt_of_le hb_p1 b.size
      replace bx_fw_0 := (b.cell (p := ⟨g_fw, 0, none⟩) hb_fw).trans bx_fw_0
      replace hb_fw := Nat.lt_of_lt_of_le hb_fw b.size
      replace bx_x_0_0 := (b.cell (p := ⟨w5_.heap.size, 0, none⟩) hb_x_0).trans bx_x_0_0
      replace hb_x_0 := Nat.lt_of_lt_of_le hb_x_0 b.size
      replace bx_x_1_0 := (b.cell (p := ⟨w7_.heap.size, 0, none⟩) hb_x_1).trans bx_x_1_0
      replace hb_x_1 := Nat.lt_of_lt_of_le hb_x_1 b.size
      replace bx_fg_0 := (b.cell (p := ⟨w9_.heap.size, 0, none⟩) hb_fg).trans bx_fg_0
      replace hb_fg := Nat.lt_of_lt_of_le hb_fg b.size
      replace T := T.trans (b.mono T.size)
      have s21_ := b.size
      clear b
      have fh := IV_
      clear IV_
      have bx_fh_0 : w21_.cell? ⟨g_fh, 0, none⟩ = some (.slice AVh lVh cVh) := BX_.cell 0
      have hb_fh : g_fh < w21_.heap.size := BX_.lt
      have sg_fh : g_fh < w21_.heap.size := BX_.lt
      clear BX_
      go_wp2_with fail
      refine (eq_db _ _ _ _  (rd_db fh) (rd_db fw)).mono ?_
      rintro e w22_ ⟨rfl, b⟩
      replace fw := Iv.below OBB_good fw b
      replace fg := Iv.below OBB_good fg b
      replace fh := Iv.below OBB_good fh b
      replace bx_p0_0 := (b.cell (p := ⟨w.heap.size, 0, none⟩) hb_p0).trans bx_p0_0
      replace hb_p0 := Nat.lt_of_lt_of_le hb_p0 b.size
      replace bx_p1_0 := (b.cell (p := ⟨(w.heap.size + 1), 0, none⟩) hb_p1).trans bx_p1_0
      replace hb_p1 := Nat.lt_of_lt_of_le hb_p1 b.size
      replace bx_fw_0 := (b.cell (p := ⟨g_fw, 0, none⟩) hb_fw).trans bx_fw_0
      replace hb_fw := Nat.lt_of_lt_of_le hb_fw b.size
      replace bx_x_0_0 := (b.cell (p := ⟨w5_.heap.size, 0, none⟩) hb_x_0).trans bx_x_0_0
      replace hb_x_0 := Nat.lt_of_lt_of_le hb_x_0 b.size
      replace bx_x_1_0 := (b.cell (p := ⟨w7_.heap.size, 0, none⟩) hb_x_1).trans bx_x_1_0
      replace hb_x_1 := Nat.lt_of_lt_of_le hb_x_1 b.size
      replace bx_fg_0 := (b.cell (p := ⟨w9_.heap.size, 0, none⟩) hb_fg).trans bx_fg_0
      replace hb_fg := Nat.lt_of_lt_of_le hb_fg b.size
      replace bx_fh_0 := (b.cell (p := ⟨g_fh, 0, none⟩) hb_fh).trans bx_fh_0
      replace hb_fh := Nat.lt_of_lt_of_le hb_fh b.size
      replace T := T.trans (b.mono T.size)
      have s22_ := b.size
      clear b
      go_wp2_with fail
      refine (held_db _ _ _ _  (rd_db fg) (by omega) (by omega)).mono ?_
      rintro e w23_ ⟨rfl, b⟩
      replace fw := Iv.below OBB_good fw b
      replace fg := Iv.below OBB_good fg b
      replace fh := Iv.below OBB_good fh b
      replace bx_p0_0 := (b.cell (p := ⟨w.heap.size, 0, none⟩) hb_p0).trans bx_p0_0
      replace hb_p0 := Nat.lt_of_lt_of_le hb_p0 b.size
      replace bx_p1_0 := (b.cell (p := ⟨(w.heap.size + 1), 0, none⟩) hb_p1).trans bx_p1_0
      replace hb_p1 := Nat.lt_of_lt_of_le hb_p1 b.size
      replace bx_fw_0 := (b.cell (p := ⟨g_fw, 0, none⟩) hb_fw).trans bx_fw_0
      replace hb_fw := Nat.lt_of_lt_of_le hb_fw b.size
      replace bx_x_0_0 := (b.cell (p := ⟨w5_.heap.size, 0, none⟩) hb_x_0).trans bx_x_0_0
      replace hb_x_0 := Nat.lt_of_lt_of_le hb_x_0 b.size
      replace bx_x_1_0 := (b.cell (p := ⟨w7_.heap.size, 0, none⟩) hb_x_1).trans bx_x_1_0
      replace hb_x_1 := Nat.lt_of_lt_of_le hb_x_1 b.size
      replace bx_fg_0 := (b.cell (p := ⟨w9_.heap.size, 0, none⟩) hb_fg).trans bx_fg_0
      replace hb_fg := Nat.lt_of_lt_of_le hb_fg b.size
      replace bx_fh_0 := (b.cell (p := ⟨g_fh, 0, none⟩) hb_fh).trans bx_fh_0
      replace hb_fh := Nat.lt_of_lt_of_le hb_fh b.size
      replace T := T.trans (b.mono T.size)
      have s23_ := b.size
      clear b
      go_wp2
      go_ret
      exact ⟨rfl, T⟩

set_option maxRecDepth 100000 in
theorem lifted (os : Os) (started : os.Started) (H : Type) (enc : TypeId × Value → H) :
    ReturnsInHanded {} Try.checked os 13 .any (Rows.fnExactApplyWriteSpec.pre6 enc Try.prog Try.f13 Rows.fnExactApplyWriteRow.domain false) (Rows.fnExactApplyWriteSpec.post enc Try.prog Try.f13 false true false false) := by
  refine returnsInHanded_of_change (C := Try.checked) own_ started (by kernel_rfl) Try.func13
    (ChangeSpec.witness6 (enc := enc) (C := Try.checked) false ⟨#[], #[.agg #[.slice none 0 0], .agg #[.slice none 0 0]], []⟩ 8 (by kernel_rfl) (by kernel_rfl) (by kernel_rfl) (by kernel_rfl)) ?_
  intro W base args ds gs before hval0 hW hcnd _
  have hval : ∀ (j : Nat) t v, Try.f13.params[j]? = some t → args[j]? = some v → Value.okWide Try.prog W .any base t v := hval0
  have hW' := hW
  obtain ⟨p, q, hA0, hV, rfl, hfz, hnd⟩ := hW
  have hA : DataW.TrodAll enc Try.prog W 0 (fun _ => true) true Try.f13.params.toList args.toList ds p := hA0
  rw [Try.params13] at hA hval
  obtain ⟨v0, vs0, d0, ds0, p0, q0, hargs, rfl, rfl, h0, r0⟩ := trodAll_cons hA
  obtain ⟨v1, vs1, d1, ds1, p1, q1, rfl, rfl, rfl, h1, r1⟩ := trodAll_cons r0
  obtain ⟨rfl, rfl, rfl⟩ := trodAll_nil r1
  obtain rfl : args = #[v0, v1] := by cases args; simp_all
  obtain ⟨rfl, rfl⟩ := trodVars_none hV
  have k0 := h0
  have lt0 : ∀ x ∈ p0, x.block < W.heap.size := by obtain ⟨m, hm⟩ := k0; exact DataW.trod_lt m _ _ _ hm
  obtain ⟨u0, x0, rfl, y0⟩ := open_val1 Try.underlying24 (by kernel_rfl) (opens_struct1 Try.underlying24 (by kernel_rfl) (opens_slice Try.underlying22 (by kernel_rfl) (opens_slice Try.underlying39 (by kernel_rfl) (opens_u8 Try.underlying5)))) (hval 0 24 v0 rfl rfl) h0
  have k1 := h1
  have lt1 : ∀ x ∈ p1, x.block < W.heap.size := by obtain ⟨m, hm⟩ := k1; exact DataW.trod_lt m _ _ _ hm
  obtain ⟨u1, x1, rfl, y1⟩ := open_val1 Try.underlying24 (by kernel_rfl) (opens_struct1 Try.underlying24 (by kernel_rfl) (opens_slice Try.underlying22 (by kernel_rfl) (opens_slice Try.underlying39 (by kernel_rfl) (opens_u8 Try.underlying5)))) (hval 1 24 v1 rfl rfl) h1
  clear hA0 hval0
  refine (walk W u0 x0 y0 u1 x1 y1).mono fun e W' ⟨he, bel⟩ => ?_
  subst he
  exact ⟨_, rfl, _, _, _, [], _, [], hW', trodAll_mk1 (shut_bool Try.underlying4 _), (trodAll_cons_mk (Below.trod laid_ (by kernel_rfl) (of_decide_eq_true (by kernel_rfl)) k0 bel lt0) (trodAll_cons_mk (Below.trod laid_ (by kernel_rfl) (of_decide_eq_true (by kernel_rfl)) k1 bel lt1) trodAll_mk0)), rfl, bel.frame _, fun h => by cases h⟩

theorem over : Rows.fnExactApplyWriteRow.holds Try.pinned (OpenSpec.ofChange Rows.fnExactApplyWriteSpec) :=
  OpenClaim.holds_of_wide 13 Try.f13 rfl rfl rfl rfl rfl rfl rfl ⟨rfl, rfl, rfl, rfl, rfl⟩ rfl rfl rfl rfl rfl (by kernel_rfl) Try.func13 (by kernel_rfl)
    (of_decide_eq_true (by kernel_rfl)) (by unfold Func.isWrapper; first | (rw [if_pos (by decide +kernel)]; kernel_rfl) | (rw [if_neg (by decide +kernel)]; exact ⟨rfl, rfl⟩))
    (fun os started H enc _ => lifted os started H enc)

theorem proved : Rows.FnExactApplyWriteSaid := over
end Go.Proofs.Ytdnifmcipbnncaa.fnExactApplyWrite
