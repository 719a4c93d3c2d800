/- AnswerQuery of both sides. -/
import Derived.Test.YtceogegjghmonaaComb
import Derived.Test.YtceogegjghmonaaSel
import Derived.Test.YtceogegjghmonaaBoxes
import Derived.Deep.RegionHeld3
namespace Go.Proofs.Ytceogegjghmonaa
set_option linter.unusedVariables false
open Go.RowKit

def aqOk (d : List (List UInt8)) (s : List Int) : Bool := dbOk d && isSel s (d.length : Int)
def aq (d : List (List UInt8)) (s : List Int) : List UInt8 := if aqOk d s then xorB zcell (selX d s) else []
theorem selX_len (d : List (List UInt8)) (s : List Int) : (selX d s).length ≤ sumL d := selP_len d s d.length
theorem aq_len (d : List (List UInt8)) (s : List Int) : (aq d s).length ≤ 24 + sumL d := by
  unfold aq
  split
  · rw [xorB_len]
    have := selX_len d s
    simp [zcell]
    omega
  · simp
theorem rd_made (w : World) : Rd RB (w.alloc (.cells (madeCells #[.int .u8 0] 24) 5)) (.slice (some ⟨w.heap.size, 0, none⟩) 24 24) zcell := ((fresh_made w 24 (by simp [maxLen])).iv (Own_good FB_good)).rd (fun q => q.rb)

set_option maxHeartbeats 4000000 in
set_option maxRecDepth 100000 in
theorem specAq_c (v0 v1 : Value) (d : List (List UInt8)) (s : List Int) (w : World) (h : Rd (Rd RB) w v0 d) (h' : Rd RI w v1 s) (hn : tot d ≤ 1048576) :
    Calls Try.prog 82 #[.agg #[v0], v1] w fun e w' => ∃ v', e = .returned v' ∧ Fresh (Own 5 FB) w w' v' (aq d s) := by
  obtain ⟨A, n, c, rfl, h1⟩ := h
  obtain ⟨B, m, cb, rfl, h2⟩ := h'
  obtain rfl := h1.1
  have h : Rd (Rd RB) w (.slice A d.length c) d := ⟨_, _, _, rfl, h1⟩
  have h' : Rd RI w (.slice B m cb) s := ⟨_, _, _, rfl, h2⟩
  have hca := Nat.le_trans h1.2.1 h1.2.2.1
  have hcb := Nat.le_trans h2.2.1 h2.2.2.1
  unfold maxLen at hca hcb
  have hls := len_le_tot d
  have hsl := sumL_le d
  have hxl := selX_len d s
  clear h1 h2
  obtain ⟨B_d, T, hs_w0⟩ := boxes1 w 26 #[.slice A d.length c]
  have BD := Lib.hid B_d
  have RA := Rd_reads (Rd_reads RB_reads) _ _ _ _ h T
  have RS := Rd_reads RI_reads _ _ _ _ h' T
  have VA : Hid (∀ o, dbOk d = o → ∀ W v, Rd (Rd RB) W v d → Calls Try.prog 34 #[.agg #[v]] W fun e w' => e = .returned (.bool o) ∧ Below W.heap.size W w') := Lib.hid (fun o ho W v h => by rw [← ho]; exact specIsValidDatabase_c v d W h)
  have VS : Hid (∀ o, isSel s (d.length : Int) = o → ∀ W, Rd RI W (.slice B m cb) s → Calls Try.prog 110 #[.slice B m cb, .int .i64 (d.length : Int)] W fun e w' => e = .returned (.bool o) ∧ W = w') := Lib.hid (fun o ho W h => by rw [← ho]; exact specIsSel_c _ s _ W h)
  clear h h' B_d
  cases ha : dbOk d with
  | false =>
    have e : aq d s = [] := by unfold aq aqOk; rw [ha]; rfl
    rw [e]
    have OA := Lib.hid ha
    clear e ha
    go_enter Try.func82, Try.ntmps82
    go_wp2_with fail
    refine (VA.out _ OA.out _ _ RA).mono ?_
    rintro e w1 ⟨rfl, b1⟩
    have T1 := T.trans (b1.mono T.size)
    have FN := Lib.hid ((fresh_litB w1).pre T1)
    clear b1
    go_wp2
    go_ret
    exact ⟨_, rfl, FN.out⟩
  | true =>
    cases hb : isSel s (d.length : Int) with
    | false =>
      have e : aq d s = [] := by unfold aq aqOk; rw [ha, hb]; rfl
      rw [e]
      have OA := Lib.hid ha
      have OB := Lib.hid hb
      clear e ha hb
      go_enter Try.func82, Try.ntmps82
      go_wp2_with fail
      refine (VA.out _ OA.out _ _ RA).mono ?_
      rintro e w1 ⟨rfl, b1⟩
      have T1 := T.trans (b1.mono T.size)
      have RS1 := Rd_reads RI_reads _ _ _ _ RS b1
      have BD1 := Lib.hid (BD.out.below b1 BD.out.lt)
      have q1 : w1.cell? ⟨w.heap.size, 0, none⟩ = some (.slice A d.length c) := BD1.out.cell 0
      have FN := Lib.hid ((fresh_litB w1).pre T1)
      clear b1
      go_wp2_with fail
      refine (VS.out _ OB.out _ RS1).mono ?_
      rintro e w2 ⟨rfl, rfl⟩
      go_wp2
      go_ret
      exact ⟨_, rfl, FN.out⟩
    | true =>
      have e : aq d s = xorB zcell (selX d s) := by unfold aq aqOk; rw [ha, hb]; rfl
      rw [e]
      have OA := Lib.hid ha
      have OB := Lib.hid hb
      have hmk : ∀ W : World, (Instr.makeSlice 22 (.int .i64 24) (.int .i64 24)).run Try.prog W = .ok (.slice (some ⟨W.heap.size, 0, none⟩) 24 24) (W.alloc (.cells (madeCells #[.int .u8 0] 24) 5)) := fun W => by
        simpa using run_mk elB .i64 .i64 24 (by omega) (by omega) W
      clear e ha hb
      go_enter Try.func82, Try.ntmps82
      go_wp2_with fail
      refine (VA.out _ OA.out _ _ RA).mono ?_
      rintro e w1 ⟨rfl, b1⟩
      have T1 := T.trans (b1.mono T.size)
      have RS1 := Rd_reads RI_reads _ _ _ _ RS b1
      have RA1 := Rd_reads (Rd_reads RB_reads) _ _ _ _ RA b1
      have BD1 := Lib.hid (BD.out.below b1 BD.out.lt)
      have q1 : w1.cell? ⟨w.heap.size, 0, none⟩ = some (.slice A d.length c) := BD1.out.cell 0
      clear b1 RA RS T BD
      go_wp2_with fail
      refine (VS.out _ OB.out _ RS1).mono ?_
      rintro e w2 ⟨rfl, rfl⟩
      have q2 : w1.drew.cell? ⟨w.heap.size, 0, none⟩ = some (.slice A d.length c) := q1
      have q3 : (w1.alloc (.cells (madeCells #[.int .u8 0] 24) 5)).drew.cell? ⟨w.heap.size, 0, none⟩ = some (.slice A d.length c) := (BD1.out.alloc _).cell 0
      have am := below_alloc w1 (.cells (madeCells #[.int .u8 0] 24) 5)
      have RS2 : Rd RI (w1.alloc (.cells (madeCells #[.int .u8 0] 24) 5)).drew (.slice B m cb) s := Rd_reads RI_reads _ _ _ _ RS1 am.drew
      have RA2 : Rd (Rd RB) (w1.alloc (.cells (madeCells #[.int .u8 0] 24) 5)).drew (.slice A d.length c) d := Rd_reads (Rd_reads RB_reads) _ _ _ _ RA1 am.drew
      have RS0 : Rd RI w1.drew (.slice B m cb) s := Rd_reads RI_reads _ _ _ _ RS1 (Below.refl _ _).drew
      have RA0 : Rd (Rd RB) w1.drew (.slice A d.length c) d := Rd_reads (Rd_reads RB_reads) _ _ _ _ RA1 (Below.refl _ _).drew
      have RM : Rd RB (w1.alloc (.cells (madeCells #[.int .u8 0] 24) 5)).drew (.slice (some ⟨w1.heap.size, 0, none⟩) 24 24) zcell := Rd_reads RB_reads _ _ _ _ (rd_made w1) (Below.refl _ _).drew
      have BD0 : Hid (Box w1.drew w.heap.size 26 #[.slice A d.length c]) := BD1
      have BD2 : Hid (Box (w1.alloc (.cells (madeCells #[.int .u8 0] 24) 5)).drew w.heap.size 26 #[.slice A d.length c]) := Lib.hid (BD1.out.alloc _)
      have T0 : Below w.heap.size w w1.drew := T1.drew
      have T2 : Below w.heap.size w (w1.alloc (.cells (madeCells #[.int .u8 0] 24) 5)).drew := (T1.alloc T1.size _).drew
      have hz24 : zcell.length = 24 := by simp [zcell]
      have HZ := Lib.hid hz24
      clear hz24
      go_wp2_with fail
      go_region_held3 (fun w' => w'.cell? ⟨w.heap.size, 0, none⟩ = some (.slice A d.length c))
        (first | (exact q2) | (exact q3) | (exact k2) | (exact k3) | (exact k4) | go_keep)
        (first
          | (go_at_call 139; first
              | (refine (specSelX_c _ _ d s _ RA0 RS0 hn).mono ?_; rintro e w3 ⟨v3, rfl, F⟩; have T3 := T0.trans (F.below.mono T0.size); have BD3 := Lib.hid (BD0.out.below F.below BD0.out.lt); have k2 : w3.cell? ⟨w.heap.size, 0, none⟩ = some (.slice A d.length c) := BD3.out.cell 0; have k3 : (w3.alloc (.cells (madeCells #[.int .u8 0] 24) 5)).cell? ⟨w.heap.size, 0, none⟩ = some (.slice A d.length c) := (BD3.out.alloc _).cell 0; have r3 := (F.iv (Own_good FB_good)).rd (fun q => q.rb); have RMn := rd_made w3; have r4 := Rd_reads RB_reads _ _ _ _ r3 (below_alloc w3 (.cells (madeCells #[.int .u8 0] 24) 5)); have T4 := T3.alloc T3.size (.cells (madeCells #[.int .u8 0] 24) 5); have BD4 := Lib.hid (BD3.out.alloc (.cells (madeCells #[.int .u8 0] 24) 5)); clear F)
              | (refine (specSelX_c _ _ d s _ RA2 RS2 hn).mono ?_; rintro e w3 ⟨v3, rfl, F⟩; have T4 := T2.trans (F.below.mono T2.size); have BD4 := Lib.hid (BD2.out.below F.below BD2.out.lt); have k2 : w3.cell? ⟨w.heap.size, 0, none⟩ = some (.slice A d.length c) := BD4.out.cell 0; have r4 := (F.iv (Own_good FB_good)).rd (fun q => q.rb); have RMn := Rd_reads RB_reads _ _ _ _ RM F.below; clear F))
          | (go_at_call 138; refine (specXorBytes_c _ _ zcell (selX d s) _ RMn r4 (by have := HZ.out; omega) (by omega)).mono ?_; rintro e w5 ⟨v5, rfl, F5⟩; have k4 : w5.cell? ⟨w.heap.size, 0, none⟩ = some (.slice A d.length c) := (BD4.out.below F5.below BD4.out.lt).cell 0; have FH := Lib.hid (F5.pre T4); clear F5))
      all_goals
        go_wp2
        go_ret
        exact ⟨_, rfl, FH.out⟩
set_option maxHeartbeats 4000000 in
set_option maxRecDepth 100000 in
theorem implAq_c (v0 v1 : Value) (d : List (List UInt8)) (s : List Int) (w : World) (h : Rd (Rd RB) w v0 d) (h' : Rd RI w v1 s) (hn : tot d ≤ 1048576) :
    Calls Try.prog 18 #[.agg #[v0], v1] w fun e w' => ∃ v', e = .returned v' ∧ Fresh (Own 5 FB) w w' v' (aq d s) := by
  obtain ⟨A, n, c, rfl, h1⟩ := h
  obtain ⟨B, m, cb, rfl, h2⟩ := h'
  obtain rfl := h1.1
  have h : Rd (Rd RB) w (.slice A d.length c) d := ⟨_, _, _, rfl, h1⟩
  have h' : Rd RI w (.slice B m cb) s := ⟨_, _, _, rfl, h2⟩
  have hca := Nat.le_trans h1.2.1 h1.2.2.1
  have hcb := Nat.le_trans h2.2.1 h2.2.2.1
  unfold maxLen at hca hcb
  have hls := len_le_tot d
  have hsl := sumL_le d
  have hxl := selX_len d s
  clear h1 h2
  obtain ⟨B_d, T, hs_w0⟩ := boxes1 w 26 #[.slice A d.length c]
  have BD := Lib.hid B_d
  have RA := Rd_reads (Rd_reads RB_reads) _ _ _ _ h T
  have RS := Rd_reads RI_reads _ _ _ _ h' T
  have VA : Hid (∀ o, dbOk d = o → ∀ W v, Rd (Rd RB) W v d → Calls Try.prog 39 #[.agg #[v]] W fun e w' => e = .returned (.bool o) ∧ Below W.heap.size W w') := Lib.hid (fun o ho W v h => by rw [← ho]; exact implIsValidDatabase_c v d W h)
  have VS : Hid (∀ o, isSel s (d.length : Int) = o → ∀ W, Rd RI W (.slice B m cb) s → Calls Try.prog 87 #[.slice B m cb, .int .i64 (d.length : Int)] W fun e w' => e = .returned (.bool o) ∧ W = w') := Lib.hid (fun o ho W h => by rw [← ho]; exact implIsSel_c _ s _ W h)
  clear h h' B_d
  cases ha : dbOk d with
  | false =>
    have e : aq d s = [] := by unfold aq aqOk; rw [ha]; rfl
    rw [e]
    have OA := Lib.hid ha
    clear e ha
    go_enter Try.func18, Try.ntmps18
    go_wp2_with fail
    refine (VA.out _ OA.out _ _ RA).mono ?_
    rintro e w1 ⟨rfl, b1⟩
    have T1 := T.trans (b1.mono T.size)
    have FN := Lib.hid (fresh_nilB w w1 T1)
    clear b1
    go_wp2
    go_ret
    exact ⟨_, rfl, FN.out⟩
  | true =>
    cases hb : isSel s (d.length : Int) with
    | false =>
      have e : aq d s = [] := by unfold aq aqOk; rw [ha, hb]; rfl
      rw [e]
      have OA := Lib.hid ha
      have OB := Lib.hid hb
      clear e ha hb
      go_enter Try.func18, Try.ntmps18
      go_wp2_with fail
      refine (VA.out _ OA.out _ _ RA).mono ?_
      rintro e w1 ⟨rfl, b1⟩
      have T1 := T.trans (b1.mono T.size)
      have RS1 := Rd_reads RI_reads _ _ _ _ RS b1
      have BD1 := Lib.hid (BD.out.below b1 BD.out.lt)
      have q1 : w1.cell? ⟨w.heap.size, 0, none⟩ = some (.slice A d.length c) := BD1.out.cell 0
      have FN := Lib.hid (fresh_nilB w w1 T1)
      clear b1
      go_wp2_with fail
      refine (VS.out _ OB.out _ RS1).mono ?_
      rintro e w2 ⟨rfl, rfl⟩
      go_wp2
      go_ret
      exact ⟨_, rfl, FN.out⟩
    | true =>
      have e : aq d s = xorB zcell (selX d s) := by unfold aq aqOk; rw [ha, hb]; rfl
      rw [e]
      have OA := Lib.hid ha
      have OB := Lib.hid hb
      have hmk : ∀ W : World, (Instr.makeSlice 22 (.int .i64 24) (.int .i64 24)).run Try.prog W = .ok (.slice (some ⟨W.heap.size, 0, none⟩) 24 24) (W.alloc (.cells (madeCells #[.int .u8 0] 24) 5)) := fun W => by
        simpa using run_mk elB .i64 .i64 24 (by omega) (by omega) W
      clear e ha hb
      go_enter Try.func18, Try.ntmps18
      go_wp2_with fail
      refine (VA.out _ OA.out _ _ RA).mono ?_
      rintro e w1 ⟨rfl, b1⟩
      have T1 := T.trans (b1.mono T.size)
      have RS1 := Rd_reads RI_reads _ _ _ _ RS b1
      have RA1 := Rd_reads (Rd_reads RB_reads) _ _ _ _ RA b1
      have BD1 := Lib.hid (BD.out.below b1 BD.out.lt)
      have q1 : w1.cell? ⟨w.heap.size, 0, none⟩ = some (.slice A d.length c) := BD1.out.cell 0
      clear b1 RA RS T BD
      go_wp2_with fail
      refine (VS.out _ OB.out _ RS1).mono ?_
      rintro e w2 ⟨rfl, rfl⟩
      have q2 : w1.drew.cell? ⟨w.heap.size, 0, none⟩ = some (.slice A d.length c) := q1
      have q3 : (w1.alloc (.cells (madeCells #[.int .u8 0] 24) 5)).drew.cell? ⟨w.heap.size, 0, none⟩ = some (.slice A d.length c) := (BD1.out.alloc _).cell 0
      have am := below_alloc w1 (.cells (madeCells #[.int .u8 0] 24) 5)
      have RS2 : Rd RI (w1.alloc (.cells (madeCells #[.int .u8 0] 24) 5)).drew (.slice B m cb) s := Rd_reads RI_reads _ _ _ _ RS1 am.drew
      have RA2 : Rd (Rd RB) (w1.alloc (.cells (madeCells #[.int .u8 0] 24) 5)).drew (.slice A d.length c) d := Rd_reads (Rd_reads RB_reads) _ _ _ _ RA1 am.drew
      have RS0 : Rd RI w1.drew (.slice B m cb) s := Rd_reads RI_reads _ _ _ _ RS1 (Below.refl _ _).drew
      have RA0 : Rd (Rd RB) w1.drew (.slice A d.length c) d := Rd_reads (Rd_reads RB_reads) _ _ _ _ RA1 (Below.refl _ _).drew
      have RM : Rd RB (w1.alloc (.cells (madeCells #[.int .u8 0] 24) 5)).drew (.slice (some ⟨w1.heap.size, 0, none⟩) 24 24) zcell := Rd_reads RB_reads _ _ _ _ (rd_made w1) (Below.refl _ _).drew
      have BD0 : Hid (Box w1.drew w.heap.size 26 #[.slice A d.length c]) := BD1
      have BD2 : Hid (Box (w1.alloc (.cells (madeCells #[.int .u8 0] 24) 5)).drew w.heap.size 26 #[.slice A d.length c]) := Lib.hid (BD1.out.alloc _)
      have T0 : Below w.heap.size w w1.drew := T1.drew
      have T2 : Below w.heap.size w (w1.alloc (.cells (madeCells #[.int .u8 0] 24) 5)).drew := (T1.alloc T1.size _).drew
      have hz24 : zcell.length = 24 := by simp [zcell]
      have HZ := Lib.hid hz24
      clear hz24
      go_wp2_with fail
      go_region_held3 (fun w' => w'.cell? ⟨w.heap.size, 0, none⟩ = some (.slice A d.length c))
        (first | (exact q2) | (exact q3) | (exact k2) | (exact k3) | (exact k4) | go_keep)
        (first
          | (go_at_call 42; first
              | (refine (implSelX_c _ _ d s _ RA0 RS0 hn).mono ?_; rintro e w3 ⟨v3, rfl, F⟩; have T3 := T0.trans (F.below.mono T0.size); have BD3 := Lib.hid (BD0.out.below F.below BD0.out.lt); have k2 : w3.cell? ⟨w.heap.size, 0, none⟩ = some (.slice A d.length c) := BD3.out.cell 0; have k3 : (w3.alloc (.cells (madeCells #[.int .u8 0] 24) 5)).cell? ⟨w.heap.size, 0, none⟩ = some (.slice A d.length c) := (BD3.out.alloc _).cell 0; have r3 := (F.iv (Own_good FB_good)).rd (fun q => q.rb); have RMn := rd_made w3; have r4 := Rd_reads RB_reads _ _ _ _ r3 (below_alloc w3 (.cells (madeCells #[.int .u8 0] 24) 5)); have T4 := T3.alloc T3.size (.cells (madeCells #[.int .u8 0] 24) 5); have BD4 := Lib.hid (BD3.out.alloc (.cells (madeCells #[.int .u8 0] 24) 5)); clear F)
              | (refine (implSelX_c _ _ d s _ RA2 RS2 hn).mono ?_; rintro e w3 ⟨v3, rfl, F⟩; have T4 := T2.trans (F.below.mono T2.size); have BD4 := Lib.hid (BD2.out.below F.below BD2.out.lt); have k2 : w3.cell? ⟨w.heap.size, 0, none⟩ = some (.slice A d.length c) := BD4.out.cell 0; have r4 := (F.iv (Own_good FB_good)).rd (fun q => q.rb); have RMn := Rd_reads RB_reads _ _ _ _ RM F.below; clear F))
          | (go_at_call 88; refine (implXorBytes_c _ _ zcell (selX d s) _ RMn r4 (by have := HZ.out; omega) (by omega)).mono ?_; rintro e w5 ⟨v5, rfl, F5⟩; have k4 : w5.cell? ⟨w.heap.size, 0, none⟩ = some (.slice A d.length c) := (BD4.out.below F5.below BD4.out.lt).cell 0; have FH := Lib.hid (F5.pre T4); clear F5))
      all_goals
        go_wp2
        go_ret
        exact ⟨_, rfl, FH.out⟩
end Go.Proofs.Ytceogegjghmonaa
