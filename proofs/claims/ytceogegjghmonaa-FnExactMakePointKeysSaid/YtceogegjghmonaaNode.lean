/- EvaluateNode of both sides. -/
import Derived.Test.YtceogegjghmonaaStream
namespace Go.Proofs.Ytceogegjghmonaa
set_option linter.unusedVariables false
open Go.RowKit

/-- The child's seed and its control bit. -/
def nodeS (s b d : Int) (c : Int × Int × Int) : Int := if 0 ≤ d ∧ d ≤ 1 then (if b = 1 then xorI (childS s d) c.1 else childS s d) else 0
def nodeT (s b d : Int) (c : Int × Int × Int) : Int := if 0 ≤ d ∧ d ≤ 1 then (if b = 1 then (if d = 0 then xorI (ctlBit s d) c.2.1 else xorI (ctlBit s d) c.2.2) else ctlBit s d) else 0
theorem box3 {w : World} {g : Nat} {t : TypeId} {a b c : Value} (h : Box w g t #[a, b, c]) : w.cell? ⟨g, 0, none⟩ = some a ∧ w.cell? ⟨g, 1, none⟩ = some b ∧ w.cell? ⟨g, 2, none⟩ = some c := ⟨h.cell 0, h.cell 1, h.cell 2⟩

set_option maxHeartbeats 1000000 in
theorem specNode_c (s b d x y z : Int) (w : World) :
    Calls Try.prog 115 #[.int .i64 s, .int .i64 b, .int .i64 d, .agg #[.int .i64 x, .int .i64 y, .int .i64 z]] w fun e w' => e = .returned (.tuple #[.int .i64 (nodeS s b d (x, y, z)), .int .i64 (nodeT s b d (x, y, z))]) ∧ Below w.heap.size w w' := by
  have b0 := below_alloc w (.cells #[.int .i64 x, .int .i64 y, .int .i64 z] 116)
  have BX := Lib.hid (Box.new w 116 #[.int .i64 x, .int .i64 y, .int .i64 z])
  by_cases hd : 0 ≤ d ∧ d ≤ 1
  · by_cases hb : b = 1
    · by_cases h0 : d = 0
      · have e1 : Hid (nodeS s b d (x, y, z) = xorI (childS s d) x) := Lib.hid (by unfold nodeS; rw [if_pos hd, if_pos hb])
        have e2 : Hid (nodeT s b d (x, y, z) = xorI (ctlBit s d) y) := Lib.hid (by unfold nodeT; rw [if_pos hd, if_pos hb, if_pos h0])
        go_enter Try.func115, Try.ntmps115
        go_wp2_with (go_at_call 92; refine (specIn_t _ _ _ _ (by omega) (by omega)).mono ?_; rintro e w' ⟨rfl, rfl⟩)
        refine (specChildSeed_c _ _ _).mono ?_
        rintro e w1 ⟨rfl, b1⟩
        have B1 := b0.trans (b1.mono b0.size)
        have X1 := BX.out.below b1 (by simp)
        clear b1
        go_wp2_with fail
        refine (specControlBit_c _ _ _).mono ?_
        rintro e w2 ⟨rfl, b2⟩
        have B2 := B1.trans (b2.mono B1.size)
        have X2 := X1.below b2 X1.lt
        obtain ⟨c0, c1, c2⟩ := box3 X2
        clear b2 X1 X2
        go_wp2
        refine bodyPost_ret (v := .tuple #[.int .i64 (nodeS s b d (x, y, z)), .int .i64 (nodeT s b d (x, y, z))]) ?_ rfl ⟨rfl, B2⟩
        rw [e1.out, e2.out]
        simp [results, Try.results115, go_sem, xorI, h0]
      · have e1 : Hid (nodeS s b d (x, y, z) = xorI (childS s d) x) := Lib.hid (by unfold nodeS; rw [if_pos hd, if_pos hb])
        have e2 : Hid (nodeT s b d (x, y, z) = xorI (ctlBit s d) z) := Lib.hid (by unfold nodeT; rw [if_pos hd, if_pos hb, if_neg h0])
        go_enter Try.func115, Try.ntmps115
        go_wp2_with (go_at_call 92; refine (specIn_t _ _ _ _ (by omega) (by omega)).mono ?_; rintro e w' ⟨rfl, rfl⟩)
        refine (specChildSeed_c _ _ _).mono ?_
        rintro e w1 ⟨rfl, b1⟩
        have B1 := b0.trans (b1.mono b0.size)
        have X1 := BX.out.below b1 (by simp)
        clear b1
        go_wp2_with fail
        refine (specControlBit_c _ _ _).mono ?_
        rintro e w2 ⟨rfl, b2⟩
        have B2 := B1.trans (b2.mono B1.size)
        have X2 := X1.below b2 X1.lt
        obtain ⟨c0, c1, c2⟩ := box3 X2
        clear b2 X1 X2
        go_wp2
        refine bodyPost_ret (v := .tuple #[.int .i64 (nodeS s b d (x, y, z)), .int .i64 (nodeT s b d (x, y, z))]) ?_ rfl ⟨rfl, B2⟩
        rw [e1.out, e2.out]
        simp [results, Try.results115, go_sem, xorI]
    · have e1 : Hid (nodeS s b d (x, y, z) = childS s d) := Lib.hid (by unfold nodeS; rw [if_pos hd, if_neg hb])
      have e2 : Hid (nodeT s b d (x, y, z) = ctlBit s d) := Lib.hid (by unfold nodeT; rw [if_pos hd, if_neg hb])
      go_enter Try.func115, Try.ntmps115
      go_wp2_with (go_at_call 92; refine (specIn_t _ _ _ _ (by omega) (by omega)).mono ?_; rintro e w' ⟨rfl, rfl⟩)
      refine (specChildSeed_c _ _ _).mono ?_
      rintro e w1 ⟨rfl, b1⟩
      have B1 := b0.trans (b1.mono b0.size)
      have X1 := BX.out.below b1 (by simp)
      clear b1
      go_wp2_with fail
      refine (specControlBit_c _ _ _).mono ?_
      rintro e w2 ⟨rfl, b2⟩
      have B2 := B1.trans (b2.mono B1.size)
      have X2 := X1.below b2 X1.lt
      obtain ⟨c0, c1, c2⟩ := box3 X2
      clear b2 X1 X2
      go_wp2
      refine bodyPost_ret (v := .tuple #[.int .i64 (nodeS s b d (x, y, z)), .int .i64 (nodeT s b d (x, y, z))]) ?_ rfl ⟨rfl, B2⟩
      rw [e1.out, e2.out]
      simp [results, Try.results115, go_sem]
  · have e1 : Hid (nodeS s b d (x, y, z) = 0) := Lib.hid (by unfold nodeS; rw [if_neg hd])
    have e2 : Hid (nodeT s b d (x, y, z) = 0) := Lib.hid (by unfold nodeT; rw [if_neg hd])
    have HD := Lib.hid hd
    clear hd
    go_enter Try.func115, Try.ntmps115
    go_wp2_with (go_at_call 92; refine (specIn_f _ _ _ _ HD.out).mono ?_; rintro e w' ⟨rfl, rfl⟩)
    refine bodyPost_ret (v := .tuple #[.int .i64 (nodeS s b d (x, y, z)), .int .i64 (nodeT s b d (x, y, z))]) ?_ rfl ⟨rfl, b0⟩
    rw [e1.out, e2.out]
    simp [results, Try.results115, go_sem]
set_option maxHeartbeats 1000000 in
theorem implNode_c (s b d x y z : Int) (w : World) :
    Calls Try.prog 109 #[.int .i64 s, .int .i64 b, .int .i64 d, .agg #[.int .i64 x, .int .i64 y, .int .i64 z]] w fun e w' => e = .returned (.tuple #[.int .i64 (nodeS s b d (x, y, z)), .int .i64 (nodeT s b d (x, y, z))]) ∧ Below w.heap.size w w' := by
  have b0 := below_alloc w (.cells #[.int .i64 x, .int .i64 y, .int .i64 z] 116)
  have BX := Lib.hid (Box.new w 116 #[.int .i64 x, .int .i64 y, .int .i64 z])
  by_cases hd : 0 ≤ d ∧ d ≤ 1
  · by_cases hb : b = 1
    · by_cases h0 : d = 0
      · have e1 : Hid (nodeS s b d (x, y, z) = xorI (childS s d) x) := Lib.hid (by unfold nodeS; rw [if_pos hd, if_pos hb])
        have e2 : Hid (nodeT s b d (x, y, z) = xorI (ctlBit s d) y) := Lib.hid (by unfold nodeT; rw [if_pos hd, if_pos hb, if_pos h0])
        go_enter Try.func109, Try.ntmps109
        go_wp2_with (go_at_call 100; refine (implIn_t _ _ _ _ (by omega) (by omega)).mono ?_; rintro e w' ⟨rfl, rfl⟩)
        refine (implChildSeed_c _ _ _).mono ?_
        rintro e w1 ⟨rfl, b1⟩
        have B1 := b0.trans (b1.mono b0.size)
        have X1 := BX.out.below b1 (by simp)
        clear b1
        go_wp2_with fail
        refine (implControlBit_c _ _ _).mono ?_
        rintro e w2 ⟨rfl, b2⟩
        have B2 := B1.trans (b2.mono B1.size)
        have X2 := X1.below b2 X1.lt
        obtain ⟨c0, c1, c2⟩ := box3 X2
        clear b2 X1 X2
        go_wp2
        refine bodyPost_ret (v := .tuple #[.int .i64 (nodeS s b d (x, y, z)), .int .i64 (nodeT s b d (x, y, z))]) ?_ rfl ⟨rfl, B2⟩
        rw [e1.out, e2.out]
        simp [results, Try.results109, go_sem, xorI, h0]
      · have e1 : Hid (nodeS s b d (x, y, z) = xorI (childS s d) x) := Lib.hid (by unfold nodeS; rw [if_pos hd, if_pos hb])
        have e2 : Hid (nodeT s b d (x, y, z) = xorI (ctlBit s d) z) := Lib.hid (by unfold nodeT; rw [if_pos hd, if_pos hb, if_neg h0])
        go_enter Try.func109, Try.ntmps109
        go_wp2_with (go_at_call 100; refine (implIn_t _ _ _ _ (by omega) (by omega)).mono ?_; rintro e w' ⟨rfl, rfl⟩)
        refine (implChildSeed_c _ _ _).mono ?_
        rintro e w1 ⟨rfl, b1⟩
        have B1 := b0.trans (b1.mono b0.size)
        have X1 := BX.out.below b1 (by simp)
        clear b1
        go_wp2_with fail
        refine (implControlBit_c _ _ _).mono ?_
        rintro e w2 ⟨rfl, b2⟩
        have B2 := B1.trans (b2.mono B1.size)
        have X2 := X1.below b2 X1.lt
        obtain ⟨c0, c1, c2⟩ := box3 X2
        clear b2 X1 X2
        go_wp2
        refine bodyPost_ret (v := .tuple #[.int .i64 (nodeS s b d (x, y, z)), .int .i64 (nodeT s b d (x, y, z))]) ?_ rfl ⟨rfl, B2⟩
        rw [e1.out, e2.out]
        simp [results, Try.results109, go_sem, xorI]
    · have e1 : Hid (nodeS s b d (x, y, z) = childS s d) := Lib.hid (by unfold nodeS; rw [if_pos hd, if_neg hb])
      have e2 : Hid (nodeT s b d (x, y, z) = ctlBit s d) := Lib.hid (by unfold nodeT; rw [if_pos hd, if_neg hb])
      go_enter Try.func109, Try.ntmps109
      go_wp2_with (go_at_call 100; refine (implIn_t _ _ _ _ (by omega) (by omega)).mono ?_; rintro e w' ⟨rfl, rfl⟩)
      refine (implChildSeed_c _ _ _).mono ?_
      rintro e w1 ⟨rfl, b1⟩
      have B1 := b0.trans (b1.mono b0.size)
      have X1 := BX.out.below b1 (by simp)
      clear b1
      go_wp2_with fail
      refine (implControlBit_c _ _ _).mono ?_
      rintro e w2 ⟨rfl, b2⟩
      have B2 := B1.trans (b2.mono B1.size)
      have X2 := X1.below b2 X1.lt
      obtain ⟨c0, c1, c2⟩ := box3 X2
      clear b2 X1 X2
      go_wp2
      refine bodyPost_ret (v := .tuple #[.int .i64 (nodeS s b d (x, y, z)), .int .i64 (nodeT s b d (x, y, z))]) ?_ rfl ⟨rfl, B2⟩
      rw [e1.out, e2.out]
      simp [results, Try.results109, go_sem]
  · have e1 : Hid (nodeS s b d (x, y, z) = 0) := Lib.hid (by unfold nodeS; rw [if_neg hd])
    have e2 : Hid (nodeT s b d (x, y, z) = 0) := Lib.hid (by unfold nodeT; rw [if_neg hd])
    have HD := Lib.hid hd
    clear hd
    go_enter Try.func109, Try.ntmps109
    go_wp2_with (go_at_call 100; refine (implIn_f _ _ _ _ HD.out).mono ?_; rintro e w' ⟨rfl, rfl⟩)
    refine bodyPost_ret (v := .tuple #[.int .i64 (nodeS s b d (x, y, z)), .int .i64 (nodeT s b d (x, y, z))]) ?_ rfl ⟨rfl, b0⟩
    rw [e1.out, e2.out]
    simp [results, Try.results109, go_sem]
end Go.Proofs.Ytceogegjghmonaa
